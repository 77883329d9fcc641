/- The types' table, and how plain values are told. No condition. -/
import Derived.Test.YtjojaiomgdjhfaaGreatDoorProg
import Derived.Test.YtjojaiomgdjhfaaGreatDoorZA1
import Derived.KernelRfl
import Derived.Test.YtjojaiomgdjhfaaGreatDoorZS1
import Derived.Test.YtjojaiomgdjhfaaGreatDoorZF0
set_option maxRecDepth 100000
namespace Go.Proofs.YtjojaiomgdjhfaaGreatDoor.AE
open Go
def tab:List TI:=[
  ⟨1,false,0,[.undef],.other,false⟩,
  ⟨1,false,8,[.nilf],.fn,false⟩,
  ⟨1,false,8,[.int .i64 0],.int .i64,false⟩,
  ⟨1,false,8,[.int .i64 0],.int .i64,false⟩,
  ⟨1,false,1,[.bool false],.bool,false⟩,
  ⟨1,false,1,[.int .u8 0],.int .u8,false⟩,
  ⟨1,false,1,[.int .u8 0],.int .u8,false⟩,
  ⟨4,true,24,[.int .i64 0,.int .i64 0,.bool false,.int .u8 0],.struct [(0,2),(1,3),(2,4),(3,6)],true⟩,
  ⟨4,true,24,[.int .i64 0,.int .i64 0,.bool false,.int .u8 0],.struct [(0,2),(1,3),(2,4),(3,6)],true⟩,
  ⟨1,false,16,[.str []],.string,false⟩,
  ⟨1,false,16,[.str []],.string,false⟩,
  ⟨1,false,16,[.str []],.string,false⟩,
  ⟨1,false,8,[.int .u64 0],.int .u64,false⟩,
  ⟨2,true,24,[.str [],.int .u64 0],.struct [(0,9),(1,12)],false⟩,
  ⟨2,true,24,[.str [],.int .u64 0],.struct [(0,9),(1,12)],false⟩,
  ⟨1,false,8,[.nilp],.ptr 185,false⟩,
  ⟨1,false,8,[.nilp],.ptr 188,false⟩,
  ⟨1,false,8,[.nilp],.ptr 196,false⟩,
  ⟨1,true,8,[.nilp],.struct [(0,17)],false⟩,
  ⟨1,true,8,[.nilp],.struct [(0,17)],false⟩,
  ⟨1,false,16,[.nili],.iface 0,false⟩,
  ⟨1,false,4,[.int .i32 0],.int .i32,false⟩,
  ⟨1,false,24,[.nils],.slice 3,false⟩,
  ⟨1,false,8,[.nilf],.fn,false⟩,
  ⟨1,false,24,[.nils],.slice 26,false⟩,
  ⟨5,true,64,[.int .i64 0,.int .i64 0,.int .i64 0,.str [],.nils],.struct [(0,3),(1,3),(2,3),(3,9),(4,24)],true⟩,
  ⟨5,true,64,[.int .i64 0,.int .i64 0,.int .i64 0,.str [],.nils],.struct [(0,3),(1,3),(2,3),(3,9),(4,24)],true⟩,
  ⟨1,false,8,[.int .i64 0],.int .i64,false⟩,
  ⟨1,false,8,[.nilp],.ptr 65,false⟩,
  ⟨1,false,0,[.undef],.other,false⟩,
  ⟨1,false,8,[.nilf],.fn,false⟩,
  ⟨1,false,8,[.nilf],.fn,false⟩,
  ⟨1,false,8,[.nilf],.fn,false⟩,
  ⟨1,false,8,[.nilf],.fn,false⟩,
  ⟨1,false,8,[.nilf],.fn,false⟩,
  ⟨1,false,8,[.nilf],.fn,false⟩,
  ⟨1,false,8,[.nilf],.fn,false⟩,
  ⟨2,true,16,[.int .i64 0,.int .i64 0],.struct [(0,3),(1,27)],true⟩,
  ⟨2,true,16,[.int .i64 0,.int .i64 0],.struct [(0,3),(1,27)],true⟩,
  ⟨1,false,8,[.nilf],.fn,false⟩,
  ⟨1,false,0,[.undef],.other,false⟩,
  ⟨1,false,8,[.nilf],.fn,false⟩,
  ⟨1,false,24,[.nils],.slice 77,false⟩,
  ⟨1,false,0,[.undef],.other,false⟩,
  ⟨1,false,8,[.nilf],.fn,false⟩,
  ⟨1,false,8,[.nilf],.fn,false⟩,
  ⟨1,false,8,[.nilp],.ptr 48,false⟩,
  ⟨2,true,32,[.nils,.int .i64 0],.struct [(0,22),(1,3)],true⟩,
  ⟨2,true,32,[.nils,.int .i64 0],.struct [(0,22),(1,3)],true⟩,
  ⟨1,false,8,[.nilf],.fn,false⟩,
  ⟨1,false,8,[.nilf],.fn,false⟩,
  ⟨1,false,0,[.undef],.other,false⟩,
  ⟨1,false,8,[.nilf],.fn,false⟩,
  ⟨1,false,0,[.undef],.other,false⟩,
  ⟨1,false,8,[.nilf],.fn,false⟩,
  ⟨1,false,8,[.nilf],.fn,false⟩,
  ⟨1,false,8,[.nilf],.fn,false⟩,
  ⟨1,false,8,[.nilf],.fn,false⟩,
  ⟨1,false,8,[.nilf],.fn,false⟩,
  ⟨1,false,8,[.nilf],.fn,false⟩,
  ⟨9,true,96,[.int .i64 0,.int .i64 0,.int .i64 0,.str [],.nils,.int .i64 0,.int .i64 0,.int .i64 0,.int .i64 0],.struct [(0,26),(5,3),(6,3),(7,3),(8,27)],true⟩,
  ⟨9,true,96,[.int .i64 0,.int .i64 0,.int .i64 0,.str [],.nils,.int .i64 0,.int .i64 0,.int .i64 0,.int .i64 0],.struct [(0,26),(5,3),(6,3),(7,3),(8,27)],true⟩,
  ⟨1,false,8,[.nilf],.fn,false⟩,
  ⟨1,false,8,[.nilm],.map 3 68,false⟩,
  ⟨8,true,104,[.nilm,.int .i64 0,.int .i64 0,.int .i64 0,.str [],.nils,.nils,.int .i64 0],.struct [(0,63),(1,26),(6,22),(7,3)],true⟩,
  ⟨8,true,104,[.nilm,.int .i64 0,.int .i64 0,.int .i64 0,.str [],.nils,.nils,.int .i64 0],.struct [(0,63),(1,26),(6,22),(7,3)],true⟩,
  ⟨1,false,8,[.nilm],.map 9 3,false⟩,
  ⟨2,true,32,[.nils,.nilm],.struct [(0,24),(1,66)],true⟩,
  ⟨2,true,32,[.nils,.nilm],.struct [(0,24),(1,66)],true⟩,
  ⟨1,false,8,[.nilf],.fn,false⟩,
  ⟨1,false,8,[.nilf],.fn,false⟩,
  ⟨1,false,8,[.nilf],.fn,false⟩,
  ⟨1,false,8,[.nilf],.fn,false⟩,
  ⟨1,false,8,[.nilf],.fn,false⟩,
  ⟨1,false,8,[.nilf],.fn,false⟩,
  ⟨1,false,8,[.nilf],.fn,false⟩,
  ⟨7,true,88,[.str [],.int .i64 0,.int .i64 0,.int .i64 0,.str [],.nils,.int .i64 0],.struct [(0,9),(1,26),(6,3)],true⟩,
  ⟨7,true,88,[.str [],.int .i64 0,.int .i64 0,.int .i64 0,.str [],.nils,.int .i64 0],.struct [(0,9),(1,26),(6,3)],true⟩,
  ⟨1,false,8,[.nilf],.fn,false⟩,
  ⟨1,false,8,[.nilf],.fn,false⟩,
  ⟨1,false,8,[.nilf],.fn,false⟩,
  ⟨1,false,8,[.nilf],.fn,false⟩,
  ⟨1,false,24,[.nils],.slice 91,false⟩,
  ⟨1,false,0,[.undef],.other,false⟩,
  ⟨1,false,8,[.nilf],.fn,false⟩,
  ⟨1,false,8,[.nilf],.fn,false⟩,
  ⟨1,false,8,[.nilf],.fn,false⟩,
  ⟨7,true,80,[.int .i64 0,.int .i64 0,.int .i64 0,.str [],.nils,.int .i64 0,.bool false],.struct [(0,26),(5,3),(6,4)],true⟩,
  ⟨7,true,80,[.int .i64 0,.int .i64 0,.int .i64 0,.str [],.nils,.int .i64 0,.bool false],.struct [(0,26),(5,3),(6,4)],true⟩,
  ⟨1,false,8,[.nilf],.fn,false⟩,
  ⟨4,true,40,[.int .i64 0,.int .i64 0,.int .i64 0,.str []],.struct [(0,3),(1,3),(2,3),(3,9)],true⟩,
  ⟨4,true,40,[.int .i64 0,.int .i64 0,.int .i64 0,.str []],.struct [(0,3),(1,3),(2,3),(3,9)],true⟩,
  ⟨1,false,8,[.nilf],.fn,false⟩,
  ⟨1,false,8,[.nilf],.fn,false⟩,
  ⟨1,false,8,[.nilf],.fn,false⟩,
  ⟨1,false,8,[.nilf],.fn,false⟩,
  ⟨1,false,8,[.nilf],.fn,false⟩,
  ⟨1,false,8,[.nilf],.fn,false⟩,
  ⟨1,false,8,[.nilf],.fn,false⟩,
  ⟨1,false,8,[.int .u64 0],.int .u64,false⟩,
  ⟨1,false,24,[.nils],.slice 9,false⟩,
  ⟨1,false,8,[.nilf],.fn,false⟩,
  ⟨1,false,8,[.nilf],.fn,false⟩,
  ⟨1,false,0,[.undef],.other,false⟩,
  ⟨1,false,8,[.nilf],.fn,false⟩,
  ⟨1,false,0,[.undef],.other,false⟩,
  ⟨1,false,8,[.nilf],.fn,false⟩,
  ⟨1,false,24,[.nils],.slice 109,false⟩,
  ⟨1,false,8,[.nilf],.fn,false⟩,
  ⟨2,true,16,[.int .i64 0,.int .i64 0],.array 2 3,false⟩,
  ⟨1,false,8,[.nilf],.fn,false⟩,
  ⟨1,false,8,[.nilf],.fn,false⟩,
  ⟨1,false,8,[.nilf],.fn,false⟩,
  ⟨1,false,8,[.nilf],.fn,false⟩,
  ⟨1,false,8,[.nilf],.fn,false⟩,
  ⟨1,false,24,[.nils],.slice 117,false⟩,
  ⟨3,true,40,[.int .i64 0,.int .i64 0,.nils],.struct [(0,3),(1,3),(2,115)],true⟩,
  ⟨3,true,40,[.int .i64 0,.int .i64 0,.nils],.struct [(0,3),(1,3),(2,115)],true⟩,
  ⟨1,false,0,[.undef],.other,false⟩,
  ⟨1,false,8,[.nilf],.fn,false⟩,
  ⟨1,false,8,[.nilf],.fn,false⟩,
  ⟨1,false,8,[.nilf],.fn,false⟩,
  ⟨1,false,8,[.nilf],.fn,false⟩,
  ⟨1,false,8,[.nilf],.fn,false⟩,
  ⟨1,false,8,[.nilf],.fn,false⟩,
  ⟨1,false,8,[.nilf],.fn,false⟩,
  ⟨1,false,8,[.nilf],.fn,false⟩,
  ⟨1,false,8,[.nilf],.fn,false⟩,
  ⟨1,false,8,[.nilf],.fn,false⟩,
  ⟨1,false,24,[.nils],.slice 35,false⟩,
  ⟨1,false,8,[.nilf],.fn,false⟩,
  ⟨2,true,32,[.nils,.int .i64 0],.struct [(0,24),(1,3)],true⟩,
  ⟨2,true,32,[.nils,.int .i64 0],.struct [(0,24),(1,3)],true⟩,
  ⟨1,false,8,[.nilf],.fn,false⟩,
  ⟨1,false,8,[.nilf],.fn,false⟩,
  ⟨1,false,8,[.nilf],.fn,false⟩,
  ⟨1,false,8,[.nilf],.fn,false⟩,
  ⟨1,false,8,[.nilf],.fn,false⟩,
  ⟨1,false,8,[.nilf],.fn,false⟩,
  ⟨1,false,0,[.undef],.other,false⟩,
  ⟨1,false,8,[.nilf],.fn,false⟩,
  ⟨1,false,8,[.nilf],.fn,false⟩,
  ⟨1,false,8,[.nilf],.fn,false⟩,
  ⟨1,false,24,[.nils],.slice 5,false⟩,
  ⟨1,false,8,[.nilf],.fn,false⟩,
  ⟨1,false,8,[.nilf],.fn,false⟩,
  ⟨1,false,8,[.nilp],.ptr 132,false⟩,
  ⟨1,false,8,[.nilf],.fn,false⟩,
  ⟨1,false,8,[.nilf],.fn,false⟩,
  ⟨1,false,8,[.nilf],.fn,false⟩,
  ⟨1,false,0,[.undef],.other,false⟩,
  ⟨1,false,8,[.nilf],.fn,false⟩,
  ⟨1,false,0,[.undef],.other,false⟩,
  ⟨1,false,8,[.nilf],.fn,false⟩,
  ⟨1,false,8,[.nilf],.fn,false⟩,
  ⟨1,false,8,[.nilf],.fn,false⟩,
  ⟨1,false,8,[.nilf],.fn,false⟩,
  ⟨1,false,8,[.nilf],.fn,false⟩,
  ⟨1,false,8,[.nilf],.fn,false⟩,
  ⟨256,true,256,[.int .u8 0,.int .u8 0,.int .u8 0,.int .u8 0,.int .u8 0,.int .u8 0,.int .u8 0,.int .u8 0,.int .u8 0,.int .u8 0,.int .u8 0,.int .u8 0,.int .u8 0,.int .u8 0,.int .u8 0,.int .u8 0,.int .u8 0,.int .u8 0,.int .u8 0,.int .u8 0,.int .u8 0,.int .u8 0,.int .u8 0,.int .u8 0,.int .u8 0,.int .u8 0,.int .u8 0,.int .u8 0,.int .u8 0,.int .u8 0,.int .u8 0,.int .u8 0,.int .u8 0,.int .u8 0,.int .u8 0,.int .u8 0,.int .u8 0,.int .u8 0,.int .u8 0,.int .u8 0,.int .u8 0,.int .u8 0,.int .u8 0,.int .u8 0,.int .u8 0,.int .u8 0,.int .u8 0,.int .u8 0,.int .u8 0,.int .u8 0,.int .u8 0,.int .u8 0,.int .u8 0,.int .u8 0,.int .u8 0,.int .u8 0,.int .u8 0,.int .u8 0,.int .u8 0,.int .u8 0,.int .u8 0,.int .u8 0,.int .u8 0,.int .u8 0,.int .u8 0,.int .u8 0,.int .u8 0,.int .u8 0,.int .u8 0,.int .u8 0,.int .u8 0,.int .u8 0,.int .u8 0,.int .u8 0,.int .u8 0,.int .u8 0,.int .u8 0,.int .u8 0,.int .u8 0,.int .u8 0,.int .u8 0,.int .u8 0,.int .u8 0,.int .u8 0,.int .u8 0,.int .u8 0,.int .u8 0,.int .u8 0,.int .u8 0,.int .u8 0,.int .u8 0,.int .u8 0,.int .u8 0,.int .u8 0,.int .u8 0,.int .u8 0,.int .u8 0,.int .u8 0,.int .u8 0,.int .u8 0,.int .u8 0,.int .u8 0,.int .u8 0,.int .u8 0,.int .u8 0,.int .u8 0,.int .u8 0,.int .u8 0,.int .u8 0,.int .u8 0,.int .u8 0,.int .u8 0,.int .u8 0,.int .u8 0,.int .u8 0,.int .u8 0,.int .u8 0,.int .u8 0,.int .u8 0,.int .u8 0,.int .u8 0,.int .u8 0,.int .u8 0,.int .u8 0,.int .u8 0,.int .u8 0,.int .u8 0,.int .u8 0,.int .u8 0,.int .u8 0,.int .u8 0,.int .u8 0,.int .u8 0,.int .u8 0,.int .u8 0,.int .u8 0,.int .u8 0,.int .u8 0,.int .u8 0,.int .u8 0,.int .u8 0,.int .u8 0,.int .u8 0,.int .u8 0,.int .u8 0,.int .u8 0,.int .u8 0,.int .u8 0,.int .u8 0,.int .u8 0,.int .u8 0,.int .u8 0,.int .u8 0,.int .u8 0,.int .u8 0,.int .u8 0,.int .u8 0,.int .u8 0,.int .u8 0,.int .u8 0,.int .u8 0,.int .u8 0,.int .u8 0,.int .u8 0,.int .u8 0,.int .u8 0,.int .u8 0,.int .u8 0,.int .u8 0,.int .u8 0,.int .u8 0,.int .u8 0,.int .u8 0,.int .u8 0,.int .u8 0,.int .u8 0,.int .u8 0,.int .u8 0,.int .u8 0,.int .u8 0,.int .u8 0,.int .u8 0,.int .u8 0,.int .u8 0,.int .u8 0,.int .u8 0,.int .u8 0,.int .u8 0,.int .u8 0,.int .u8 0,.int .u8 0,.int .u8 0,.int .u8 0,.int .u8 0,.int .u8 0,.int .u8 0,.int .u8 0,.int .u8 0,.int .u8 0,.int .u8 0,.int .u8 0,.int .u8 0,.int .u8 0,.int .u8 0,.int .u8 0,.int .u8 0,.int .u8 0,.int .u8 0,.int .u8 0,.int .u8 0,.int .u8 0,.int .u8 0,.int .u8 0,.int .u8 0,.int .u8 0,.int .u8 0,.int .u8 0,.int .u8 0,.int .u8 0,.int .u8 0,.int .u8 0,.int .u8 0,.int .u8 0,.int .u8 0,.int .u8 0,.int .u8 0,.int .u8 0,.int .u8 0,.int .u8 0,.int .u8 0,.int .u8 0,.int .u8 0,.int .u8 0,.int .u8 0,.int .u8 0,.int .u8 0,.int .u8 0,.int .u8 0,.int .u8 0,.int .u8 0,.int .u8 0,.int .u8 0,.int .u8 0,.int .u8 0,.int .u8 0,.int .u8 0,.int .u8 0,.int .u8 0,.int .u8 0,.int .u8 0,.int .u8 0,.int .u8 0,.int .u8 0,.int .u8 0,.int .u8 0,.int .u8 0],.array 256 5,false⟩,
  ⟨1,false,8,[.nilf],.fn,false⟩,
  ⟨1,false,8,[.nilf],.fn,false⟩,
  ⟨1,false,8,[.nilf],.fn,false⟩,
  ⟨1,false,24,[.nils],.slice 165,false⟩,
  ⟨2,true,16,[.int .i64 0,.int .i64 0],.struct [(0,3),(1,3)],true⟩,
  ⟨2,true,16,[.int .i64 0,.int .i64 0],.struct [(0,3),(1,3)],true⟩,
  ⟨1,false,4,[.int .u32 0],.int .u32,false⟩,
  ⟨1,false,8,[.nilf],.fn,false⟩,
  ⟨1,false,8,[.nilp],.ptr 172,false⟩,
  ⟨1,false,24,[.nils],.slice 175,false⟩,
  ⟨1,false,24,[.nils],.slice 178,false⟩,
  ⟨3,true,56,[.nils,.nils,.int .i64 0],.struct [(0,169),(1,170),(2,3)],true⟩,
  ⟨3,true,56,[.nils,.nils,.int .i64 0],.struct [(0,169),(1,170),(2,3)],true⟩,
  ⟨1,false,2,[.int .u16 0],.int .u16,false⟩,
  ⟨3,true,6,[.int .u16 0,.int .u16 0,.int .u16 0],.struct [(0,173),(1,173),(2,173)],true⟩,
  ⟨3,true,6,[.int .u16 0,.int .u16 0,.int .u16 0],.struct [(0,173),(1,173),(2,173)],true⟩,
  ⟨1,false,8,[.nilf],.fn,false⟩,
  ⟨3,true,12,[.int .u32 0,.int .u32 0,.int .u32 0],.struct [(0,166),(1,166),(2,166)],true⟩,
  ⟨3,true,12,[.int .u32 0,.int .u32 0,.int .u32 0],.struct [(0,166),(1,166),(2,166)],true⟩,
  ⟨1,false,8,[.nilf],.fn,false⟩,
  ⟨1,false,8,[.nilp],.ptr 175,false⟩,
  ⟨1,false,8,[.int .u64 0],.int .u64,false⟩,
  ⟨1,false,8,[.nilp],.ptr 178,false⟩,
  ⟨1,false,8,[.nilf],.fn,false⟩,
  ⟨4,true,40,[.nilp,.nilp,.nilp,.str []],.struct [(0,17),(1,17),(2,17),(3,9)],false⟩,
  ⟨4,true,40,[.nilp,.nilp,.nilp,.str []],.struct [(0,17),(1,17),(2,17),(3,9)],false⟩,
  ⟨0,true,0,[],.array 0 16,false⟩,
  ⟨0,true,0,[],.struct [(0,186)],false⟩,
  ⟨0,true,0,[],.struct [(0,186)],false⟩,
  ⟨1,false,1,[.int .u8 0],.int .u8,false⟩,
  ⟨1,false,1,[.int .u8 0],.int .u8,false⟩,
  ⟨1,false,8,[.nilf],.fn,false⟩,
  ⟨1,false,8,[.nilp],.ptr 5,false⟩,
  ⟨1,false,4,[.int .i32 0],.int .i32,false⟩,
  ⟨1,false,4,[.int .i32 0],.int .i32,false⟩,
  ⟨11,true,48,[.int .u64 0,.int .u64 0,.int .u32 0,.int .u8 0,.int .u8 0,.int .u8 0,.int .u8 0,.nilf,.nilp,.int .i32 0,.int .i32 0],.struct [(0,12),(1,12),(2,166),(3,189),(4,5),(5,5),(6,190),(7,191),(8,192),(9,193),(10,194)],false⟩,
  ⟨11,true,48,[.int .u64 0,.int .u64 0,.int .u32 0,.int .u8 0,.int .u8 0,.int .u8 0,.int .u8 0,.nilf,.nilp,.int .i32 0,.int .i32 0],.struct [(0,12),(1,12),(2,166),(3,189),(4,5),(5,5),(6,190),(7,191),(8,192),(9,193),(10,194)],false⟩,
  ⟨1,false,8,[.nilp],.other,false⟩]
theorem tab_ok:(List.range 198).map (mkTI Tryz.prog) = tab.map some:=by kernel_rfl
theorem tb_ok:TbOk Tryz.prog tab:=fun t ti h=>by
  have e:=congrArg (fun l=>l[t]?) tab_ok
  simp only [List.getElem?_map,h,Option.map_some] at e
  cases hr:(List.range 198)[t]? with
  | none=>rw [hr] at e; cases e
  | some i=>
    rw [hr] at e
    simp only [Option.map_some,Option.some.injEq] at e
    obtain ⟨h1,h2⟩:=List.getElem?_eq_some_iff.1 hr
    simp only [List.getElem_range] at h2
    subst h2
    exact e
end Go.Proofs.YtjojaiomgdjhfaaGreatDoor.AE
set_option linter.unusedVariables false
set_option linter.unusedSimpArgs false
namespace Go.Proofs.YtjojaiomgdjhfaaGreatDoor.SY
open Go AE F
def U:Nat→Type
  | 0=>TNode
  | 1=>Tref18_Fault
  | 2=>Tdecl_Table
  | 3=>List (Int × Tdecl_kinds)
  | 4=>Tdecl_kinds
  | 5=>List (List UInt8 × Int)
  | 6=>Int
  | 7=>Tref19_Name
  | 8=>Tref15_Got
  | 9=>TToken
  | 10=>Tref14_Got
  | 11=>Int × Int
  | 12=>TValue
  | 13=>List UInt8
  | 14=>Nat
  | 15=>Int
  | _=>Unit
mutual
def e0:TNode→AV
  | ⟨v0,v1,v2,v3,v4⟩=>.agg (([.int .i64 v0] ++ ([.int .i64 v1] ++ ([.int .i64 v2] ++ ([.str v3] ++ ([.slice .none 5 (E0 v4)] ++ []))))))
def E0:List TNode→List AV
  | []=>[]
  | x :: r=>e0 x :: E0 r
end
theorem E0_map:∀ l,E0 l = l.map e0
  | []=>rfl
  | x :: r=>by simp only [E0,List.map_cons,E0_map r]
def e1 (x:Tref18_Fault):AV:=.agg (([.int .i64 x.At] ++ ([.int .i64 x.Why] ++ [])))
def e5 (x:List (List UInt8 × Int)):AV:=.mapf (x.map fun p=>.str p.1) (x.map fun p=>.int .i64 p.2)
def e4 (x:Tdecl_kinds):AV:=.agg (([.slice .none 5 (x.list.map e0)] ++ ((cellsOf (e5 x.by_)) ++ [])))
def e3 (x:List (Int × Tdecl_kinds)):AV:=.mapf (x.map fun p=>.int .i64 p.1) (x.map fun p=>e4 p.2)
def e6 (x:Int):AV:=.int .i64 x
def e2 (x:Tdecl_Table):AV:=.agg (((cellsOf (e3 x.all_)) ++ ((cellsOf (e0 x.prog)) ++ ([.slice .none 1 (x.base.map e6)] ++ ([.int .i64 x.locs] ++ [])))))
def e7 (x:Tref19_Name):AV:=.agg (([.str x.Name] ++ ((cellsOf (e0 x.Kind)) ++ ([.int .i64 x.In] ++ []))))
def e8 (x:Tref15_Got):AV:=.agg (((cellsOf (e0 x.N)) ++ ([.int .i64 x.At] ++ ([.int .i64 x.Line] ++ ([.int .i64 x.Col] ++ ([.int .i64 x.Why] ++ []))))))
def e9 (x:TToken):AV:=.agg (([.int .i64 x.Kind] ++ ([.int .i64 x.At] ++ ([.int .i64 x.N] ++ ([.str x.Text] ++ [])))))
def e10 (x:Tref14_Got):AV:=.agg (((cellsOf (e0 x.N)) ++ ([.int .i64 x.At] ++ ([.bool x.Ok] ++ []))))
def e11 (x:Int × Int):AV:=.agg (([.int .i64 x.1] ++ ([.int .i64 x.2] ++ [])))
mutual
def e12:TValue→AV
  | ⟨v0,v1,v2⟩=>.agg (([.int .i64 v0] ++ ([.int .i64 v1] ++ ([.slice .none 3 (E12 v2)] ++ []))))
def E12:List TValue→List AV
  | []=>[]
  | x :: r=>e12 x :: E12 r
end
theorem E12_map:∀ l,E12 l = l.map e12
  | []=>rfl
  | x :: r=>by simp only [E12,List.map_cons,E12_map r]
def e13 (x:List UInt8):AV:=.str x
def e14 (x:Nat):AV:=.fn (.func (if x == 0 then 124 else if x == 1 then 125 else if x == 2 then 69 else if x == 3 then 126 else if x == 4 then 127 else if x == 5 then 97 else if x == 6 then 98 else if x == 7 then 95 else 0)) [] []
def e15 (x:Int):AV:=.int .u8 x
def ds:(i:Nat)→Ds U i
  | 0=>⟨5,true,(.L [.int .i64,.int .i64,.int .i64,.str,.lst 0]),fun x=>(x.Kind,x.At,x.N,x.Name,x.Kids),fun z=>⟨z.1,z.2.1,z.2.2.1,z.2.2.2.1,z.2.2.2.2⟩,e0,none,[],fun _=>none,none⟩
  | 1=>⟨2,true,(.L [.int .i64,.int .i64]),fun x=>(x.At,x.Why),fun z=>⟨z.1,z.2⟩,e1,none,[],fun _=>none,none⟩
  | 2=>⟨8,true,(.L [.typ 3,.typ 0,.lst 6,.int .i64]),fun x=>(x.all_,x.prog,x.base,x.locs),fun z=>⟨z.1,z.2.1,z.2.2.1,z.2.2.2⟩,e2,none,[],fun _=>none,none⟩
  | 3=>⟨1,false,.typ 3,fun x=>x,fun z=>z,e3,none,[],fun _=>none,some ⟨.int .i64,.typ 4,fun x=>x,fun l=>l⟩⟩
  | 4=>⟨2,true,(.L [.lst 0,.typ 5]),fun x=>(x.list,x.by_),fun z=>⟨z.1,z.2⟩,e4,none,[],fun _=>none,none⟩
  | 5=>⟨1,false,.typ 5,fun x=>x,fun z=>z,e5,none,[],fun _=>none,some ⟨.str,.int .i64,fun x=>x,fun l=>l⟩⟩
  | 6=>⟨1,false,.int .i64,fun x=>x,fun z=>z,e6,none,[],fun _=>none,none⟩
  | 7=>⟨7,true,(.L [.str,.typ 0,.int .i64]),fun x=>(x.Name,x.Kind,x.In),fun z=>⟨z.1,z.2.1,z.2.2⟩,e7,none,[],fun _=>none,none⟩
  | 8=>⟨9,true,(.L [.typ 0,.int .i64,.int .i64,.int .i64,.int .i64]),fun x=>(x.N,x.At,x.Line,x.Col,x.Why),fun z=>⟨z.1,z.2.1,z.2.2.1,z.2.2.2.1,z.2.2.2.2⟩,e8,none,[],fun _=>none,none⟩
  | 9=>⟨4,true,(.L [.int .i64,.int .i64,.int .i64,.str]),fun x=>(x.Kind,x.At,x.N,x.Text),fun z=>⟨z.1,z.2.1,z.2.2.1,z.2.2.2⟩,e9,none,[],fun _=>none,none⟩
  | 10=>⟨7,true,(.L [.typ 0,.int .i64,.bool]),fun x=>(x.N,x.At,x.Ok),fun z=>⟨z.1,z.2.1,z.2.2⟩,e10,none,[],fun _=>none,none⟩
  | 11=>⟨2,true,(.L [.int .i64,.int .i64]),fun x=>x,fun z=>z,e11,none,[],fun _=>none,none⟩
  | 12=>⟨3,true,(.L [.int .i64,.int .i64,.lst 12]),fun x=>(x.Kind,x.N,x.Kids),fun z=>⟨z.1,z.2.1,z.2.2⟩,e12,none,[],fun _=>none,none⟩
  | 13=>⟨1,false,.str,fun x=>x,fun z=>z,e13,none,[],fun _=>none,none⟩
  | 14=>⟨1,false,.typ 14,fun x=>x,fun z=>z,e14,none,[(fun x:Nat=>x == 0,124),(fun x:Nat=>x == 1,125),(fun x:Nat=>x == 2,69),(fun x:Nat=>x == 3,126),(fun x:Nat=>x == 4,127),(fun x:Nat=>x == 5,97),(fun x:Nat=>x == 6,98),(fun x:Nat=>x == 7,95)],fun f=>match f with | 124=>some (0:Nat) | 125=>some (1:Nat) | 69=>some (2:Nat) | 126=>some (3:Nat) | 127=>some (4:Nat) | 97=>some (5:Nat) | 98=>some (6:Nat) | 95=>some (7:Nat) | _=>none,none⟩
  | 15=>⟨1,false,.int .u8,fun x=>x,fun z=>z,e15,some fun l=>l.map fun b=>(b.toNat:Int),[],fun _=>none,none⟩
  | _ + 16=>⟨0,true,.nil,fun _=>(),fun _=>(),fun _=>.agg [],none,[],fun _=>none,none⟩
def ty:List (Nat × Nat):=[(3,6),(5,15),(9,13),(26,0),(35,14),(38,1),(61,8),(63,3),(65,2),(66,5),(68,4),(77,7),(88,10),(91,9),(109,11),(117,12)]
theorem fns_14:∀ p f x,(p,f) ∈ (ds 14).fns→p x = true→(ds 14).enc x = .fn (.func f) [] []:=by
  intro p f x h hp
  simp only [ds,List.mem_cons,Prod.mk.injEq,List.not_mem_nil,or_false] at h
  rcases h with ⟨rfl,rfl⟩ | ⟨rfl,rfl⟩ | ⟨rfl,rfl⟩ | ⟨rfl,rfl⟩ | ⟨rfl,rfl⟩ | ⟨rfl,rfl⟩ | ⟨rfl,rfl⟩ | ⟨rfl,rfl⟩ <;> (have hp:=eq_of_beq hp; subst hp; rfl)
theorem mkf_14:∀ f x,(ds 14).mkf f = some x→(ds 14).enc x = .fn (.func f) [] []:=by
  intro f x h
  simp only [ds] at h
  split at h <;> cases h <;> rfl
theorem ds_ok:∀ i,DsOk (mkM0 ds ty) (ds i)
  | 0=>⟨fun B ⟨v0,v1,v2,v3,v4⟩=>by
      show (([.int .i64 v0] ++ ([.int .i64 v1] ++ ([.int .i64 v2] ++ ([.str v3] ++ ([.slice .none 5 (v4.map e0)] ++ []))))):List AV) = ([.int .i64 v0] ++ ([.int .i64 v1] ++ ([.int .i64 v2] ++ ([.str v3] ++ ([.slice .none 5 (E0 v4)] ++ [])))))
      rw [E0_map],fun _=>rfl,fun ⟨v0,v1,v2,v3,v4⟩=>(⟨_,rfl⟩:∃ cs,(ds 0).enc ⟨v0,v1,v2,v3,v4⟩ = AV.agg cs),fun ⟨_,_,_,_,_⟩=>rfl,fun ⟨_,_,_,_,_⟩=>rfl,fun ⟨_,_,_,_,_⟩=>rfl,fun ⟨_,_,_,_,_⟩=>rfl,fun ⟨_,_,_,_,_⟩=>rfl,fun _ h=>(by cases h),fun _ _ _ h=>(by cases h),fun _ _ h=>(by cases h),fun _ h=>(by cases h)⟩
  | 1=>⟨fun _ _=>rfl,fun _=>rfl,fun x=>(⟨_,rfl⟩:∃ cs,(ds (1)).enc x = AV.agg cs),fun _=>rfl,fun _=>rfl,fun _=>rfl,fun _=>rfl,fun _=>rfl,fun _ h=>(by cases h),fun _ _ _ h=>(by cases h),fun _ _ h=>(by cases h),fun _ h=>(by cases h)⟩
  | 2=>⟨fun _ _=>rfl,fun _=>rfl,fun x=>(⟨_,rfl⟩:∃ cs,(ds (2)).enc x = AV.agg cs),fun ⟨_,⟨_,_,_,_,_⟩,_,_⟩=>rfl,fun ⟨_,⟨_,_,_,_,_⟩,_,_⟩=>rfl,fun ⟨_,⟨_,_,_,_,_⟩,_,_⟩=>rfl,fun ⟨_,⟨_,_,_,_,_⟩,_,_⟩=>rfl,fun ⟨_,⟨_,_,_,_,_⟩,_,_⟩=>rfl,fun _ h=>(by cases h),fun _ _ _ h=>(by cases h),fun _ _ h=>(by cases h),fun _ h=>(by cases h)⟩
  | 3=>⟨fun _ _=>rfl,fun _=>rfl,fun _=>rfl,fun _=>rfl,fun _=>rfl,fun _=>rfl,fun _=>rfl,fun _=>rfl,fun _ h=>(by cases h),fun _ _ _ h=>(by cases h),fun _ _ h=>(by cases h),fun _ h=>(by cases h; exact ⟨fun _=>rfl,fun _=>rfl⟩)⟩
  | 4=>⟨fun _ _=>rfl,fun _=>rfl,fun x=>(⟨_,rfl⟩:∃ cs,(ds (4)).enc x = AV.agg cs),fun _=>rfl,fun _=>rfl,fun _=>rfl,fun _=>rfl,fun _=>rfl,fun _ h=>(by cases h),fun _ _ _ h=>(by cases h),fun _ _ h=>(by cases h),fun _ h=>(by cases h)⟩
  | 5=>⟨fun _ _=>rfl,fun _=>rfl,fun _=>rfl,fun _=>rfl,fun _=>rfl,fun _=>rfl,fun _=>rfl,fun _=>rfl,fun _ h=>(by cases h),fun _ _ _ h=>(by cases h),fun _ _ h=>(by cases h),fun _ h=>(by cases h; exact ⟨fun _=>rfl,fun _=>rfl⟩)⟩
  | 6=>⟨fun _ _=>rfl,fun _=>rfl,fun _=>rfl,fun _=>rfl,fun _=>rfl,fun _=>rfl,fun _=>rfl,fun _=>rfl,fun _ h=>(by cases h),fun _ _ _ h=>(by cases h),fun _ _ h=>(by cases h),fun _ h=>(by cases h)⟩
  | 7=>⟨fun _ _=>rfl,fun _=>rfl,fun x=>(⟨_,rfl⟩:∃ cs,(ds (7)).enc x = AV.agg cs),fun ⟨_,⟨_,_,_,_,_⟩,_⟩=>rfl,fun ⟨_,⟨_,_,_,_,_⟩,_⟩=>rfl,fun ⟨_,⟨_,_,_,_,_⟩,_⟩=>rfl,fun ⟨_,⟨_,_,_,_,_⟩,_⟩=>rfl,fun ⟨_,⟨_,_,_,_,_⟩,_⟩=>rfl,fun _ h=>(by cases h),fun _ _ _ h=>(by cases h),fun _ _ h=>(by cases h),fun _ h=>(by cases h)⟩
  | 8=>⟨fun _ _=>rfl,fun _=>rfl,fun x=>(⟨_,rfl⟩:∃ cs,(ds (8)).enc x = AV.agg cs),fun ⟨⟨_,_,_,_,_⟩,_,_,_,_⟩=>rfl,fun ⟨⟨_,_,_,_,_⟩,_,_,_,_⟩=>rfl,fun ⟨⟨_,_,_,_,_⟩,_,_,_,_⟩=>rfl,fun ⟨⟨_,_,_,_,_⟩,_,_,_,_⟩=>rfl,fun ⟨⟨_,_,_,_,_⟩,_,_,_,_⟩=>rfl,fun _ h=>(by cases h),fun _ _ _ h=>(by cases h),fun _ _ h=>(by cases h),fun _ h=>(by cases h)⟩
  | 9=>⟨fun _ _=>rfl,fun _=>rfl,fun x=>(⟨_,rfl⟩:∃ cs,(ds (9)).enc x = AV.agg cs),fun _=>rfl,fun _=>rfl,fun _=>rfl,fun _=>rfl,fun _=>rfl,fun _ h=>(by cases h),fun _ _ _ h=>(by cases h),fun _ _ h=>(by cases h),fun _ h=>(by cases h)⟩
  | 10=>⟨fun _ _=>rfl,fun _=>rfl,fun x=>(⟨_,rfl⟩:∃ cs,(ds (10)).enc x = AV.agg cs),fun ⟨⟨_,_,_,_,_⟩,_,_⟩=>rfl,fun ⟨⟨_,_,_,_,_⟩,_,_⟩=>rfl,fun ⟨⟨_,_,_,_,_⟩,_,_⟩=>rfl,fun ⟨⟨_,_,_,_,_⟩,_,_⟩=>rfl,fun ⟨⟨_,_,_,_,_⟩,_,_⟩=>rfl,fun _ h=>(by cases h),fun _ _ _ h=>(by cases h),fun _ _ h=>(by cases h),fun _ h=>(by cases h)⟩
  | 11=>⟨fun _ _=>rfl,fun _=>rfl,fun x=>(⟨_,rfl⟩:∃ cs,(ds (11)).enc x = AV.agg cs),fun _=>rfl,fun _=>rfl,fun _=>rfl,fun _=>rfl,fun _=>rfl,fun _ h=>(by cases h),fun _ _ _ h=>(by cases h),fun _ _ h=>(by cases h),fun _ h=>(by cases h)⟩
  | 12=>⟨fun B ⟨v0,v1,v2⟩=>by
      show (([.int .i64 v0] ++ ([.int .i64 v1] ++ ([.slice .none 3 (v2.map e12)] ++ []))):List AV) = ([.int .i64 v0] ++ ([.int .i64 v1] ++ ([.slice .none 3 (E12 v2)] ++ [])))
      rw [E12_map],fun _=>rfl,fun ⟨v0,v1,v2⟩=>(⟨_,rfl⟩:∃ cs,(ds 12).enc ⟨v0,v1,v2⟩ = AV.agg cs),fun ⟨_,_,_⟩=>rfl,fun ⟨_,_,_⟩=>rfl,fun ⟨_,_,_⟩=>rfl,fun ⟨_,_,_⟩=>rfl,fun ⟨_,_,_⟩=>rfl,fun _ h=>(by cases h),fun _ _ _ h=>(by cases h),fun _ _ h=>(by cases h),fun _ h=>(by cases h)⟩
  | 13=>⟨fun _ _=>rfl,fun _=>rfl,fun _=>rfl,fun _=>rfl,fun _=>rfl,fun _=>rfl,fun _=>rfl,fun _=>rfl,fun _ h=>(by cases h),fun _ _ _ h=>(by cases h),fun _ _ h=>(by cases h),fun _ h=>(by cases h)⟩
  | 14=>⟨fun _ _=>rfl,fun _=>rfl,fun _=>rfl,fun _=>rfl,fun _=>rfl,fun _=>rfl,fun _=>rfl,fun _=>rfl,fun _ h=>(by cases h),fns_14,mkf_14,fun _ h=>(by cases h)⟩
  | 15=>⟨fun _ _=>rfl,fun _=>rfl,fun _=>rfl,fun _=>rfl,fun _=>rfl,fun _=>rfl,fun _=>rfl,fun _=>rfl,fun f h=>(by cases h; exact ⟨rfl,fun l=>by induction l with | nil=>rfl | cons b r ih=>exact congrArg (List.cons (AV.int .u8 b.toNat)) ih⟩),fun _ _ _ h=>(by cases h),fun _ _ h=>(by cases h),fun _ h=>(by cases h)⟩
  | n + 16=>⟨fun _ _=>rfl,fun _=>rfl,fun x=>(⟨_,rfl⟩:∃ cs,(ds (n + 16)).enc x = AV.agg cs),fun _=>rfl,fun _=>rfl,fun _=>rfl,fun _=>rfl,fun _=>rfl,fun _ h=>(by cases h),fun _ _ _ h=>(by cases h),fun _ _ h=>(by cases h),fun _ h=>(by cases h)⟩
def M:TM U:=mkM ds ty
def g_strings_asciiSpace:List Int:=[0,0,0,0,0,0,0,0,0,1,1,1,1,1,0,0,0,0,0,0,0,0,0,0,0,0,0,0,0,0,0,0,1,0,0,0,0,0,0,0,0,0,0,0,0,0,0,0,0,0,0,0,0,0,0,0,0,0,0,0,0,0,0,0,0,0,0,0,0,0,0,0,0,0,0,0,0,0,0,0,0,0,0,0,0,0,0,0,0,0,0,0,0,0,0,0,0,0,0,0,0,0,0,0,0,0,0,0,0,0,0,0,0,0,0,0,0,0,0,0,0,0,0,0,0,0,0,0,0,0,0,0,0,0,0,0,0,0,0,0,0,0,0,0,0,0,0,0,0,0,0,0,0,0,0,0,0,0,0,0,0,0,0,0,0,0,0,0,0,0,0,0,0,0,0,0,0,0,0,0,0,0,0,0,0,0,0,0,0,0,0,0,0,0,0,0,0,0,0,0,0,0,0,0,0,0,0,0,0,0,0,0,0,0,0,0,0,0,0,0,0,0,0,0,0,0,0,0,0,0,0,0,0,0,0,0,0,0,0,0,0,0,0,0,0,0,0,0,0,0,0,0,0,0,0,0]
def gs:List (Nat × List (SV U)):=[(1,g_strings_asciiSpace.map fun n=>.raw (.int .u8 n))]
noncomputable def Zs:Seat:=⟨tab,Tryz.prog,gs.map fun x=>(x.1,flat M [] x.2),tb_ok,by kernel_rfl⟩
noncomputable def Y:SZ U:=⟨Zs,M,mkM_ok ds_ok (by kernel_rfl),gs,fun _=>rfl⟩
end Go.Proofs.YtjojaiomgdjhfaaGreatDoor.SY
