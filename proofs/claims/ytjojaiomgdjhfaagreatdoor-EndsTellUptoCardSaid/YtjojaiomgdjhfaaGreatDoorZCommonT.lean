/- What the laws over the spellings share: the contract out of a function's answer, the world that holds them. No condition. -/
import Derived.Test.YtjojaiomgdjhfaaGreatDoorCards
import Derived.Test.YtjojaiomgdjhfaaGreatDoorTie
import Derived.Test.YtjojaiomgdjhfaaGreatDoorZX0
import Derived.Test.YtjojaiomgdjhfaaGreatDoorZA1
import Derived.WalkKit
import Derived.ProofKit
import Derived.OpenShut
import Derived.ShutString
import Derived.ChangeOld
import Derived.Below
import Derived.Deep.DeepHandedRow
import Derived.Deep.DeepWitnessRowRef
import Derived.Lib.LaidTab
set_option maxRecDepth 100000
namespace Go.Proofs.YtjojaiomgdjhfaaGreatDoor.AE
open Go Go.RowKit
theorem law_SF {Z:Seat} {f:FuncId} {args:List AV} {W:World} {vs:Array Value} (h:SF Z f args [] (.bool true) []) (hv:VL (Gh.start W) args vs.toList) (hg:Glob Z.gl (Gh.start W)) :
    Calls Z.P f vs W fun e w'=>e = .returned (.bool true)∧Below W.heap.size W w':=by
  refine (h.2 (Gh.start W) vs W (start_wc W) hv hg).mono fun e w' h=>?_
  obtain ⟨v,g',rfl,ret⟩:=h
  have:v = .bool true:=ret.val
  subst this
  exact ⟨rfl,below_of ret.ctx⟩
theorem own:ownKnob Tryz.prog.godebug = none:=by kernel_rfl
def laidT:List (String × DataW Unit):=[("unicode.White_Space",Rows.laid_unicode_White_Space),("strings.asciiSpace",Rows.laid_strings_asciiSpace)]
def laid2:List (String × DataW Unit):=[("strings.asciiSpace",Rows.laid_strings_asciiSpace)]
theorem gl_eq:(glOf Tryz.prog tab laid2).reverse = SY.Zs.gl:=by kernel_rfl
theorem gl_types:glTypes Tryz.prog [159,5] laid2 = true:=by kernel_rfl
theorem gl_plain:plainT tab [159,5] = true:=by kernel_rfl
theorem glob {W:World} (h:laidMetH Tryz.prog laidT W):Glob SY.Zs.gl (Gh.start W):=by
  have h2:laidMet Tryz.prog laidT W:=h
  obtain ⟨ps,h3,_,_⟩:=h2
  obtain ⟨_,_,_,_,p,q,_,_,_,_,h4,_⟩:=h3
  have hg:=glob_of tb_ok gl_plain laid2 q gl_types h4
  intro x hx
  rw [← gl_eq] at hx
  exact hg x (List.mem_reverse.1 hx)
/-- A world for the witness: the settled one, the listed variables holding what the initialisers lay. -/
noncomputable def laidWorld (os:Os):World :=
  { World.holding Tryz.prog os ⟨#[.cells #[.slice (some ⟨(World.settled Tryz.prog os).heap.size + 1,0,none⟩) 7 7,.slice none 0 0,.int .i64 2] 172 (0,0),
      .cells #[.int .u16 9,.int .u16 13,.int .u16 1,.int .u16 32,.int .u16 133,.int .u16 101,.int .u16 160,.int .u16 5760,.int .u16 5600,.int .u16 8192,.int .u16 8202,.int .u16 1,.int .u16 8232,.int .u16 8233,.int .u16 1,.int .u16 8239,.int .u16 8287,.int .u16 48,.int .u16 12288,.int .u16 12288,.int .u16 1] 175 (0,0)],#[],[]⟩ with
    heap:=((World.holding Tryz.prog os ⟨#[.cells #[.slice (some ⟨(World.settled Tryz.prog os).heap.size + 1,0,none⟩) 7 7,.slice none 0 0,.int .i64 2] 172 (0,0),
      .cells #[.int .u16 9,.int .u16 13,.int .u16 1,.int .u16 32,.int .u16 133,.int .u16 101,.int .u16 160,.int .u16 5760,.int .u16 5600,.int .u16 8192,.int .u16 8202,.int .u16 1,.int .u16 8232,.int .u16 8233,.int .u16 1,.int .u16 8239,.int .u16 8287,.int .u16 48,.int .u16 12288,.int .u16 12288,.int .u16 1] 175 (0,0)],#[],[]⟩).heap.modify 1 fun
      | .cells _ t frozen=>.cells (SY.g_strings_asciiSpace.map fun n=>Value.int .u8 n).toArray t frozen
      | o=>o).modify 2 fun
      | .cells _ t frozen=>.cells #[.pointer (some ⟨(World.settled Tryz.prog os).heap.size,0,none⟩)] t frozen
      | o=>o }
theorem laid_met (os:Os) (args:Array Value):laidMet Tryz.prog laidT ((laidWorld os).forCall (fun _ _=>0) ⟨#[],args,[]⟩).memory :=
  laidMet_of_run' 8 (by kernel_rfl) (by kernel_rfl)
end Go.Proofs.YtjojaiomgdjhfaaGreatDoor.AE
