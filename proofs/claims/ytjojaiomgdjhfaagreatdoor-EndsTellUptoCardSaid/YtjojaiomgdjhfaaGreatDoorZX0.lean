/- Functions of the library of Go, by the contracts of the shelf. No condition. -/
import Derived.Test.YtjojaiomgdjhfaaGreatDoorProg
import Derived.Shelf.Strings.Fields
import Derived.Shelf.Small.Strs
import Derived.KernelRfl
import Derived.Test.YtjojaiomgdjhfaaGreatDoorZS1
import Derived.Test.YtjojaiomgdjhfaaGreatDoorZY0
set_option maxRecDepth 100000
namespace Go.Proofs.YtjojaiomgdjhfaaGreatDoor.SY
open Go Go.Shelf
def renn157:Ren:=⟨fun x=>match x with | 199=>163 | 229=>162 | 261=>167 | 311=>169 | 312=>170 | n=>n,fun x=>match x with | 31=>100 | 40=>161 | 46=>181 | 49=>173 | 51=>166 | 119=>159 | 141=>168 | 152=>163 | 154=>165 | 193=>169 | 194=>170 | 196=>172 | 198=>175 | 201=>178 | 226=>180 | 227=>182 | n=>n,fun x=>match x with | 0=>1 | 6=>2 | n=>n⟩
theorem laysn157:Lays.n157 Tryz.prog renn157 where
  mixed:=by kernel_rfl
  f157:=by kernel_rfl
  f199:=by kernel_rfl
  f229:=by kernel_rfl
  f261:=by kernel_rfl
  f311:=by kernel_rfl
  f312:=by kernel_rfl
  t0:=by kernel_rfl
  a0:=fun w=>by kernel_rfl
  z0:=fun w=>by kernel_rfl
  v0:=fun w=>by kernel_rfl
  t3:=by kernel_rfl
  a3:=fun w=>by kernel_rfl
  z3:=fun w=>by kernel_rfl
  v3:=fun w=>by kernel_rfl
  t4:=by kernel_rfl
  a4:=fun w=>by kernel_rfl
  z4:=fun w=>by kernel_rfl
  v4:=fun w=>by kernel_rfl
  t5:=by kernel_rfl
  a5:=fun w=>by kernel_rfl
  z5:=fun w=>by kernel_rfl
  v5:=fun w=>by kernel_rfl
  t9:=by kernel_rfl
  a9:=fun w=>by kernel_rfl
  z9:=fun w=>by kernel_rfl
  v9:=fun w=>by kernel_rfl
  t21:=by kernel_rfl
  a21:=fun w=>by kernel_rfl
  z21:=fun w=>by kernel_rfl
  v21:=fun w=>by kernel_rfl
  t31:=by kernel_rfl
  a31:=fun w=>by kernel_rfl
  z31:=fun w=>by kernel_rfl
  v31:=fun w=>by kernel_rfl
  t40:=by kernel_rfl
  a40:=fun w=>by kernel_rfl
  z40:=fun w=>by kernel_rfl
  v40:=fun w=>by kernel_rfl
  t46:=by kernel_rfl
  a46:=fun w=>by kernel_rfl
  z46:=fun w=>by kernel_rfl
  v46:=fun w=>by kernel_rfl
  t49:=by kernel_rfl
  a49:=fun w=>by kernel_rfl
  z49:=fun w=>by kernel_rfl
  v49:=fun w=>by kernel_rfl
  t51:=by kernel_rfl
  a51:=fun w=>by kernel_rfl
  z51:=fun w=>by kernel_rfl
  v51:=fun w=>by kernel_rfl
  t119:=by kernel_rfl
  a119:=fun w=>by kernel_rfl
  z119:=fun w=>by kernel_rfl
  t141:=by kernel_rfl
  a141:=fun w=>by kernel_rfl
  z141:=fun w=>by kernel_rfl
  v141:=fun w=>by kernel_rfl
  t152:=by kernel_rfl
  a152:=fun w=>by kernel_rfl
  z152:=fun w=>by kernel_rfl
  v152:=fun w=>by kernel_rfl
  t154:=by kernel_rfl
  a154:=fun w=>by kernel_rfl
  z154:=fun w=>by kernel_rfl
  v154:=fun w=>by kernel_rfl
  t193:=by kernel_rfl
  a193:=fun w=>by kernel_rfl
  z193:=fun w=>by kernel_rfl
  v193:=fun w=>by kernel_rfl
  t194:=by kernel_rfl
  a194:=fun w=>by kernel_rfl
  z194:=fun w=>by kernel_rfl
  v194:=fun w=>by kernel_rfl
  t196:=by kernel_rfl
  a196:=fun w=>by kernel_rfl
  z196:=fun w=>by kernel_rfl
  v196:=fun w=>by kernel_rfl
  t198:=by kernel_rfl
  a198:=fun w=>by kernel_rfl
  z198:=fun w=>by kernel_rfl
  v198:=fun w=>by kernel_rfl
  t201:=by kernel_rfl
  a201:=fun w=>by kernel_rfl
  z201:=fun w=>by kernel_rfl
  v201:=fun w=>by kernel_rfl
  t226:=by kernel_rfl
  a226:=fun w=>by kernel_rfl
  z226:=fun w=>by kernel_rfl
  v226:=fun w=>by kernel_rfl
  t227:=by kernel_rfl
  a227:=fun w=>by kernel_rfl
  z227:=fun w=>by kernel_rfl
  v227:=fun w=>by kernel_rfl
  g0:=by kernel_rfl
  g6:=by kernel_rfl
def renn137:Ren:=⟨fun x=>match x with | 137=>122 | 217=>144 | 266=>155 | n=>n,fun x=>x,fun x=>x⟩
theorem laysn137:Lays.n137 Tryz.prog renn137 where
  mixed:=by kernel_rfl
  f137:=by kernel_rfl
  f217:=by kernel_rfl
  f266:=by kernel_rfl
  t3:=by kernel_rfl
  a3:=fun w=>by kernel_rfl
  z3:=fun w=>by kernel_rfl
  v3:=fun w=>by kernel_rfl
  t5:=by kernel_rfl
  a5:=fun w=>by kernel_rfl
  z5:=fun w=>by kernel_rfl
  v5:=fun w=>by kernel_rfl
  t9:=by kernel_rfl
  a9:=fun w=>by kernel_rfl
  z9:=fun w=>by kernel_rfl
  v9:=fun w=>by kernel_rfl
end Go.Proofs.YtjojaiomgdjhfaaGreatDoor.SY
set_option linter.unusedVariables false
namespace Go.Proofs.YtjojaiomgdjhfaaGreatDoor.SY
open Go AE F
def E_strings_IndexByte:Ent U:=⟨122,0,⟨[.str,.int .u8],[],[],.int .i64,[],[],[]⟩,fun k z=>strings_IndexByte k z.1 z.2⟩
theorem ok_strings_IndexByte (k:Nat):OkE Y k E_strings_IndexByte:=by
  rintro ⟨s,c⟩ y S1 hy hi
  have e:injSh Y [] E_strings_IndexByte.sig.out y (E_strings_IndexByte.sig.st0 (s,c)) = some ⟨[(0,.raw (.int .i64 y))],[],[],[],[]⟩:=by kernel_rfl
  rw [e] at hi; cases hi
  show SF Zs 122 [.str s,.int .u8 c] [] (.int .i64 y) []
  refine sf_same ⟨_,Tryz.func122,of_decide_eq_true (by kernel_rfl),by kernel_rfl⟩ fun g vs w hv=>?_
  obtain ⟨v1,l1,e1,h1,v2,l2,rfl,h2,rfl⟩:=hv
  simp only [V] at h1 h2
  subst h1; subst h2
  obtain rfl:vs = #[.string ⟨s.toArray⟩,.int .u8 c]:=by cases vs; simp_all
  cases hy
  exact ⟨_,Any.strings_IndexByte laysn137 ⟨s.toArray⟩ c w,fun g'=>rfl⟩
theorem asciiTab (c:Nat) (h:c < 256):g_strings_asciiSpace[c]? = some (if Lib.isSp (UInt8.ofNat c) then 1 else 0):=by
  have:∀ c:Fin 256,g_strings_asciiSpace[c.1]? = some (if Lib.isSp (UInt8.ofNat c.1) then 1 else 0):=by decide
  exact this ⟨c,h⟩
def E_strings_Fields:Ent U:=⟨157,0,⟨[.str],[],[],.lst 13,[],[],[]⟩,fun k z=>strings_Fields k z⟩
theorem ok_strings_Fields (k:Nat):OkE Y k E_strings_Fields:=by
  rintro s y S1 hy hi
  have e:injSh Y [] E_strings_Fields.sig.out y (E_strings_Fields.sig.st0 s) = some ⟨[(0,.lst false 13 y)],[],[],[],[]⟩:=by kernel_rfl
  rw [e] at hi; cases hi
  show SF Zs 157 [.str s] [] (.slice .none 1 (y.map fun x=>AV.str x)) []
  have hy:strings_Fields k s = some y:=hy
  unfold strings_Fields at hy
  split at hy
  case isFalse=>cases hy
  rename_i hc
  cases hy
  refine sf_strs ⟨_,Tryz.func157,of_decide_eq_true (by kernel_rfl),by kernel_rfl⟩ fun g vs w hw hv hg=>?_
  obtain ⟨v1,l1,e1,h1,rfl⟩:=hv
  simp only [V] at h1
  subst h1
  obtain rfl:vs = #[.string ⟨s.toArray⟩]:=by cases vs; simp_all
  refine ⟨_,Any.strings_Fields_core laysn157 (by kernel_rfl) ⟨s.toArray⟩ w hc.1 (fun j b hb=>?_) (fun c hlt=>?_)⟩
  · have:=List.all_eq_true.1 hc.2 b (List.mem_of_getElem? hb)
    simpa using this
  · have hx:((1:Nat),g_strings_asciiSpace.map fun n=>AV.int .u8 n) ∈ Zs.gl:=by
      show _ ∈ gs.map fun x=>(x.1,flat M [] x.2)
      refine List.mem_map.2 ⟨(1,g_strings_asciiSpace.map fun n=>.raw (.int .u8 n)),by unfold gs; first | exact List.mem_cons_self | exact List.mem_cons_of_mem _ List.mem_cons_self,?_⟩
      kernel_rfl
    have:=hg _ hx c (.int .u8 (if Lib.isSp (UInt8.ofNat c) then 1 else 0)) (by rw [List.getElem?_map,asciiTab c hlt]; rfl)
    obtain ⟨_,v,q1,q2,_⟩ | ⟨ks,vs,l,n,e0,_⟩:=hw.pin _ _ _ this.1
    rotate_left
    · simp [mapMark] at e0
    simp only [V] at q2
    subst q2
    rw [Nat.zero_add] at q1
    exact q1
end Go.Proofs.YtjojaiomgdjhfaaGreatDoor.SY
