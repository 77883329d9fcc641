/- The statement DeclLocates (its card): for every input the call returns true, and the arguments read as before. Condition: the listed variables are as the program's text lays them (the card ties them). -/
import Derived.Test.YtjojaiomgdjhfaaGreatDoorZCommonT
import Derived.Test.YtjojaiomgdjhfaaGreatDoorZQE1
import Derived.Test.YtjojaiomgdjhfaaGreatDoorZP0
namespace Go.Proofs.YtjojaiomgdjhfaaGreatDoor.declLocates
open Go.ChangeShapes Go.WideShapes Go.ChangeAt Go.RowKit
open Go.ChangeMaps (open_string shut_string)
open Go AE
set_option linter.unusedVariables false
set_option maxRecDepth 100000
/-- The code of the law's function tells true where the printed one does. -/
theorem told (k : Nat) (x0 : List Int) (h : F.law18_DeclLocates k x0 = some true) : SF SY.Zs 3 [AV.slice .none 1 (x0.map SY.e0)] [] (.bool true) [] :=
  SY.k103 k SY.E_law18_DeclLocates (List.mem_cons_self) x0 true ⟨[(0, .raw (.bool true))], [], [], [], []⟩ h (by kernel_rfl)
def T : List TypeId := [22, 3]
theorem hT : plainT tab T = true := by kernel_rfl
theorem laidOut : laidOutB Tryz.prog = true := by kernel_rfl
theorem readable : ∀ t ∈ [22], Tryz.prog.readableRec t = true ∧ t < Tryz.prog.types.size := by
  intro t ht
  simp only [List.mem_cons, List.not_mem_nil, or_false] at ht
  rcases ht with rfl
  · exact ⟨by kernel_rfl, of_decide_eq_true (by kernel_rfl)⟩
theorem contract (H : Type) (enc : TypeId × Value → H) (W : World) (base : Nat) (args : Array Value) (ds gs : List (DataW H)) (before : List MemPlace)
    (hval : ∀ (j : Nat) t v, Tryz.f3.params[j]? = some t → args[j]? = some v → Value.okWide Tryz.prog W .any base t v)
    (hW : DataW.Whole enc Tryz.prog Tryz.f3.params.toList Rows.declLocatesSpec.vars false W args.toList ds gs before) (hL : laidMetH Tryz.prog laidT W) :
    Calls Tryz.prog 3 args W fun e W' => ∃ v, e = .returned v ∧ Rows.declLocatesSpec.post enc Tryz.prog Tryz.f3 false true false false W args v W' := by
  have hW' := hW
  obtain ⟨p, q, hA0, hV, rfl, hfz, hnd⟩ := hW
  have hA : DataW.TrodAll enc Tryz.prog W 0 (fun _ => true) true Tryz.f3.params.toList args.toList ds p := hA0
  rw [Tryz.params3] at hA hval
  have hback := hA
  obtain ⟨v0, vs0, d0, ds0, p0, q0, hargs, rfl, rfl, h0, r0⟩ := trodAll_cons hA
  obtain ⟨rfl, rfl, rfl⟩ := trodAll_nil r0
  obtain rfl : args = #[v0] := by cases args; simp_all
  obtain ⟨rfl, rfl⟩ := trodVars_none hV
  have f0 : V (Gh.start W) (AE.av tab 22 d0) v0 := arg_V tb_ok hT (by simp [T]) (hval 0 22 v0 rfl rfl) h0
  have g0 : Dwf tab 22 d0 := by
    obtain ⟨fuel, hf⟩ := h0
    exact trod_dwf tb_ok hT fuel 22 _ _ (by simp [T]) hf
  rw [ints_av g0] at f0
  clear hA0
  obtain ⟨k, hk⟩ := F.locates_ex (dIs d0)
  have sf := told k (dIs d0) hk
  have hv : VL (Gh.start W) [AV.slice .none 1 ((dIs d0).map SY.e0)] (#[v0] : Array Value).toList :=
    ⟨_, _, rfl, f0, rfl⟩
  have walk : Calls Tryz.prog 3 #[v0] W fun e w' => e = .returned (.bool true) ∧ Below W.heap.size W w' := law_SF sf hv (glob hL)
  refine walk.mono fun e W' ⟨he, bel⟩ => ?_
  subst he
  exact ⟨_, rfl, _, _, _, [], _, [], hW', trodAll_mk1 (shut_bool Tryz.underlying4 _), back_all laidOut bel _ _ _ _ readable hback (DataW.TrodAll.lt hback), rfl, bel.frame _, fun h => by cases h⟩
theorem reads (os : Os) {H : Type} (enc : TypeId × Value → H) : ∃ places, DataW.whole enc Tryz.prog ((laidWorld os).forCall (fun _ _ => 0) ⟨#[], #[Value.slice none 0 0], []⟩).memory Tryz.f3.params.toList Rows.declLocatesSpec.vars false #[Value.slice none 0 0].toList 8 = some ([.nil], [], places) :=
  ⟨[], by kernel_rfl⟩
theorem lifted (os : Os) (started : os.Started) (H : Type) (enc : TypeId × Value → H) (F : Stop.Interp) :
    ReturnsInHanded {} Tryz.checked os 3 .any ((OpenSpec.ofChange Rows.declLocatesSpec).preRow enc Tryz.prog Tryz.f3 Rows.declLocatesRow.domain false Rows.declLocatesRow.laid) (((OpenSpec.ofChange Rows.declLocatesSpec).at F).post enc Tryz.prog Tryz.f3 false true false false) := by
  obtain ⟨places, hx⟩ := reads os enc
  refine returnsInHanded_of_row (C := Tryz.checked) (s := OpenSpec.ofChange Rows.declLocatesSpec) own started (by kernel_rfl) Tryz.func3
    (witness_row_atRef (enc := enc) (C := Tryz.checked) false (laidWorld os) #[Value.slice none 0 0] rfl (by kernel_rfl) (by kernel_rfl) (by kernel_rfl)
      (OpenSpec.preRow_of_cond 8 hx (by kernel_rfl) (fun k hk => by cases hk) (by kernel_rfl) (laid_met os _))) ?_
  intro W base args ds gs before hval hW _ _ _ hL _ _
  exact contract H enc W base args ds gs before hval hW hL
theorem said : Rows.DeclLocatesSaid :=
  OpenClaim.holds_of_cond 3 Tryz.f3 rfl rfl rfl rfl rfl rfl rfl ⟨rfl, rfl, rfl, rfl, rfl⟩ rfl rfl rfl rfl rfl (by kernel_rfl) Tryz.func3 (by kernel_rfl)
    (of_decide_eq_true (by kernel_rfl)) (by unfold Func.isWrapper; first | (rw [if_pos (by decide +kernel)]; kernel_rfl) | (rw [if_neg (by decide +kernel)]; exact ⟨rfl, rfl⟩))
    (fun os started H enc _ F => by rw [OpenClaim.pre_eq_preRow]; exact lifted os started H enc F)
theorem plain (f : FuncId) (fn : Func) (hf : YtjojaiomgdjhfaaGreatDoor.Tryz.pinned.checked.prog.funcNamed "marline/marlinelaw18.DeclLocates" = some f) (hfn : YtjojaiomgdjhfaaGreatDoor.Tryz.pinned.checked.prog.funcs[f]? = some fn) :
    false = YtjojaiomgdjhfaaGreatDoor.Tryz.pinned.checked.prog.looks [] ∧ ∀ (j : Nat) t, fn.params[j]? = some t → YtjojaiomgdjhfaaGreatDoor.Tryz.pinned.checked.prog.wantsStandIn t = false := by
  obtain rfl : f = 3 := Option.some.inj ((show Tryz.prog.funcNamed "marline/marlinelaw18.DeclLocates" = some 3 by kernel_rfl).symm.trans hf) |>.symm
  obtain rfl : fn = Tryz.f3 := (Option.some.inj (Tryz.func3.symm.trans hfn)).symm
  refine ⟨by kernel_rfl, fun j t ht => ?_⟩
  rw [Tryz.params3] at ht
  have h : t = 22 := by simpa using Array.mem_of_getElem? ht
  rcases h with rfl
  · exact (show Tryz.prog.wantsStandIn 22 = false by kernel_rfl)
end Go.Proofs.YtjojaiomgdjhfaaGreatDoor.declLocates
namespace Go.Proofs.YtjojaiomgdjhfaaGreatDoor
theorem declLocates_holds : Rows.DeclLocatesCardSaid :=
  Claim7.holds_tied_plain_at .later [] _ _ _ _ declLocates.said (fun _ h => by cases h) (by kernel_rfl) (fun _ h => by cases h) declLocates_row_tie rfl ⟨rfl, rfl⟩ (by kernel_rfl) rfl declLocates.plain (by kernel_rfl)
#print axioms declLocates_holds
end Go.Proofs.YtjojaiomgdjhfaaGreatDoor
