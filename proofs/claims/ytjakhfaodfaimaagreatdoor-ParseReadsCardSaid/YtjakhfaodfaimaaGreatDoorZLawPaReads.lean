/- The statement ParseReads (its card): for every input the call returns true, and the arguments read as before. Condition: the spellings are as the program's text lays them (the card ties them). -/
import Derived.Test.YtjakhfaodfaimaaGreatDoorZCommonZ
import Derived.Test.YtjakhfaodfaimaaGreatDoorZPE1
import Derived.Test.YtjakhfaodfaimaaGreatDoorZP1
namespace Go.Proofs.YtjakhfaodfaimaaGreatDoor.parseReads
open Go.ChangeShapes Go.WideShapes Go.ChangeAt Go.RowKit
open Go.ChangeMaps (open_string shut_string)
open Go AE
set_option linter.unusedVariables false
set_option maxRecDepth 100000
/-- The code of the law's function tells true where the printed one does. -/
theorem told (k : Nat) (s : List UInt8) (h : F.law15_ParseReads k s = some true) : SF SY.Zs 3 [AV.str s] [] (.bool true) [] :=
  SY.k109 k SY.E_law15_ParseReads (List.mem_cons_self) s true ⟨[(0, .raw (.bool true))], [], [], [], []⟩ h (by kernel_rfl)
theorem contract (H : Type) (enc : TypeId × Value → H) (W : World) (base : Nat) (args : Array Value) (ds gs : List (DataW H)) (before : List MemPlace)
    (hval : ∀ (j : Nat) t v, Tryz.f3.params[j]? = some t → args[j]? = some v → Value.okWide Tryz.prog W .any base t v)
    (hW : DataW.Whole enc Tryz.prog Tryz.f3.params.toList Rows.parseReadsSpec.vars false W args.toList ds gs before) (hL : laidMetH Tryz.prog laidT W) :
    Calls Tryz.prog 3 args W fun e W' => ∃ v, e = .returned v ∧ Rows.parseReadsSpec.post enc Tryz.prog Tryz.f3 false true false false W args v W' := by
  have hW' := hW
  obtain ⟨p, q, hA0, hV, rfl, hfz, hnd⟩ := hW
  have hA : DataW.TrodAll enc Tryz.prog W 0 (fun _ => true) true Tryz.f3.params.toList args.toList ds p := hA0
  rw [Tryz.params3] at hA hval
  obtain ⟨v0, vs0, d0, ds0, p0, q0, hargs, rfl, rfl, h0, r0⟩ := trodAll_cons hA
  obtain ⟨rfl, rfl, rfl⟩ := trodAll_nil r0
  obtain rfl : args = #[v0] := by cases args; simp_all
  obtain ⟨rfl, rfl⟩ := trodVars_none hV
  obtain ⟨s, rfl, rfl, rfl, w0⟩ := open_string Tryz.underlying9 (hval 0 9 v0 rfl rfl) h0
  clear hA0
  obtain ⟨k, hk⟩ := F.reads15_holds s.data.toList
  have sf := told k s.data.toList (hk k (Nat.le_refl k))
  have hv : VL (Gh.start W) [AV.str s.data.toList] (#[Value.string s] : Array Value).toList :=
    ⟨_, _, rfl, rfl, rfl⟩
  have walk : Calls Tryz.prog 3 #[Value.string s] W fun e w' => e = .returned (.bool true) ∧ Below W.heap.size W w' := law_SF sf hv (glob hL)
  refine walk.mono fun e W' ⟨he, bel⟩ => ?_
  subst he
  exact ⟨_, rfl, _, _, _, [], _, [], hW', trodAll_mk1 (shut_bool Tryz.underlying4 _), (trodAll_cons_mk (shut_string Tryz.underlying9 w0) trodAll_mk0), rfl, bel.frame _, fun h => by cases h⟩
theorem reads (os : Os) {H : Type} (enc : TypeId × Value → H) : ∃ places, DataW.whole enc Tryz.prog ((laidWorld os).forCall (fun _ _ => 0) ⟨#[], #[.string ⟨#[]⟩], []⟩).memory Tryz.f3.params.toList Rows.parseReadsSpec.vars false #[Value.string ⟨#[]⟩].toList 8 = some ([.lit (.string [])], [], places) :=
  ⟨[], by kernel_rfl⟩
theorem lifted (os : Os) (started : os.Started) (H : Type) (enc : TypeId × Value → H) (F : Stop.Interp) :
    ReturnsInHanded {} Tryz.checked os 3 .any ((OpenSpec.ofChange Rows.parseReadsSpec).preRow enc Tryz.prog Tryz.f3 Rows.parseReadsRow.domain false Rows.parseReadsRow.laid) (((OpenSpec.ofChange Rows.parseReadsSpec).at F).post enc Tryz.prog Tryz.f3 false true false false) := by
  obtain ⟨places, hx⟩ := reads os enc
  refine returnsInHanded_of_row (C := Tryz.checked) (s := OpenSpec.ofChange Rows.parseReadsSpec) own started (by kernel_rfl) Tryz.func3
    (witness_row_atRef (enc := enc) (C := Tryz.checked) false (laidWorld os) #[.string ⟨#[]⟩] rfl (by kernel_rfl) (by kernel_rfl) (by kernel_rfl)
      (OpenSpec.preRow_of_cond 8 hx (by kernel_rfl) (fun k hk => by cases hk) (by kernel_rfl) (laid_met os _))) ?_
  intro W base args ds gs before hval hW _ _ _ hL _ _
  exact contract H enc W base args ds gs before hval hW hL
theorem said : Rows.ParseReadsSaid :=
  OpenClaim.holds_of_cond 3 Tryz.f3 rfl rfl rfl rfl rfl rfl rfl ⟨rfl, rfl, rfl, rfl, rfl⟩ rfl rfl rfl rfl rfl (by kernel_rfl) Tryz.func3 (by kernel_rfl)
    (of_decide_eq_true (by kernel_rfl)) (by unfold Func.isWrapper; first | (rw [if_pos (by decide +kernel)]; kernel_rfl) | (rw [if_neg (by decide +kernel)]; exact ⟨rfl, rfl⟩))
    (fun os started H enc _ F => by rw [OpenClaim.pre_eq_preRow]; exact lifted os started H enc F)
theorem plain (f : FuncId) (fn : Func) (hf : YtjakhfaodfaimaaGreatDoor.Tryz.pinned.checked.prog.funcNamed "marline/marlinelaw15.ParseReads" = some f) (hfn : YtjakhfaodfaimaaGreatDoor.Tryz.pinned.checked.prog.funcs[f]? = some fn) :
    false = YtjakhfaodfaimaaGreatDoor.Tryz.pinned.checked.prog.looks [] ∧ ∀ (j : Nat) t, fn.params[j]? = some t → YtjakhfaodfaimaaGreatDoor.Tryz.pinned.checked.prog.wantsStandIn t = false := by
  obtain rfl : f = 3 := Option.some.inj ((show Tryz.prog.funcNamed "marline/marlinelaw15.ParseReads" = some 3 by kernel_rfl).symm.trans hf) |>.symm
  obtain rfl : fn = Tryz.f3 := (Option.some.inj (Tryz.func3.symm.trans hfn)).symm
  refine ⟨by kernel_rfl, fun j t ht => ?_⟩
  rw [Tryz.params3] at ht
  have h : t = 9 := by simpa using Array.mem_of_getElem? ht
  subst h
  exact (show Tryz.prog.wantsStandIn 9 = false by kernel_rfl)
end Go.Proofs.YtjakhfaodfaimaaGreatDoor.parseReads
namespace Go.Proofs.YtjakhfaodfaimaaGreatDoor
theorem parseReads_holds : Rows.ParseReadsCardSaid :=
  Claim7.holds_tied_plain_at .later [] _ _ _ _ parseReads.said (fun _ h => by cases h) (by kernel_rfl) (fun _ h => by cases h) parseReads_row_tie rfl ⟨rfl, rfl⟩ (by kernel_rfl) rfl parseReads.plain (by kernel_rfl)
#print axioms parseReads_holds
end Go.Proofs.YtjakhfaodfaimaaGreatDoor
