/- The statement StmtReads (its card): for every input the call returns true, and the arguments read as before. Condition: the spellings are as the program's text lays them (the card ties them). -/
import Derived.Test.YtakkikkcbdcpfaaDoorZCommonS
import Derived.Test.YtakkikkcbdcpfaaDoorZWE0
import Derived.Test.YtakkikkcbdcpfaaDoorZP1
namespace Go.Proofs.YtakkikkcbdcpfaaDoor.stmtReads
open Go.ChangeShapes Go.WideShapes Go.ChangeAt Go.RowKit
open Go.ChangeMaps (open_string shut_string)
open Go AE
set_option linter.unusedVariables false
set_option maxRecDepth 100000

/-- The code of the law's function tells true where the printed one does. -/
theorem told (k : Nat) (s : List UInt8) (n : Int) (h : F.law14_StmtReads k s n = some true) : SF SY.Zs 4 [AV.str s, AV.int .i64 n] [] (.bool true) [] :=
  SY.k81 k SY.E_law14_StmtReads (List.mem_cons_self) (s, n) true ⟨[(0, .raw (.bool true))], [], [], [], []⟩ h (by kernel_rfl)
theorem contract (H : Type) (enc : TypeId × Value → H) (W : World) (base : Nat) (args : Array Value) (ds gs : List (DataW H)) (before : List MemPlace)
    (hval : ∀ (j : Nat) t v, Tryd.f4.params[j]? = some t → args[j]? = some v → Value.okWide Tryd.prog W .any base t v)
    (hW : DataW.Whole enc Tryd.prog Tryd.f4.params.toList Rows.stmtReadsSpec.vars false W args.toList ds gs before) (hL : laidMetH Tryd.prog laidT W) :
    Calls Tryd.prog 4 args W fun e W' => ∃ v, e = .returned v ∧ Rows.stmtReadsSpec.post enc Tryd.prog Tryd.f4 false true false false W args v W' := by
  have hW' := hW
  obtain ⟨p, q, hA0, hV, rfl, hfz, hnd⟩ := hW
  have hA : DataW.TrodAll enc Tryd.prog W 0 (fun _ => true) true Tryd.f4.params.toList args.toList ds p := hA0
  rw [Tryd.params4] at hA hval
  obtain ⟨v0, vs0, d0, ds0, p0, q0, hargs, rfl, rfl, h0, r0⟩ := trodAll_cons hA
  obtain ⟨v1, vs1, d1, ds1, p1, q1, rfl, rfl, rfl, h1, r1⟩ := trodAll_cons r0
  obtain ⟨rfl, rfl, rfl⟩ := trodAll_nil r1
  obtain rfl : args = #[v0, v1] := by cases args; simp_all
  obtain ⟨rfl, rfl⟩ := trodVars_none hV
  obtain ⟨s, rfl, rfl, rfl, w0⟩ := open_string Tryd.underlying9 (hval 0 9 v0 rfl rfl) h0
  obtain ⟨n, rfl, rfl, rfl, w1⟩ := open_int Tryd.underlying3 (hval 1 3 v1 rfl rfl) h1
  clear hA0
  obtain ⟨k, hk⟩ := F.reads14_holds s.data.toList n
  have sf := told k s.data.toList n (hk k (Nat.le_refl k))
  have hv : VL (Gh.start W) [AV.str s.data.toList, AV.int .i64 n] (#[Value.string s, Value.int .i64 n] : Array Value).toList :=
    ⟨_, _, rfl, rfl, _, _, rfl, rfl, rfl⟩
  have walk : Calls Tryd.prog 4 #[Value.string s, Value.int .i64 n] W fun e w' => e = .returned (.bool true) ∧ Below W.heap.size W w' := law_SF sf hv (glob hL)
  refine walk.mono fun e W' ⟨he, bel⟩ => ?_
  subst he
  exact ⟨_, rfl, _, _, _, [], _, [], hW', trodAll_mk1 (shut_bool Tryd.underlying4 _), (trodAll_cons_mk (shut_string Tryd.underlying9 w0) (trodAll_cons_mk (shut_int Tryd.underlying3 w1) trodAll_mk0)), rfl, bel.frame _, fun h => by cases h⟩

theorem reads (os : Os) {H : Type} (enc : TypeId × Value → H) : ∃ places, DataW.whole enc Tryd.prog ((laidWorld os).forCall (fun _ _ => 0) ⟨#[], #[.string ⟨#[]⟩, .int .i64 0], []⟩).memory Tryd.f4.params.toList Rows.stmtReadsSpec.vars false #[Value.string ⟨#[]⟩, Value.int .i64 0].toList 8 = some ([.lit (.string []), .lit (.int .i64 0)], [], places) :=
  ⟨[], by kernel_rfl⟩
theorem lifted (os : Os) (started : os.Started) (H : Type) (enc : TypeId × Value → H) (F : Stop.Interp) :
    ReturnsInHanded {} Tryd.checked os 4 .any ((OpenSpec.ofChange Rows.stmtReadsSpec).preRow enc Tryd.prog Tryd.f4 Rows.stmtReadsRow.domain false Rows.stmtReadsRow.laid) (((OpenSpec.ofChange Rows.stmtReadsSpec).at F).post enc Tryd.prog Tryd.f4 false true false false) := by
  obtain ⟨places, hx⟩ := reads os enc
  refine returnsInHanded_of_row (C := Tryd.checked) (s := OpenSpec.ofChange Rows.stmtReadsSpec) own started (by kernel_rfl) Tryd.func4
    (witness_row_at (enc := enc) (C := Tryd.checked) false (laidWorld os) #[.string ⟨#[]⟩, .int .i64 0] rfl (by kernel_rfl) (by kernel_rfl) (by kernel_rfl)
      (OpenSpec.preRow_of_cond 8 hx (by kernel_rfl) (fun k hk => by cases hk) (by kernel_rfl) (laid_met os _))) ?_
  intro W base args ds gs before hval hW _ _ _ hL _ _
  exact contract H enc W base args ds gs before hval hW hL
theorem said : Rows.StmtReadsSaid :=
  OpenClaim.holds_of_cond 4 Tryd.f4 rfl rfl rfl rfl rfl rfl rfl ⟨rfl, rfl, rfl, rfl, rfl⟩ rfl rfl rfl rfl rfl (by kernel_rfl) Tryd.func4 (by kernel_rfl)
    (of_decide_eq_true (by kernel_rfl)) (by unfold Func.isWrapper; first | (rw [if_pos (by decide +kernel)]; kernel_rfl) | (rw [if_neg (by decide +kernel)]; exact ⟨rfl, rfl⟩))
    (fun os started H enc _ F => by rw [OpenClaim.pre_eq_preRow]; exact lifted os started H enc F)
theorem plain (f : FuncId) (fn : Func) (hf : YtakkikkcbdcpfaaDoor.Tryd.pinned.checked.prog.funcNamed "marline/marlinelaw14.StmtReads" = some f) (hfn : YtakkikkcbdcpfaaDoor.Tryd.pinned.checked.prog.funcs[f]? = some fn) :
    false = YtakkikkcbdcpfaaDoor.Tryd.pinned.checked.prog.looks [] ∧ ∀ (j : Nat) t, fn.params[j]? = some t → YtakkikkcbdcpfaaDoor.Tryd.pinned.checked.prog.wantsStandIn t = false := by
  obtain rfl : f = 4 := Option.some.inj ((show Tryd.prog.funcNamed "marline/marlinelaw14.StmtReads" = some 4 by kernel_rfl).symm.trans hf) |>.symm
  obtain rfl : fn = Tryd.f4 := (Option.some.inj (Tryd.func4.symm.trans hfn)).symm
  refine ⟨by kernel_rfl, fun j t ht => ?_⟩
  rw [Tryd.params4] at ht
  have h : t = 9 ∨ t = 3 := by simpa using Array.mem_of_getElem? ht
  rcases h with rfl | rfl
  · exact (show Tryd.prog.wantsStandIn 9 = false by kernel_rfl)
  · exact (show Tryd.prog.wantsStandIn 3 = false by kernel_rfl)
end Go.Proofs.YtakkikkcbdcpfaaDoor.stmtReads
namespace Go.Proofs.YtakkikkcbdcpfaaDoor
theorem stmtReads_holds : Rows.StmtReadsCardSaid :=
  Claim7.holds_tied_plain_at .later [] _ _ _ _ stmtReads.said (fun _ h => by cases h) (by kernel_rfl) (fun _ h => by cases h) stmtReads_row_tie rfl ⟨rfl, rfl⟩ (by kernel_rfl) rfl stmtReads.plain (by kernel_rfl)
#print axioms stmtReads_holds
end Go.Proofs.YtakkikkcbdcpfaaDoor
