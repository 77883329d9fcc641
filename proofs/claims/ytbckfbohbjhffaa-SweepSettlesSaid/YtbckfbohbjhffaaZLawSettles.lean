/- The statement SweepSettles: for every input the call returns true, and the argument reads as before. No condition. -/
import Derived.Test.YtbckfbohbjhffaaZCommonR
import Derived.Test.YtbckfbohbjhffaaZSG0
import Derived.Test.YtbckfbohbjhffaaZDecR
namespace Go.Proofs.Ytbckfbohbjhffaa.sweepSettles
open Go.ChangeShapes Go.WideShapes Go.ChangeAt Go.RowKit
open Go AE
set_option linter.unusedVariables false
set_option maxRecDepth 100000

def T : List TypeId := [33, 38, 36, 34, 41, 3]
theorem hT : plainT tab T = true := by kernel_rfl
theorem laidOut : laidOutB Try.prog = true := by kernel_rfl
theorem readable : Try.prog.readableRec 33 = true ∧ 33 < Try.prog.types.size := ⟨by kernel_rfl, of_decide_eq_true (by kernel_rfl)⟩
theorem walk {H : Type} {enc : TypeId × Value → H} (W : World) (v : Value) (d : DataW H) (ps : List MemPlace) (hval : Value.okWide Try.prog W .any 0 33 v) (h : DataW.Trod enc Try.prog W 0 (fun _ => true) true 33 v d ps) :
    Calls Try.prog 5 #[v] W fun e w' => e = .returned (.bool true) ∧ Below W.heap.size W w' := by
  have hd : Dwf tab 33 d := by
    obtain ⟨fuel, hf⟩ := h
    exact trod_dwf tb_ok hT fuel 33 _ _ (by simp [T]) hf
  obtain ⟨e1, e2⟩ := dCs_ok hd
  have hv : V (Gh.start W) (av tab 33 d) v := arg_V tb_ok hT (by simp [T]) hval h
  rw [e1] at hv
  obtain ⟨k, hk⟩ := F.settles_holds (dCs d) e2
  have sf := ok_law47_SweepSettles k (dCs d) true (hk k (Nat.le_refl k))
  exact law_SF (vs := #[v]) sf ⟨_, _, rfl, hv, rfl⟩ glob0
theorem lifted (os : Os) (started : os.Started) (H : Type) (enc : TypeId × Value → H) :
    ReturnsInHanded {} Try.checked os 5 .any (Rows.sweepSettlesSpec.pre6 enc Try.prog Try.f5 Rows.sweepSettlesRow.domain false) (Rows.sweepSettlesSpec.post enc Try.prog Try.f5 false true false false) := by
  refine returnsInHanded_of_change_sized (C := Try.checked) own started (by kernel_rfl) Try.func5
    (ChangeSpec.witness6 (enc := enc) (C := Try.checked) false ⟨#[], #[.slice none 0 0], []⟩ 8 (by kernel_rfl) (by kernel_rfl) (by kernel_rfl) (by kernel_rfl)) ?_
  intro W base args ds gs before hval0 hW hcnd hsz0 _
  have hval : ∀ (j : Nat) t v, Try.f5.params[j]? = some t → args[j]? = some v → Value.okWide Try.prog W .any base t v := hval0
  have hW' := hW
  obtain ⟨p, q, hA0, hV, rfl, hfz, hnd⟩ := hW
  have hA : DataW.TrodAll enc Try.prog W 0 (fun _ => true) true Try.f5.params.toList args.toList ds p := hA0
  rw [Try.params5] at hA hval
  have hback := hA
  obtain ⟨v0, vs0, d0, ds0, p0, q0, hargs, rfl, rfl, h0, r0⟩ := trodAll_cons hA
  obtain ⟨rfl, rfl, rfl⟩ := trodAll_nil r0
  obtain rfl : args = #[v0] := by cases args; simp_all
  obtain ⟨rfl, rfl⟩ := trodVars_none hV
  clear hA0 hval0
  refine (walk (enc := enc) W v0 d0 p0 (hval 0 33 v0 rfl rfl) h0).mono fun e W' ⟨he, bel⟩ => ?_
  subst he
  exact ⟨_, rfl, _, _, _, [], _, [], hW', trodAll_mk1 (shut_bool Try.underlying4 _), back_all laidOut bel _ _ _ _ (by simpa using readable) hback (DataW.TrodAll.lt hback), rfl, bel.frame _, fun h => by cases h⟩
theorem over : Rows.sweepSettlesRow.holds Try.pinned (OpenSpec.ofChange Rows.sweepSettlesSpec) :=
  OpenClaim.holds_of_wide 5 Try.f5 rfl rfl rfl rfl rfl rfl rfl ⟨rfl, rfl, rfl, rfl, rfl⟩ rfl rfl rfl rfl rfl (by kernel_rfl) Try.func5 (by kernel_rfl)
    (of_decide_eq_true (by kernel_rfl)) (by unfold Func.isWrapper; first | (rw [if_pos (by decide +kernel)]; kernel_rfl) | (rw [if_neg (by decide +kernel)]; exact ⟨rfl, rfl⟩))
    (fun os started H enc _ => lifted os started H enc)
end Go.Proofs.Ytbckfbohbjhffaa.sweepSettles
namespace Go.Proofs.Ytbckfbohbjhffaa
theorem sweepSettles_holds : Rows.SweepSettlesSaid := sweepSettles.over
#print axioms sweepSettles_holds
end Go.Proofs.Ytbckfbohbjhffaa
