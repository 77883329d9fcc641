/- For every two numbers, bound.Need and bound.Room tell the steps and the room that the statement names. No condition. -/
import Derived.Test.YtbckfbohbjhffaaPBoundNumbersx2
import Derived.OpenShut
namespace Go.Proofs.Ytbckfbohbjhffaa.Pure
open Go.RowKit Go.Proofs.Ytbckfbohbjhffaa.PBoundNumbers Go.Proofs.YtbckfbohbjhffaaW.PrintWords Go.Proofs.YtbckfbohbjhffaaW.PrintLast

theorem wrap_in (x : Int) (h0 : 0 ≤ x) (h1 : x ≤ 9223372036854775807) : wrap64 x = x := by
  unfold wrap64
  omega

theorem clamp_le (a m : Int) (hm : 0 ≤ m) : 0 ≤ mx 0 (mn a m) ∧ mx 0 (mn a m) ≤ m := by
  unfold mx mn
  repeat' split
  all_goals omega

theorem prod_le (x y : Int) (hx0 : 0 ≤ x) (hx : x ≤ 1048576) (hy0 : 0 ≤ y) (hy : y ≤ 1048576) :
    0 ≤ (x + 1) * (y + 1) ∧ (x + 1) * (y + 1) ≤ 1099513724929 := by
  have h1 : (x + 1) * (y + 1) ≤ 1048577 * 1048577 := Int.mul_le_mul (by omega) (by omega) (by omega) (by omega)
  have h0 : 0 ≤ (x + 1) * (y + 1) := Int.mul_nonneg (by omega) (by omega)
  omega

theorem works_true : marlinelaw44_works.f = some true := by decide +kernel

theorem need_eq (a : Int) (h0 : -9223372036854775808 ≤ a) (h1 : a ≤ 9223372036854775807) :
    bound_Need.f a = some (mn ((4 * (mx 0 (mn a 536870911))) + 4) 2147483647) := by
  unfold bound_Need.f
  split
  · rename_i h
    unfold mx mn at *
    repeat' split
    all_goals (repeat' split at h)
    all_goals first | omega | simp_all | (simp; omega)
  · rename_i h
    have hp : 0 ≤ mx 0 a := by unfold mx; split <;> omega
    rw [wrap_in (4 * mx 0 a) (by omega) (by omega), wrap_in _ (by omega) (by omega)]
    congr 1
    unfold mx mn at *
    repeat' split
    all_goals (repeat' split at h)
    all_goals omega

/-- YOURS: ∀ (a0 : Int) (a1 : Int), (Lit.int .i64 a0).wf = true → (Lit.int .i64 a1).wf = true → marlinelaw44_BoundNumbers.f a0 a1 = some true -/
theorem BoundNumbers : marlinelaw44_BoundNumbers.Pure := by
  intro a0 a1 w0 w1
  obtain ⟨l0, u0⟩ := Go.bounds_i64 w0
  obtain ⟨hx0, hx1⟩ := clamp_le a0 1048576 (by omega)
  obtain ⟨hy0, hy1⟩ := clamp_le a1 1048576 (by omega)
  unfold marlinelaw44_BoundNumbers.f bound_Room.f
  rw [need_eq a0 l0 u0, works_true]
  simp only [Option.bind_some, if_true]
  generalize mx 0 (mn a0 1048576) = x at *
  generalize mx 0 (mn a1 1048576) = y at *
  obtain ⟨hp0, hp1⟩ := prod_le x y hx0 hx1 hy0 hy1
  generalize (x + 1) * (y + 1) = p at *
  rw [wrap_in p hp0 (by omega), wrap_in (p * 4096) (by omega) (by omega)]
  split
  · rw [if_pos (by unfold mn; split <;> omega)]
  · rw [if_pos (by unfold mn; split <;> omega)]

end Go.Proofs.Ytbckfbohbjhffaa.Pure
