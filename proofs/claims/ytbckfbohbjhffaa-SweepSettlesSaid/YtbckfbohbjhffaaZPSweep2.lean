/- The law SweepAll holds of the printed functions. No condition. -/
import Derived.Test.YtbckfbohbjhffaaZPSweep
set_option linter.unusedVariables false
set_option linter.unusedSimpArgs false
set_option maxRecDepth 100000
set_option maxHeartbeats 4000000
namespace Go.Proofs.Ytbckfbohbjhffaa.F
open Go

theorem works47 (k : Nat) : law47_works (k + 60) = some true := by kernel_rfl
theorem works47_ev : Ev law47_works true := Ev.at 60 works47
/-- What is looked at of all schedules. -/
def chkO (x3_2 : List (List TPick)) (a0 a1 : Int) (k : Nat) (l3_8 : Int) : Option (Int ⊕ Bool) :=
    if (decide (l3_8 < ((x3_2.length : Int)))) then
    joinK (fun (_ : Unit) =>
    some (.inl (IntKind.i64.wrap (l3_8 + 1)))) fun j_j4 =>
    (ix x3_2 l3_8).bind fun x16_2 =>
    if (((x16_2.length : Int)) != a0) then
    some (.inr false)
    else
    loopM k (fun ((l5_9, l5_10) : Int × Int) =>
    if (decide (l5_10 ≥ 0)) then
    (ix x3_2 l3_8).bind fun x22_2 =>
    (ix x22_2 l5_10).bind fun x22_5 =>
    if (a1 == 0) then none else
    if (!((x22_5.Pick == (Int.tmod l5_9 a1)) && ((x22_5.Slice == 1) && ((x22_5.Gc == ((Int.tmod l5_10 2) == 1)) && true)))) then
    some (.inr (.inr false))
    else
    if (a1 == 0) then none else
    some (.inl ((IntKind.i64.wrap (Int.tdiv l5_9 a1)), (IntKind.i64.wrap (l5_10 - 1))))
    else
    (j_j4 ()).map .inr) (l3_8, (IntKind.i64.wrap (a0 - 1)))
    else
    some (.inr true)
theorem chk_ev (p e : Nat) (hp : 1 ≤ p) (he : 1 ≤ e) (he2 : e ≤ 64) (hpe : p ^ e ≤ 4096) : EvL (chkO (allL p e) (e : Int) (p : Int)) (0 : Int) true := by
  have hlen := allL_len p e
  refine EvL.up (fun i => (i : Int)) (p ^ e) (fun i hi => ?_) ?_ (p ^ e) 0 (by omega)
  · have hd : decide ((i : Int) < ((allL p e).length : Int)) = true := decide_eq_true (by omega)
    have hix : ix (allL p e) (i : Int) = some (sched p e i) := by
      unfold ix; rw [if_pos (by omega), Int.toNat_natCast]; exact allL_get p hp e i hi
    have hsl : (((sched p e i).length : Int) != (e : Int)) = false := by rw [sched_len]; simp
    have hw0 : IntKind.i64.wrap ((e : Int) - 1) = (e : Int) - 1 := wrap64_id (by omega) (by omega)
    have hwi : IntKind.i64.wrap ((i : Int) + 1) = ((i + 1 : Nat) : Int) := by rw [wrap64_id (by omega) (by omega)]; simp
    have hp0 : ((p : Int) == 0) = false := by simp; omega
    simp only [chkO]
    simp only [Option.bind_some, Option.map_some, joinK, Bool.not_true, Bool.not_false, Bool.false_eq_true, Bool.or_true, Bool.true_or, Bool.false_or, Bool.or_false, Bool.and_true, Bool.and_false, Bool.true_and, Bool.false_and, ↓reduceIte, if_true, if_false, eq_self, Int.reduceBEq, Int.reduceBNe, bne_self_eq_false, beq_self_eq_true, hd, hix, hsl, hw0]
    have e0 : ((i : Int), (e : Int) - 1) = (((i / p ^ 0 : Nat) : Int), (e : Int) - 1 - ((0 : Nat) : Int)) := by simp
    rw [e0]
    refine Ev.loop (EvL.up (fun j => (((i / p ^ j : Nat) : Int), (e : Int) - 1 - (j : Int))) e (fun j hj => ?_) ?_ e 0 (by omega))
    · have hge : decide ((e : Int) - 1 - (j : Int) ≥ 0) = true := decide_eq_true (by omega)
      have hg : ix (sched p e i) ((e : Int) - 1 - (j : Int)) = some ⟨((i / p ^ j % p : Nat) : Int), 1, gcb ((e : Int) - 1 - (j : Int))⟩ := by
        unfold ix
        rw [if_pos (by omega), show ((e : Int) - 1 - (j : Int)).toNat = e - 1 - j by omega, sched_get p e i (e - 1 - j) (by omega)]
        rw [show e - 1 - (e - 1 - j) = j by omega, show (((e - 1 - j : Nat) : Int)) = (e : Int) - 1 - (j : Int) by omega]
      have hmod : (((i / p ^ j % p : Nat) : Int) == Int.tmod ((i / p ^ j : Nat) : Int) (p : Int)) = true := by
        rw [Int.tmod_eq_emod_of_nonneg (Int.natCast_nonneg _)]; simp
      have hgc : (gcb ((e : Int) - 1 - (j : Int)) == ((Int.tmod ((e : Int) - 1 - (j : Int)) 2) == 1)) = true := by unfold gcb; simp
      have hle : i / p ^ j ≤ 4096 := Nat.le_trans (Nat.div_le_self _ _) (by omega)
      have hdiv : IntKind.i64.wrap (Int.tdiv ((i / p ^ j : Nat) : Int) (p : Int)) = ((i / p ^ (j + 1) : Nat) : Int) := by
        have : Int.tdiv ((i / p ^ j : Nat) : Int) (p : Int) = ((i / p ^ (j + 1) : Nat) : Int) := by
          rw [Int.tdiv_eq_ediv_of_nonneg (Int.natCast_nonneg _), ← Int.natCast_ediv, Nat.div_div_eq_div_mul, ← Nat.pow_succ]
        rw [this]
        have hz : i / p ^ (j + 1) ≤ 4096 := Nat.le_trans (Nat.div_le_self _ _) (by omega)
        generalize i / p ^ (j + 1) = z at hz
        exact wrap64_id (by omega) (by omega)
      have hw2 : IntKind.i64.wrap ((e : Int) - 1 - (j : Int) - 1) = (e : Int) - 1 - ((j + 1 : Nat) : Int) := by rw [wrap64_id (by omega) (by omega)]; omega
      simp only
      simp only [Option.bind_some, Option.map_some, joinK, Bool.not_true, Bool.not_false, Bool.false_eq_true, Bool.or_true, Bool.true_or, Bool.false_or, Bool.or_false, Bool.and_true, Bool.and_false, Bool.true_and, Bool.false_and, ↓reduceIte, if_true, if_false, eq_self, Int.reduceBEq, Int.reduceBNe, bne_self_eq_false, beq_self_eq_true, hge, hix, hg, hp0, hmod, hgc, hdiv, hw2]
      exact Ev.pure
    · have hge : decide ((e : Int) - 1 - (e : Int) ≥ 0) = false := decide_eq_false (by omega)
      simp only
      simp only [Option.bind_some, Option.map_some, joinK, Bool.not_true, Bool.not_false, Bool.false_eq_true, Bool.or_true, Bool.true_or, Bool.false_or, Bool.or_false, Bool.and_true, Bool.and_false, Bool.true_and, Bool.false_and, ↓reduceIte, if_true, if_false, eq_self, Int.reduceBEq, Int.reduceBNe, bne_self_eq_false, beq_self_eq_true, hge, hwi]
      exact Ev.pure
  · have hd : decide (((p ^ e : Nat) : Int) < ((allL p e).length : Int)) = false := decide_eq_false (by omega)
    simp only [chkO]
    simp only [Option.bind_some, Option.map_some, joinK, Bool.not_true, Bool.not_false, Bool.false_eq_true, Bool.or_true, Bool.true_or, Bool.false_or, Bool.or_false, Bool.and_true, Bool.and_false, Bool.true_and, Bool.false_and, ↓reduceIte, if_true, if_false, eq_self, Int.reduceBEq, Int.reduceBNe, bne_self_eq_false, beq_self_eq_true, hd]
    exact Ev.pure
theorem sweepAll_holds (e p : Int) : Ev (fun k => law47_SweepAll k e p) true := by
  unfold law47_SweepAll
  refine Ev.bind works47_ev (Ev.ite_f rfl (Ev.bind (All_ev e p) (Ev.joinK (Ev.loop ?_))))
  generalize hl : (if (e < 1 ∨ 64 < e ∨ p < 1 ∨ 4096 < p ∨ 4096 < p.toNat ^ e.toNat) then [] else allL p.toNat e.toNat) = l
  have hq : mx 0 (mn p 5000) = (((max 0 (min p 5000)).toNat : Nat) : Int) := by rw [mn_eq, mx_eq]; omega
  generalize hqn : (max 0 (min p 5000)).toNat = q at hq
  have hq5 : q ≤ 5000 := by omega
  obtain ⟨r, h1, h2⟩ := loop_ex (ρ := Bool) (σ := Int × Int) (body := fun k (s : Int × Int) => match s with
    | (l1_6, l1_7) =>
    if (((decide (l1_7 < e)) && (decide (l1_7 < 64))) && (decide (l1_6 ≤ 4096))) then
    some (.inl ((IntKind.i64.wrap (l1_6 * (mx 0 (mn p 5000)))), (IntKind.i64.wrap (l1_7 + 1))))
    else
    (if ((((decide (e < 1)) || (decide (e > 64))) || (decide (p < 1))) || (decide (l1_6 > 4096))) then
    some (((l.length : Int)) == 0)
    else
    if (((l.length : Int)) != l1_6) then
    some false
    else
    loopM k (chkO l e p k) 0).map .inr)
    (fun s => ∃ n : Nat, s = (((q ^ n : Nat) : Int), (n : Int)) ∧ n ≤ 64 ∧ (n : Int) ≤ max 0 e) (fun s => (64 - s.2).toNat) (fun r => r = true) (by
    rintro s ⟨n, rfl, hn, hne⟩
    by_cases hgo : (n : Int) < e ∧ n < 64 ∧ q ^ n ≤ 4096
    · right
      obtain ⟨g1, g2, g3⟩ := hgo
      have hb : (((decide ((n : Int) < e)) && (decide ((n : Int) < 64))) && (decide (((q ^ n : Nat) : Int) ≤ 4096))) = true := by
        rw [decide_eq_true g1, decide_eq_true (by omega), decide_eq_true (by omega)]; rfl
      have hmul : (((q ^ n : Nat) : Int) * (q : Int)) = ((q ^ (n + 1) : Nat) : Int) := by rw [Nat.pow_succ]; simp
      have hub : q ^ (n + 1) ≤ 4096 * 5000 := by rw [Nat.pow_succ]; exact Nat.mul_le_mul g3 hq5
      have hw1 : IntKind.i64.wrap (((q ^ n : Nat) : Int) * (q : Int)) = ((q ^ (n + 1) : Nat) : Int) := by rw [hmul]; exact wrap64_id (by omega) (by omega)
      have hw2 : IntKind.i64.wrap ((n : Int) + 1) = ((n + 1 : Nat) : Int) := by rw [wrap64_id (by omega) (by omega)]; simp
      refine ⟨(((q ^ (n + 1) : Nat) : Int), ((n + 1 : Nat) : Int)), ?_, ⟨n + 1, rfl, by omega, by omega⟩, by simp only; omega⟩
      simp only
      rw [hq]
      simp only [Option.bind_some, Option.map_some, joinK, Bool.not_true, Bool.not_false, Bool.false_eq_true, Bool.or_true, Bool.true_or, Bool.false_or, Bool.or_false, Bool.and_true, Bool.and_false, Bool.true_and, Bool.false_and, ↓reduceIte, if_true, if_false, eq_self, Int.reduceBEq, Int.reduceBNe, bne_self_eq_false, beq_self_eq_true, hb, hw1, hw2]
      exact Ev.pure
    · left
      have hb : (((decide ((n : Int) < e)) && (decide ((n : Int) < 64))) && (decide (((q ^ n : Nat) : Int) ≤ 4096))) = false := by
        cases hx : (((decide ((n : Int) < e)) && (decide ((n : Int) < 64))) && (decide (((q ^ n : Nat) : Int) ≤ 4096))) with
        | false => rfl
        | true =>
          simp only [Bool.and_eq_true, decide_eq_true_eq] at hx
          exact (hgo ⟨hx.1.1, by omega, by omega⟩).elim
      refine ⟨true, ?_, rfl⟩
      simp only
      refine Ev.ite_f hb (Ev.map ?_)
      cases hc : ((((decide (e < 1)) || (decide (e > 64))) || (decide (p < 1))) || (decide (((q ^ n : Nat) : Int) > 4096))) with
      | true =>
        refine Ev.ite_t rfl (Ev.of fun _ => ?_)
        have hl0 : l = [] := by
          rw [← hl, if_pos]
          simp only [Bool.or_eq_true, decide_eq_true_eq] at hc
          by_cases hA : e < 1 ∨ 64 < e ∨ p < 1 ∨ 4096 < p
          · omega
          · have hqp : q = p.toNat := by omega
            have hbig : 4096 < q ^ n := by omega
            have : q ^ n ≤ q ^ e.toNat := pow_le (by omega) (by omega)
            rw [← hqp]; omega
        rw [hl0]; rfl
      | false =>
        simp only [Bool.or_eq_false_iff, decide_eq_false_iff_not] at hc
        obtain ⟨⟨⟨c1, c2⟩, c3⟩, c4⟩ := hc
        have hsm : q ^ n ≤ 4096 := by omega
        have hne' : (n : Int) = e := by omega
        have hn1 : 1 ≤ n := by omega
        have hq1 : 1 ≤ q := by omega
        have hqle : q ≤ 4096 := Nat.le_trans (by have := pow_le hq1 (show 1 ≤ n by omega); rwa [Nat.pow_one] at this) hsm
        have hqp : (q : Int) = p := by omega
        have hpn : p.toNat = q := by omega
        have hen : e.toNat = n := by omega
        have hl1 : l = allL q n := by
          rw [← hl, if_neg (by rw [hpn, hen]; omega), hpn, hen]
        have hlen : ((l.length : Int) != ((q ^ n : Nat) : Int)) = false := by rw [hl1, allL_len]; simp
        refine Ev.ite_f rfl (Ev.ite_f hlen (Ev.loop ?_))
        rw [hl1, ← hqp, ← hne']
        exact chk_ev q n hq1 hn1 hn hsm) (1, 0) ⟨0, by simp, by omega, by omega⟩
  subst h2
  exact h1
end Go.Proofs.Ytbckfbohbjhffaa.F
