/- All schedules: what the printed functions answer. No condition. -/
import Derived.Test.YtbckfbohbjhffaaZSF
import Derived.Test.YtbckfbohbjhffaaZEv
import Derived.KernelRfl
set_option linter.unusedVariables false
set_option linter.unusedSimpArgs false
set_option maxRecDepth 100000
set_option maxHeartbeats 4000000
namespace Go.Proofs.Ytbckfbohbjhffaa.F
open Go

/-- A loop that goes by counted states. -/
theorem EvL.up {σ ρ : Type} {body : Nat → σ → Option (σ ⊕ ρ)} {r : ρ} (f : Nat → σ) (n : Nat) (h : ∀ i, i < n → Ev (fun k => body k (f i)) (.inl (f (i + 1)))) (h2 : Ev (fun k => body k (f n)) (.inr r)) : ∀ (d i : Nat), i + d = n → EvL body (f i) r
  | 0, i, e => by
    have : i = n := by omega
    subst this
    exact EvL.done h2
  | d + 1, i, e => EvL.step (h i (by omega)) (EvL.up f n h h2 d (i + 1) (by omega))
def gcb (n : Int) : Bool := (Int.tmod n 2) == 1
def row (s : List TPick) (n : Int) (p : Nat) : List (List TPick) := (List.range p).map fun k => s ++ [⟨(k : Int), 1, gcb n⟩]
def lng (L : List (List TPick)) (n : Int) (p : Nat) : List (List TPick) := L.flatMap fun s => row s n p
def allL (p : Nat) : Nat → List (List TPick)
  | 0 => [[]]
  | n + 1 => lng (allL p n) (n : Int) p
theorem row_len (s : List TPick) (n : Int) (p : Nat) : (row s n p).length = p := by simp [row]
theorem lng_len (n : Int) (p : Nat) : ∀ L : List (List TPick), (lng L n p).length = L.length * p
  | [] => by simp [lng]
  | s :: L => by
    have := lng_len n p L
    simp only [lng, List.flatMap_cons, List.length_append, row_len, List.length_cons] at this ⊢
    rw [this, Nat.add_mul]; omega
theorem allL_len (p : Nat) : ∀ n, (allL p n).length = p ^ n
  | 0 => rfl
  | n + 1 => by rw [allL, lng_len, allL_len p n, Nat.pow_succ]
theorem lng_get (n : Int) (p : Nat) (hp : 0 < p) : ∀ (L : List (List TPick)) (i : Nat) (s : List TPick), L[i / p]? = some s → (lng L n p)[i]? = some (s ++ [⟨((i % p : Nat) : Int), 1, gcb n⟩])
  | [], i, s, h => by simp at h
  | t :: L, i, s, h => by
    by_cases hi : i < p
    · have h0 : i / p = 0 := Nat.div_eq_of_lt hi
      rw [h0] at h
      simp only [List.getElem?_cons_zero, Option.some.injEq] at h
      subst h
      simp only [lng, List.flatMap_cons]
      rw [List.getElem?_append_left (by rw [row_len]; exact hi)]
      simp only [row]
      rw [List.getElem?_map, List.getElem?_range hi, Nat.mod_eq_of_lt hi]; rfl
    · have h0 : i / p = (i - p) / p + 1 := by
        have : i = (i - p) + p := by omega
        conv => lhs; rw [this]
        rw [Nat.add_div_right _ hp]
      rw [h0, List.getElem?_cons_succ] at h
      have ih := lng_get n p hp L (i - p) s h
      have hm : (i - p) % p = i % p := by
        conv => rhs; rw [show i = (i - p) + p by omega]
        rw [Nat.add_mod_right]
      rw [hm] at ih
      simp only [lng, List.flatMap_cons]
      rw [List.getElem?_append_right (by rw [row_len]; omega), row_len]
      exact ih
def sched (p : Nat) : Nat → Nat → List TPick
  | 0, _ => []
  | n + 1, i => sched p n (i / p) ++ [⟨((i % p : Nat) : Int), 1, gcb (n : Int)⟩]
theorem sched_len (p : Nat) : ∀ n i, (sched p n i).length = n
  | 0, _ => rfl
  | n + 1, i => by simp [sched, sched_len p n]
theorem allL_get (p : Nat) (hp : 0 < p) : ∀ n i, i < p ^ n → (allL p n)[i]? = some (sched p n i)
  | 0, i, h => by
    have : i = 0 := by simp at h; exact h
    subst this; rfl
  | n + 1, i, h => by
    rw [allL, sched]
    refine lng_get _ p hp _ i _ (allL_get p hp n (i / p) ?_)
    rw [Nat.pow_succ] at h
    exact (Nat.div_lt_iff_lt_mul hp).2 h
theorem sched_get (p : Nat) : ∀ n i k, k < n → (sched p n i)[k]? = some ⟨((i / p ^ (n - 1 - k) % p : Nat) : Int), 1, gcb (k : Int)⟩
  | 0, i, k, h => by omega
  | n + 1, i, k, h => by
    rw [sched]
    by_cases hk : k = n
    · subst hk
      rw [List.getElem?_append_right (by rw [sched_len]; omega), sched_len]
      simp
    · rw [List.getElem?_append_left (by rw [sched_len]; omega), sched_get p n (i / p) k (by omega), Nat.div_div_eq_div_mul]
      rw [show n + 1 - 1 - k = (n - 1 - k) + 1 by omega, Nat.pow_succ, Nat.mul_comm]
/-- One entry more. -/
theorem longer_ev (L : List (List TPick)) (n : Int) (p : Nat) (h : L.length * p ≤ 4096) (hp : p ≤ 4096) (hp0 : 1 ≤ p) (hs : ∀ s ∈ L, s.length ≤ 64) : Ev (fun k => sweep_longer k L n (p : Int)) (lng L n p) := by
  unfold sweep_longer
  refine Ev.joinK (Ev.loop ?_)
  have hL : L.length ≤ 4096 := Nat.le_trans (Nat.le_mul_of_pos_right _ hp0) h
  refine EvL.up (fun i => (lng (L.take i) n p, (i : Int))) L.length (fun i hi => ?_) ?_ L.length 0 (by omega)
  · have hd : decide ((i : Int) < (L.length : Int)) = true := by simp; omega
    have hlen : (lng (L.take i) n p).length = i * p := by rw [lng_len, List.length_take, Nat.min_eq_left (by omega)]
    have hbound : i * p + p ≤ 4096 := by
      have : (i + 1) * p ≤ L.length * p := Nat.mul_le_mul_right p hi
      rw [Nat.add_mul] at this; omega
    have hsl := hs L[i] (List.getElem_mem hi)
    simp only
    simp only [Option.bind_some, Option.map_some, joinK, Bool.not_true, Bool.not_false, Bool.false_eq_true, Bool.or_true, Bool.true_or, Bool.false_or, Bool.or_false, Bool.and_true, Bool.and_false, Bool.true_and, Bool.false_and, ↓reduceIte, if_true, if_false, eq_self, Int.reduceBEq, Int.reduceBNe, bne_self_eq_false, beq_self_eq_true, hd]
    refine Ev.bindS (fun _ => ix_nat hi) ?_
    refine Ev.loop ?_
    have e0 : (lng (L.take i) n p, (0 : Int)) = (lng (L.take i) n p ++ row L[i] n 0, ((0 : Nat) : Int)) := by simp [row]
    rw [e0]
    refine EvL.up (fun k => (lng (L.take i) n p ++ row L[i] n k, (k : Int))) p (fun k hk => ?_) ?_ p 0 (by omega)
    · have hd2 : decide ((k : Int) < (p : Int)) = true := by simp; omega
      have hw : IntKind.i64.wrap ((k : Int) + 1) = ((k + 1 : Nat) : Int) := by rw [wrap64_id (by omega) (by omega)]; simp
      have r1 : room 24 (([] : List TPick).length + L[i].length) = true := room_of (by omega) (by simp; omega)
      have r2 : ∀ x : TPick, room 24 (L[i].length + [x].length) = true := fun x => room_of (by omega) (by simp; omega)
      have r3 : ∀ x : List TPick, room 24 ((lng (L.take i) n p ++ row L[i] n k).length + [x].length) = true := fun x => room_of (by omega) (by rw [List.length_append, hlen, row_len]; simp; omega)
      have hrow : row L[i] n (k + 1) = row L[i] n k ++ [L[i] ++ [⟨(k : Int), 1, gcb n⟩]] := by simp [row, List.range_succ]
      simp only [slices_Clone_Pick]
      simp only [Option.bind_some, Option.map_some, joinK, Bool.not_true, Bool.not_false, Bool.false_eq_true, Bool.or_true, Bool.true_or, Bool.false_or, Bool.or_false, Bool.and_true, Bool.and_false, Bool.true_and, Bool.false_and, ↓reduceIte, if_true, if_false, eq_self, Int.reduceBEq, Int.reduceBNe, bne_self_eq_false, beq_self_eq_true, hd2, r1, r2, r3, hw]
      refine Ev.of fun _ => ?_
      rw [hrow, ← List.append_assoc]; rfl
    · have hd2 : decide ((p : Int) < (p : Int)) = false := by simp
      have hw : IntKind.i64.wrap ((i : Int) + 1) = ((i + 1 : Nat) : Int) := by rw [wrap64_id (by omega) (by omega)]; simp
      have htake : lng (L.take (i + 1)) n p = lng (L.take i) n p ++ row L[i] n p := by
        rw [List.take_succ_eq_append_getElem hi]; unfold lng; rw [List.flatMap_append]; simp only [List.flatMap_cons, List.flatMap_nil, List.append_nil]
      simp only
      simp only [Option.bind_some, Option.map_some, joinK, Bool.not_true, Bool.not_false, Bool.false_eq_true, Bool.or_true, Bool.true_or, Bool.false_or, Bool.or_false, Bool.and_true, Bool.and_false, Bool.true_and, Bool.false_and, ↓reduceIte, if_true, if_false, eq_self, Int.reduceBEq, Int.reduceBNe, bne_self_eq_false, beq_self_eq_true, hd2, hw, htake]
      exact Ev.pure
  · have hd : decide ((L.length : Int) < (L.length : Int)) = false := by simp
    simp only
    simp only [Option.bind_some, Option.map_some, joinK, Bool.not_true, Bool.not_false, Bool.false_eq_true, Bool.or_true, Bool.true_or, Bool.false_or, Bool.or_false, Bool.and_true, Bool.and_false, Bool.true_and, Bool.false_and, ↓reduceIte, if_true, if_false, eq_self, Int.reduceBEq, Int.reduceBNe, bne_self_eq_false, beq_self_eq_true, hd, List.take_length]
    exact Ev.pure
theorem pow_le {p : Nat} (hp : 1 ≤ p) {a b : Nat} (h : a ≤ b) : p ^ a ≤ p ^ b := Nat.pow_le_pow_right hp h
/-- The schedules: all of them, or none. -/
theorem All_ev (e p : Int) : Ev (fun k => sweep_All k e p) (if (e < 1 ∨ 64 < e ∨ p < 1 ∨ 4096 < p ∨ 4096 < p.toNat ^ e.toNat) then [] else allL p.toNat e.toNat) := by
  unfold sweep_All
  cases hc : ((((decide (e < 1)) || (decide (e > 64))) || (decide (p < 1))) || (decide (p > 4096))) with
  | true =>
    rw [if_pos (by simp at hc; omega)]
    exact Ev.ite_t rfl Ev.pure
  | false =>
    simp at hc
    obtain ⟨⟨⟨h1, h2⟩, h3⟩, h4⟩ := hc
    obtain ⟨e, rfl⟩ : ∃ n : Nat, e = n := ⟨e.toNat, by omega⟩
    obtain ⟨p, rfl⟩ : ∃ n : Nat, p = n := ⟨p.toNat, by omega⟩
    simp only [Int.toNat_natCast]
    have hp : 1 ≤ p := by omega
    refine Ev.ite_f rfl (Ev.joinK (Ev.loop ?_))
    have hstep : ∀ n : Nat, n < e → p ^ (n + 1) ≤ 4096 → Ev (fun k => (match ((allL p n, (n : Int)) : List (List TPick) × Int) with
      | (l1_5, l1_6) => if (decide (l1_6 < (e : Int))) then
        if (decide ((IntKind.i64.wrap (((l1_5.length : Int)) * (p : Int))) > 4096)) then
        some (.inr [])
        else
        (sweep_longer k l1_5 l1_6 (p : Int)).bind fun x9_3 =>
        some (.inl (x9_3, (IntKind.i64.wrap (l1_6 + 1))))
        else
        (some l1_5).map .inr : Option ((List (List TPick) × Int) ⊕ List (List TPick)))) (.inl (allL p (n + 1), ((n + 1 : Nat) : Int))) := by
      intro n hn hpw
      have hd : decide ((n : Int) < (e : Int)) = true := by simp; omega
      have hmul : (((allL p n).length : Int) * (p : Int)) = ((p ^ (n + 1) : Nat) : Int) := by rw [allL_len, Nat.pow_succ]; simp
      have hg : decide (IntKind.i64.wrap (((allL p n).length : Int) * (p : Int)) > 4096) = false := by
        rw [hmul, wrap64_id (by omega) (by omega)]; first | exact decide_eq_false (by omega) | exact decide_eq_true (by omega)
      have hw : IntKind.i64.wrap ((n : Int) + 1) = ((n + 1 : Nat) : Int) := by rw [wrap64_id (by omega) (by omega)]; simp
      have hall : ∀ s ∈ allL p n, s.length ≤ 64 := by
        intro s hs
        obtain ⟨i, hi⟩ := List.mem_iff_getElem?.1 hs
        have hlt : i < p ^ n := by have := (List.getElem?_eq_some_iff.1 hi).1; rwa [allL_len] at this
        rw [allL_get p hp n i hlt] at hi
        cases hi
        rw [sched_len]; omega
      simp only
      simp only [Option.bind_some, Option.map_some, joinK, Bool.not_true, Bool.not_false, Bool.false_eq_true, Bool.or_true, Bool.true_or, Bool.false_or, Bool.or_false, Bool.and_true, Bool.and_false, Bool.true_and, Bool.false_and, ↓reduceIte, if_true, if_false, eq_self, Int.reduceBEq, Int.reduceBNe, bne_self_eq_false, beq_self_eq_true, hd, hg, hw]
      refine Ev.bind (longer_ev (allL p n) (n : Int) p (by rw [allL_len, ← Nat.pow_succ]; exact hpw) (by omega) hp hall) ?_
      exact Ev.pure
    by_cases hbig : 4096 < p ^ e
    · rw [if_pos (by omega)]
      -- the first step that is too far
      obtain ⟨n, hn1, hn2, hn3⟩ : ∃ n, n < e ∧ p ^ n ≤ 4096 ∧ 4096 < p ^ (n + 1) := by
        have : ∀ m, 4096 < p ^ m → ∃ n, n < m ∧ p ^ n ≤ 4096 ∧ 4096 < p ^ (n + 1) := by
          intro m
          induction m with
          | zero => intro h; simp at h
          | succ m ih =>
            intro h
            by_cases hm : 4096 < p ^ m
            · obtain ⟨n, a, b, c⟩ := ih hm
              exact ⟨n, by omega, b, c⟩
            · exact ⟨m, by omega, by omega, h⟩
        exact this e hbig
      refine EvL.up (fun i => (allL p i, (i : Int))) n (fun i hi => hstep i (by omega) (Nat.le_trans (pow_le hp (by omega)) hn2)) ?_ n 0 (by omega)
      have hd : decide ((n : Int) < (e : Int)) = true := by simp; omega
      have hmul : (((allL p n).length : Int) * (p : Int)) = ((p ^ (n + 1) : Nat) : Int) := by rw [allL_len, Nat.pow_succ]; simp
      have hub : p ^ (n + 1) ≤ 4096 * 4096 := by rw [Nat.pow_succ]; exact Nat.mul_le_mul hn2 (by omega)
      have hg : decide (IntKind.i64.wrap (((allL p n).length : Int) * (p : Int)) > 4096) = true := by
        rw [hmul, wrap64_id (by omega) (by omega)]; first | exact decide_eq_false (by omega) | exact decide_eq_true (by omega)
      simp only
      simp only [Option.bind_some, Option.map_some, joinK, Bool.not_true, Bool.not_false, Bool.false_eq_true, Bool.or_true, Bool.true_or, Bool.false_or, Bool.or_false, Bool.and_true, Bool.and_false, Bool.true_and, Bool.false_and, ↓reduceIte, if_true, if_false, eq_self, Int.reduceBEq, Int.reduceBNe, bne_self_eq_false, beq_self_eq_true, hd, hg]
      exact Ev.pure
    · rw [if_neg (by omega)]
      refine EvL.up (fun i => (allL p i, (i : Int))) e (fun i hi => hstep i hi (Nat.le_trans (pow_le hp (by omega)) (by omega : p ^ e ≤ 4096))) ?_ e 0 (by omega)
      have hd : decide ((e : Int) < (e : Int)) = false := by simp
      simp only
      simp only [Option.bind_some, Option.map_some, joinK, Bool.not_true, Bool.not_false, Bool.false_eq_true, Bool.or_true, Bool.true_or, Bool.false_or, Bool.or_false, Bool.and_true, Bool.and_false, Bool.true_and, Bool.false_and, ↓reduceIte, if_true, if_false, eq_self, Int.reduceBEq, Int.reduceBNe, bne_self_eq_false, beq_self_eq_true, hd]
      exact Ev.pure
end Go.Proofs.Ytbckfbohbjhffaa.F
