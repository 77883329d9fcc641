/- Values and outcomes that are the same. No condition. -/
import Derived.Test.YtbckfbohbjhffaaZPSweep2
set_option linter.unusedVariables false
set_option linter.unusedSimpArgs false
set_option maxRecDepth 100000
set_option maxHeartbeats 4000000
namespace Go.Proofs.Ytbckfbohbjhffaa.F
open Go

/-- No list in it is longer than memory. -/
inductive VOk : TValue → Prop
  | mk {v : TValue} (h : ∀ x ∈ v.Kids, VOk x) (hl : v.Kids.length ≤ 9223372036854775807) : VOk v
def LOk (l : List TValue) : Prop := (∀ x ∈ l, VOk x) ∧ l.length ≤ 9223372036854775807
theorem VOk.kids {v : TValue} (h : VOk v) : LOk v.Kids := by cases h with | mk a b => exact ⟨a, b⟩
theorem LOk.at {l : List TValue} (h : LOk l) {i : Nat} (hi : i < l.length) : VOk l[i] := h.1 _ (List.getElem_mem hi)
theorem ext_of {l m : List TValue} (hl : l.length = m.length) (h : ∀ i (h1 : i < l.length) (h2 : i < m.length), l[i] = m[i]) : l = m := List.ext_getElem hl (fun i h1 h2 => h i h1 h2)
def eqAllB (l m : List TValue) (k : Nat) (l1_17 : Int) : Option (Int ⊕ Bool) :=
    if (decide (l1_17 < (l.length : Int))) then
    (ix l l1_17).bind fun x5_1 =>
    (ix m l1_17).bind fun x6_2 =>
    (val_Same k x5_1 x6_2).bind fun x7_3 =>
    if (!x7_3) then
    some (.inr false)
    else
    some (.inl (IntKind.i64.wrap (l1_17 + 1)))
    else
    some (.inr true)
def rsAllB (l m : List TValue) (k : Nat) (l1_5 : Int) : Option (Int ⊕ Bool) :=
    if (decide (l1_5 < ((l.length : Int)))) then
    (ix l l1_5).bind fun x6_2 =>
    (ix m l1_5).bind fun x6_6 =>
    (ref06_Same k x6_2 x6_6).bind fun x6_8 =>
    if (!x6_8) then
    some (.inr false)
    else
    some (.inl (IntKind.i64.wrap (l1_5 + 1)))
    else
    some (.inr true)
/-- Lists, where members are told apart alike. -/
theorem all_same {l m : List TValue} (hl : LOk l) (hm : LOk m) (h : ∀ i (h1 : i < l.length) (h2 : i < m.length), ∃ b, Ev (fun k => val_Same k l[i] m[i]) b ∧ Ev (fun k => ref06_Same k l[i] m[i]) b ∧ (b = true ↔ l[i] = m[i])) :
    ∃ b, Ev (fun k => slices_EqualFunc_Value_val_Same k l m) b ∧ Ev (fun k => ref06_SameAll k l m) b ∧ (b = true ↔ l = m) := by
  by_cases hlen : l.length = m.length
  · have hb : (((l.length : Int)) != ((m.length : Int))) = false := by rw [hlen]; simp
    have hmax := hl.2
    have key : ∀ (n i : Nat), i + n = l.length → (∀ j (h1 : j < l.length) (h2 : j < m.length), j < i → l[j] = m[j]) → ∃ b, EvL (eqAllB l m) (i : Int) b ∧ EvL (rsAllB l m) (i : Int) b ∧ (b = true ↔ l = m) := by
      intro n
      induction n with
      | zero =>
        intro i hi hpre
        have hd : decide ((i : Int) < (l.length : Int)) = false := decide_eq_false (by omega)
        refine ⟨true, EvL.done ?_, EvL.done ?_, fun _ => ext_of hlen (fun j h1 h2 => hpre j h1 h2 (by omega)), fun _ => rfl⟩
        · simp only [eqAllB]; simp only [Option.bind_some, Option.map_some, joinK, Bool.not_true, Bool.not_false, Bool.false_eq_true, Bool.or_true, Bool.true_or, Bool.false_or, Bool.or_false, Bool.and_true, Bool.and_false, Bool.true_and, Bool.false_and, ↓reduceIte, if_true, if_false, eq_self, Int.reduceBEq, Int.reduceBNe, bne_self_eq_false, beq_self_eq_true, hd]; exact Ev.pure
        · simp only [rsAllB]; simp only [Option.bind_some, Option.map_some, joinK, Bool.not_true, Bool.not_false, Bool.false_eq_true, Bool.or_true, Bool.true_or, Bool.false_or, Bool.or_false, Bool.and_true, Bool.and_false, Bool.true_and, Bool.false_and, ↓reduceIte, if_true, if_false, eq_self, Int.reduceBEq, Int.reduceBNe, bne_self_eq_false, beq_self_eq_true, hd]; exact Ev.pure
      | succ n ih =>
        intro i hi hpre
        have h1 : i < l.length := by omega
        have h2 : i < m.length := by omega
        have hd : decide ((i : Int) < (l.length : Int)) = true := decide_eq_true (by omega)
        have hw : IntKind.i64.wrap ((i : Int) + 1) = ((i + 1 : Nat) : Int) := by rw [wrap64_id (by omega) (by omega)]; simp
        obtain ⟨b, e1, e2, e3⟩ := h i h1 h2
        cases b with
        | false =>
          have hne : l ≠ m := fun e => by subst e; exact absurd (e3.2 rfl) (by simp)
          refine ⟨false, EvL.done ?_, EvL.done ?_, by simp [hne]⟩
          · simp only [eqAllB]; simp only [Option.bind_some, Option.map_some, joinK, Bool.not_true, Bool.not_false, Bool.false_eq_true, Bool.or_true, Bool.true_or, Bool.false_or, Bool.or_false, Bool.and_true, Bool.and_false, Bool.true_and, Bool.false_and, ↓reduceIte, if_true, if_false, eq_self, Int.reduceBEq, Int.reduceBNe, bne_self_eq_false, beq_self_eq_true, hd, ix_nat h1, ix_nat h2]
            refine Ev.bind e1 ?_
            simp only [Option.bind_some, Option.map_some, joinK, Bool.not_true, Bool.not_false, Bool.false_eq_true, Bool.or_true, Bool.true_or, Bool.false_or, Bool.or_false, Bool.and_true, Bool.and_false, Bool.true_and, Bool.false_and, ↓reduceIte, if_true, if_false, eq_self, Int.reduceBEq, Int.reduceBNe, bne_self_eq_false, beq_self_eq_true]; exact Ev.pure
          · simp only [rsAllB]; simp only [Option.bind_some, Option.map_some, joinK, Bool.not_true, Bool.not_false, Bool.false_eq_true, Bool.or_true, Bool.true_or, Bool.false_or, Bool.or_false, Bool.and_true, Bool.and_false, Bool.true_and, Bool.false_and, ↓reduceIte, if_true, if_false, eq_self, Int.reduceBEq, Int.reduceBNe, bne_self_eq_false, beq_self_eq_true, hd, ix_nat h1, ix_nat h2]
            refine Ev.bind e2 ?_
            simp only [Option.bind_some, Option.map_some, joinK, Bool.not_true, Bool.not_false, Bool.false_eq_true, Bool.or_true, Bool.true_or, Bool.false_or, Bool.or_false, Bool.and_true, Bool.and_false, Bool.true_and, Bool.false_and, ↓reduceIte, if_true, if_false, eq_self, Int.reduceBEq, Int.reduceBNe, bne_self_eq_false, beq_self_eq_true]; exact Ev.pure
        | true =>
          obtain ⟨b', f1, f2, f3⟩ := ih (i + 1) (by omega) (fun j q1 q2 q3 => by
            by_cases hji : j = i
            · subst hji; exact e3.1 rfl
            · exact hpre j q1 q2 (by omega))
          refine ⟨b', EvL.step (s' := ((i + 1 : Nat) : Int)) ?_ f1, EvL.step (s' := ((i + 1 : Nat) : Int)) ?_ f2, f3⟩
          · simp only [eqAllB]; simp only [Option.bind_some, Option.map_some, joinK, Bool.not_true, Bool.not_false, Bool.false_eq_true, Bool.or_true, Bool.true_or, Bool.false_or, Bool.or_false, Bool.and_true, Bool.and_false, Bool.true_and, Bool.false_and, ↓reduceIte, if_true, if_false, eq_self, Int.reduceBEq, Int.reduceBNe, bne_self_eq_false, beq_self_eq_true, hd, ix_nat h1, ix_nat h2]
            refine Ev.bind e1 ?_
            simp only [Option.bind_some, Option.map_some, joinK, Bool.not_true, Bool.not_false, Bool.false_eq_true, Bool.or_true, Bool.true_or, Bool.false_or, Bool.or_false, Bool.and_true, Bool.and_false, Bool.true_and, Bool.false_and, ↓reduceIte, if_true, if_false, eq_self, Int.reduceBEq, Int.reduceBNe, bne_self_eq_false, beq_self_eq_true, hw]; exact Ev.pure
          · simp only [rsAllB]; simp only [Option.bind_some, Option.map_some, joinK, Bool.not_true, Bool.not_false, Bool.false_eq_true, Bool.or_true, Bool.true_or, Bool.false_or, Bool.or_false, Bool.and_true, Bool.and_false, Bool.true_and, Bool.false_and, ↓reduceIte, if_true, if_false, eq_self, Int.reduceBEq, Int.reduceBNe, bne_self_eq_false, beq_self_eq_true, hd, ix_nat h1, ix_nat h2]
            refine Ev.bind e2 ?_
            simp only [Option.bind_some, Option.map_some, joinK, Bool.not_true, Bool.not_false, Bool.false_eq_true, Bool.or_true, Bool.true_or, Bool.false_or, Bool.or_false, Bool.and_true, Bool.and_false, Bool.true_and, Bool.false_and, ↓reduceIte, if_true, if_false, eq_self, Int.reduceBEq, Int.reduceBNe, bne_self_eq_false, beq_self_eq_true, hw]; exact Ev.pure
    obtain ⟨b, f1, f2, f3⟩ := key l.length 0 (by omega) (fun j _ _ hj => by omega)
    refine ⟨b, Ev.succ (fun k => by rw [slices_EqualFunc_Value_val_Same]) ?_, Ev.succ (fun k => by rw [ref06_SameAll]) ?_, f3⟩
    · exact Ev.ite_f hb (Ev.joinK (Ev.loop f1))
    · exact Ev.ite_f hb (Ev.joinK (Ev.loop f2))
  · have hb : (((l.length : Int)) != ((m.length : Int))) = true := by simp; omega
    have hne : l ≠ m := fun e => hlen (by rw [e])
    refine ⟨false, Ev.succ (fun k => by rw [slices_EqualFunc_Value_val_Same]) ?_, Ev.succ (fun k => by rw [ref06_SameAll]) ?_, by simp [hne]⟩
    · exact Ev.ite_t hb Ev.pure
    · exact Ev.ite_t hb Ev.pure
theorem val_same {v : TValue} (hv : VOk v) : ∀ {u : TValue}, VOk u → ∃ b, Ev (fun k => val_Same k v u) b ∧ Ev (fun k => ref06_Same k v u) b ∧ (b = true ↔ v = u) := by
  induction hv with
  | @mk v hk hl ih =>
    intro u hu
    obtain ⟨b, f1, f2, f3⟩ := all_same (l := v.Kids) (m := u.Kids) ⟨hk, hl⟩ hu.kids (fun i h1 h2 => ih _ (List.getElem_mem h1) (hu.kids.at h2))
    obtain ⟨vk, vn, vl⟩ := v
    obtain ⟨uk, un, ul⟩ := u
    simp only at f1 f2 f3
    by_cases hkn : vk = uk ∧ vn = un
    · obtain ⟨rfl, rfl⟩ := hkn
      refine ⟨b, Ev.succ (fun k => by rw [val_Same]) ?_, Ev.succ (fun k => by rw [ref06_Same]) ?_, by simp [f3]⟩
      · simp only; simp only [Option.bind_some, Option.map_some, joinK, Bool.not_true, Bool.not_false, Bool.false_eq_true, Bool.or_true, Bool.true_or, Bool.false_or, Bool.or_false, Bool.and_true, Bool.and_false, Bool.true_and, Bool.false_and, ↓reduceIte, if_true, if_false, eq_self, Int.reduceBEq, Int.reduceBNe, bne_self_eq_false, beq_self_eq_true]
        refine Ev.bind f1 ?_
        exact Ev.pure
      · simp only; simp only [Option.bind_some, Option.map_some, joinK, Bool.not_true, Bool.not_false, Bool.false_eq_true, Bool.or_true, Bool.true_or, Bool.false_or, Bool.or_false, Bool.and_true, Bool.and_false, Bool.true_and, Bool.false_and, ↓reduceIte, if_true, if_false, eq_self, Int.reduceBEq, Int.reduceBNe, bne_self_eq_false, beq_self_eq_true]
        refine Ev.bind f2 ?_
        exact Ev.pure
    · have hb : ((vk == uk) && (vn == un)) = false := by
        simp only [Bool.and_eq_false_iff, beq_eq_false_iff_ne, ne_eq]
        by_cases h : vk = uk
        · exact .inr (fun e => hkn ⟨h, e⟩)
        · exact .inl h
      have hb2 : ((vk != uk) || (vn != un)) = true := by
        simp only [Bool.or_eq_true, bne_iff_ne, ne_eq]
        by_cases h : vk = uk
        · exact .inr (fun e => hkn ⟨h, e⟩)
        · exact .inl h
      refine ⟨false, Ev.succ (fun k => by rw [val_Same]) ?_, Ev.succ (fun k => by rw [ref06_Same]) ?_, by simp; intro a b; exact (hkn ⟨a, b⟩).elim⟩
      · simp only; simp only [Option.bind_some, Option.map_some, joinK, Bool.not_true, Bool.not_false, Bool.false_eq_true, Bool.or_true, Bool.true_or, Bool.false_or, Bool.or_false, Bool.and_true, Bool.and_false, Bool.true_and, Bool.false_and, ↓reduceIte, if_true, if_false, eq_self, Int.reduceBEq, Int.reduceBNe, bne_self_eq_false, beq_self_eq_true, hb]; exact Ev.pure
      · simp only; simp only [Option.bind_some, Option.map_some, joinK, Bool.not_true, Bool.not_false, Bool.false_eq_true, Bool.or_true, Bool.true_or, Bool.false_or, Bool.or_false, Bool.and_true, Bool.and_false, Bool.true_and, Bool.false_and, ↓reduceIte, if_true, if_false, eq_self, Int.reduceBEq, Int.reduceBNe, bne_self_eq_false, beq_self_eq_true, hb2]; exact Ev.pure
theorem lists_same {l m : List TValue} (hl : LOk l) (hm : LOk m) : ∃ b, Ev (fun k => slices_EqualFunc_Value_val_Same k l m) b ∧ Ev (fun k => ref06_SameAll k l m) b ∧ (b = true ↔ l = m) :=
  all_same hl hm (fun i h1 h2 => val_same (hl.at h1) (hm.at h2))
structure OOk (o : TOutcome) : Prop where
  log : LOk o.Log
  state : LOk o.State
theorem out_same {o u : TOutcome} (ho : OOk o) (hu : OOk u) : ∃ b, Ev (fun k => sweep_same k o u) b ∧ Ev (fun k => ref25_Same k o u) b ∧ (b = true ↔ o = u) := by
  obtain ⟨b1, e1, e2, e3⟩ := lists_same ho.log hu.log
  obtain ⟨b2, f1, f2, f3⟩ := lists_same ho.state hu.state
  obtain ⟨o1, o2, o3, o4, o5⟩ := o
  obtain ⟨u1, u2, u3, u4, u5⟩ := u
  simp only at e1 e2 e3 f1 f2 f3
  by_cases hh : o1 = u1 ∧ o2 = u2 ∧ o3 = u3
  · obtain ⟨rfl, rfl, rfl⟩ := hh
    cases b1 with
    | false =>
      have hne : o4 ≠ u4 := fun e => absurd (e3.2 e) (by simp)
      refine ⟨false, ?_, ?_, by simp [hne]⟩
      · unfold sweep_same; simp only; simp only [Option.bind_some, Option.map_some, joinK, Bool.not_true, Bool.not_false, Bool.false_eq_true, Bool.or_true, Bool.true_or, Bool.false_or, Bool.or_false, Bool.and_true, Bool.and_false, Bool.true_and, Bool.false_and, ↓reduceIte, if_true, if_false, eq_self, Int.reduceBEq, Int.reduceBNe, bne_self_eq_false, beq_self_eq_true]
        refine Ev.bind e1 ?_
        simp only [Option.bind_some, Option.map_some, joinK, Bool.not_true, Bool.not_false, Bool.false_eq_true, Bool.or_true, Bool.true_or, Bool.false_or, Bool.or_false, Bool.and_true, Bool.and_false, Bool.true_and, Bool.false_and, ↓reduceIte, if_true, if_false, eq_self, Int.reduceBEq, Int.reduceBNe, bne_self_eq_false, beq_self_eq_true]; exact Ev.pure
      · unfold ref25_Same; simp only; simp only [Option.bind_some, Option.map_some, joinK, Bool.not_true, Bool.not_false, Bool.false_eq_true, Bool.or_true, Bool.true_or, Bool.false_or, Bool.or_false, Bool.and_true, Bool.and_false, Bool.true_and, Bool.false_and, ↓reduceIte, if_true, if_false, eq_self, Int.reduceBEq, Int.reduceBNe, bne_self_eq_false, beq_self_eq_true]
        refine Ev.bind e2 ?_
        simp only [Option.bind_some, Option.map_some, joinK, Bool.not_true, Bool.not_false, Bool.false_eq_true, Bool.or_true, Bool.true_or, Bool.false_or, Bool.or_false, Bool.and_true, Bool.and_false, Bool.true_and, Bool.false_and, ↓reduceIte, if_true, if_false, eq_self, Int.reduceBEq, Int.reduceBNe, bne_self_eq_false, beq_self_eq_true]; exact Ev.pure
    | true =>
      have he := e3.1 rfl
      subst he
      refine ⟨b2, ?_, ?_, by simp [f3]⟩
      · unfold sweep_same; simp only; simp only [Option.bind_some, Option.map_some, joinK, Bool.not_true, Bool.not_false, Bool.false_eq_true, Bool.or_true, Bool.true_or, Bool.false_or, Bool.or_false, Bool.and_true, Bool.and_false, Bool.true_and, Bool.false_and, ↓reduceIte, if_true, if_false, eq_self, Int.reduceBEq, Int.reduceBNe, bne_self_eq_false, beq_self_eq_true]
        refine Ev.bind e1 ?_
        simp only [Option.bind_some, Option.map_some, joinK, Bool.not_true, Bool.not_false, Bool.false_eq_true, Bool.or_true, Bool.true_or, Bool.false_or, Bool.or_false, Bool.and_true, Bool.and_false, Bool.true_and, Bool.false_and, ↓reduceIte, if_true, if_false, eq_self, Int.reduceBEq, Int.reduceBNe, bne_self_eq_false, beq_self_eq_true]
        refine Ev.bind f1 ?_
        exact Ev.pure
      · unfold ref25_Same; simp only; simp only [Option.bind_some, Option.map_some, joinK, Bool.not_true, Bool.not_false, Bool.false_eq_true, Bool.or_true, Bool.true_or, Bool.false_or, Bool.or_false, Bool.and_true, Bool.and_false, Bool.true_and, Bool.false_and, ↓reduceIte, if_true, if_false, eq_self, Int.reduceBEq, Int.reduceBNe, bne_self_eq_false, beq_self_eq_true]
        refine Ev.bind e2 ?_
        simp only [Option.bind_some, Option.map_some, joinK, Bool.not_true, Bool.not_false, Bool.false_eq_true, Bool.or_true, Bool.true_or, Bool.false_or, Bool.or_false, Bool.and_true, Bool.and_false, Bool.true_and, Bool.false_and, ↓reduceIte, if_true, if_false, eq_self, Int.reduceBEq, Int.reduceBNe, bne_self_eq_false, beq_self_eq_true]
        refine Ev.bind f2 ?_
        exact Ev.pure
  · have hb : (((o1 == u1) && (o2 == u2)) && (o3 == u3)) = false := by
      cases hx : (((o1 == u1) && (o2 == u2)) && (o3 == u3)) with
      | false => rfl
      | true => simp at hx; exact (hh ⟨hx.1.1, hx.1.2, hx.2⟩).elim
    refine ⟨false, ?_, ?_, ?_⟩
    · unfold sweep_same; simp only; simp only [Option.bind_some, Option.map_some, joinK, Bool.not_true, Bool.not_false, Bool.false_eq_true, Bool.or_true, Bool.true_or, Bool.false_or, Bool.or_false, Bool.and_true, Bool.and_false, Bool.true_and, Bool.false_and, ↓reduceIte, if_true, if_false, eq_self, Int.reduceBEq, Int.reduceBNe, bne_self_eq_false, beq_self_eq_true, hb]; exact Ev.pure
    · unfold ref25_Same; simp only; simp only [Option.bind_some, Option.map_some, joinK, Bool.not_true, Bool.not_false, Bool.false_eq_true, Bool.or_true, Bool.true_or, Bool.false_or, Bool.or_false, Bool.and_true, Bool.and_false, Bool.true_and, Bool.false_and, ↓reduceIte, if_true, if_false, eq_self, Int.reduceBEq, Int.reduceBNe, bne_self_eq_false, beq_self_eq_true, hb]; exact Ev.pure
    · simp; intro a b c; exact (hh ⟨a, b, c⟩).elim
end Go.Proofs.Ytbckfbohbjhffaa.F
