/- Levels, and whole expressions: what the reader tells and what the document tells are alike. No condition. -/
import Derived.Test.YtbhncegmohnfhaaDoorZPExpr4
set_option linter.unusedVariables false
set_option linter.unusedSimpArgs false
set_option maxRecDepth 100000
set_option maxHeartbeats 4000000
namespace Go.Proofs.YtbhncegmohnfhaaDoor.F
open Go

def eLevB (l : List TToken) (q : Int) (k : Nat) (s : Int × Bool × TNode) : Option ((Int × Bool × TNode) ⊕ (TNode × Int × Bool)) :=
  match s with
  | (l1_oext0_1, l1_oext0_2, l1_oloc5) =>
    if (!l1_oext0_2) then
    (expr_reader_sign k q l l1_oext0_1 l1_oext0_2).bind fun x5_2 =>
    if (x5_2 == 0) then
    (some (l1_oloc5, l1_oext0_1, l1_oext0_2)).map .inr
    else
    (expr_reader_look k l l1_oext0_1 l1_oext0_2).bind fun x7_1 =>
    (expr_reader_level k (IntKind.i64.wrap (q + 1)) l (IntKind.i64.wrap (l1_oext0_1 + 1)) l1_oext0_2).bind fun (x9_4_0, x9_4_1, x9_4_2) =>
    if (q == 3) then
    (some ((TNode.mk 16 x7_1.At x5_2 [] [l1_oloc5, x9_4_0]), x9_4_1, x9_4_2)).map .inr
    else
    some (.inl (x9_4_1, x9_4_2, (TNode.mk 16 x7_1.At x5_2 [] [l1_oloc5, x9_4_0])))
    else
    (some (l1_oloc5, l1_oext0_1, l1_oext0_2)).map .inr
def rLevB (l : List TToken) (q : Int) (k : Nat) (s : Int × TNode) : Option ((Int × TNode) ⊕ (TNode × Int × Bool)) :=
  match s with
  | (l0_10, l0_oloc9) =>
    (ref13_sign k l l0_10 q).bind fun x6_3 =>
    if (x6_3 == 0) then
    some (.inr (l0_oloc9, l0_10, true))
    else
    (ref13_level k l (IntKind.i64.wrap (l0_10 + 1)) (IntKind.i64.wrap (q + 1))).bind fun (x9_5_0, x9_5_1, x9_5_2) =>
    if (!x9_5_2) then
    some (.inr ((TNode.mk 0 0 0 [] []), x9_5_1, false))
    else
    (ref13_Tok k l l0_10).bind fun x12_2 =>
    if (q == 3) then
    some (.inr ((TNode.mk 16 x12_2.At x6_3 [] [l0_oloc9, x9_5_0]), x9_5_1, true))
    else
    some (.inl (x9_5_1, (TNode.mk 16 x12_2.At x6_3 [] [l0_oloc9, x9_5_0])))
theorem eLev_eq (k : Nat) (l : List TToken) (i q : Int) : expr_reader_level (k + 1) q l i false = (if (q == 6) then (expr_reader_factor k l i false) else (expr_reader_level k (IntKind.i64.wrap (q + 1)) l i false).bind fun (a, b, c) => loopM k (eLevB l q k) (b, c, a)) := by
  rw [expr_reader_level]
  simp only [joinK, bind_same]
  rfl
theorem rLev_eq (k : Nat) (l : List TToken) (i q : Int) : ref13_level (k + 1) l i q = (if (decide (q > 5)) then (ref13_factor k l i) else (ref13_level k l i (IntKind.i64.wrap (q + 1))).bind fun (a, b, c) => if (!c) then some (zN, b, false) else loopM k (rLevB l q k) (b, a)) := by
  rw [ref13_level]
  simp only [joinK, bind_same]
  rfl
theorem eLev_end (l : List TToken) (q p : Int) (n : TNode) : EvL (eLevB l q) (p, true, n) (n, p, true) := EvL.done (by simp only [eLevB]; simp only [look_eq, Tok_eq, is_eq, takes_eq, takes_bad, wants_eq, wants_bad, name_eq, name_bad, Is_eq, Says_eq, Option.bind_some, Option.map_some, joinK, Bool.not_true, Bool.not_false, Bool.false_eq_true, Bool.or_true, Bool.true_or, Bool.false_or, Bool.or_false, Bool.and_true, Bool.and_false, Bool.true_and, Bool.false_and, ↓reduceIte, if_true, if_false, eq_self, Int.reduceBEq, Int.reduceBNe, bne_self_eq_false, beq_self_eq_true]; exact Ev.pure)
theorem lev_loop {l : List TToken} (W : WF l) {i : Int} (H : IH l i) (q : Int) (hq1 : 1 ≤ q) (hq5 : q ≤ 5) : ∀ (n : Nat) (p : Int) (x : TNode), (l.length : Int) - p ≤ n → i < p → p < l.length → GEx x →
    ∃ a j b ok, EvL (eLevB l q) (p, false, x) (a, j, !ok) ∧ EvL (rLevB l q) (p, x) (b, j, ok) ∧ (ok = true → a = b ∧ p ≤ j ∧ j < l.length ∧ GEx b) ∧ (ok = false → b = zN) := by
  have hw : IntKind.i64.wrap (q + 1) = q + 1 := wrap64_id (by omega) (by omega)
  intro n
  induction n using Nat.strongRecOn with
  | _ n ih =>
  intro p x hn hp hpl hg
  obtain ⟨s, s1, s2, s3⟩ := sign_both l p q
  by_cases h0 : s = 0
  · subst h0
    refine ⟨x, p, x, true, EvL.done ?_, EvL.done ?_, fun _ => ⟨rfl, by omega, hpl, hg⟩, fun h => by cases h⟩
    · simp only [eLevB]; simp only [look_eq, Tok_eq, is_eq, takes_eq, takes_bad, wants_eq, wants_bad, name_eq, name_bad, Is_eq, Says_eq, Option.bind_some, Option.map_some, joinK, Bool.not_true, Bool.not_false, Bool.false_eq_true, Bool.or_true, Bool.true_or, Bool.false_or, Bool.or_false, Bool.and_true, Bool.and_false, Bool.true_and, Bool.false_and, ↓reduceIte, if_true, if_false, eq_self, Int.reduceBEq, Int.reduceBNe, bne_self_eq_false, beq_self_eq_true]
      refine Ev.bind s1 ?_
      simp only [look_eq, Tok_eq, is_eq, takes_eq, takes_bad, wants_eq, wants_bad, name_eq, name_bad, Is_eq, Says_eq, Option.bind_some, Option.map_some, joinK, Bool.not_true, Bool.not_false, Bool.false_eq_true, Bool.or_true, Bool.true_or, Bool.false_or, Bool.or_false, Bool.and_true, Bool.and_false, Bool.true_and, Bool.false_and, ↓reduceIte, if_true, if_false, eq_self, Int.reduceBEq, Int.reduceBNe, bne_self_eq_false, beq_self_eq_true]; exact Ev.pure
    · simp only [rLevB]
      refine Ev.bind s2 ?_
      simp only [look_eq, Tok_eq, is_eq, takes_eq, takes_bad, wants_eq, wants_bad, name_eq, name_bad, Is_eq, Says_eq, Option.bind_some, Option.map_some, joinK, Bool.not_true, Bool.not_false, Bool.false_eq_true, Bool.or_true, Bool.true_or, Bool.false_or, Bool.or_false, Bool.and_true, Bool.and_false, Bool.true_and, Bool.false_and, ↓reduceIte, if_true, if_false, eq_self, Int.reduceBEq, Int.reduceBNe, bne_self_eq_false, beq_self_eq_true]; exact Ev.pure
  · have h0b : (s == 0) = false := by simpa using h0
    obtain ⟨hk, hb⟩ := s3 h0
    obtain ⟨n1, n2, n3⟩ := W.next (i := p) (by omega)
    obtain ⟨a, j, b, ok, e1, e2, e3, e4⟩ := H.lev (q + 1) (by omega) (by omega) (p + 1) (by omega) (by omega)
    by_cases h3 : q = 3
    · have h3b : (q == 3) = true := by simpa using h3
      have E : EvL (eLevB l q) (p, false, x) (⟨16, (tk l p).At, s, [], [x, a]⟩, j, !ok) := by
        refine EvL.done ?_
        simp only [eLevB]; simp only [look_eq, Tok_eq, is_eq, takes_eq, takes_bad, wants_eq, wants_bad, name_eq, name_bad, Is_eq, Says_eq, Option.bind_some, Option.map_some, joinK, Bool.not_true, Bool.not_false, Bool.false_eq_true, Bool.or_true, Bool.true_or, Bool.false_or, Bool.or_false, Bool.and_true, Bool.and_false, Bool.true_and, Bool.false_and, ↓reduceIte, if_true, if_false, eq_self, Int.reduceBEq, Int.reduceBNe, bne_self_eq_false, beq_self_eq_true]
        refine Ev.bind s1 ?_
        simp only [look_eq, Tok_eq, is_eq, takes_eq, takes_bad, wants_eq, wants_bad, name_eq, name_bad, Is_eq, Says_eq, Option.bind_some, Option.map_some, joinK, Bool.not_true, Bool.not_false, Bool.false_eq_true, Bool.or_true, Bool.true_or, Bool.false_or, Bool.or_false, Bool.and_true, Bool.and_false, Bool.true_and, Bool.false_and, ↓reduceIte, if_true, if_false, eq_self, Int.reduceBEq, Int.reduceBNe, bne_self_eq_false, beq_self_eq_true, h0b, hw, n3]
        refine Ev.bind e1 ?_
        simp only [look_eq, Tok_eq, is_eq, takes_eq, takes_bad, wants_eq, wants_bad, name_eq, name_bad, Is_eq, Says_eq, Option.bind_some, Option.map_some, joinK, Bool.not_true, Bool.not_false, Bool.false_eq_true, Bool.or_true, Bool.true_or, Bool.false_or, Bool.or_false, Bool.and_true, Bool.and_false, Bool.true_and, Bool.false_and, ↓reduceIte, if_true, if_false, eq_self, Int.reduceBEq, Int.reduceBNe, bne_self_eq_false, beq_self_eq_true, h3b]; exact Ev.pure
      have Rr : EvL (rLevB l q) (p, x) (if ok then ⟨16, (tk l p).At, s, [], [x, b]⟩ else zN, j, ok) := by
        refine EvL.done ?_
        simp only [rLevB]
        refine Ev.bind s2 ?_
        simp only [look_eq, Tok_eq, is_eq, takes_eq, takes_bad, wants_eq, wants_bad, name_eq, name_bad, Is_eq, Says_eq, Option.bind_some, Option.map_some, joinK, Bool.not_true, Bool.not_false, Bool.false_eq_true, Bool.or_true, Bool.true_or, Bool.false_or, Bool.or_false, Bool.and_true, Bool.and_false, Bool.true_and, Bool.false_and, ↓reduceIte, if_true, if_false, eq_self, Int.reduceBEq, Int.reduceBNe, bne_self_eq_false, beq_self_eq_true, h0b, hw, n3]
        refine Ev.bind e2 ?_
        cases ok
        · simp only [look_eq, Tok_eq, is_eq, takes_eq, takes_bad, wants_eq, wants_bad, name_eq, name_bad, Is_eq, Says_eq, Option.bind_some, Option.map_some, joinK, Bool.not_true, Bool.not_false, Bool.false_eq_true, Bool.or_true, Bool.true_or, Bool.false_or, Bool.or_false, Bool.and_true, Bool.and_false, Bool.true_and, Bool.false_and, ↓reduceIte, if_true, if_false, eq_self, Int.reduceBEq, Int.reduceBNe, bne_self_eq_false, beq_self_eq_true]; exact Ev.pure
        · simp only [look_eq, Tok_eq, is_eq, takes_eq, takes_bad, wants_eq, wants_bad, name_eq, name_bad, Is_eq, Says_eq, Option.bind_some, Option.map_some, joinK, Bool.not_true, Bool.not_false, Bool.false_eq_true, Bool.or_true, Bool.true_or, Bool.false_or, Bool.or_false, Bool.and_true, Bool.and_false, Bool.true_and, Bool.false_and, ↓reduceIte, if_true, if_false, eq_self, Int.reduceBEq, Int.reduceBNe, bne_self_eq_false, beq_self_eq_true, h3b]; exact Ev.pure
      refine ⟨_, j, _, ok, E, Rr, fun h => ?_, fun h => by subst h; rfl⟩
      subst h
      obtain ⟨rfl, q2, q3, q4⟩ := e3 rfl
      exact ⟨rfl, by omega, q3, ⟨ge_bin _ hb (by omega) hg.ge q4.ge, wide2 hg.wide q4.wide⟩⟩
    · have h3b : (q == 3) = false := by simpa using h3
      have E : Ev (fun k => eLevB l q k (p, false, x)) (.inl (j, !ok, ⟨16, (tk l p).At, s, [], [x, a]⟩)) := by
        simp only [eLevB]; simp only [look_eq, Tok_eq, is_eq, takes_eq, takes_bad, wants_eq, wants_bad, name_eq, name_bad, Is_eq, Says_eq, Option.bind_some, Option.map_some, joinK, Bool.not_true, Bool.not_false, Bool.false_eq_true, Bool.or_true, Bool.true_or, Bool.false_or, Bool.or_false, Bool.and_true, Bool.and_false, Bool.true_and, Bool.false_and, ↓reduceIte, if_true, if_false, eq_self, Int.reduceBEq, Int.reduceBNe, bne_self_eq_false, beq_self_eq_true]
        refine Ev.bind s1 ?_
        simp only [look_eq, Tok_eq, is_eq, takes_eq, takes_bad, wants_eq, wants_bad, name_eq, name_bad, Is_eq, Says_eq, Option.bind_some, Option.map_some, joinK, Bool.not_true, Bool.not_false, Bool.false_eq_true, Bool.or_true, Bool.true_or, Bool.false_or, Bool.or_false, Bool.and_true, Bool.and_false, Bool.true_and, Bool.false_and, ↓reduceIte, if_true, if_false, eq_self, Int.reduceBEq, Int.reduceBNe, bne_self_eq_false, beq_self_eq_true, h0b, hw, n3]
        refine Ev.bind e1 ?_
        simp only [look_eq, Tok_eq, is_eq, takes_eq, takes_bad, wants_eq, wants_bad, name_eq, name_bad, Is_eq, Says_eq, Option.bind_some, Option.map_some, joinK, Bool.not_true, Bool.not_false, Bool.false_eq_true, Bool.or_true, Bool.true_or, Bool.false_or, Bool.or_false, Bool.and_true, Bool.and_false, Bool.true_and, Bool.false_and, ↓reduceIte, if_true, if_false, eq_self, Int.reduceBEq, Int.reduceBNe, bne_self_eq_false, beq_self_eq_true, h3b]; exact Ev.pure
      cases ok with
      | false =>
        refine ⟨_, j, zN, false, EvL.step E (eLev_end _ _ _ _), EvL.done ?_, (fun h => by cases h), fun _ => rfl⟩
        simp only [rLevB]
        refine Ev.bind s2 ?_
        simp only [look_eq, Tok_eq, is_eq, takes_eq, takes_bad, wants_eq, wants_bad, name_eq, name_bad, Is_eq, Says_eq, Option.bind_some, Option.map_some, joinK, Bool.not_true, Bool.not_false, Bool.false_eq_true, Bool.or_true, Bool.true_or, Bool.false_or, Bool.or_false, Bool.and_true, Bool.and_false, Bool.true_and, Bool.false_and, ↓reduceIte, if_true, if_false, eq_self, Int.reduceBEq, Int.reduceBNe, bne_self_eq_false, beq_self_eq_true, h0b, hw, n3]
        refine Ev.bind e2 ?_
        simp only [look_eq, Tok_eq, is_eq, takes_eq, takes_bad, wants_eq, wants_bad, name_eq, name_bad, Is_eq, Says_eq, Option.bind_some, Option.map_some, joinK, Bool.not_true, Bool.not_false, Bool.false_eq_true, Bool.or_true, Bool.true_or, Bool.false_or, Bool.or_false, Bool.and_true, Bool.and_false, Bool.true_and, Bool.false_and, ↓reduceIte, if_true, if_false, eq_self, Int.reduceBEq, Int.reduceBNe, bne_self_eq_false, beq_self_eq_true]; exact Ev.pure
      | true =>
        obtain ⟨rfl, q2, q3, q4⟩ := e3 rfl
        obtain ⟨a', j', b', ok', f1, f2, f3, f4⟩ := ih (n - 1) (by omega) j ⟨16, (tk l p).At, s, [], [x, a]⟩ (by omega) (by omega) (by omega) ⟨ge_bin _ hb (by omega) hg.ge q4.ge, wide2 hg.wide q4.wide⟩
        refine ⟨a', j', b', ok', EvL.step E f1, EvL.step (s' := (j, ⟨16, (tk l p).At, s, [], [x, a]⟩)) ?_ f2, fun h => ?_, f4⟩
        · simp only [rLevB]
          refine Ev.bind s2 ?_
          simp only [look_eq, Tok_eq, is_eq, takes_eq, takes_bad, wants_eq, wants_bad, name_eq, name_bad, Is_eq, Says_eq, Option.bind_some, Option.map_some, joinK, Bool.not_true, Bool.not_false, Bool.false_eq_true, Bool.or_true, Bool.true_or, Bool.false_or, Bool.or_false, Bool.and_true, Bool.and_false, Bool.true_and, Bool.false_and, ↓reduceIte, if_true, if_false, eq_self, Int.reduceBEq, Int.reduceBNe, bne_self_eq_false, beq_self_eq_true, h0b, hw, n3]
          refine Ev.bind e2 ?_
          simp only [look_eq, Tok_eq, is_eq, takes_eq, takes_bad, wants_eq, wants_bad, name_eq, name_bad, Is_eq, Says_eq, Option.bind_some, Option.map_some, joinK, Bool.not_true, Bool.not_false, Bool.false_eq_true, Bool.or_true, Bool.true_or, Bool.false_or, Bool.or_false, Bool.and_true, Bool.and_false, Bool.true_and, Bool.false_and, ↓reduceIte, if_true, if_false, eq_self, Int.reduceBEq, Int.reduceBNe, bne_self_eq_false, beq_self_eq_true, h3b]; exact Ev.pure
        · obtain ⟨g1, g2, g3, g4⟩ := f3 h
          exact ⟨g1, by omega, g3, g4⟩
theorem level_R {l : List TToken} (W : WF l) {i : Int} (H : IH l i) : ∀ (d : Nat) (q : Int), q + d = 6 → 1 ≤ q → R GEx l i (eLevel l i q) (rLevel l i q)
  | 0, q, e, h => by
    have e : q = 6 := by omega
    subst e
    obtain ⟨a, j, b, ok, e1, e2, e3, e4⟩ := factor_R W H
    refine ⟨a, j, b, ok, Ev.succ1 ?_, Ev.succ1 ?_, e3, e4⟩
    · simp only [eLevel, eLev_eq]; simp only [look_eq, Tok_eq, is_eq, takes_eq, takes_bad, wants_eq, wants_bad, name_eq, name_bad, Is_eq, Says_eq, Option.bind_some, Option.map_some, joinK, Bool.not_true, Bool.not_false, Bool.false_eq_true, Bool.or_true, Bool.true_or, Bool.false_or, Bool.or_false, Bool.and_true, Bool.and_false, Bool.true_and, Bool.false_and, ↓reduceIte, if_true, if_false, eq_self, Int.reduceBEq, Int.reduceBNe, bne_self_eq_false, beq_self_eq_true]; exact e1
    · simp only [rLevel, rLev_eq]; simp only [look_eq, Tok_eq, is_eq, takes_eq, takes_bad, wants_eq, wants_bad, name_eq, name_bad, Is_eq, Says_eq, Option.bind_some, Option.map_some, joinK, Bool.not_true, Bool.not_false, Bool.false_eq_true, Bool.or_true, Bool.true_or, Bool.false_or, Bool.or_false, Bool.and_true, Bool.and_false, Bool.true_and, Bool.false_and, ↓reduceIte, if_true, if_false, eq_self, Int.reduceBEq, Int.reduceBNe, bne_self_eq_false, beq_self_eq_true, show decide ((6 : Int) > 5) = true from rfl]; exact e2
  | d + 1, q, e, h => by
    have h6 : (q == 6) = false := by simp; omega
    have h5 : decide (q > 5) = false := by simp; omega
    have hw : IntKind.i64.wrap (q + 1) = q + 1 := wrap64_id (by omega) (by omega)
    obtain ⟨a, j, b, ok, e1, e2, e3, e4⟩ := level_R W H d (q + 1) (by omega) (by omega)
    cases ok with
    | false =>
      refine R.bad (j := j) (n := a) (Ev.succ1 ?_) (Ev.succ1 ?_)
      · simp only [eLevel, eLev_eq]; simp only [look_eq, Tok_eq, is_eq, takes_eq, takes_bad, wants_eq, wants_bad, name_eq, name_bad, Is_eq, Says_eq, Option.bind_some, Option.map_some, joinK, Bool.not_true, Bool.not_false, Bool.false_eq_true, Bool.or_true, Bool.true_or, Bool.false_or, Bool.or_false, Bool.and_true, Bool.and_false, Bool.true_and, Bool.false_and, ↓reduceIte, if_true, if_false, eq_self, Int.reduceBEq, Int.reduceBNe, bne_self_eq_false, beq_self_eq_true, h6, hw]
        refine Ev.bind e1 ?_
        exact Ev.loop (eLev_end _ _ _ _)
      · simp only [rLevel, rLev_eq]; simp only [look_eq, Tok_eq, is_eq, takes_eq, takes_bad, wants_eq, wants_bad, name_eq, name_bad, Is_eq, Says_eq, Option.bind_some, Option.map_some, joinK, Bool.not_true, Bool.not_false, Bool.false_eq_true, Bool.or_true, Bool.true_or, Bool.false_or, Bool.or_false, Bool.and_true, Bool.and_false, Bool.true_and, Bool.false_and, ↓reduceIte, if_true, if_false, eq_self, Int.reduceBEq, Int.reduceBNe, bne_self_eq_false, beq_self_eq_true, h5, hw]
        refine Ev.bind e2 ?_
        simp only [look_eq, Tok_eq, is_eq, takes_eq, takes_bad, wants_eq, wants_bad, name_eq, name_bad, Is_eq, Says_eq, Option.bind_some, Option.map_some, joinK, Bool.not_true, Bool.not_false, Bool.false_eq_true, Bool.or_true, Bool.true_or, Bool.false_or, Bool.or_false, Bool.and_true, Bool.and_false, Bool.true_and, Bool.false_and, ↓reduceIte, if_true, if_false, eq_self, Int.reduceBEq, Int.reduceBNe, bne_self_eq_false, beq_self_eq_true]; exact Ev.pure
    | true =>
      obtain ⟨rfl, q2, q3, q4⟩ := e3 rfl
      obtain ⟨a', j', b', ok', f1, f2, f3, f4⟩ := lev_loop W H q h (by omega) (l.length - j).toNat j a (by omega) q2 q3 q4
      refine ⟨a', j', b', ok', Ev.succ1 ?_, Ev.succ1 ?_, fun h => ?_, f4⟩
      · simp only [eLevel, eLev_eq]; simp only [look_eq, Tok_eq, is_eq, takes_eq, takes_bad, wants_eq, wants_bad, name_eq, name_bad, Is_eq, Says_eq, Option.bind_some, Option.map_some, joinK, Bool.not_true, Bool.not_false, Bool.false_eq_true, Bool.or_true, Bool.true_or, Bool.false_or, Bool.or_false, Bool.and_true, Bool.and_false, Bool.true_and, Bool.false_and, ↓reduceIte, if_true, if_false, eq_self, Int.reduceBEq, Int.reduceBNe, bne_self_eq_false, beq_self_eq_true, h6, hw]
        refine Ev.bind e1 ?_
        exact Ev.loop f1
      · simp only [rLevel, rLev_eq]; simp only [look_eq, Tok_eq, is_eq, takes_eq, takes_bad, wants_eq, wants_bad, name_eq, name_bad, Is_eq, Says_eq, Option.bind_some, Option.map_some, joinK, Bool.not_true, Bool.not_false, Bool.false_eq_true, Bool.or_true, Bool.true_or, Bool.false_or, Bool.or_false, Bool.and_true, Bool.and_false, Bool.true_and, Bool.false_and, ↓reduceIte, if_true, if_false, eq_self, Int.reduceBEq, Int.reduceBNe, bne_self_eq_false, beq_self_eq_true, h5, hw]
        refine Ev.bind e2 ?_
        simp only [look_eq, Tok_eq, is_eq, takes_eq, takes_bad, wants_eq, wants_bad, name_eq, name_bad, Is_eq, Says_eq, Option.bind_some, Option.map_some, joinK, Bool.not_true, Bool.not_false, Bool.false_eq_true, Bool.or_true, Bool.true_or, Bool.false_or, Bool.or_false, Bool.and_true, Bool.and_false, Bool.true_and, Bool.false_and, ↓reduceIte, if_true, if_false, eq_self, Int.reduceBEq, Int.reduceBNe, bne_self_eq_false, beq_self_eq_true]; exact Ev.loop f2
      · obtain ⟨g1, g2, g3, g4⟩ := f3 h
        exact ⟨g1, by omega, g3, g4⟩
theorem ih_all {l : List TToken} (W : WF l) : ∀ (n : Nat) (i : Int), (l.length : Int) - i ≤ n → IH l i := by
  intro n
  induction n with
  | zero =>
    intro i hi
    exact ⟨fun q a b j hj hl => by omega, fun j hj hl => by omega⟩
  | succ n ih =>
    intro i hi
    refine ⟨fun q a b j hj hl => ?_, fun j hj hl => ?_⟩
    · exact level_R W (ih j (by omega)) (6 - q).toNat q (by omega) a
    · exact factor_R W (ih j (by omega))
theorem ih_at {l : List TToken} (W : WF l) (i : Int) : IH l i := ih_all W (l.length - i).toNat i (by omega)
/-- Expressions at any place: alike. -/
theorem expr_all {l : List TToken} (W : WF l) (i : Int) : R GEx l i (eLevel l i 1) (rExpr l i) := by
  obtain ⟨a, j, b, ok, e1, e2, e3, e4⟩ := level_R W (ih_at W i) 5 1 (by omega) (by omega)
  exact ⟨a, j, b, ok, e1, expr_of e2, e3, e4⟩
theorem args_all {l : List TToken} (W : WF l) (i : Int) : RA l i := args_R W (ih_at W i)
end Go.Proofs.YtbhncegmohnfhaaDoor.F
