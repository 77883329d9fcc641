/- First parts, parts, factors and levels: what the reader tells and what the document tells are alike. No condition. -/
import Derived.Test.YtbhncegmohnfhaaDoorZPExpr2
set_option linter.unusedVariables false
set_option linter.unusedSimpArgs false
set_option maxRecDepth 100000
set_option maxHeartbeats 4000000
namespace Go.Proofs.YtbhncegmohnfhaaDoor.F
open Go

theorem wideA {k a n : Int} {s : List UInt8} {l : List TNode} (h : GAr l) : Wide ⟨k, a, n, s, l⟩ := wideL (fun x hx => (h.all x hx).wide) (by have := h.len; omega)
theorem says_no {t : TToken} {s : List UInt8} (h : t.Kind ≠ 3) : isT t 3 s = false := isT_ne h
theorem mark_no {t : TToken} {s : List UInt8} (h : t.Kind ≠ 4) : isT t 4 s = false := isT_ne h
/-- A name and its arguments. -/
theorem named_R {l : List TToken} (W : WF l) {i : Int} (H : IH l i) {p : Int} (hp : i ≤ p) (kd a : Int) (hk : (tk l p).Kind = 1) :
    ∃ n j m ok, Ev (fun k => expr_reader_args k l (p + 1) false) (n, j, !ok) ∧ Ev (fun k => ref13_named k l p kd a) (if ok then ⟨kd, a, 0, (tk l p).Text, n⟩ else zN, j, ok) ∧ (ok = true → p < j ∧ j < l.length ∧ GAr n) ∧ (ok = false → m = zN) := by
  obtain ⟨n1, n2, n3⟩ := W.next (i := p) (by omega)
  obtain ⟨x, j, y, ok, f1, f2, f3, f4⟩ := args_R W (H.mono (j := p + 1) (by omega))
  refine ⟨x, j, zN, ok, f1, Ev.succ1 ?_, fun h => ?_, fun _ => rfl⟩
  · simp only [ref13_named]; simp only [look_eq, Tok_eq, is_eq, takes_eq, takes_bad, wants_eq, wants_bad, name_eq, name_bad, Is_eq, Says_eq, Option.bind_some, Option.map_some, joinK, Bool.not_true, Bool.not_false, Bool.false_eq_true, Bool.or_true, Bool.true_or, Bool.false_or, Bool.or_false, Bool.and_true, Bool.and_false, Bool.true_and, Bool.false_and, ↓reduceIte, if_true, if_false, eq_self, Int.reduceBEq, Int.reduceBNe, bne_self_eq_false, beq_self_eq_true, hk, n3]
    refine Ev.bind f2 ?_
    cases ok
    · simp only [look_eq, Tok_eq, is_eq, takes_eq, takes_bad, wants_eq, wants_bad, name_eq, name_bad, Is_eq, Says_eq, Option.bind_some, Option.map_some, joinK, Bool.not_true, Bool.not_false, Bool.false_eq_true, Bool.or_true, Bool.true_or, Bool.false_or, Bool.or_false, Bool.and_true, Bool.and_false, Bool.true_and, Bool.false_and, ↓reduceIte, if_true, if_false, eq_self, Int.reduceBEq, Int.reduceBNe, bne_self_eq_false, beq_self_eq_true]; exact Ev.pure
    · obtain ⟨rfl, _⟩ := f3 rfl
      simp only [look_eq, Tok_eq, is_eq, takes_eq, takes_bad, wants_eq, wants_bad, name_eq, name_bad, Is_eq, Says_eq, Option.bind_some, Option.map_some, joinK, Bool.not_true, Bool.not_false, Bool.false_eq_true, Bool.or_true, Bool.true_or, Bool.false_or, Bool.or_false, Bool.and_true, Bool.and_false, Bool.true_and, Bool.false_and, ↓reduceIte, if_true, if_false, eq_self, Int.reduceBEq, Int.reduceBNe, bne_self_eq_false, beq_self_eq_true]; exact Ev.pure
  · obtain ⟨rfl, g2, g3, g4⟩ := f3 h
    exact ⟨by omega, g3, g4⟩
theorem first_R {l : List TToken} (W : WF l) {i : Int} (H : IH l i) : R GEx l i (eFirst l i) (rFirst l i) := by
  by_cases k2 : (tk l i).Kind = 2
  · obtain ⟨n1, n2, n3⟩ := W.next (i := i) (by omega)
    refine R.good (j := i + 1) (n := ⟨10, (tk l i).At, (tk l i).N, [], []⟩) (Ev.succ1 ?_) (Ev.succ1 ?_) ⟨by omega, n2⟩ ⟨ge_num _ (W.nums i k2), wide0⟩
    · simp only [eFirst, expr_reader_first]; simp only [look_eq, Tok_eq, is_eq, takes_eq, takes_bad, wants_eq, wants_bad, name_eq, name_bad, Is_eq, Says_eq, Option.bind_some, Option.map_some, joinK, Bool.not_true, Bool.not_false, Bool.false_eq_true, Bool.or_true, Bool.true_or, Bool.false_or, Bool.or_false, Bool.and_true, Bool.and_false, Bool.true_and, Bool.false_and, ↓reduceIte, if_true, if_false, eq_self, Int.reduceBEq, Int.reduceBNe, bne_self_eq_false, beq_self_eq_true, k2, n3]; exact Ev.pure
    · simp only [rFirst, ref13_first]; simp only [look_eq, Tok_eq, is_eq, takes_eq, takes_bad, wants_eq, wants_bad, name_eq, name_bad, Is_eq, Says_eq, Option.bind_some, Option.map_some, joinK, Bool.not_true, Bool.not_false, Bool.false_eq_true, Bool.or_true, Bool.true_or, Bool.false_or, Bool.or_false, Bool.and_true, Bool.and_false, Bool.true_and, Bool.false_and, ↓reduceIte, if_true, if_false, eq_self, Int.reduceBEq, Int.reduceBNe, bne_self_eq_false, beq_self_eq_true, k2, n3]; exact Ev.pure
  by_cases k1 : (tk l i).Kind = 1
  · obtain ⟨n1, n2, n3⟩ := W.next (i := i) (by omega)
    have sn : ∀ s, isT (tk l i) 3 s = false := fun s => isT_ne (by omega)
    by_cases h1 : isT (tk l (i + 1)) 4 [40] = true
    · obtain ⟨x, j, y, ok, f1, f2, f3, f4⟩ := named_R W H (p := i) (by omega) 17 (tk l i).At k1
      have E : Ev (eFirst l i) (⟨17, (tk l i).At, 0, (tk l i).Text, x⟩, j, !ok) := by
        refine Ev.succ1 ?_
        simp only [eFirst, expr_reader_first]; simp only [look_eq, Tok_eq, is_eq, takes_eq, takes_bad, wants_eq, wants_bad, name_eq, name_bad, Is_eq, Says_eq, Option.bind_some, Option.map_some, joinK, Bool.not_true, Bool.not_false, Bool.false_eq_true, Bool.or_true, Bool.true_or, Bool.false_or, Bool.or_false, Bool.and_true, Bool.and_false, Bool.true_and, Bool.false_and, ↓reduceIte, if_true, if_false, eq_self, Int.reduceBEq, Int.reduceBNe, bne_self_eq_false, beq_self_eq_true, k1, n3, h1]
        refine Ev.bind f1 ?_
        simp only [look_eq, Tok_eq, is_eq, takes_eq, takes_bad, wants_eq, wants_bad, name_eq, name_bad, Is_eq, Says_eq, Option.bind_some, Option.map_some, joinK, Bool.not_true, Bool.not_false, Bool.false_eq_true, Bool.or_true, Bool.true_or, Bool.false_or, Bool.or_false, Bool.and_true, Bool.and_false, Bool.true_and, Bool.false_and, ↓reduceIte, if_true, if_false, eq_self, Int.reduceBEq, Int.reduceBNe, bne_self_eq_false, beq_self_eq_true]; exact Ev.pure
      have Rr : Ev (rFirst l i) (if ok then ⟨17, (tk l i).At, 0, (tk l i).Text, x⟩ else zN, j, ok) := by
        refine Ev.succ1 ?_
        simp only [rFirst, ref13_first]; simp only [look_eq, Tok_eq, is_eq, takes_eq, takes_bad, wants_eq, wants_bad, name_eq, name_bad, Is_eq, Says_eq, Option.bind_some, Option.map_some, joinK, Bool.not_true, Bool.not_false, Bool.false_eq_true, Bool.or_true, Bool.true_or, Bool.false_or, Bool.or_false, Bool.and_true, Bool.and_false, Bool.true_and, Bool.false_and, ↓reduceIte, if_true, if_false, eq_self, Int.reduceBEq, Int.reduceBNe, bne_self_eq_false, beq_self_eq_true, k1, n3, h1, sn]
        refine Ev.bind f2 ?_
        simp only [look_eq, Tok_eq, is_eq, takes_eq, takes_bad, wants_eq, wants_bad, name_eq, name_bad, Is_eq, Says_eq, Option.bind_some, Option.map_some, joinK, Bool.not_true, Bool.not_false, Bool.false_eq_true, Bool.or_true, Bool.true_or, Bool.false_or, Bool.or_false, Bool.and_true, Bool.and_false, Bool.true_and, Bool.false_and, ↓reduceIte, if_true, if_false, eq_self, Int.reduceBEq, Int.reduceBNe, bne_self_eq_false, beq_self_eq_true]; exact Ev.pure
      cases ok with
      | false => exact R.bad E Rr
      | true =>
        obtain ⟨g1, g2, g3⟩ := f3 rfl
        exact R.good E Rr ⟨g1, g2⟩ ⟨ge_named _ _ (W.names i k1) (fun n hn => (g3.all n hn).ge) (by have := g3.len; omega) (by omega), wideA g3⟩
    · have h1 : isT (tk l (i + 1)) 4 [40] = false := by simpa using h1
      refine R.good (j := i + 1) (n := ⟨12, (tk l i).At, 0, (tk l i).Text, []⟩) (Ev.succ1 ?_) (Ev.succ1 ?_) ⟨by omega, n2⟩ ⟨ge_named _ _ (W.names i k1) (by simp) (by simp) (.inl ⟨rfl, rfl⟩), wide0⟩
      · simp only [eFirst, expr_reader_first]; simp only [look_eq, Tok_eq, is_eq, takes_eq, takes_bad, wants_eq, wants_bad, name_eq, name_bad, Is_eq, Says_eq, Option.bind_some, Option.map_some, joinK, Bool.not_true, Bool.not_false, Bool.false_eq_true, Bool.or_true, Bool.true_or, Bool.false_or, Bool.or_false, Bool.and_true, Bool.and_false, Bool.true_and, Bool.false_and, ↓reduceIte, if_true, if_false, eq_self, Int.reduceBEq, Int.reduceBNe, bne_self_eq_false, beq_self_eq_true, k1, n3, h1]; exact Ev.pure
      · simp only [rFirst, ref13_first]; simp only [look_eq, Tok_eq, is_eq, takes_eq, takes_bad, wants_eq, wants_bad, name_eq, name_bad, Is_eq, Says_eq, Option.bind_some, Option.map_some, joinK, Bool.not_true, Bool.not_false, Bool.false_eq_true, Bool.or_true, Bool.true_or, Bool.false_or, Bool.or_false, Bool.and_true, Bool.and_false, Bool.true_and, Bool.false_and, ↓reduceIte, if_true, if_false, eq_self, Int.reduceBEq, Int.reduceBNe, bne_self_eq_false, beq_self_eq_true, k1, n3, h1, sn]; exact Ev.pure
  have b2 : ((tk l i).Kind == 2) = false := by simpa using k2
  have b1 : ((tk l i).Kind == 1) = false := by simpa using k1
  by_cases k3 : (tk l i).Kind = 3
  · obtain ⟨n1, n2, n3⟩ := W.next (i := i) (by omega)
    have mn : ∀ s, isT (tk l i) 4 s = false := fun s => isT_ne (by omega)
    have b3 : ((tk l i).Kind == 3) = true := by simpa using k3
    have sy : ∀ s, isT (tk l i) 3 s = ((tk l i).Text == s) := fun s => by unfold isT; rw [b3]; rfl
    have E : ∀ {x : TNode} {j : Int} {b : Bool}, Ev (fun k => expr_reader_word k ⟨0, (tk l i).At, 0, [], []⟩ (tk l i).Text l i false) (x, j, b) → Ev (eFirst l i) (x, j, b) := by
      intro x j b h
      refine Ev.succ1 ?_
      simp only [eFirst, expr_reader_first]; simp only [look_eq, Tok_eq, is_eq, takes_eq, takes_bad, wants_eq, wants_bad, name_eq, name_bad, Is_eq, Says_eq, Option.bind_some, Option.map_some, joinK, Bool.not_true, Bool.not_false, Bool.false_eq_true, Bool.or_true, Bool.true_or, Bool.false_or, Bool.or_false, Bool.and_true, Bool.and_false, Bool.true_and, Bool.false_and, ↓reduceIte, if_true, if_false, eq_self, Int.reduceBEq, Int.reduceBNe, bne_self_eq_false, beq_self_eq_true, b1, b2, mn, b3]
      refine Ev.bind h ?_
      simp only [look_eq, Tok_eq, is_eq, takes_eq, takes_bad, wants_eq, wants_bad, name_eq, name_bad, Is_eq, Says_eq, Option.bind_some, Option.map_some, joinK, Bool.not_true, Bool.not_false, Bool.false_eq_true, Bool.or_true, Bool.true_or, Bool.false_or, Bool.or_false, Bool.and_true, Bool.and_false, Bool.true_and, Bool.false_and, ↓reduceIte, if_true, if_false, eq_self, Int.reduceBEq, Int.reduceBNe, bne_self_eq_false, beq_self_eq_true]; exact Ev.pure
    by_cases w1 : (tk l i).Text = [116, 114, 117, 101]
    · refine R.good (j := i + 1) (n := ⟨11, (tk l i).At, 1, [], []⟩) (E (Ev.succ1 ?_)) (Ev.succ1 ?_) ⟨by omega, n2⟩ ⟨ge_flag _ (.inr rfl), wide0⟩
      · simp only [expr_reader_word]; simp only [look_eq, Tok_eq, is_eq, takes_eq, takes_bad, wants_eq, wants_bad, name_eq, name_bad, Is_eq, Says_eq, Option.bind_some, Option.map_some, joinK, Bool.not_true, Bool.not_false, Bool.false_eq_true, Bool.or_true, Bool.true_or, Bool.false_or, Bool.or_false, Bool.and_true, Bool.and_false, Bool.true_and, Bool.false_and, ↓reduceIte, if_true, if_false, eq_self, Int.reduceBEq, Int.reduceBNe, bne_self_eq_false, beq_self_eq_true, w1, n3]; exact Ev.pure
      · simp only [rFirst, ref13_first]; simp only [look_eq, Tok_eq, is_eq, takes_eq, takes_bad, wants_eq, wants_bad, name_eq, name_bad, Is_eq, Says_eq, Option.bind_some, Option.map_some, joinK, Bool.not_true, Bool.not_false, Bool.false_eq_true, Bool.or_true, Bool.true_or, Bool.false_or, Bool.or_false, Bool.and_true, Bool.and_false, Bool.true_and, Bool.false_and, ↓reduceIte, if_true, if_false, eq_self, Int.reduceBEq, Int.reduceBNe, bne_self_eq_false, beq_self_eq_true, b1, b2, sy, w1, n3]; exact Ev.pure
    have w1b : ((tk l i).Text == [116, 114, 117, 101]) = false := by simpa using w1
    by_cases w2 : (tk l i).Text = [102, 97, 108, 115, 101]
    · refine R.good (j := i + 1) (n := ⟨11, (tk l i).At, 0, [], []⟩) (E (Ev.succ1 ?_)) (Ev.succ1 ?_) ⟨by omega, n2⟩ ⟨ge_flag _ (.inl rfl), wide0⟩
      · simp only [expr_reader_word]; simp only [look_eq, Tok_eq, is_eq, takes_eq, takes_bad, wants_eq, wants_bad, name_eq, name_bad, Is_eq, Says_eq, Option.bind_some, Option.map_some, joinK, Bool.not_true, Bool.not_false, Bool.false_eq_true, Bool.or_true, Bool.true_or, Bool.false_or, Bool.or_false, Bool.and_true, Bool.and_false, Bool.true_and, Bool.false_and, ↓reduceIte, if_true, if_false, eq_self, Int.reduceBEq, Int.reduceBNe, bne_self_eq_false, beq_self_eq_true, w2, n3, show (([102, 97, 108, 115, 101] : List UInt8) == [116, 114, 117, 101]) = false from rfl]; exact Ev.pure
      · simp only [rFirst, ref13_first]; simp only [look_eq, Tok_eq, is_eq, takes_eq, takes_bad, wants_eq, wants_bad, name_eq, name_bad, Is_eq, Says_eq, Option.bind_some, Option.map_some, joinK, Bool.not_true, Bool.not_false, Bool.false_eq_true, Bool.or_true, Bool.true_or, Bool.false_or, Bool.or_false, Bool.and_true, Bool.and_false, Bool.true_and, Bool.false_and, ↓reduceIte, if_true, if_false, eq_self, Int.reduceBEq, Int.reduceBNe, bne_self_eq_false, beq_self_eq_true, b1, b2, sy, w2, n3, show (([102, 97, 108, 115, 101] : List UInt8) == [116, 114, 117, 101]) = false from rfl]; exact Ev.pure
    have w2b : ((tk l i).Text == [102, 97, 108, 115, 101]) = false := by simpa using w2
    by_cases w3 : (tk l i).Text = [102, 111, 114, 107]
    · have w3b : ((tk l i).Text == [102, 111, 114, 107]) = true := by rw [w3]; rfl
      by_cases kn : (tk l (i + 1)).Kind = 1
      · obtain ⟨x, j, y, ok, f1, f2, f3, f4⟩ := named_R W H (p := i + 1) (by omega) 18 (tk l i).At kn
        obtain ⟨m1, m2, m3⟩ := W.next (i := i + 1) (by omega)
        have E1 : Ev (eFirst l i) (⟨18, (tk l i).At, 0, (tk l (i + 1)).Text, x⟩, j, !ok) := by
          refine E (Ev.succ1 ?_)
          simp only [expr_reader_word]; simp only [look_eq, Tok_eq, is_eq, takes_eq, takes_bad, wants_eq, wants_bad, name_eq, name_bad, Is_eq, Says_eq, Option.bind_some, Option.map_some, joinK, Bool.not_true, Bool.not_false, Bool.false_eq_true, Bool.or_true, Bool.true_or, Bool.false_or, Bool.or_false, Bool.and_true, Bool.and_false, Bool.true_and, Bool.false_and, ↓reduceIte, if_true, if_false, eq_self, Int.reduceBEq, Int.reduceBNe, bne_self_eq_false, beq_self_eq_true, w1b, w2b, w3b, n3, kn, m3]
          refine Ev.bind f1 ?_
          simp only [look_eq, Tok_eq, is_eq, takes_eq, takes_bad, wants_eq, wants_bad, name_eq, name_bad, Is_eq, Says_eq, Option.bind_some, Option.map_some, joinK, Bool.not_true, Bool.not_false, Bool.false_eq_true, Bool.or_true, Bool.true_or, Bool.false_or, Bool.or_false, Bool.and_true, Bool.and_false, Bool.true_and, Bool.false_and, ↓reduceIte, if_true, if_false, eq_self, Int.reduceBEq, Int.reduceBNe, bne_self_eq_false, beq_self_eq_true]; exact Ev.pure
        have Rr : Ev (rFirst l i) (if ok then ⟨18, (tk l i).At, 0, (tk l (i + 1)).Text, x⟩ else zN, j, ok) := by
          refine Ev.succ1 ?_
          simp only [rFirst, ref13_first]; simp only [look_eq, Tok_eq, is_eq, takes_eq, takes_bad, wants_eq, wants_bad, name_eq, name_bad, Is_eq, Says_eq, Option.bind_some, Option.map_some, joinK, Bool.not_true, Bool.not_false, Bool.false_eq_true, Bool.or_true, Bool.true_or, Bool.false_or, Bool.or_false, Bool.and_true, Bool.and_false, Bool.true_and, Bool.false_and, ↓reduceIte, if_true, if_false, eq_self, Int.reduceBEq, Int.reduceBNe, bne_self_eq_false, beq_self_eq_true, b1, b2, sy, w1b, w2b, w3b, n3]
          refine Ev.bind f2 ?_
          simp only [look_eq, Tok_eq, is_eq, takes_eq, takes_bad, wants_eq, wants_bad, name_eq, name_bad, Is_eq, Says_eq, Option.bind_some, Option.map_some, joinK, Bool.not_true, Bool.not_false, Bool.false_eq_true, Bool.or_true, Bool.true_or, Bool.false_or, Bool.or_false, Bool.and_true, Bool.and_false, Bool.true_and, Bool.false_and, ↓reduceIte, if_true, if_false, eq_self, Int.reduceBEq, Int.reduceBNe, bne_self_eq_false, beq_self_eq_true]; exact Ev.pure
        cases ok with
        | false => exact R.bad E1 Rr
        | true =>
          obtain ⟨g1, g2, g3⟩ := f3 rfl
          exact R.good E1 Rr ⟨by omega, g2⟩ ⟨ge_named _ _ (W.names (i + 1) kn) (fun n hn => (g3.all n hn).ge) (by have := g3.len; omega) (by omega), wideA g3⟩
      · have knb : ((tk l (i + 1)).Kind != 1) = true := by simpa using kn
        refine R.bad (j := i + 1) (n := ⟨18, (tk l i).At, 0, [], []⟩) (E (Ev.succ1 ?_)) (Ev.succ1 ?_)
        · simp only [expr_reader_word]; simp only [look_eq, Tok_eq, is_eq, takes_eq, takes_bad, wants_eq, wants_bad, name_eq, name_bad, Is_eq, Says_eq, Option.bind_some, Option.map_some, joinK, Bool.not_true, Bool.not_false, Bool.false_eq_true, Bool.or_true, Bool.true_or, Bool.false_or, Bool.or_false, Bool.and_true, Bool.and_false, Bool.true_and, Bool.false_and, ↓reduceIte, if_true, if_false, eq_self, Int.reduceBEq, Int.reduceBNe, bne_self_eq_false, beq_self_eq_true, w1b, w2b, w3b, n3, knb]
          refine Ev.bind (args_bad l (i + 1)) ?_
          simp only [look_eq, Tok_eq, is_eq, takes_eq, takes_bad, wants_eq, wants_bad, name_eq, name_bad, Is_eq, Says_eq, Option.bind_some, Option.map_some, joinK, Bool.not_true, Bool.not_false, Bool.false_eq_true, Bool.or_true, Bool.true_or, Bool.false_or, Bool.or_false, Bool.and_true, Bool.and_false, Bool.true_and, Bool.false_and, ↓reduceIte, if_true, if_false, eq_self, Int.reduceBEq, Int.reduceBNe, bne_self_eq_false, beq_self_eq_true]; exact Ev.pure
        · simp only [rFirst, ref13_first]; simp only [look_eq, Tok_eq, is_eq, takes_eq, takes_bad, wants_eq, wants_bad, name_eq, name_bad, Is_eq, Says_eq, Option.bind_some, Option.map_some, joinK, Bool.not_true, Bool.not_false, Bool.false_eq_true, Bool.or_true, Bool.true_or, Bool.false_or, Bool.or_false, Bool.and_true, Bool.and_false, Bool.true_and, Bool.false_and, ↓reduceIte, if_true, if_false, eq_self, Int.reduceBEq, Int.reduceBNe, bne_self_eq_false, beq_self_eq_true, b1, b2, sy, w1b, w2b, w3b, n3]
          refine Ev.bind (x := (zN, i + 1, false)) (Ev.succ1 ?_) ?_
          · simp only [ref13_named]; simp only [look_eq, Tok_eq, is_eq, takes_eq, takes_bad, wants_eq, wants_bad, name_eq, name_bad, Is_eq, Says_eq, Option.bind_some, Option.map_some, joinK, Bool.not_true, Bool.not_false, Bool.false_eq_true, Bool.or_true, Bool.true_or, Bool.false_or, Bool.or_false, Bool.and_true, Bool.and_false, Bool.true_and, Bool.false_and, ↓reduceIte, if_true, if_false, eq_self, Int.reduceBEq, Int.reduceBNe, bne_self_eq_false, beq_self_eq_true, knb]; exact Ev.pure
          · simp only [look_eq, Tok_eq, is_eq, takes_eq, takes_bad, wants_eq, wants_bad, name_eq, name_bad, Is_eq, Says_eq, Option.bind_some, Option.map_some, joinK, Bool.not_true, Bool.not_false, Bool.false_eq_true, Bool.or_true, Bool.true_or, Bool.false_or, Bool.or_false, Bool.and_true, Bool.and_false, Bool.true_and, Bool.false_and, ↓reduceIte, if_true, if_false, eq_self, Int.reduceBEq, Int.reduceBNe, bne_self_eq_false, beq_self_eq_true]; exact Ev.pure
    have w3b : ((tk l i).Text == [102, 111, 114, 107]) = false := by simpa using w3
    by_cases w4 : (tk l i).Text = [110, 101, 119]
    · have w4b : ((tk l i).Text == [110, 101, 119]) = true := by rw [w4]; rfl
      obtain ⟨t, j, u, ok, e1, e2, e3, e4⟩ := type_all W (i + 1)
      cases ok with
      | false =>
        refine R.bad (j := j) (n := ⟨19, (tk l i).At, 0, [], [t] ++ []⟩) (E (Ev.succ1 ?_)) (Ev.succ1 ?_)
        · simp only [expr_reader_word]; simp only [look_eq, Tok_eq, is_eq, takes_eq, takes_bad, wants_eq, wants_bad, name_eq, name_bad, Is_eq, Says_eq, Option.bind_some, Option.map_some, joinK, Bool.not_true, Bool.not_false, Bool.false_eq_true, Bool.or_true, Bool.true_or, Bool.false_or, Bool.or_false, Bool.and_true, Bool.and_false, Bool.true_and, Bool.false_and, ↓reduceIte, if_true, if_false, eq_self, Int.reduceBEq, Int.reduceBNe, bne_self_eq_false, beq_self_eq_true, w1b, w2b, w3b, w4b, n3]
          refine Ev.bind e1 ?_
          simp only [look_eq, Tok_eq, is_eq, takes_eq, takes_bad, wants_eq, wants_bad, name_eq, name_bad, Is_eq, Says_eq, Option.bind_some, Option.map_some, joinK, Bool.not_true, Bool.not_false, Bool.false_eq_true, Bool.or_true, Bool.true_or, Bool.false_or, Bool.or_false, Bool.and_true, Bool.and_false, Bool.true_and, Bool.false_and, ↓reduceIte, if_true, if_false, eq_self, Int.reduceBEq, Int.reduceBNe, bne_self_eq_false, beq_self_eq_true]
          refine Ev.bind (args_bad l j) ?_
          simp only [look_eq, Tok_eq, is_eq, takes_eq, takes_bad, wants_eq, wants_bad, name_eq, name_bad, Is_eq, Says_eq, Option.bind_some, Option.map_some, joinK, Bool.not_true, Bool.not_false, Bool.false_eq_true, Bool.or_true, Bool.true_or, Bool.false_or, Bool.or_false, Bool.and_true, Bool.and_false, Bool.true_and, Bool.false_and, ↓reduceIte, if_true, if_false, eq_self, Int.reduceBEq, Int.reduceBNe, bne_self_eq_false, beq_self_eq_true, show room 64 ([t].length + ([] : List TNode).length) = true from rfl]; exact Ev.pure
        · simp only [rFirst, ref13_first]; simp only [look_eq, Tok_eq, is_eq, takes_eq, takes_bad, wants_eq, wants_bad, name_eq, name_bad, Is_eq, Says_eq, Option.bind_some, Option.map_some, joinK, Bool.not_true, Bool.not_false, Bool.false_eq_true, Bool.or_true, Bool.true_or, Bool.false_or, Bool.or_false, Bool.and_true, Bool.and_false, Bool.true_and, Bool.false_and, ↓reduceIte, if_true, if_false, eq_self, Int.reduceBEq, Int.reduceBNe, bne_self_eq_false, beq_self_eq_true, b1, b2, sy, w1b, w2b, w3b, w4b, n3]
          refine Ev.bind e2 ?_
          simp only [look_eq, Tok_eq, is_eq, takes_eq, takes_bad, wants_eq, wants_bad, name_eq, name_bad, Is_eq, Says_eq, Option.bind_some, Option.map_some, joinK, Bool.not_true, Bool.not_false, Bool.false_eq_true, Bool.or_true, Bool.true_or, Bool.false_or, Bool.or_false, Bool.and_true, Bool.and_false, Bool.true_and, Bool.false_and, ↓reduceIte, if_true, if_false, eq_self, Int.reduceBEq, Int.reduceBNe, bne_self_eq_false, beq_self_eq_true]; exact Ev.pure
      | true =>
        obtain ⟨rfl, q2, q3, q4⟩ := e3 rfl
        obtain ⟨x, j', y, ok', f1, f2, f3, f4⟩ := args_R W (H.mono (j := j) (by omega))
        have hx : x.length ≤ 100000 := by
          cases ok' with
          | false => rw [(f4 rfl).1]; simp
          | true => rw [(f3 rfl).1]; exact (f3 rfl).2.2.2.len
        have hr : room 64 ([t].length + x.length) = true := room_of (by omega) (by simp; omega)
        have E1 : Ev (eFirst l i) (⟨19, (tk l i).At, 0, [], [t] ++ x⟩, j', !ok') := by
          refine E (Ev.succ1 ?_)
          simp only [expr_reader_word]; simp only [look_eq, Tok_eq, is_eq, takes_eq, takes_bad, wants_eq, wants_bad, name_eq, name_bad, Is_eq, Says_eq, Option.bind_some, Option.map_some, joinK, Bool.not_true, Bool.not_false, Bool.false_eq_true, Bool.or_true, Bool.true_or, Bool.false_or, Bool.or_false, Bool.and_true, Bool.and_false, Bool.true_and, Bool.false_and, ↓reduceIte, if_true, if_false, eq_self, Int.reduceBEq, Int.reduceBNe, bne_self_eq_false, beq_self_eq_true, w1b, w2b, w3b, w4b, n3]
          refine Ev.bind e1 ?_
          simp only [look_eq, Tok_eq, is_eq, takes_eq, takes_bad, wants_eq, wants_bad, name_eq, name_bad, Is_eq, Says_eq, Option.bind_some, Option.map_some, joinK, Bool.not_true, Bool.not_false, Bool.false_eq_true, Bool.or_true, Bool.true_or, Bool.false_or, Bool.or_false, Bool.and_true, Bool.and_false, Bool.true_and, Bool.false_and, ↓reduceIte, if_true, if_false, eq_self, Int.reduceBEq, Int.reduceBNe, bne_self_eq_false, beq_self_eq_true]
          refine Ev.bind f1 ?_
          simp only [look_eq, Tok_eq, is_eq, takes_eq, takes_bad, wants_eq, wants_bad, name_eq, name_bad, Is_eq, Says_eq, Option.bind_some, Option.map_some, joinK, Bool.not_true, Bool.not_false, Bool.false_eq_true, Bool.or_true, Bool.true_or, Bool.false_or, Bool.or_false, Bool.and_true, Bool.and_false, Bool.true_and, Bool.false_and, ↓reduceIte, if_true, if_false, eq_self, Int.reduceBEq, Int.reduceBNe, bne_self_eq_false, beq_self_eq_true, hr]; exact Ev.pure
        have Rr : Ev (rFirst l i) (if ok' then ⟨19, (tk l i).At, 0, [], [t] ++ x⟩ else zN, j', ok') := by
          refine Ev.succ1 ?_
          simp only [rFirst, ref13_first]; simp only [look_eq, Tok_eq, is_eq, takes_eq, takes_bad, wants_eq, wants_bad, name_eq, name_bad, Is_eq, Says_eq, Option.bind_some, Option.map_some, joinK, Bool.not_true, Bool.not_false, Bool.false_eq_true, Bool.or_true, Bool.true_or, Bool.false_or, Bool.or_false, Bool.and_true, Bool.and_false, Bool.true_and, Bool.false_and, ↓reduceIte, if_true, if_false, eq_self, Int.reduceBEq, Int.reduceBNe, bne_self_eq_false, beq_self_eq_true, b1, b2, sy, w1b, w2b, w3b, w4b, n3]
          refine Ev.bind e2 ?_
          simp only [look_eq, Tok_eq, is_eq, takes_eq, takes_bad, wants_eq, wants_bad, name_eq, name_bad, Is_eq, Says_eq, Option.bind_some, Option.map_some, joinK, Bool.not_true, Bool.not_false, Bool.false_eq_true, Bool.or_true, Bool.true_or, Bool.false_or, Bool.or_false, Bool.and_true, Bool.and_false, Bool.true_and, Bool.false_and, ↓reduceIte, if_true, if_false, eq_self, Int.reduceBEq, Int.reduceBNe, bne_self_eq_false, beq_self_eq_true]
          refine Ev.bind f2 ?_
          cases ok'
          · simp only [look_eq, Tok_eq, is_eq, takes_eq, takes_bad, wants_eq, wants_bad, name_eq, name_bad, Is_eq, Says_eq, Option.bind_some, Option.map_some, joinK, Bool.not_true, Bool.not_false, Bool.false_eq_true, Bool.or_true, Bool.true_or, Bool.false_or, Bool.or_false, Bool.and_true, Bool.and_false, Bool.true_and, Bool.false_and, ↓reduceIte, if_true, if_false, eq_self, Int.reduceBEq, Int.reduceBNe, bne_self_eq_false, beq_self_eq_true]; exact Ev.pure
          · obtain ⟨rfl, _⟩ := f3 rfl
            simp only [look_eq, Tok_eq, is_eq, takes_eq, takes_bad, wants_eq, wants_bad, name_eq, name_bad, Is_eq, Says_eq, Option.bind_some, Option.map_some, joinK, Bool.not_true, Bool.not_false, Bool.false_eq_true, Bool.or_true, Bool.true_or, Bool.false_or, Bool.or_false, Bool.and_true, Bool.and_false, Bool.true_and, Bool.false_and, ↓reduceIte, if_true, if_false, eq_self, Int.reduceBEq, Int.reduceBNe, bne_self_eq_false, beq_self_eq_true, hr]; exact Ev.pure
        cases ok' with
        | false => exact R.bad E1 Rr
        | true =>
          obtain ⟨rfl, g2, g3, g4⟩ := f3 rfl
          exact R.good E1 Rr ⟨by omega, g3⟩ ⟨ge_new (t := t) (l := x) _ q4.gt (fun n hn => (g4.all n hn).ge) (by omega), wideL (by
            intro z hz
            rcases List.mem_cons.1 hz with rfl | hz
            · exact q4.wide
            · exact (g4.all z hz).wide) (by simp; omega)⟩
    have w4b : ((tk l i).Text == [110, 101, 119]) = false := by simpa using w4
    refine R.bad (j := i) (n := ⟨0, (tk l i).At, 0, [], []⟩) (E (Ev.succ1 ?_)) (Ev.succ1 ?_)
    · simp only [expr_reader_word]; simp only [look_eq, Tok_eq, is_eq, takes_eq, takes_bad, wants_eq, wants_bad, name_eq, name_bad, Is_eq, Says_eq, Option.bind_some, Option.map_some, joinK, Bool.not_true, Bool.not_false, Bool.false_eq_true, Bool.or_true, Bool.true_or, Bool.false_or, Bool.or_false, Bool.and_true, Bool.and_false, Bool.true_and, Bool.false_and, ↓reduceIte, if_true, if_false, eq_self, Int.reduceBEq, Int.reduceBNe, bne_self_eq_false, beq_self_eq_true, w1b, w2b, w3b, w4b]; exact Ev.pure
    · simp only [rFirst, ref13_first]; simp only [look_eq, Tok_eq, is_eq, takes_eq, takes_bad, wants_eq, wants_bad, name_eq, name_bad, Is_eq, Says_eq, Option.bind_some, Option.map_some, joinK, Bool.not_true, Bool.not_false, Bool.false_eq_true, Bool.or_true, Bool.true_or, Bool.false_or, Bool.or_false, Bool.and_true, Bool.and_false, Bool.true_and, Bool.false_and, ↓reduceIte, if_true, if_false, eq_self, Int.reduceBEq, Int.reduceBNe, bne_self_eq_false, beq_self_eq_true, b1, b2, sy, w1b, w2b, w3b, w4b, mn]; exact Ev.pure
  have b3 : ((tk l i).Kind == 3) = false := by simpa using k3
  have sn : ∀ s, isT (tk l i) 3 s = false := fun s => isT_ne k3
  by_cases h1 : isT (tk l i) 4 [40] = true
  · have hk := (isT_kind h1).1
    obtain ⟨n1, n2, n3⟩ := W.next (i := i) (by omega)
    obtain ⟨a, j, b, ok, e1, e2, e3, e4⟩ := H.lev 1 (by omega) (by omega) (i + 1) (by omega) (by omega)
    have e2 := expr_of e2
    cases ok with
    | false =>
      refine R.bad (j := j) (n := a) (Ev.succ1 ?_) (Ev.succ1 ?_)
      · simp only [eFirst, expr_reader_first]; simp only [look_eq, Tok_eq, is_eq, takes_eq, takes_bad, wants_eq, wants_bad, name_eq, name_bad, Is_eq, Says_eq, Option.bind_some, Option.map_some, joinK, Bool.not_true, Bool.not_false, Bool.false_eq_true, Bool.or_true, Bool.true_or, Bool.false_or, Bool.or_false, Bool.and_true, Bool.and_false, Bool.true_and, Bool.false_and, ↓reduceIte, if_true, if_false, eq_self, Int.reduceBEq, Int.reduceBNe, bne_self_eq_false, beq_self_eq_true, b1, b2, h1, n3]
        refine Ev.bind e1 ?_
        simp only [look_eq, Tok_eq, is_eq, takes_eq, takes_bad, wants_eq, wants_bad, name_eq, name_bad, Is_eq, Says_eq, Option.bind_some, Option.map_some, joinK, Bool.not_true, Bool.not_false, Bool.false_eq_true, Bool.or_true, Bool.true_or, Bool.false_or, Bool.or_false, Bool.and_true, Bool.and_false, Bool.true_and, Bool.false_and, ↓reduceIte, if_true, if_false, eq_self, Int.reduceBEq, Int.reduceBNe, bne_self_eq_false, beq_self_eq_true]; exact Ev.pure
      · simp only [rFirst, ref13_first]; simp only [look_eq, Tok_eq, is_eq, takes_eq, takes_bad, wants_eq, wants_bad, name_eq, name_bad, Is_eq, Says_eq, Option.bind_some, Option.map_some, joinK, Bool.not_true, Bool.not_false, Bool.false_eq_true, Bool.or_true, Bool.true_or, Bool.false_or, Bool.or_false, Bool.and_true, Bool.and_false, Bool.true_and, Bool.false_and, ↓reduceIte, if_true, if_false, eq_self, Int.reduceBEq, Int.reduceBNe, bne_self_eq_false, beq_self_eq_true, b1, b2, sn, h1, n3]
        refine Ev.bind e2 ?_
        simp only [look_eq, Tok_eq, is_eq, takes_eq, takes_bad, wants_eq, wants_bad, name_eq, name_bad, Is_eq, Says_eq, Option.bind_some, Option.map_some, joinK, Bool.not_true, Bool.not_false, Bool.false_eq_true, Bool.or_true, Bool.true_or, Bool.false_or, Bool.or_false, Bool.and_true, Bool.and_false, Bool.true_and, Bool.false_and, ↓reduceIte, if_true, if_false, eq_self, Int.reduceBEq, Int.reduceBNe, bne_self_eq_false, beq_self_eq_true]; exact Ev.pure
    | true =>
      obtain ⟨rfl, q2, q3, q4⟩ := e3 rfl
      by_cases h2 : isT (tk l j) 4 [41] = true
      · have hk2 := (isT_kind h2).1
        obtain ⟨m1, m2, m3⟩ := W.next (i := j) (by omega)
        refine R.good (j := j + 1) (n := a) (Ev.succ1 ?_) (Ev.succ1 ?_) ⟨by omega, m2⟩ q4
        · simp only [eFirst, expr_reader_first]; simp only [look_eq, Tok_eq, is_eq, takes_eq, takes_bad, wants_eq, wants_bad, name_eq, name_bad, Is_eq, Says_eq, Option.bind_some, Option.map_some, joinK, Bool.not_true, Bool.not_false, Bool.false_eq_true, Bool.or_true, Bool.true_or, Bool.false_or, Bool.or_false, Bool.and_true, Bool.and_false, Bool.true_and, Bool.false_and, ↓reduceIte, if_true, if_false, eq_self, Int.reduceBEq, Int.reduceBNe, bne_self_eq_false, beq_self_eq_true, b1, b2, h1, n3]
          refine Ev.bind e1 ?_
          simp only [look_eq, Tok_eq, is_eq, takes_eq, takes_bad, wants_eq, wants_bad, name_eq, name_bad, Is_eq, Says_eq, Option.bind_some, Option.map_some, joinK, Bool.not_true, Bool.not_false, Bool.false_eq_true, Bool.or_true, Bool.true_or, Bool.false_or, Bool.or_false, Bool.and_true, Bool.and_false, Bool.true_and, Bool.false_and, ↓reduceIte, if_true, if_false, eq_self, Int.reduceBEq, Int.reduceBNe, bne_self_eq_false, beq_self_eq_true, h2, m3]; exact Ev.pure
        · simp only [rFirst, ref13_first]; simp only [look_eq, Tok_eq, is_eq, takes_eq, takes_bad, wants_eq, wants_bad, name_eq, name_bad, Is_eq, Says_eq, Option.bind_some, Option.map_some, joinK, Bool.not_true, Bool.not_false, Bool.false_eq_true, Bool.or_true, Bool.true_or, Bool.false_or, Bool.or_false, Bool.and_true, Bool.and_false, Bool.true_and, Bool.false_and, ↓reduceIte, if_true, if_false, eq_self, Int.reduceBEq, Int.reduceBNe, bne_self_eq_false, beq_self_eq_true, b1, b2, sn, h1, n3]
          refine Ev.bind e2 ?_
          simp only [look_eq, Tok_eq, is_eq, takes_eq, takes_bad, wants_eq, wants_bad, name_eq, name_bad, Is_eq, Says_eq, Option.bind_some, Option.map_some, joinK, Bool.not_true, Bool.not_false, Bool.false_eq_true, Bool.or_true, Bool.true_or, Bool.false_or, Bool.or_false, Bool.and_true, Bool.and_false, Bool.true_and, Bool.false_and, ↓reduceIte, if_true, if_false, eq_self, Int.reduceBEq, Int.reduceBNe, bne_self_eq_false, beq_self_eq_true, h2, m3]; exact Ev.pure
      · have h2 : isT (tk l j) 4 [41] = false := by simpa using h2
        refine R.bad (j := j) (n := a) (Ev.succ1 ?_) (Ev.succ1 ?_)
        · simp only [eFirst, expr_reader_first]; simp only [look_eq, Tok_eq, is_eq, takes_eq, takes_bad, wants_eq, wants_bad, name_eq, name_bad, Is_eq, Says_eq, Option.bind_some, Option.map_some, joinK, Bool.not_true, Bool.not_false, Bool.false_eq_true, Bool.or_true, Bool.true_or, Bool.false_or, Bool.or_false, Bool.and_true, Bool.and_false, Bool.true_and, Bool.false_and, ↓reduceIte, if_true, if_false, eq_self, Int.reduceBEq, Int.reduceBNe, bne_self_eq_false, beq_self_eq_true, b1, b2, h1, n3]
          refine Ev.bind e1 ?_
          simp only [look_eq, Tok_eq, is_eq, takes_eq, takes_bad, wants_eq, wants_bad, name_eq, name_bad, Is_eq, Says_eq, Option.bind_some, Option.map_some, joinK, Bool.not_true, Bool.not_false, Bool.false_eq_true, Bool.or_true, Bool.true_or, Bool.false_or, Bool.or_false, Bool.and_true, Bool.and_false, Bool.true_and, Bool.false_and, ↓reduceIte, if_true, if_false, eq_self, Int.reduceBEq, Int.reduceBNe, bne_self_eq_false, beq_self_eq_true, h2]; exact Ev.pure
        · simp only [rFirst, ref13_first]; simp only [look_eq, Tok_eq, is_eq, takes_eq, takes_bad, wants_eq, wants_bad, name_eq, name_bad, Is_eq, Says_eq, Option.bind_some, Option.map_some, joinK, Bool.not_true, Bool.not_false, Bool.false_eq_true, Bool.or_true, Bool.true_or, Bool.false_or, Bool.or_false, Bool.and_true, Bool.and_false, Bool.true_and, Bool.false_and, ↓reduceIte, if_true, if_false, eq_self, Int.reduceBEq, Int.reduceBNe, bne_self_eq_false, beq_self_eq_true, b1, b2, sn, h1, n3]
          refine Ev.bind e2 ?_
          simp only [look_eq, Tok_eq, is_eq, takes_eq, takes_bad, wants_eq, wants_bad, name_eq, name_bad, Is_eq, Says_eq, Option.bind_some, Option.map_some, joinK, Bool.not_true, Bool.not_false, Bool.false_eq_true, Bool.or_true, Bool.true_or, Bool.false_or, Bool.or_false, Bool.and_true, Bool.and_false, Bool.true_and, Bool.false_and, ↓reduceIte, if_true, if_false, eq_self, Int.reduceBEq, Int.reduceBNe, bne_self_eq_false, beq_self_eq_true, h2]; exact Ev.pure
  · have h1 : isT (tk l i) 4 [40] = false := by simpa using h1
    refine R.bad (j := i) (n := ⟨0, (tk l i).At, 0, [], []⟩) (Ev.succ1 ?_) (Ev.succ1 ?_)
    · simp only [eFirst, expr_reader_first]; simp only [look_eq, Tok_eq, is_eq, takes_eq, takes_bad, wants_eq, wants_bad, name_eq, name_bad, Is_eq, Says_eq, Option.bind_some, Option.map_some, joinK, Bool.not_true, Bool.not_false, Bool.false_eq_true, Bool.or_true, Bool.true_or, Bool.false_or, Bool.or_false, Bool.and_true, Bool.and_false, Bool.true_and, Bool.false_and, ↓reduceIte, if_true, if_false, eq_self, Int.reduceBEq, Int.reduceBNe, bne_self_eq_false, beq_self_eq_true, b1, b2, b3, h1]; exact Ev.pure
    · simp only [rFirst, ref13_first]; simp only [look_eq, Tok_eq, is_eq, takes_eq, takes_bad, wants_eq, wants_bad, name_eq, name_bad, Is_eq, Says_eq, Option.bind_some, Option.map_some, joinK, Bool.not_true, Bool.not_false, Bool.false_eq_true, Bool.or_true, Bool.true_or, Bool.false_or, Bool.or_false, Bool.and_true, Bool.and_false, Bool.true_and, Bool.false_and, ↓reduceIte, if_true, if_false, eq_self, Int.reduceBEq, Int.reduceBNe, bne_self_eq_false, beq_self_eq_true, b1, b2, sn, h1]; exact Ev.pure
end Go.Proofs.YtbhncegmohnfhaaDoor.F
