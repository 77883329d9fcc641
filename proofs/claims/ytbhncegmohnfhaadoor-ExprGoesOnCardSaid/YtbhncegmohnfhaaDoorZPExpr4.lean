/- Parts, factors and levels: what the reader tells and what the document tells are alike. No condition. -/
import Derived.Test.YtbhncegmohnfhaaDoorZPExpr3
set_option linter.unusedVariables false
set_option linter.unusedSimpArgs false
set_option maxRecDepth 100000
set_option maxHeartbeats 4000000
namespace Go.Proofs.YtbhncegmohnfhaaDoor.F
open Go

def ePartB (l : List TToken) (k : Nat) (s : Int × Bool × TNode) : Option ((Int × Bool × TNode) ⊕ (TNode × Int × Bool)) :=
  match s with
  | (l1_oext0_1, l1_oext0_2, l1_oloc3) =>
    if (!l1_oext0_2) then
    (expr_reader_look k l l1_oext0_1 l1_oext0_2).bind fun x3_1 =>
    (expr_reader_takes k [91] l l1_oext0_1 l1_oext0_2).bind fun (x5_1_0, x5_1_1) =>
    if x5_1_0 then
    (expr_reader_level k 1 l x5_1_1 l1_oext0_2).bind fun (x6_3_0, x6_3_1, x6_3_2) =>
    (expr_reader_wants k [93] l x6_3_1 x6_3_2).bind fun (x7_1_0, x7_1_1) =>
    some (.inl (x7_1_0, x7_1_1, (TNode.mk 13 x3_1.At 0 [] [l1_oloc3, x6_3_0])))
    else
    (expr_reader_takes k [46] l x5_1_1 l1_oext0_2).bind fun (x8_1_0, x8_1_1) =>
    if x8_1_0 then
    (expr_reader_name k l x8_1_1 l1_oext0_2).bind fun (x9_2_0, x9_2_1, x9_2_2) =>
    some (.inl (x9_2_1, x9_2_2, (TNode.mk 14 x3_1.At 0 x9_2_0 [l1_oloc3])))
    else
    some (.inr (l1_oloc3, x8_1_1, l1_oext0_2))
    else
    (some (l1_oloc3, l1_oext0_1, l1_oext0_2)).map .inr
def rPartB (l : List TToken) (k : Nat) (s : Int × TNode) : Option ((Int × TNode) ⊕ (TNode × Int × Bool)) :=
  match s with
  | (l0_8, l0_oloc7) =>
    (ref13_Tok k l l0_8).bind fun x4_2 =>
    (ref13_Is k l l0_8 [46]).bind fun x5_2 =>
    if x5_2 then
    (ref13_Tok k l (IntKind.i64.wrap (l0_8 + 1))).bind fun x6_3 =>
    if (x6_3.Kind != 1) then
    some (.inr ((TNode.mk 0 0 0 [] []), (IntKind.i64.wrap (l0_8 + 1)), false))
    else
    some (.inl ((IntKind.i64.wrap (l0_8 + 2)), (TNode.mk 14 x4_2.At 0 x6_3.Text [l0_oloc7])))
    else
    (ref13_Is k l l0_8 [91]).bind fun x11_2 =>
    if (!x11_2) then
    some (.inr (l0_oloc7, l0_8, true))
    else
    (ref13_Expr k l (IntKind.i64.wrap (l0_8 + 1))).bind fun (x13_3_0, x13_3_1, x13_3_2) =>
    joinK (fun (g14_7_72 : Bool) =>
    if g14_7_72 then
    some (.inr ((TNode.mk 0 0 0 [] []), x13_3_1, false))
    else
    some (.inl ((IntKind.i64.wrap (x13_3_1 + 1)), (TNode.mk 13 x4_2.At 0 [] [l0_oloc7, x13_3_0])))) fun j_g14_7 =>
    if (!x13_3_2) then
    j_g14_7 true
    else
    (ref13_Is k l x13_3_1 [93]).bind fun x14_5 =>
    j_g14_7 (!x14_5)
theorem ePart_eq (k : Nat) (l : List TToken) (i : Int) : expr_reader_part (k + 1) l i false = (expr_reader_first k l i false).bind fun (a, b, c) => loopM k (ePartB l k) (b, c, a) := by
  rw [expr_reader_part]; rfl
theorem rPart_eq (k : Nat) (l : List TToken) (i : Int) : ref13_part (k + 1) l i = (ref13_first k l i).bind fun (a, b, c) => if (!c) then some (zN, b, false) else loopM k (rPartB l k) (b, a) := by
  rw [ref13_part]; rfl
theorem ePart_end (l : List TToken) (p : Int) (n : TNode) : EvL (ePartB l) (p, true, n) (n, p, true) := EvL.done (by simp only [ePartB]; simp only [look_eq, Tok_eq, is_eq, takes_eq, takes_bad, wants_eq, wants_bad, name_eq, name_bad, Is_eq, Says_eq, Option.bind_some, Option.map_some, joinK, Bool.not_true, Bool.not_false, Bool.false_eq_true, Bool.or_true, Bool.true_or, Bool.false_or, Bool.or_false, Bool.and_true, Bool.and_false, Bool.true_and, Bool.false_and, ↓reduceIte, if_true, if_false, eq_self, Int.reduceBEq, Int.reduceBNe, bne_self_eq_false, beq_self_eq_true]; exact Ev.pure)
theorem part_loop {l : List TToken} (W : WF l) {i : Int} (H : IH l i) : ∀ (n : Nat) (p : Int) (x : TNode), (l.length : Int) - p ≤ n → i < p → p < l.length → GEx x →
    ∃ a j b ok, EvL (ePartB l) (p, false, x) (a, j, !ok) ∧ EvL (rPartB l) (p, x) (b, j, ok) ∧ (ok = true → a = b ∧ p ≤ j ∧ j < l.length ∧ GEx b) ∧ (ok = false → b = zN) := by
  intro n
  induction n using Nat.strongRecOn with
  | _ n ih =>
  intro p x hn hp hpl hg
  by_cases h1 : isT (tk l p) 4 [91] = true
  · have hk := (isT_kind h1).1
    have h46 : isT (tk l p) 4 [46] = false := isT_txt (by rw [(isT_kind h1).2]; decide)
    obtain ⟨n1, n2, n3⟩ := W.next (i := p) (by omega)
    obtain ⟨a, j, b, ok, e1, e2, e3, e4⟩ := H.lev 1 (by omega) (by omega) (p + 1) (by omega) (by omega)
    have e2 := expr_of e2
    cases ok with
    | false =>
      refine ⟨_, j, zN, false, EvL.step (s' := (j, true, ⟨13, (tk l p).At, 0, [], [x, a]⟩)) ?_ (ePart_end _ _ _), EvL.done ?_, (fun h => by cases h), fun _ => rfl⟩
      · simp only [ePartB]; simp only [look_eq, Tok_eq, is_eq, takes_eq, takes_bad, wants_eq, wants_bad, name_eq, name_bad, Is_eq, Says_eq, Option.bind_some, Option.map_some, joinK, Bool.not_true, Bool.not_false, Bool.false_eq_true, Bool.or_true, Bool.true_or, Bool.false_or, Bool.or_false, Bool.and_true, Bool.and_false, Bool.true_and, Bool.false_and, ↓reduceIte, if_true, if_false, eq_self, Int.reduceBEq, Int.reduceBNe, bne_self_eq_false, beq_self_eq_true, h1, n3]
        refine Ev.bind e1 ?_
        simp only [look_eq, Tok_eq, is_eq, takes_eq, takes_bad, wants_eq, wants_bad, name_eq, name_bad, Is_eq, Says_eq, Option.bind_some, Option.map_some, joinK, Bool.not_true, Bool.not_false, Bool.false_eq_true, Bool.or_true, Bool.true_or, Bool.false_or, Bool.or_false, Bool.and_true, Bool.and_false, Bool.true_and, Bool.false_and, ↓reduceIte, if_true, if_false, eq_self, Int.reduceBEq, Int.reduceBNe, bne_self_eq_false, beq_self_eq_true]; exact Ev.pure
      · simp only [rPartB]; simp only [look_eq, Tok_eq, is_eq, takes_eq, takes_bad, wants_eq, wants_bad, name_eq, name_bad, Is_eq, Says_eq, Option.bind_some, Option.map_some, joinK, Bool.not_true, Bool.not_false, Bool.false_eq_true, Bool.or_true, Bool.true_or, Bool.false_or, Bool.or_false, Bool.and_true, Bool.and_false, Bool.true_and, Bool.false_and, ↓reduceIte, if_true, if_false, eq_self, Int.reduceBEq, Int.reduceBNe, bne_self_eq_false, beq_self_eq_true, h1, h46, n3]
        refine Ev.bind e2 ?_
        simp only [look_eq, Tok_eq, is_eq, takes_eq, takes_bad, wants_eq, wants_bad, name_eq, name_bad, Is_eq, Says_eq, Option.bind_some, Option.map_some, joinK, Bool.not_true, Bool.not_false, Bool.false_eq_true, Bool.or_true, Bool.true_or, Bool.false_or, Bool.or_false, Bool.and_true, Bool.and_false, Bool.true_and, Bool.false_and, ↓reduceIte, if_true, if_false, eq_self, Int.reduceBEq, Int.reduceBNe, bne_self_eq_false, beq_self_eq_true]; exact Ev.pure
    | true =>
      obtain ⟨rfl, q2, q3, q4⟩ := e3 rfl
      by_cases h2 : isT (tk l j) 4 [93] = true
      · have hk2 := (isT_kind h2).1
        obtain ⟨m1, m2, m3⟩ := W.next (i := j) (by omega)
        obtain ⟨a', j', b', ok', f1, f2, f3, f4⟩ := ih (n - 1) (by omega) (j + 1) ⟨13, (tk l p).At, 0, [], [x, a]⟩ (by omega) (by omega) (by omega) ⟨ge_index _ hg.ge q4.ge, wide2 hg.wide q4.wide⟩
        refine ⟨a', j', b', ok', EvL.step (s' := (j + 1, false, ⟨13, (tk l p).At, 0, [], [x, a]⟩)) ?_ f1, EvL.step (s' := (j + 1, ⟨13, (tk l p).At, 0, [], [x, a]⟩)) ?_ f2, fun h => ?_, f4⟩
        · simp only [ePartB]; simp only [look_eq, Tok_eq, is_eq, takes_eq, takes_bad, wants_eq, wants_bad, name_eq, name_bad, Is_eq, Says_eq, Option.bind_some, Option.map_some, joinK, Bool.not_true, Bool.not_false, Bool.false_eq_true, Bool.or_true, Bool.true_or, Bool.false_or, Bool.or_false, Bool.and_true, Bool.and_false, Bool.true_and, Bool.false_and, ↓reduceIte, if_true, if_false, eq_self, Int.reduceBEq, Int.reduceBNe, bne_self_eq_false, beq_self_eq_true, h1, n3]
          refine Ev.bind e1 ?_
          simp only [look_eq, Tok_eq, is_eq, takes_eq, takes_bad, wants_eq, wants_bad, name_eq, name_bad, Is_eq, Says_eq, Option.bind_some, Option.map_some, joinK, Bool.not_true, Bool.not_false, Bool.false_eq_true, Bool.or_true, Bool.true_or, Bool.false_or, Bool.or_false, Bool.and_true, Bool.and_false, Bool.true_and, Bool.false_and, ↓reduceIte, if_true, if_false, eq_self, Int.reduceBEq, Int.reduceBNe, bne_self_eq_false, beq_self_eq_true, h2, m3]; exact Ev.pure
        · simp only [rPartB]; simp only [look_eq, Tok_eq, is_eq, takes_eq, takes_bad, wants_eq, wants_bad, name_eq, name_bad, Is_eq, Says_eq, Option.bind_some, Option.map_some, joinK, Bool.not_true, Bool.not_false, Bool.false_eq_true, Bool.or_true, Bool.true_or, Bool.false_or, Bool.or_false, Bool.and_true, Bool.and_false, Bool.true_and, Bool.false_and, ↓reduceIte, if_true, if_false, eq_self, Int.reduceBEq, Int.reduceBNe, bne_self_eq_false, beq_self_eq_true, h1, h46, n3]
          refine Ev.bind e2 ?_
          simp only [look_eq, Tok_eq, is_eq, takes_eq, takes_bad, wants_eq, wants_bad, name_eq, name_bad, Is_eq, Says_eq, Option.bind_some, Option.map_some, joinK, Bool.not_true, Bool.not_false, Bool.false_eq_true, Bool.or_true, Bool.true_or, Bool.false_or, Bool.or_false, Bool.and_true, Bool.and_false, Bool.true_and, Bool.false_and, ↓reduceIte, if_true, if_false, eq_self, Int.reduceBEq, Int.reduceBNe, bne_self_eq_false, beq_self_eq_true, h2, m3]; exact Ev.pure
        · obtain ⟨g1, g2, g3, g4⟩ := f3 h
          exact ⟨g1, by omega, g3, g4⟩
      · have h2 : isT (tk l j) 4 [93] = false := by simpa using h2
        refine ⟨_, j, zN, false, EvL.step (s' := (j, true, ⟨13, (tk l p).At, 0, [], [x, a]⟩)) ?_ (ePart_end _ _ _), EvL.done ?_, (fun h => by cases h), fun _ => rfl⟩
        · simp only [ePartB]; simp only [look_eq, Tok_eq, is_eq, takes_eq, takes_bad, wants_eq, wants_bad, name_eq, name_bad, Is_eq, Says_eq, Option.bind_some, Option.map_some, joinK, Bool.not_true, Bool.not_false, Bool.false_eq_true, Bool.or_true, Bool.true_or, Bool.false_or, Bool.or_false, Bool.and_true, Bool.and_false, Bool.true_and, Bool.false_and, ↓reduceIte, if_true, if_false, eq_self, Int.reduceBEq, Int.reduceBNe, bne_self_eq_false, beq_self_eq_true, h1, n3]
          refine Ev.bind e1 ?_
          simp only [look_eq, Tok_eq, is_eq, takes_eq, takes_bad, wants_eq, wants_bad, name_eq, name_bad, Is_eq, Says_eq, Option.bind_some, Option.map_some, joinK, Bool.not_true, Bool.not_false, Bool.false_eq_true, Bool.or_true, Bool.true_or, Bool.false_or, Bool.or_false, Bool.and_true, Bool.and_false, Bool.true_and, Bool.false_and, ↓reduceIte, if_true, if_false, eq_self, Int.reduceBEq, Int.reduceBNe, bne_self_eq_false, beq_self_eq_true, h2]; exact Ev.pure
        · simp only [rPartB]; simp only [look_eq, Tok_eq, is_eq, takes_eq, takes_bad, wants_eq, wants_bad, name_eq, name_bad, Is_eq, Says_eq, Option.bind_some, Option.map_some, joinK, Bool.not_true, Bool.not_false, Bool.false_eq_true, Bool.or_true, Bool.true_or, Bool.false_or, Bool.or_false, Bool.and_true, Bool.and_false, Bool.true_and, Bool.false_and, ↓reduceIte, if_true, if_false, eq_self, Int.reduceBEq, Int.reduceBNe, bne_self_eq_false, beq_self_eq_true, h1, h46, n3]
          refine Ev.bind e2 ?_
          simp only [look_eq, Tok_eq, is_eq, takes_eq, takes_bad, wants_eq, wants_bad, name_eq, name_bad, Is_eq, Says_eq, Option.bind_some, Option.map_some, joinK, Bool.not_true, Bool.not_false, Bool.false_eq_true, Bool.or_true, Bool.true_or, Bool.false_or, Bool.or_false, Bool.and_true, Bool.and_false, Bool.true_and, Bool.false_and, ↓reduceIte, if_true, if_false, eq_self, Int.reduceBEq, Int.reduceBNe, bne_self_eq_false, beq_self_eq_true, h2]; exact Ev.pure
  · have h1 : isT (tk l p) 4 [91] = false := by simpa using h1
    by_cases h2 : isT (tk l p) 4 [46] = true
    · have hk := (isT_kind h2).1
      obtain ⟨n1, n2, n3⟩ := W.next (i := p) (by omega)
      by_cases kn : (tk l (p + 1)).Kind = 1
      · obtain ⟨m1, m2, m3⟩ := W.next (i := p + 1) (by omega)
        have m4 : IntKind.i64.wrap (p + 2) = p + 1 + 1 := by rw [show p + 2 = p + 1 + 1 by omega]; exact m3
        obtain ⟨a', j', b', ok', f1, f2, f3, f4⟩ := ih (n - 1) (by omega) (p + 1 + 1) ⟨14, (tk l p).At, 0, (tk l (p + 1)).Text, [x]⟩ (by omega) (by omega) (by omega) ⟨ge_named _ _ (W.names _ kn) (by simpa using hg.ge) (by simp) (by simp), wide1 hg.wide⟩
        refine ⟨a', j', b', ok', EvL.step (s' := (p + 1 + 1, false, ⟨14, (tk l p).At, 0, (tk l (p + 1)).Text, [x]⟩)) ?_ f1, EvL.step (s' := (p + 1 + 1, ⟨14, (tk l p).At, 0, (tk l (p + 1)).Text, [x]⟩)) ?_ f2, fun h => ?_, f4⟩
        · simp only [ePartB]; simp only [look_eq, Tok_eq, is_eq, takes_eq, takes_bad, wants_eq, wants_bad, name_eq, name_bad, Is_eq, Says_eq, Option.bind_some, Option.map_some, joinK, Bool.not_true, Bool.not_false, Bool.false_eq_true, Bool.or_true, Bool.true_or, Bool.false_or, Bool.or_false, Bool.and_true, Bool.and_false, Bool.true_and, Bool.false_and, ↓reduceIte, if_true, if_false, eq_self, Int.reduceBEq, Int.reduceBNe, bne_self_eq_false, beq_self_eq_true, h1, h2, n3, kn, m3]; exact Ev.pure
        · simp only [rPartB]; simp only [look_eq, Tok_eq, is_eq, takes_eq, takes_bad, wants_eq, wants_bad, name_eq, name_bad, Is_eq, Says_eq, Option.bind_some, Option.map_some, joinK, Bool.not_true, Bool.not_false, Bool.false_eq_true, Bool.or_true, Bool.true_or, Bool.false_or, Bool.or_false, Bool.and_true, Bool.and_false, Bool.true_and, Bool.false_and, ↓reduceIte, if_true, if_false, eq_self, Int.reduceBEq, Int.reduceBNe, bne_self_eq_false, beq_self_eq_true, h1, h2, n3, kn, m4]; exact Ev.pure
        · obtain ⟨g1, g2, g3, g4⟩ := f3 h
          exact ⟨g1, by omega, g3, g4⟩
      · have knb : ((tk l (p + 1)).Kind != 1) = true := by simpa using kn
        refine ⟨_, p + 1, zN, false, EvL.step (s' := (p + 1, true, ⟨14, (tk l p).At, 0, [], [x]⟩)) ?_ (ePart_end _ _ _), EvL.done ?_, (fun h => by cases h), fun _ => rfl⟩
        · simp only [ePartB]; simp only [look_eq, Tok_eq, is_eq, takes_eq, takes_bad, wants_eq, wants_bad, name_eq, name_bad, Is_eq, Says_eq, Option.bind_some, Option.map_some, joinK, Bool.not_true, Bool.not_false, Bool.false_eq_true, Bool.or_true, Bool.true_or, Bool.false_or, Bool.or_false, Bool.and_true, Bool.and_false, Bool.true_and, Bool.false_and, ↓reduceIte, if_true, if_false, eq_self, Int.reduceBEq, Int.reduceBNe, bne_self_eq_false, beq_self_eq_true, h1, h2, n3, knb]; exact Ev.pure
        · simp only [rPartB]; simp only [look_eq, Tok_eq, is_eq, takes_eq, takes_bad, wants_eq, wants_bad, name_eq, name_bad, Is_eq, Says_eq, Option.bind_some, Option.map_some, joinK, Bool.not_true, Bool.not_false, Bool.false_eq_true, Bool.or_true, Bool.true_or, Bool.false_or, Bool.or_false, Bool.and_true, Bool.and_false, Bool.true_and, Bool.false_and, ↓reduceIte, if_true, if_false, eq_self, Int.reduceBEq, Int.reduceBNe, bne_self_eq_false, beq_self_eq_true, h1, h2, n3, knb]; exact Ev.pure
    · have h2 : isT (tk l p) 4 [46] = false := by simpa using h2
      refine ⟨x, p, x, true, EvL.done ?_, EvL.done ?_, fun _ => ⟨rfl, by omega, hpl, hg⟩, fun h => by cases h⟩
      · simp only [ePartB]; simp only [look_eq, Tok_eq, is_eq, takes_eq, takes_bad, wants_eq, wants_bad, name_eq, name_bad, Is_eq, Says_eq, Option.bind_some, Option.map_some, joinK, Bool.not_true, Bool.not_false, Bool.false_eq_true, Bool.or_true, Bool.true_or, Bool.false_or, Bool.or_false, Bool.and_true, Bool.and_false, Bool.true_and, Bool.false_and, ↓reduceIte, if_true, if_false, eq_self, Int.reduceBEq, Int.reduceBNe, bne_self_eq_false, beq_self_eq_true, h1, h2]; exact Ev.pure
      · simp only [rPartB]; simp only [look_eq, Tok_eq, is_eq, takes_eq, takes_bad, wants_eq, wants_bad, name_eq, name_bad, Is_eq, Says_eq, Option.bind_some, Option.map_some, joinK, Bool.not_true, Bool.not_false, Bool.false_eq_true, Bool.or_true, Bool.true_or, Bool.false_or, Bool.or_false, Bool.and_true, Bool.and_false, Bool.true_and, Bool.false_and, ↓reduceIte, if_true, if_false, eq_self, Int.reduceBEq, Int.reduceBNe, bne_self_eq_false, beq_self_eq_true, h1, h2]; exact Ev.pure
theorem part_R {l : List TToken} (W : WF l) {i : Int} (H : IH l i) : R GEx l i (ePart l i) (rPart l i) := by
  obtain ⟨a, j, b, ok, e1, e2, e3, e4⟩ := first_R W H
  cases ok with
  | false =>
    refine R.bad (j := j) (n := a) (Ev.succ1 ?_) (Ev.succ1 ?_)
    · simp only [ePart, ePart_eq]
      exact Ev.bind e1 (Ev.loop (ePart_end _ _ _))
    · simp only [rPart, rPart_eq]
      exact Ev.bind e2 Ev.pure
  | true =>
    obtain ⟨rfl, q2, q3, q4⟩ := e3 rfl
    obtain ⟨a', j', b', ok', f1, f2, f3, f4⟩ := part_loop W H (l.length - j).toNat j a (by omega) q2 q3 q4
    refine ⟨a', j', b', ok', Ev.succ1 ?_, Ev.succ1 ?_, fun h => ?_, f4⟩
    · simp only [ePart, ePart_eq]
      exact Ev.bind e1 (Ev.loop f1)
    · simp only [rPart, rPart_eq]
      exact Ev.bind e2 (Ev.loop f2)
    · obtain ⟨g1, g2, g3, g4⟩ := f3 h
      exact ⟨g1, by omega, g3, g4⟩
def eFacB (l : List TToken) (i : Int) (k : Nat) (s : Int × Int) : Option ((Int × Int) ⊕ (TNode × Int × Bool)) :=
  match s with
  | (l1_11, l1_oext0_1) =>
    if (decide (l1_11 < (([2, 14] : List Int).length : Int))) then
    (ix [2, 14] l1_11).bind fun x4_0 =>
    (word_Spell k x4_0).bind fun x5_2 =>
    (expr_reader_takes k x5_2 l l1_oext0_1 false).bind fun (x5_3_0, x5_3_1) =>
    if x5_3_0 then
    (expr_reader_factor k l x5_3_1 false).bind fun (x6_3_0, x6_3_1, x6_3_2) =>
    some (.inr ((TNode.mk 15 (tk l i).At x4_0 [] [x6_3_0]), x6_3_1, x6_3_2))
    else
    some (.inl ((IntKind.i64.wrap (l1_11 + 1)), x5_3_1))
    else
    (expr_reader_part k l l1_oext0_1 false).map .inr
theorem bind_same {α β γ : Type} (o : Option (α × β × γ)) : (o.bind fun (a, b, c) => some (a, b, c)) = o := by cases o <;> rfl
theorem eFac_eq (k : Nat) (l : List TToken) (i : Int) : expr_reader_factor (k + 1) l i false = loopM k (eFacB l i k) (0, i) := by
  rw [expr_reader_factor, look_eq, Option.bind_some]
  simp only [joinK, bind_same]
  rfl
theorem factor_R {l : List TToken} (W : WF l) {i : Int} (H : IH l i) : R GEx l i (eFactor l i) (rFactor l i) := by
  have s1 : ∀ k, word_Spell k 2 = some [45] := fun _ => rfl
  have s2 : ∀ k, word_Spell k 14 = some [33] := fun _ => rfl
  have i0 : ix [(2 : Int), 14] 0 = some 2 := rfl
  have i1 : ix [(2 : Int), 14] 1 = some 14 := rfl
  have d0 : decide ((0 : Int) < (([2, 14] : List Int).length : Int)) = true := rfl
  have d1 : decide ((1 : Int) < (([2, 14] : List Int).length : Int)) = true := rfl
  have d2 : decide ((2 : Int) < (([2, 14] : List Int).length : Int)) = false := rfl
  have w1 : IntKind.i64.wrap (0 + 1) = 1 := rfl
  have w2 : IntKind.i64.wrap (1 + 1) = 2 := rfl
  by_cases h1 : isT (tk l i) 4 [45] = true
  · have hk := (isT_kind h1).1
    have h33 : isT (tk l i) 4 [33] = false := isT_txt (by rw [(isT_kind h1).2]; decide)
    obtain ⟨n1, n2, n3⟩ := W.next (i := i) (by omega)
    obtain ⟨a, j, b, ok, e1, e2, e3, e4⟩ := H.fac (i + 1) (by omega) (by omega)
    have E : Ev (eFactor l i) (⟨15, (tk l i).At, 2, [], [a]⟩, j, !ok) := by
      refine Ev.succ1 ?_
      simp only [eFactor, eFac_eq]
      refine Ev.loop (EvL.done ?_)
      simp only [eFacB]; simp only [look_eq, Tok_eq, is_eq, takes_eq, takes_bad, wants_eq, wants_bad, name_eq, name_bad, Is_eq, Says_eq, Option.bind_some, Option.map_some, joinK, Bool.not_true, Bool.not_false, Bool.false_eq_true, Bool.or_true, Bool.true_or, Bool.false_or, Bool.or_false, Bool.and_true, Bool.and_false, Bool.true_and, Bool.false_and, ↓reduceIte, if_true, if_false, eq_self, Int.reduceBEq, Int.reduceBNe, bne_self_eq_false, beq_self_eq_true, d0, i0, s1, h1, n3]
      refine Ev.bind e1 ?_
      simp only [look_eq, Tok_eq, is_eq, takes_eq, takes_bad, wants_eq, wants_bad, name_eq, name_bad, Is_eq, Says_eq, Option.bind_some, Option.map_some, joinK, Bool.not_true, Bool.not_false, Bool.false_eq_true, Bool.or_true, Bool.true_or, Bool.false_or, Bool.or_false, Bool.and_true, Bool.and_false, Bool.true_and, Bool.false_and, ↓reduceIte, if_true, if_false, eq_self, Int.reduceBEq, Int.reduceBNe, bne_self_eq_false, beq_self_eq_true]; exact Ev.pure
    have Rr : Ev (rFactor l i) (if ok then ⟨15, (tk l i).At, 2, [], [b]⟩ else zN, j, ok) := by
      refine Ev.succ1 ?_
      simp only [rFactor, ref13_factor]; simp only [look_eq, Tok_eq, is_eq, takes_eq, takes_bad, wants_eq, wants_bad, name_eq, name_bad, Is_eq, Says_eq, Option.bind_some, Option.map_some, joinK, Bool.not_true, Bool.not_false, Bool.false_eq_true, Bool.or_true, Bool.true_or, Bool.false_or, Bool.or_false, Bool.and_true, Bool.and_false, Bool.true_and, Bool.false_and, ↓reduceIte, if_true, if_false, eq_self, Int.reduceBEq, Int.reduceBNe, bne_self_eq_false, beq_self_eq_true, h1, h33, n3]
      refine Ev.bind e2 ?_
      cases ok
      · simp only [look_eq, Tok_eq, is_eq, takes_eq, takes_bad, wants_eq, wants_bad, name_eq, name_bad, Is_eq, Says_eq, Option.bind_some, Option.map_some, joinK, Bool.not_true, Bool.not_false, Bool.false_eq_true, Bool.or_true, Bool.true_or, Bool.false_or, Bool.or_false, Bool.and_true, Bool.and_false, Bool.true_and, Bool.false_and, ↓reduceIte, if_true, if_false, eq_self, Int.reduceBEq, Int.reduceBNe, bne_self_eq_false, beq_self_eq_true]; exact Ev.pure
      · simp only [look_eq, Tok_eq, is_eq, takes_eq, takes_bad, wants_eq, wants_bad, name_eq, name_bad, Is_eq, Says_eq, Option.bind_some, Option.map_some, joinK, Bool.not_true, Bool.not_false, Bool.false_eq_true, Bool.or_true, Bool.true_or, Bool.false_or, Bool.or_false, Bool.and_true, Bool.and_false, Bool.true_and, Bool.false_and, ↓reduceIte, if_true, if_false, eq_self, Int.reduceBEq, Int.reduceBNe, bne_self_eq_false, beq_self_eq_true]; exact Ev.pure
    cases ok with
    | false => exact R.bad E Rr
    | true =>
      obtain ⟨rfl, q2, q3, q4⟩ := e3 rfl
      exact R.good E Rr ⟨by omega, q3⟩ ⟨ge_un _ (.inl rfl) q4.ge, wide1 q4.wide⟩
  have h1 : isT (tk l i) 4 [45] = false := by simpa using h1
  by_cases h2 : isT (tk l i) 4 [33] = true
  · have hk := (isT_kind h2).1
    obtain ⟨n1, n2, n3⟩ := W.next (i := i) (by omega)
    obtain ⟨a, j, b, ok, e1, e2, e3, e4⟩ := H.fac (i + 1) (by omega) (by omega)
    have E : Ev (eFactor l i) (⟨15, (tk l i).At, 14, [], [a]⟩, j, !ok) := by
      refine Ev.succ1 ?_
      simp only [eFactor, eFac_eq]
      refine Ev.loop (EvL.step (s' := (1, i)) ?_ (EvL.done ?_))
      · simp only [eFacB]; simp only [look_eq, Tok_eq, is_eq, takes_eq, takes_bad, wants_eq, wants_bad, name_eq, name_bad, Is_eq, Says_eq, Option.bind_some, Option.map_some, joinK, Bool.not_true, Bool.not_false, Bool.false_eq_true, Bool.or_true, Bool.true_or, Bool.false_or, Bool.or_false, Bool.and_true, Bool.and_false, Bool.true_and, Bool.false_and, ↓reduceIte, if_true, if_false, eq_self, Int.reduceBEq, Int.reduceBNe, bne_self_eq_false, beq_self_eq_true, d0, i0, s1, h1, w1]; exact Ev.pure
      · simp only [eFacB]; simp only [look_eq, Tok_eq, is_eq, takes_eq, takes_bad, wants_eq, wants_bad, name_eq, name_bad, Is_eq, Says_eq, Option.bind_some, Option.map_some, joinK, Bool.not_true, Bool.not_false, Bool.false_eq_true, Bool.or_true, Bool.true_or, Bool.false_or, Bool.or_false, Bool.and_true, Bool.and_false, Bool.true_and, Bool.false_and, ↓reduceIte, if_true, if_false, eq_self, Int.reduceBEq, Int.reduceBNe, bne_self_eq_false, beq_self_eq_true, d1, i1, s2, h2, n3]
        refine Ev.bind e1 ?_
        simp only [look_eq, Tok_eq, is_eq, takes_eq, takes_bad, wants_eq, wants_bad, name_eq, name_bad, Is_eq, Says_eq, Option.bind_some, Option.map_some, joinK, Bool.not_true, Bool.not_false, Bool.false_eq_true, Bool.or_true, Bool.true_or, Bool.false_or, Bool.or_false, Bool.and_true, Bool.and_false, Bool.true_and, Bool.false_and, ↓reduceIte, if_true, if_false, eq_self, Int.reduceBEq, Int.reduceBNe, bne_self_eq_false, beq_self_eq_true]; exact Ev.pure
    have Rr : Ev (rFactor l i) (if ok then ⟨15, (tk l i).At, 14, [], [b]⟩ else zN, j, ok) := by
      refine Ev.succ1 ?_
      simp only [rFactor, ref13_factor]; simp only [look_eq, Tok_eq, is_eq, takes_eq, takes_bad, wants_eq, wants_bad, name_eq, name_bad, Is_eq, Says_eq, Option.bind_some, Option.map_some, joinK, Bool.not_true, Bool.not_false, Bool.false_eq_true, Bool.or_true, Bool.true_or, Bool.false_or, Bool.or_false, Bool.and_true, Bool.and_false, Bool.true_and, Bool.false_and, ↓reduceIte, if_true, if_false, eq_self, Int.reduceBEq, Int.reduceBNe, bne_self_eq_false, beq_self_eq_true, h1, h2, n3]
      refine Ev.bind e2 ?_
      cases ok
      · simp only [look_eq, Tok_eq, is_eq, takes_eq, takes_bad, wants_eq, wants_bad, name_eq, name_bad, Is_eq, Says_eq, Option.bind_some, Option.map_some, joinK, Bool.not_true, Bool.not_false, Bool.false_eq_true, Bool.or_true, Bool.true_or, Bool.false_or, Bool.or_false, Bool.and_true, Bool.and_false, Bool.true_and, Bool.false_and, ↓reduceIte, if_true, if_false, eq_self, Int.reduceBEq, Int.reduceBNe, bne_self_eq_false, beq_self_eq_true]; exact Ev.pure
      · simp only [look_eq, Tok_eq, is_eq, takes_eq, takes_bad, wants_eq, wants_bad, name_eq, name_bad, Is_eq, Says_eq, Option.bind_some, Option.map_some, joinK, Bool.not_true, Bool.not_false, Bool.false_eq_true, Bool.or_true, Bool.true_or, Bool.false_or, Bool.or_false, Bool.and_true, Bool.and_false, Bool.true_and, Bool.false_and, ↓reduceIte, if_true, if_false, eq_self, Int.reduceBEq, Int.reduceBNe, bne_self_eq_false, beq_self_eq_true]; exact Ev.pure
    cases ok with
    | false => exact R.bad E Rr
    | true =>
      obtain ⟨rfl, q2, q3, q4⟩ := e3 rfl
      exact R.good E Rr ⟨by omega, q3⟩ ⟨ge_un _ (.inr rfl) q4.ge, wide1 q4.wide⟩
  have h2 : isT (tk l i) 4 [33] = false := by simpa using h2
  obtain ⟨a, j, b, ok, e1, e2, e3, e4⟩ := part_R W H
  refine ⟨a, j, b, ok, Ev.succ1 ?_, Ev.succ1 ?_, e3, e4⟩
  · simp only [eFactor, eFac_eq]
    refine Ev.loop (EvL.step (s' := (1, i)) ?_ (EvL.step (s' := (2, i)) ?_ (EvL.done ?_)))
    · simp only [eFacB]; simp only [look_eq, Tok_eq, is_eq, takes_eq, takes_bad, wants_eq, wants_bad, name_eq, name_bad, Is_eq, Says_eq, Option.bind_some, Option.map_some, joinK, Bool.not_true, Bool.not_false, Bool.false_eq_true, Bool.or_true, Bool.true_or, Bool.false_or, Bool.or_false, Bool.and_true, Bool.and_false, Bool.true_and, Bool.false_and, ↓reduceIte, if_true, if_false, eq_self, Int.reduceBEq, Int.reduceBNe, bne_self_eq_false, beq_self_eq_true, d0, i0, s1, h1, w1]; exact Ev.pure
    · simp only [eFacB]; simp only [look_eq, Tok_eq, is_eq, takes_eq, takes_bad, wants_eq, wants_bad, name_eq, name_bad, Is_eq, Says_eq, Option.bind_some, Option.map_some, joinK, Bool.not_true, Bool.not_false, Bool.false_eq_true, Bool.or_true, Bool.true_or, Bool.false_or, Bool.or_false, Bool.and_true, Bool.and_false, Bool.true_and, Bool.false_and, ↓reduceIte, if_true, if_false, eq_self, Int.reduceBEq, Int.reduceBNe, bne_self_eq_false, beq_self_eq_true, d1, i1, s2, h2, w2]; exact Ev.pure
    · simp only [eFacB]; simp only [look_eq, Tok_eq, is_eq, takes_eq, takes_bad, wants_eq, wants_bad, name_eq, name_bad, Is_eq, Says_eq, Option.bind_some, Option.map_some, joinK, Bool.not_true, Bool.not_false, Bool.false_eq_true, Bool.or_true, Bool.true_or, Bool.false_or, Bool.or_false, Bool.and_true, Bool.and_false, Bool.true_and, Bool.false_and, ↓reduceIte, if_true, if_false, eq_self, Int.reduceBEq, Int.reduceBNe, bne_self_eq_false, beq_self_eq_true, d2]; exact Ev.map e1
  · simp only [rFactor, ref13_factor]; simp only [look_eq, Tok_eq, is_eq, takes_eq, takes_bad, wants_eq, wants_bad, name_eq, name_bad, Is_eq, Says_eq, Option.bind_some, Option.map_some, joinK, Bool.not_true, Bool.not_false, Bool.false_eq_true, Bool.or_true, Bool.true_or, Bool.false_or, Bool.or_false, Bool.and_true, Bool.and_false, Bool.true_and, Bool.false_and, ↓reduceIte, if_true, if_false, eq_self, Int.reduceBEq, Int.reduceBNe, bne_self_eq_false, beq_self_eq_true, h1, h2]
    refine Ev.bind e2 ?_
    simp only [look_eq, Tok_eq, is_eq, takes_eq, takes_bad, wants_eq, wants_bad, name_eq, name_bad, Is_eq, Says_eq, Option.bind_some, Option.map_some, joinK, Bool.not_true, Bool.not_false, Bool.false_eq_true, Bool.or_true, Bool.true_or, Bool.false_or, Bool.or_false, Bool.and_true, Bool.and_false, Bool.true_and, Bool.false_and, ↓reduceIte, if_true, if_false, eq_self, Int.reduceBEq, Int.reduceBNe, bne_self_eq_false, beq_self_eq_true]; exact Ev.pure
end Go.Proofs.YtbhncegmohnfhaaDoor.F
