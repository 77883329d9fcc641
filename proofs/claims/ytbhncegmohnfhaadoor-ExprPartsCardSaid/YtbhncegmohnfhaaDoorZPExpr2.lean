/- Expressions and arguments: what the reader tells and what the document tells are alike. No condition. -/
import Derived.Test.YtbhncegmohnfhaaDoorZPExpr
set_option linter.unusedVariables false
set_option linter.unusedSimpArgs false
set_option maxRecDepth 100000
namespace Go.Proofs.YtbhncegmohnfhaaDoor.F
open Go

abbrev eArgs (l : List TToken) (i : Int) (k : Nat) := expr_reader_args k l i false
abbrev rArgs (l : List TToken) (i : Int) (k : Nat) := ref13_Args k l i
abbrev eFirst (l : List TToken) (i : Int) (k : Nat) := expr_reader_first k l i false
abbrev rFirst (l : List TToken) (i : Int) (k : Nat) := ref13_first k l i
abbrev ePart (l : List TToken) (i : Int) (k : Nat) := expr_reader_part k l i false
abbrev rPart (l : List TToken) (i : Int) (k : Nat) := ref13_part k l i
abbrev eFactor (l : List TToken) (i : Int) (k : Nat) := expr_reader_factor k l i false
abbrev rFactor (l : List TToken) (i : Int) (k : Nat) := ref13_factor k l i
abbrev eLevel (l : List TToken) (i lev : Int) (k : Nat) := expr_reader_level k lev l i false
abbrev rLevel (l : List TToken) (i lev : Int) (k : Nat) := ref13_level k l i lev
abbrev rExpr (l : List TToken) (i : Int) (k : Nat) := ref13_Expr k l i
theorem expr_of {l : List TToken} {i : Int} {p : TNode × Int × Bool} (h : Ev (rLevel l i 1) p) : Ev (rExpr l i) p := by
  refine Ev.succ1 ?_
  simp only [rExpr, ref13_Expr]
  exact Ev.bind h Ev.pure

/-! ### arguments -/
theorem args_bad (l : List TToken) (i : Int) : Ev (fun k => expr_reader_args k l i true) ([], i, true) := by
  refine Ev.succ1 ?_
  simp only [expr_reader_args]
  simp only [look_eq, Tok_eq, is_eq, takes_eq, takes_bad, wants_eq, wants_bad, name_eq, name_bad, Is_eq, Says_eq, Option.bind_some, Option.map_some, joinK, Bool.not_true, Bool.not_false, Bool.false_eq_true, Bool.or_true, Bool.true_or, Bool.false_or, Bool.or_false, Bool.and_true, Bool.and_false, Bool.true_and, Bool.false_and, ↓reduceIte, if_true, if_false, eq_self, Int.reduceBEq, Int.reduceBNe, bne_self_eq_false, beq_self_eq_true]
  refine Ev.loop (EvL.done (Ev.of fun _ => ?_))
  simp only [look_eq, Tok_eq, is_eq, takes_eq, takes_bad, wants_eq, wants_bad, name_eq, name_bad, Is_eq, Says_eq, Option.bind_some, Option.map_some, joinK, Bool.not_true, Bool.not_false, Bool.false_eq_true, Bool.or_true, Bool.true_or, Bool.false_or, Bool.or_false, Bool.and_true, Bool.and_false, Bool.true_and, Bool.false_and, ↓reduceIte, if_true, if_false, eq_self, Int.reduceBEq, Int.reduceBNe, bne_self_eq_false, beq_self_eq_true]
/-- What is assumed of shorter rests. -/
structure IH (l : List TToken) (i : Int) : Prop where
  lev : ∀ q, 1 ≤ q → q ≤ 6 → ∀ j, i < j → j ≤ l.length → R GEx l j (eLevel l j q) (rLevel l j q)
  fac : ∀ j, i < j → j ≤ l.length → R GEx l j (eFactor l j) (rFactor l j)
theorem IH.mono {l : List TToken} {i j : Int} (H : IH l i) (h : i ≤ j) : IH l j := ⟨fun q a b p h1 => H.lev q a b p (by omega), fun p h1 => H.fac p (by omega)⟩
def eArgsB (l : List TToken) (k : Nat) (s : List TNode × Int × Bool) : Option ((List TNode × Int × Bool) ⊕ (List TNode × Int × Bool)) :=
  match s with
  | (l1_3, l1_oext0_1, l1_oext0_2) =>
    if (!l1_oext0_2) then
    (expr_reader_level k 1 l l1_oext0_1 l1_oext0_2).bind fun (x6_2_0, x6_2_1, x6_2_2) =>
    if (room 64 (l1_3.length + [x6_2_0].length)) then
    (expr_reader_takes k [41] l x6_2_1 x6_2_2).bind fun (x7_1_0, x7_1_1) =>
    if x7_1_0 then
    some (.inr ((l1_3 ++ [x6_2_0]), x7_1_1, x6_2_2))
    else
    (expr_reader_wants k [44] l x7_1_1 x6_2_2).bind fun (x9_1_0, x9_1_1) =>
    some (.inl ((l1_3 ++ [x6_2_0]), x9_1_0, x9_1_1))
    else none
    else
    (some (([] : List TNode), l1_oext0_1, l1_oext0_2)).map .inr
def rArgsB (l : List TToken) (k : Nat) (s : Int × List TNode) : Option ((Int × List TNode) ⊕ (List TNode × Int × Bool)) :=
  match s with
  | (l0_1, l0_7) =>
    (ref13_Expr k l l0_1).bind fun (x7_2_0, x7_2_1, x7_2_2) =>
    if (!x7_2_2) then
    some (.inr ([], x7_2_1, false))
    else
    if (room 64 (l0_7.length + [x7_2_0].length)) then
    (ref13_Is k l x7_2_1 [41]).bind fun x11_2 =>
    if x11_2 then
    some (.inr ((l0_7 ++ [x7_2_0]), (IntKind.i64.wrap (x7_2_1 + 1)), true))
    else
    (ref13_Is k l x7_2_1 [44]).bind fun x13_2 =>
    if (!x13_2) then
    some (.inr ([], x7_2_1, false))
    else
    some (.inl ((IntKind.i64.wrap (x7_2_1 + 1)), (l0_7 ++ [x7_2_0])))
    else none
theorem eArgs_eq (k : Nat) (l : List TToken) (i : Int) : expr_reader_args (k + 1) l i false = (
    if isT (tk l i) 4 [40] then
    if isT (tk l (IntKind.i64.wrap (i + 1))) 4 [41] then some ([], IntKind.i64.wrap (IntKind.i64.wrap (i + 1) + 1), false)
    else loopM k (eArgsB l k) ([], IntKind.i64.wrap (i + 1), false)
    else loopM k (eArgsB l k) ([], i, true)) := by
  rw [expr_reader_args]
  cases h1 : isT (tk l i) 4 [40]
  · simp only [look_eq, Tok_eq, is_eq, takes_eq, takes_bad, wants_eq, wants_bad, name_eq, name_bad, Is_eq, Says_eq, Option.bind_some, Option.map_some, joinK, Bool.not_true, Bool.not_false, Bool.false_eq_true, Bool.or_true, Bool.true_or, Bool.false_or, Bool.or_false, Bool.and_true, Bool.and_false, Bool.true_and, Bool.false_and, ↓reduceIte, if_true, if_false, eq_self, Int.reduceBEq, Int.reduceBNe, bne_self_eq_false, beq_self_eq_true, h1]; rfl
  · simp only [look_eq, Tok_eq, is_eq, takes_eq, takes_bad, wants_eq, wants_bad, name_eq, name_bad, Is_eq, Says_eq, Option.bind_some, Option.map_some, joinK, Bool.not_true, Bool.not_false, Bool.false_eq_true, Bool.or_true, Bool.true_or, Bool.false_or, Bool.or_false, Bool.and_true, Bool.and_false, Bool.true_and, Bool.false_and, ↓reduceIte, if_true, if_false, eq_self, Int.reduceBEq, Int.reduceBNe, bne_self_eq_false, beq_self_eq_true, h1]
    cases h2 : isT (tk l (IntKind.i64.wrap (i + 1))) 4 [41]
    · simp only [look_eq, Tok_eq, is_eq, takes_eq, takes_bad, wants_eq, wants_bad, name_eq, name_bad, Is_eq, Says_eq, Option.bind_some, Option.map_some, joinK, Bool.not_true, Bool.not_false, Bool.false_eq_true, Bool.or_true, Bool.true_or, Bool.false_or, Bool.or_false, Bool.and_true, Bool.and_false, Bool.true_and, Bool.false_and, ↓reduceIte, if_true, if_false, eq_self, Int.reduceBEq, Int.reduceBNe, bne_self_eq_false, beq_self_eq_true, h2]; rfl
    · simp only [look_eq, Tok_eq, is_eq, takes_eq, takes_bad, wants_eq, wants_bad, name_eq, name_bad, Is_eq, Says_eq, Option.bind_some, Option.map_some, joinK, Bool.not_true, Bool.not_false, Bool.false_eq_true, Bool.or_true, Bool.true_or, Bool.false_or, Bool.or_false, Bool.and_true, Bool.and_false, Bool.true_and, Bool.false_and, ↓reduceIte, if_true, if_false, eq_self, Int.reduceBEq, Int.reduceBNe, bne_self_eq_false, beq_self_eq_true, h2]
theorem rArgs_eq (k : Nat) (l : List TToken) (i : Int) : ref13_Args (k + 1) l i = (
    if isT (tk l i) 4 [40] then
    if isT (tk l (IntKind.i64.wrap (i + 1))) 4 [41] then some ([], IntKind.i64.wrap (IntKind.i64.wrap (i + 1) + 1), true)
    else loopM k (rArgsB l k) (IntKind.i64.wrap (i + 1), [])
    else some ([], i, false)) := by
  rw [ref13_Args]
  cases h1 : isT (tk l i) 4 [40]
  · simp only [look_eq, Tok_eq, is_eq, takes_eq, takes_bad, wants_eq, wants_bad, name_eq, name_bad, Is_eq, Says_eq, Option.bind_some, Option.map_some, joinK, Bool.not_true, Bool.not_false, Bool.false_eq_true, Bool.or_true, Bool.true_or, Bool.false_or, Bool.or_false, Bool.and_true, Bool.and_false, Bool.true_and, Bool.false_and, ↓reduceIte, if_true, if_false, eq_self, Int.reduceBEq, Int.reduceBNe, bne_self_eq_false, beq_self_eq_true, h1]
  · simp only [look_eq, Tok_eq, is_eq, takes_eq, takes_bad, wants_eq, wants_bad, name_eq, name_bad, Is_eq, Says_eq, Option.bind_some, Option.map_some, joinK, Bool.not_true, Bool.not_false, Bool.false_eq_true, Bool.or_true, Bool.true_or, Bool.false_or, Bool.or_false, Bool.and_true, Bool.and_false, Bool.true_and, Bool.false_and, ↓reduceIte, if_true, if_false, eq_self, Int.reduceBEq, Int.reduceBNe, bne_self_eq_false, beq_self_eq_true, h1]
    cases h2 : isT (tk l (IntKind.i64.wrap (i + 1))) 4 [41]
    · simp only [look_eq, Tok_eq, is_eq, takes_eq, takes_bad, wants_eq, wants_bad, name_eq, name_bad, Is_eq, Says_eq, Option.bind_some, Option.map_some, joinK, Bool.not_true, Bool.not_false, Bool.false_eq_true, Bool.or_true, Bool.true_or, Bool.false_or, Bool.or_false, Bool.and_true, Bool.and_false, Bool.true_and, Bool.false_and, ↓reduceIte, if_true, if_false, eq_self, Int.reduceBEq, Int.reduceBNe, bne_self_eq_false, beq_self_eq_true, h2]
      congr 1; funext s; simp only [rArgsB]; simp only [look_eq, Tok_eq, is_eq, takes_eq, takes_bad, wants_eq, wants_bad, name_eq, name_bad, Is_eq, Says_eq, Option.bind_some, Option.map_some, joinK, Bool.not_true, Bool.not_false, Bool.false_eq_true, Bool.or_true, Bool.true_or, Bool.false_or, Bool.or_false, Bool.and_true, Bool.and_false, Bool.true_and, Bool.false_and, ↓reduceIte, if_true, if_false, eq_self, Int.reduceBEq, Int.reduceBNe, bne_self_eq_false, beq_self_eq_true]
    · simp only [look_eq, Tok_eq, is_eq, takes_eq, takes_bad, wants_eq, wants_bad, name_eq, name_bad, Is_eq, Says_eq, Option.bind_some, Option.map_some, joinK, Bool.not_true, Bool.not_false, Bool.false_eq_true, Bool.or_true, Bool.true_or, Bool.false_or, Bool.or_false, Bool.and_true, Bool.and_false, Bool.true_and, Bool.false_and, ↓reduceIte, if_true, if_false, eq_self, Int.reduceBEq, Int.reduceBNe, bne_self_eq_false, beq_self_eq_true, h2]
theorem args_loop {l : List TToken} (W : WF l) {i : Int} (hi0 : 0 ≤ i) (H : IH l i) : ∀ (n : Nat) (p : Int) (out : List TNode), (l.length : Int) - p ≤ n → i < p → p ≤ l.length → (out.length : Int) ≤ p → (∀ x ∈ out, GEx x) →
    ∃ a j b ok, EvL (eArgsB l) (out, p, false) (a, j, !ok) ∧ EvL (rArgsB l) (p, out) (b, j, ok) ∧ (ok = true → a = b ∧ p < j ∧ j < l.length ∧ GAr b) ∧ (ok = false → a = [] ∧ b = []) := by
  intro n
  induction n using Nat.strongRecOn with
  | _ n ih =>
  intro p out hn hp hpl ho hg
  obtain ⟨a, j, b, ok, e1, e2, e3, e4⟩ := H.lev 1 (by omega) (by omega) p hp hpl
  have e2 := expr_of e2
  have hlen := W.len
  have hroom : ∀ x : TNode, room 64 (out.length + [x].length) = true := fun x => room_of (by omega) (by simp; omega)
  cases ok with
  | false =>
    refine ⟨[], j, [], false, EvL.step (s' := (out ++ [a], j, true)) ?_ (EvL.done ?_), EvL.done ?_, (fun h => by cases h), fun _ => ⟨rfl, rfl⟩⟩
    · simp only [eArgsB]; simp only [look_eq, Tok_eq, is_eq, takes_eq, takes_bad, wants_eq, wants_bad, name_eq, name_bad, Is_eq, Says_eq, Option.bind_some, Option.map_some, joinK, Bool.not_true, Bool.not_false, Bool.false_eq_true, Bool.or_true, Bool.true_or, Bool.false_or, Bool.or_false, Bool.and_true, Bool.and_false, Bool.true_and, Bool.false_and, ↓reduceIte, if_true, if_false, eq_self, Int.reduceBEq, Int.reduceBNe, bne_self_eq_false, beq_self_eq_true]
      refine Ev.bind e1 ?_
      simp only [look_eq, Tok_eq, is_eq, takes_eq, takes_bad, wants_eq, wants_bad, name_eq, name_bad, Is_eq, Says_eq, Option.bind_some, Option.map_some, joinK, Bool.not_true, Bool.not_false, Bool.false_eq_true, Bool.or_true, Bool.true_or, Bool.false_or, Bool.or_false, Bool.and_true, Bool.and_false, Bool.true_and, Bool.false_and, ↓reduceIte, if_true, if_false, eq_self, Int.reduceBEq, Int.reduceBNe, bne_self_eq_false, beq_self_eq_true, hroom]; exact Ev.pure
    · simp only [eArgsB]; simp only [look_eq, Tok_eq, is_eq, takes_eq, takes_bad, wants_eq, wants_bad, name_eq, name_bad, Is_eq, Says_eq, Option.bind_some, Option.map_some, joinK, Bool.not_true, Bool.not_false, Bool.false_eq_true, Bool.or_true, Bool.true_or, Bool.false_or, Bool.or_false, Bool.and_true, Bool.and_false, Bool.true_and, Bool.false_and, ↓reduceIte, if_true, if_false, eq_self, Int.reduceBEq, Int.reduceBNe, bne_self_eq_false, beq_self_eq_true]; exact Ev.pure
    · simp only [rArgsB]; simp only [look_eq, Tok_eq, is_eq, takes_eq, takes_bad, wants_eq, wants_bad, name_eq, name_bad, Is_eq, Says_eq, Option.bind_some, Option.map_some, joinK, Bool.not_true, Bool.not_false, Bool.false_eq_true, Bool.or_true, Bool.true_or, Bool.false_or, Bool.or_false, Bool.and_true, Bool.and_false, Bool.true_and, Bool.false_and, ↓reduceIte, if_true, if_false, eq_self, Int.reduceBEq, Int.reduceBNe, bne_self_eq_false, beq_self_eq_true]
      refine Ev.bind e2 ?_
      simp only [look_eq, Tok_eq, is_eq, takes_eq, takes_bad, wants_eq, wants_bad, name_eq, name_bad, Is_eq, Says_eq, Option.bind_some, Option.map_some, joinK, Bool.not_true, Bool.not_false, Bool.false_eq_true, Bool.or_true, Bool.true_or, Bool.false_or, Bool.or_false, Bool.and_true, Bool.and_false, Bool.true_and, Bool.false_and, ↓reduceIte, if_true, if_false, eq_self, Int.reduceBEq, Int.reduceBNe, bne_self_eq_false, beq_self_eq_true]; exact Ev.pure
  | true =>
    obtain ⟨rfl, q2, q3, q4⟩ := e3 rfl
    have hg' : ∀ x ∈ out ++ [a], GEx x := by
      intro x hx
      rcases List.mem_append.1 hx with hx | hx
      · exact hg x hx
      · simp at hx; subst hx; exact q4
    by_cases h1 : isT (tk l j) 4 [41] = true
    · have hk := (isT_kind h1).1
      obtain ⟨m1, m2, m3⟩ := W.next (i := j) (by omega)
      refine ⟨out ++ [a], j + 1, out ++ [a], true, EvL.done ?_, EvL.done ?_, fun _ => ⟨rfl, by omega, m2, ⟨hg', by simp; omega⟩⟩, fun h => by cases h⟩
      · simp only [eArgsB]; simp only [look_eq, Tok_eq, is_eq, takes_eq, takes_bad, wants_eq, wants_bad, name_eq, name_bad, Is_eq, Says_eq, Option.bind_some, Option.map_some, joinK, Bool.not_true, Bool.not_false, Bool.false_eq_true, Bool.or_true, Bool.true_or, Bool.false_or, Bool.or_false, Bool.and_true, Bool.and_false, Bool.true_and, Bool.false_and, ↓reduceIte, if_true, if_false, eq_self, Int.reduceBEq, Int.reduceBNe, bne_self_eq_false, beq_self_eq_true]
        refine Ev.bind e1 ?_
        simp only [look_eq, Tok_eq, is_eq, takes_eq, takes_bad, wants_eq, wants_bad, name_eq, name_bad, Is_eq, Says_eq, Option.bind_some, Option.map_some, joinK, Bool.not_true, Bool.not_false, Bool.false_eq_true, Bool.or_true, Bool.true_or, Bool.false_or, Bool.or_false, Bool.and_true, Bool.and_false, Bool.true_and, Bool.false_and, ↓reduceIte, if_true, if_false, eq_self, Int.reduceBEq, Int.reduceBNe, bne_self_eq_false, beq_self_eq_true, hroom, h1, m3]; exact Ev.pure
      · simp only [rArgsB]; simp only [look_eq, Tok_eq, is_eq, takes_eq, takes_bad, wants_eq, wants_bad, name_eq, name_bad, Is_eq, Says_eq, Option.bind_some, Option.map_some, joinK, Bool.not_true, Bool.not_false, Bool.false_eq_true, Bool.or_true, Bool.true_or, Bool.false_or, Bool.or_false, Bool.and_true, Bool.and_false, Bool.true_and, Bool.false_and, ↓reduceIte, if_true, if_false, eq_self, Int.reduceBEq, Int.reduceBNe, bne_self_eq_false, beq_self_eq_true]
        refine Ev.bind e2 ?_
        simp only [look_eq, Tok_eq, is_eq, takes_eq, takes_bad, wants_eq, wants_bad, name_eq, name_bad, Is_eq, Says_eq, Option.bind_some, Option.map_some, joinK, Bool.not_true, Bool.not_false, Bool.false_eq_true, Bool.or_true, Bool.true_or, Bool.false_or, Bool.or_false, Bool.and_true, Bool.and_false, Bool.true_and, Bool.false_and, ↓reduceIte, if_true, if_false, eq_self, Int.reduceBEq, Int.reduceBNe, bne_self_eq_false, beq_self_eq_true, hroom, h1, m3]; exact Ev.pure
    · have h1 : isT (tk l j) 4 [41] = false := by simpa using h1
      by_cases h2 : isT (tk l j) 4 [44] = true
      · have hk := (isT_kind h2).1
        obtain ⟨m1, m2, m3⟩ := W.next (i := j) (by omega)
        obtain ⟨a', j', b', ok', f1, f2, f3, f4⟩ := ih (n - 1) (by omega) (j + 1) (out ++ [a]) (by omega) (by omega) (by omega) (by simp; omega) hg'
        refine ⟨a', j', b', ok', EvL.step (s' := (out ++ [a], j + 1, false)) ?_ f1, EvL.step (s' := (j + 1, out ++ [a])) ?_ f2, fun h => ?_, f4⟩
        · simp only [eArgsB]; simp only [look_eq, Tok_eq, is_eq, takes_eq, takes_bad, wants_eq, wants_bad, name_eq, name_bad, Is_eq, Says_eq, Option.bind_some, Option.map_some, joinK, Bool.not_true, Bool.not_false, Bool.false_eq_true, Bool.or_true, Bool.true_or, Bool.false_or, Bool.or_false, Bool.and_true, Bool.and_false, Bool.true_and, Bool.false_and, ↓reduceIte, if_true, if_false, eq_self, Int.reduceBEq, Int.reduceBNe, bne_self_eq_false, beq_self_eq_true]
          refine Ev.bind e1 ?_
          simp only [look_eq, Tok_eq, is_eq, takes_eq, takes_bad, wants_eq, wants_bad, name_eq, name_bad, Is_eq, Says_eq, Option.bind_some, Option.map_some, joinK, Bool.not_true, Bool.not_false, Bool.false_eq_true, Bool.or_true, Bool.true_or, Bool.false_or, Bool.or_false, Bool.and_true, Bool.and_false, Bool.true_and, Bool.false_and, ↓reduceIte, if_true, if_false, eq_self, Int.reduceBEq, Int.reduceBNe, bne_self_eq_false, beq_self_eq_true, hroom, h1, h2, m3]; exact Ev.pure
        · simp only [rArgsB]; simp only [look_eq, Tok_eq, is_eq, takes_eq, takes_bad, wants_eq, wants_bad, name_eq, name_bad, Is_eq, Says_eq, Option.bind_some, Option.map_some, joinK, Bool.not_true, Bool.not_false, Bool.false_eq_true, Bool.or_true, Bool.true_or, Bool.false_or, Bool.or_false, Bool.and_true, Bool.and_false, Bool.true_and, Bool.false_and, ↓reduceIte, if_true, if_false, eq_self, Int.reduceBEq, Int.reduceBNe, bne_self_eq_false, beq_self_eq_true]
          refine Ev.bind e2 ?_
          simp only [look_eq, Tok_eq, is_eq, takes_eq, takes_bad, wants_eq, wants_bad, name_eq, name_bad, Is_eq, Says_eq, Option.bind_some, Option.map_some, joinK, Bool.not_true, Bool.not_false, Bool.false_eq_true, Bool.or_true, Bool.true_or, Bool.false_or, Bool.or_false, Bool.and_true, Bool.and_false, Bool.true_and, Bool.false_and, ↓reduceIte, if_true, if_false, eq_self, Int.reduceBEq, Int.reduceBNe, bne_self_eq_false, beq_self_eq_true, hroom, h1, h2, m3]; exact Ev.pure
        · obtain ⟨g1, g2, g3, g4⟩ := f3 h
          exact ⟨g1, by omega, g3, g4⟩
      · have h2 : isT (tk l j) 4 [44] = false := by simpa using h2
        refine ⟨[], j, [], false, EvL.step (s' := (out ++ [a], j, true)) ?_ (EvL.done ?_), EvL.done ?_, (fun h => by cases h), fun _ => ⟨rfl, rfl⟩⟩
        · simp only [eArgsB]; simp only [look_eq, Tok_eq, is_eq, takes_eq, takes_bad, wants_eq, wants_bad, name_eq, name_bad, Is_eq, Says_eq, Option.bind_some, Option.map_some, joinK, Bool.not_true, Bool.not_false, Bool.false_eq_true, Bool.or_true, Bool.true_or, Bool.false_or, Bool.or_false, Bool.and_true, Bool.and_false, Bool.true_and, Bool.false_and, ↓reduceIte, if_true, if_false, eq_self, Int.reduceBEq, Int.reduceBNe, bne_self_eq_false, beq_self_eq_true]
          refine Ev.bind e1 ?_
          simp only [look_eq, Tok_eq, is_eq, takes_eq, takes_bad, wants_eq, wants_bad, name_eq, name_bad, Is_eq, Says_eq, Option.bind_some, Option.map_some, joinK, Bool.not_true, Bool.not_false, Bool.false_eq_true, Bool.or_true, Bool.true_or, Bool.false_or, Bool.or_false, Bool.and_true, Bool.and_false, Bool.true_and, Bool.false_and, ↓reduceIte, if_true, if_false, eq_self, Int.reduceBEq, Int.reduceBNe, bne_self_eq_false, beq_self_eq_true, hroom, h1, h2]; exact Ev.pure
        · simp only [eArgsB]; simp only [look_eq, Tok_eq, is_eq, takes_eq, takes_bad, wants_eq, wants_bad, name_eq, name_bad, Is_eq, Says_eq, Option.bind_some, Option.map_some, joinK, Bool.not_true, Bool.not_false, Bool.false_eq_true, Bool.or_true, Bool.true_or, Bool.false_or, Bool.or_false, Bool.and_true, Bool.and_false, Bool.true_and, Bool.false_and, ↓reduceIte, if_true, if_false, eq_self, Int.reduceBEq, Int.reduceBNe, bne_self_eq_false, beq_self_eq_true]; exact Ev.pure
        · simp only [rArgsB]; simp only [look_eq, Tok_eq, is_eq, takes_eq, takes_bad, wants_eq, wants_bad, name_eq, name_bad, Is_eq, Says_eq, Option.bind_some, Option.map_some, joinK, Bool.not_true, Bool.not_false, Bool.false_eq_true, Bool.or_true, Bool.true_or, Bool.false_or, Bool.or_false, Bool.and_true, Bool.and_false, Bool.true_and, Bool.false_and, ↓reduceIte, if_true, if_false, eq_self, Int.reduceBEq, Int.reduceBNe, bne_self_eq_false, beq_self_eq_true]
          refine Ev.bind e2 ?_
          simp only [look_eq, Tok_eq, is_eq, takes_eq, takes_bad, wants_eq, wants_bad, name_eq, name_bad, Is_eq, Says_eq, Option.bind_some, Option.map_some, joinK, Bool.not_true, Bool.not_false, Bool.false_eq_true, Bool.or_true, Bool.true_or, Bool.false_or, Bool.or_false, Bool.and_true, Bool.and_false, Bool.true_and, Bool.false_and, ↓reduceIte, if_true, if_false, eq_self, Int.reduceBEq, Int.reduceBNe, bne_self_eq_false, beq_self_eq_true, hroom, h1, h2]; exact Ev.pure
/-- Arguments: alike. -/
def RA (l : List TToken) (i : Int) : Prop :=
  ∃ a j b ok, Ev (eArgs l i) (a, j, !ok) ∧ Ev (rArgs l i) (b, j, ok) ∧ (ok = true → a = b ∧ i < j ∧ j < l.length ∧ GAr b) ∧ (ok = false → a = [] ∧ b = [])
theorem args_R {l : List TToken} (W : WF l) {i : Int} (H : IH l i) : RA l i := by
  by_cases h1 : isT (tk l i) 4 [40] = true
  · have hk := (isT_kind h1).1
    obtain ⟨n1, n2, n3⟩ := W.next (i := i) (by omega)
    by_cases h2 : isT (tk l (i + 1)) 4 [41] = true
    · have hk := (isT_kind h2).1
      obtain ⟨m1, m2, m3⟩ := W.next (i := i + 1) (by omega)
      refine ⟨[], i + 1 + 1, [], true, Ev.succ1 ?_, Ev.succ1 ?_, fun _ => ⟨rfl, by omega, m2, ⟨by simp, by simp⟩⟩, fun h => by cases h⟩
      · simp only [eArgs, eArgs_eq]; simp only [look_eq, Tok_eq, is_eq, takes_eq, takes_bad, wants_eq, wants_bad, name_eq, name_bad, Is_eq, Says_eq, Option.bind_some, Option.map_some, joinK, Bool.not_true, Bool.not_false, Bool.false_eq_true, Bool.or_true, Bool.true_or, Bool.false_or, Bool.or_false, Bool.and_true, Bool.and_false, Bool.true_and, Bool.false_and, ↓reduceIte, if_true, if_false, eq_self, Int.reduceBEq, Int.reduceBNe, bne_self_eq_false, beq_self_eq_true, h1, n3, h2, m3]; exact Ev.pure
      · simp only [rArgs, rArgs_eq]; simp only [look_eq, Tok_eq, is_eq, takes_eq, takes_bad, wants_eq, wants_bad, name_eq, name_bad, Is_eq, Says_eq, Option.bind_some, Option.map_some, joinK, Bool.not_true, Bool.not_false, Bool.false_eq_true, Bool.or_true, Bool.true_or, Bool.false_or, Bool.or_false, Bool.and_true, Bool.and_false, Bool.true_and, Bool.false_and, ↓reduceIte, if_true, if_false, eq_self, Int.reduceBEq, Int.reduceBNe, bne_self_eq_false, beq_self_eq_true, h1, n3, h2, m3]; exact Ev.pure
    · have h2 : isT (tk l (i + 1)) 4 [41] = false := by simpa using h2
      obtain ⟨a, j, b, ok, f1, f2, f3, f4⟩ := args_loop W n1 H (l.length) (i + 1) [] (by omega) (by omega) (by omega) (by simp; omega) (by simp)
      refine ⟨a, j, b, ok, Ev.succ1 ?_, Ev.succ1 ?_, fun h => ?_, f4⟩
      · simp only [eArgs, eArgs_eq]; simp only [look_eq, Tok_eq, is_eq, takes_eq, takes_bad, wants_eq, wants_bad, name_eq, name_bad, Is_eq, Says_eq, Option.bind_some, Option.map_some, joinK, Bool.not_true, Bool.not_false, Bool.false_eq_true, Bool.or_true, Bool.true_or, Bool.false_or, Bool.or_false, Bool.and_true, Bool.and_false, Bool.true_and, Bool.false_and, ↓reduceIte, if_true, if_false, eq_self, Int.reduceBEq, Int.reduceBNe, bne_self_eq_false, beq_self_eq_true, h1, n3, h2]; exact Ev.loop f1
      · simp only [rArgs, rArgs_eq]; simp only [look_eq, Tok_eq, is_eq, takes_eq, takes_bad, wants_eq, wants_bad, name_eq, name_bad, Is_eq, Says_eq, Option.bind_some, Option.map_some, joinK, Bool.not_true, Bool.not_false, Bool.false_eq_true, Bool.or_true, Bool.true_or, Bool.false_or, Bool.or_false, Bool.and_true, Bool.and_false, Bool.true_and, Bool.false_and, ↓reduceIte, if_true, if_false, eq_self, Int.reduceBEq, Int.reduceBNe, bne_self_eq_false, beq_self_eq_true, h1, n3, h2]; exact Ev.loop f2
      · obtain ⟨g1, g2, g3, g4⟩ := f3 h
        exact ⟨g1, by omega, g3, g4⟩
  · have h1 : isT (tk l i) 4 [40] = false := by simpa using h1
    refine ⟨[], i, [], false, Ev.succ1 ?_, Ev.succ1 ?_, (fun h => by cases h), fun _ => ⟨rfl, rfl⟩⟩
    · simp only [eArgs, eArgs_eq]; simp only [look_eq, Tok_eq, is_eq, takes_eq, takes_bad, wants_eq, wants_bad, name_eq, name_bad, Is_eq, Says_eq, Option.bind_some, Option.map_some, joinK, Bool.not_true, Bool.not_false, Bool.false_eq_true, Bool.or_true, Bool.true_or, Bool.false_or, Bool.or_false, Bool.and_true, Bool.and_false, Bool.true_and, Bool.false_and, ↓reduceIte, if_true, if_false, eq_self, Int.reduceBEq, Int.reduceBNe, bne_self_eq_false, beq_self_eq_true, h1]
      refine Ev.loop (EvL.done ?_)
      simp only [eArgsB]; simp only [look_eq, Tok_eq, is_eq, takes_eq, takes_bad, wants_eq, wants_bad, name_eq, name_bad, Is_eq, Says_eq, Option.bind_some, Option.map_some, joinK, Bool.not_true, Bool.not_false, Bool.false_eq_true, Bool.or_true, Bool.true_or, Bool.false_or, Bool.or_false, Bool.and_true, Bool.and_false, Bool.true_and, Bool.false_and, ↓reduceIte, if_true, if_false, eq_self, Int.reduceBEq, Int.reduceBNe, bne_self_eq_false, beq_self_eq_true]; exact Ev.pure
    · simp only [rArgs, rArgs_eq]; simp only [look_eq, Tok_eq, is_eq, takes_eq, takes_bad, wants_eq, wants_bad, name_eq, name_bad, Is_eq, Says_eq, Option.bind_some, Option.map_some, joinK, Bool.not_true, Bool.not_false, Bool.false_eq_true, Bool.or_true, Bool.true_or, Bool.false_or, Bool.or_false, Bool.and_true, Bool.and_false, Bool.true_and, Bool.false_and, ↓reduceIte, if_true, if_false, eq_self, Int.reduceBEq, Int.reduceBNe, bne_self_eq_false, beq_self_eq_true, h1]; exact Ev.pure
end Go.Proofs.YtbhncegmohnfhaaDoor.F
