/- The laws ExprReads and ExprParts hold of the printed functions. No condition. -/
import Derived.Test.YtbhncegmohnfhaaDoorZLex3
import Derived.Test.YtbhncegmohnfhaaDoorZPExpr5
import Derived.KernelRfl
set_option linter.unusedVariables false
set_option linter.unusedSimpArgs false
set_option maxRecDepth 100000
set_option maxHeartbeats 4000000
namespace Go.Proofs.YtbhncegmohnfhaaDoor.F
open Go

theorem works60 (k : Nat) : law13_works (k + 60) = some true := by kernel_rfl
theorem works_ev : Ev law13_works true := Ev.at 60 works60
theorem end_bad (k : Nat) (n : TNode) (l : List TToken) (j : Int) : expr_reader_end k n l j true = some (zN, j, 1) := rfl
theorem end_ok (k : Nat) (n : TNode) (l : List TToken) (j : Int) : expr_reader_end k n l j false = some (n, j, 0) := rfl
theorem reads_holds (s : List UInt8) (i : Int) : Ev (fun k => law13_ExprReads k s i) true := by
  unfold law13_ExprReads
  refine Ev.bind works_ev ?_
  cases hl : decide (((s.length : Int)) > 400) with
  | true => simp only [look_eq, Tok_eq, is_eq, takes_eq, takes_bad, wants_eq, wants_bad, name_eq, name_bad, Is_eq, Says_eq, Option.bind_some, Option.map_some, joinK, Bool.not_true, Bool.not_false, Bool.false_eq_true, Bool.or_true, Bool.true_or, Bool.false_or, Bool.or_false, Bool.and_true, Bool.and_false, Bool.true_and, Bool.false_and, ↓reduceIte, if_true, if_false, eq_self, Int.reduceBEq, Int.reduceBNe, bne_self_eq_false, beq_self_eq_true]; exact Ev.bind works_ev Ev.pure
  | false =>
    simp only [look_eq, Tok_eq, is_eq, takes_eq, takes_bad, wants_eq, wants_bad, name_eq, name_bad, Is_eq, Says_eq, Option.bind_some, Option.map_some, joinK, Bool.not_true, Bool.not_false, Bool.false_eq_true, Bool.or_true, Bool.true_or, Bool.false_or, Bool.or_false, Bool.and_true, Bool.and_false, Bool.true_and, Bool.false_and, ↓reduceIte, if_true, if_false, eq_self, Int.reduceBEq, Int.reduceBNe, bne_self_eq_false, beq_self_eq_true]
    obtain ⟨⟨l, a, e⟩, h1, h2⟩ := all_ex s
    refine Ev.bind h1 ?_
    by_cases he : e = 0
    · subst he
      have W := h2 rfl
      simp only at W
      obtain ⟨n, j, m, ok, e1, e2, e3, e4⟩ := expr_all W i
      simp only [look_eq, Tok_eq, is_eq, takes_eq, takes_bad, wants_eq, wants_bad, name_eq, name_bad, Is_eq, Says_eq, Option.bind_some, Option.map_some, joinK, Bool.not_true, Bool.not_false, Bool.false_eq_true, Bool.or_true, Bool.true_or, Bool.false_or, Bool.or_false, Bool.and_true, Bool.and_false, Bool.true_and, Bool.false_and, ↓reduceIte, if_true, if_false, eq_self, Int.reduceBEq, Int.reduceBNe, bne_self_eq_false, beq_self_eq_true]
      have E : Ev (fun k => expr_Expr k l i) (if ok then n else zN, j, if ok then 0 else 1) := by
        unfold expr_Expr
        refine Ev.bind e1 ?_
        cases ok
        · simp only [look_eq, Tok_eq, is_eq, takes_eq, takes_bad, wants_eq, wants_bad, name_eq, name_bad, Is_eq, Says_eq, Option.bind_some, Option.map_some, joinK, Bool.not_true, Bool.not_false, Bool.false_eq_true, Bool.or_true, Bool.true_or, Bool.false_or, Bool.or_false, Bool.and_true, Bool.and_false, Bool.true_and, Bool.false_and, ↓reduceIte, if_true, if_false, eq_self, Int.reduceBEq, Int.reduceBNe, bne_self_eq_false, beq_self_eq_true, end_bad]; exact Ev.pure
        · simp only [look_eq, Tok_eq, is_eq, takes_eq, takes_bad, wants_eq, wants_bad, name_eq, name_bad, Is_eq, Says_eq, Option.bind_some, Option.map_some, joinK, Bool.not_true, Bool.not_false, Bool.false_eq_true, Bool.or_true, Bool.true_or, Bool.false_or, Bool.or_false, Bool.and_true, Bool.and_false, Bool.true_and, Bool.false_and, ↓reduceIte, if_true, if_false, eq_self, Int.reduceBEq, Int.reduceBNe, bne_self_eq_false, beq_self_eq_true, end_ok]; exact Ev.pure
      refine Ev.bind E (Ev.bind e2 ?_)
      cases ok with
      | false =>
        have := e4 rfl; subst this
        simp only [look_eq, Tok_eq, is_eq, takes_eq, takes_bad, wants_eq, wants_bad, name_eq, name_bad, Is_eq, Says_eq, Option.bind_some, Option.map_some, joinK, Bool.not_true, Bool.not_false, Bool.false_eq_true, Bool.or_true, Bool.true_or, Bool.false_or, Bool.or_false, Bool.and_true, Bool.and_false, Bool.true_and, Bool.false_and, ↓reduceIte, if_true, if_false, eq_self, Int.reduceBEq, Int.reduceBNe, bne_self_eq_false, beq_self_eq_true]
        refine Ev.bind (placed_self wide0) ?_
        simp only [look_eq, Tok_eq, is_eq, takes_eq, takes_bad, wants_eq, wants_bad, name_eq, name_bad, Is_eq, Says_eq, Option.bind_some, Option.map_some, joinK, Bool.not_true, Bool.not_false, Bool.false_eq_true, Bool.or_true, Bool.true_or, Bool.false_or, Bool.or_false, Bool.and_true, Bool.and_false, Bool.true_and, Bool.false_and, ↓reduceIte, if_true, if_false, eq_self, Int.reduceBEq, Int.reduceBNe, bne_self_eq_false, beq_self_eq_true]; exact Ev.pure
      | true =>
        obtain ⟨rfl, q2, q3, q4⟩ := e3 rfl
        simp only [look_eq, Tok_eq, is_eq, takes_eq, takes_bad, wants_eq, wants_bad, name_eq, name_bad, Is_eq, Says_eq, Option.bind_some, Option.map_some, joinK, Bool.not_true, Bool.not_false, Bool.false_eq_true, Bool.or_true, Bool.true_or, Bool.false_or, Bool.or_false, Bool.and_true, Bool.and_false, Bool.true_and, Bool.false_and, ↓reduceIte, if_true, if_false, eq_self, Int.reduceBEq, Int.reduceBNe, bne_self_eq_false, beq_self_eq_true]
        refine Ev.bind (placed_self q4.wide) ?_
        simp only [look_eq, Tok_eq, is_eq, takes_eq, takes_bad, wants_eq, wants_bad, name_eq, name_bad, Is_eq, Says_eq, Option.bind_some, Option.map_some, joinK, Bool.not_true, Bool.not_false, Bool.false_eq_true, Bool.or_true, Bool.true_or, Bool.false_or, Bool.or_false, Bool.and_true, Bool.and_false, Bool.true_and, Bool.false_and, ↓reduceIte, if_true, if_false, eq_self, Int.reduceBEq, Int.reduceBNe, bne_self_eq_false, beq_self_eq_true]
        refine Ev.bind q4.ge ?_
        simp only [look_eq, Tok_eq, is_eq, takes_eq, takes_bad, wants_eq, wants_bad, name_eq, name_bad, Is_eq, Says_eq, Option.bind_some, Option.map_some, joinK, Bool.not_true, Bool.not_false, Bool.false_eq_true, Bool.or_true, Bool.true_or, Bool.false_or, Bool.or_false, Bool.and_true, Bool.and_false, Bool.true_and, Bool.false_and, ↓reduceIte, if_true, if_false, eq_self, Int.reduceBEq, Int.reduceBNe, bne_self_eq_false, beq_self_eq_true, show decide (j > i) = true by simp; omega, show decide (j < (l.length : Int)) = true by simp; omega]; exact Ev.pure
    · have heb : (e != 0) = true := by simpa using he
      simp only [look_eq, Tok_eq, is_eq, takes_eq, takes_bad, wants_eq, wants_bad, name_eq, name_bad, Is_eq, Says_eq, Option.bind_some, Option.map_some, joinK, Bool.not_true, Bool.not_false, Bool.false_eq_true, Bool.or_true, Bool.true_or, Bool.false_or, Bool.or_false, Bool.and_true, Bool.and_false, Bool.true_and, Bool.false_and, ↓reduceIte, if_true, if_false, eq_self, Int.reduceBEq, Int.reduceBNe, bne_self_eq_false, beq_self_eq_true, heb]; exact Ev.pure
theorem parts_holds (s : List UInt8) (i : Int) : Ev (fun k => law13_ExprParts k s i) true := by
  unfold law13_ExprParts
  refine Ev.bind works_ev ?_
  cases hl : decide (((s.length : Int)) > 400) with
  | true => simp only [look_eq, Tok_eq, is_eq, takes_eq, takes_bad, wants_eq, wants_bad, name_eq, name_bad, Is_eq, Says_eq, Option.bind_some, Option.map_some, joinK, Bool.not_true, Bool.not_false, Bool.false_eq_true, Bool.or_true, Bool.true_or, Bool.false_or, Bool.or_false, Bool.and_true, Bool.and_false, Bool.true_and, Bool.false_and, ↓reduceIte, if_true, if_false, eq_self, Int.reduceBEq, Int.reduceBNe, bne_self_eq_false, beq_self_eq_true]; exact Ev.bind works_ev Ev.pure
  | false =>
    simp only [look_eq, Tok_eq, is_eq, takes_eq, takes_bad, wants_eq, wants_bad, name_eq, name_bad, Is_eq, Says_eq, Option.bind_some, Option.map_some, joinK, Bool.not_true, Bool.not_false, Bool.false_eq_true, Bool.or_true, Bool.true_or, Bool.false_or, Bool.or_false, Bool.and_true, Bool.and_false, Bool.true_and, Bool.false_and, ↓reduceIte, if_true, if_false, eq_self, Int.reduceBEq, Int.reduceBNe, bne_self_eq_false, beq_self_eq_true]
    obtain ⟨⟨l, a, e⟩, h1, h2⟩ := all_ex s
    refine Ev.bind h1 ?_
    by_cases he : e = 0
    · subst he
      have W := h2 rfl
      simp only at W
      obtain ⟨n, j, m, ok, e1, e2, e3, e4⟩ := type_all W i
      obtain ⟨x, j', y, ok', f1, f2, f3, f4⟩ := args_all W i
      simp only [look_eq, Tok_eq, is_eq, takes_eq, takes_bad, wants_eq, wants_bad, name_eq, name_bad, Is_eq, Says_eq, Option.bind_some, Option.map_some, joinK, Bool.not_true, Bool.not_false, Bool.false_eq_true, Bool.or_true, Bool.true_or, Bool.false_or, Bool.or_false, Bool.and_true, Bool.and_false, Bool.true_and, Bool.false_and, ↓reduceIte, if_true, if_false, eq_self, Int.reduceBEq, Int.reduceBNe, bne_self_eq_false, beq_self_eq_true]
      have E : Ev (fun k => expr_Type k l i) (if ok then n else zN, j, if ok then 0 else 1) := by
        unfold expr_Type
        refine Ev.bind e1 ?_
        cases ok
        · simp only [look_eq, Tok_eq, is_eq, takes_eq, takes_bad, wants_eq, wants_bad, name_eq, name_bad, Is_eq, Says_eq, Option.bind_some, Option.map_some, joinK, Bool.not_true, Bool.not_false, Bool.false_eq_true, Bool.or_true, Bool.true_or, Bool.false_or, Bool.or_false, Bool.and_true, Bool.and_false, Bool.true_and, Bool.false_and, ↓reduceIte, if_true, if_false, eq_self, Int.reduceBEq, Int.reduceBNe, bne_self_eq_false, beq_self_eq_true, end_bad]; exact Ev.pure
        · simp only [look_eq, Tok_eq, is_eq, takes_eq, takes_bad, wants_eq, wants_bad, name_eq, name_bad, Is_eq, Says_eq, Option.bind_some, Option.map_some, joinK, Bool.not_true, Bool.not_false, Bool.false_eq_true, Bool.or_true, Bool.true_or, Bool.false_or, Bool.or_false, Bool.and_true, Bool.and_false, Bool.true_and, Bool.false_and, ↓reduceIte, if_true, if_false, eq_self, Int.reduceBEq, Int.reduceBNe, bne_self_eq_false, beq_self_eq_true, end_ok]; exact Ev.pure
      have F : Ev (fun k => expr_Args k l i) (if ok' then x else [], j', if ok' then 0 else 1) := by
        unfold expr_Args
        refine Ev.bind f1 ?_
        cases ok'
        · simp only [look_eq, Tok_eq, is_eq, takes_eq, takes_bad, wants_eq, wants_bad, name_eq, name_bad, Is_eq, Says_eq, Option.bind_some, Option.map_some, joinK, Bool.not_true, Bool.not_false, Bool.false_eq_true, Bool.or_true, Bool.true_or, Bool.false_or, Bool.or_false, Bool.and_true, Bool.and_false, Bool.true_and, Bool.false_and, ↓reduceIte, if_true, if_false, eq_self, Int.reduceBEq, Int.reduceBNe, bne_self_eq_false, beq_self_eq_true]; exact Ev.pure
        · simp only [look_eq, Tok_eq, is_eq, takes_eq, takes_bad, wants_eq, wants_bad, name_eq, name_bad, Is_eq, Says_eq, Option.bind_some, Option.map_some, joinK, Bool.not_true, Bool.not_false, Bool.false_eq_true, Bool.or_true, Bool.true_or, Bool.false_or, Bool.or_false, Bool.and_true, Bool.and_false, Bool.true_and, Bool.false_and, ↓reduceIte, if_true, if_false, eq_self, Int.reduceBEq, Int.reduceBNe, bne_self_eq_false, beq_self_eq_true]; exact Ev.pure
      refine Ev.bind E (Ev.bind e2 ?_)
      have rest : ∀ {y' : List TNode}, y' = (if ok' then x else []) → (∀ z ∈ y', GEx z) → y'.length ≤ 100000 → Ev (fun k => (expr_Args k l i).bind fun (a : List TNode × Int × Int) =>
          (ref13_Args k l i).bind fun (b : List TNode × Int × Bool) =>
            if ((((((a.1.length : Int)) != ((b.1.length : Int))) || (a.2.1 != b.2.1)) || (!((a.2.2 == 0) == b.2.2))) || ((!b.2.2) && (a.2.2 != 1))) then
            some false
            else
            loopM k (fun (l1_20 : Int) =>
            if (decide (l1_20 < ((a.1.length : Int)))) then
            (ix a.1 l1_20).bind fun x17_2 =>
            (ix b.1 l1_20).bind fun x17_6 =>
            (ref13_Placed k x17_2 x17_6).bind fun x17_8 =>
            if (!x17_8) then
            some (.inr false)
            else
            (ix a.1 l1_20).bind fun x17_13 =>
            (ref11_Expr k x17_13).bind fun x17_15 =>
            if (!x17_15) then
            some (.inr false)
            else
            some (.inl (IntKind.i64.wrap (l1_20 + 1)))
            else
            some (.inr true)) 0) true := by
        intro y' hy hg hlen
        refine Ev.bind F (Ev.bind f2 ?_)
        have hyy : y = y' := by
          cases ok' with
          | false => rw [hy, (f4 rfl).2]; rfl
          | true => rw [hy, (f3 rfl).1]; rfl
        subst hyy
        rw [← hy]
        have hc : ((((((y.length : Int)) != ((y.length : Int))) || (j' != j')) || (!(((if ok' then (0 : Int) else 1) == 0) == ok'))) || ((!ok') && ((if ok' then (0 : Int) else 1) != 1))) = false := by
          cases ok' <;> simp
        refine Ev.ite_f hc (Ev.loop ?_)
        obtain ⟨r, g1, g2⟩ := loop_ex (body := fun k (l1_20 : Int) =>
            if (decide (l1_20 < ((y.length : Int)))) then
            (ix y l1_20).bind fun x17_2 =>
            (ix y l1_20).bind fun x17_6 =>
            (ref13_Placed k x17_2 x17_6).bind fun x17_8 =>
            if (!x17_8) then
            some (.inr false)
            else
            (ix y l1_20).bind fun x17_13 =>
            (ref11_Expr k x17_13).bind fun x17_15 =>
            if (!x17_15) then
            some (.inr false)
            else
            some (.inl (IntKind.i64.wrap (l1_20 + 1)))
            else
            some (.inr true)) (fun i => 0 ≤ i ∧ i ≤ y.length) (fun i => (y.length - i).toNat) (fun r => r = true) (by
          intro p hp
          by_cases hd : p < y.length
          · right
            have hix : ix y p = some (y[p.toNat]'(by omega)) := by
              unfold ix; rw [if_pos hp.1]; exact List.getElem?_eq_getElem (by omega)
            have hG := hg _ (List.getElem_mem (l := y) (n := p.toNat) (by omega))
            refine ⟨p + 1, Ev.ite_t (by simpa using hd) (Ev.bindS (fun _ => hix) (Ev.bindS (fun _ => hix) (Ev.bind (placed_self hG.wide) (Ev.ite_f rfl (Ev.bindS (fun _ => hix) (Ev.bind hG.ge (Ev.ite_f rfl (Ev.of fun _ => by rw [wrap64_id (by omega) (by omega)])))))))), by omega, by omega⟩
          · left
            exact ⟨true, Ev.ite_f (by simpa using hd) Ev.pure, rfl⟩) 0 (by omega)
        subst g2
        exact g1
      have rest' := rest (y' := if ok' then x else []) rfl (by
        cases ok' with
        | false => simp
        | true => obtain ⟨rfl, _, _, g⟩ := f3 rfl; exact g.all) (by
        cases ok' with
        | false => simp
        | true => obtain ⟨rfl, _, _, g⟩ := f3 rfl; exact g.len)
      cases ok with
      | false =>
        have := e4 rfl; subst this
        simp only [look_eq, Tok_eq, is_eq, takes_eq, takes_bad, wants_eq, wants_bad, name_eq, name_bad, Is_eq, Says_eq, Option.bind_some, Option.map_some, joinK, Bool.not_true, Bool.not_false, Bool.false_eq_true, Bool.or_true, Bool.true_or, Bool.false_or, Bool.or_false, Bool.and_true, Bool.and_false, Bool.true_and, Bool.false_and, ↓reduceIte, if_true, if_false, eq_self, Int.reduceBEq, Int.reduceBNe, bne_self_eq_false, beq_self_eq_true]
        refine Ev.bind (placed_self wide0) ?_
        simp only [look_eq, Tok_eq, is_eq, takes_eq, takes_bad, wants_eq, wants_bad, name_eq, name_bad, Is_eq, Says_eq, Option.bind_some, Option.map_some, joinK, Bool.not_true, Bool.not_false, Bool.false_eq_true, Bool.or_true, Bool.true_or, Bool.false_or, Bool.or_false, Bool.and_true, Bool.and_false, Bool.true_and, Bool.false_and, ↓reduceIte, if_true, if_false, eq_self, Int.reduceBEq, Int.reduceBNe, bne_self_eq_false, beq_self_eq_true]; exact rest'
      | true =>
        obtain ⟨rfl, q2, q3, q4⟩ := e3 rfl
        simp only [look_eq, Tok_eq, is_eq, takes_eq, takes_bad, wants_eq, wants_bad, name_eq, name_bad, Is_eq, Says_eq, Option.bind_some, Option.map_some, joinK, Bool.not_true, Bool.not_false, Bool.false_eq_true, Bool.or_true, Bool.true_or, Bool.false_or, Bool.or_false, Bool.and_true, Bool.and_false, Bool.true_and, Bool.false_and, ↓reduceIte, if_true, if_false, eq_self, Int.reduceBEq, Int.reduceBNe, bne_self_eq_false, beq_self_eq_true]
        refine Ev.bind (placed_self q4.wide) ?_
        simp only [look_eq, Tok_eq, is_eq, takes_eq, takes_bad, wants_eq, wants_bad, name_eq, name_bad, Is_eq, Says_eq, Option.bind_some, Option.map_some, joinK, Bool.not_true, Bool.not_false, Bool.false_eq_true, Bool.or_true, Bool.true_or, Bool.false_or, Bool.or_false, Bool.and_true, Bool.and_false, Bool.true_and, Bool.false_and, ↓reduceIte, if_true, if_false, eq_self, Int.reduceBEq, Int.reduceBNe, bne_self_eq_false, beq_self_eq_true]
        refine Ev.bind q4.gt ?_
        simp only [look_eq, Tok_eq, is_eq, takes_eq, takes_bad, wants_eq, wants_bad, name_eq, name_bad, Is_eq, Says_eq, Option.bind_some, Option.map_some, joinK, Bool.not_true, Bool.not_false, Bool.false_eq_true, Bool.or_true, Bool.true_or, Bool.false_or, Bool.or_false, Bool.and_true, Bool.and_false, Bool.true_and, Bool.false_and, ↓reduceIte, if_true, if_false, eq_self, Int.reduceBEq, Int.reduceBNe, bne_self_eq_false, beq_self_eq_true]; exact rest'
    · have heb : (e != 0) = true := by simpa using he
      simp only [look_eq, Tok_eq, is_eq, takes_eq, takes_bad, wants_eq, wants_bad, name_eq, name_bad, Is_eq, Says_eq, Option.bind_some, Option.map_some, joinK, Bool.not_true, Bool.not_false, Bool.false_eq_true, Bool.or_true, Bool.true_or, Bool.false_or, Bool.or_false, Bool.and_true, Bool.and_false, Bool.true_and, Bool.false_and, ↓reduceIte, if_true, if_false, eq_self, Int.reduceBEq, Int.reduceBNe, bne_self_eq_false, beq_self_eq_true, heb]; exact Ev.pure
end Go.Proofs.YtbhncegmohnfhaaDoor.F
