/- The plain law. No condition. -/
import Derived.Test.YtjakhfaodfaimaaGreatDoorZP0
import Derived.KernelRfl
set_option linter.unusedVariables false
set_option linter.unusedSimpArgs false
set_option maxRecDepth 100000
set_option maxHeartbeats 4000000
namespace Go.Proofs.YtjakhfaodfaimaaGreatDoor.F
open Go
theorem close_R {l : List TToken} (W : WF l) {i p : Int} (hi : i < p) (mk : TNode → TNode) (hmk : ∀ n, GEx n → GS (mk n)) {e : Nat → Option (TNode × Int × Bool)} {r : Nat → Option Tref14_Got}
    (he : ∀ a j ok, Ev (fun k => stmt_cursor_expr k l p false) (a, j, !ok) → Ev e (if ok && isT (tk l j) 4 [59] then (mk a, IntKind.i64.wrap (j + 1), false) else (mk a, j, true)))
    (hr : ∀ b j ok, Ev (fun k => ref14_expr k l p) ⟨b, j, ok⟩ → Ev r (if ok && isT (tk l j) 4 [59] then ⟨mk b, IntKind.i64.wrap (j + 1), true⟩ else ⟨zN, j, false⟩)) : RG GS l i e r := by
  obtain ⟨a, j, b, ok, e1, e2, e3, e4⟩ := sexpr_all W p
  have E := he _ _ _ e1
  have Rr := hr _ _ _ e2
  cases ok with
  | false => exact RG.bad E Rr
  | true =>
    obtain ⟨rfl, q2, q3, q4⟩ := e3 rfl
    by_cases h3 : isT (tk l j) 4 [59] = true
    · obtain ⟨m1, m2, m3⟩ := W.next (i := j) (by rw [(isT_kind h3).1]; decide)
      simp only [h3, Bool.and_true, if_true, m3] at E Rr
      exact RG.good E Rr ⟨by omega, m2⟩ (hmk _ q4)
    · simp only [show isT (tk l j) 4 [59] = false by simpa using h3, Bool.and_false, Bool.false_eq_true, if_false] at E Rr
      exact RG.bad E Rr
theorem words_R {l : List TToken} (W : WF l) {i : Int} (H : ∀ j, i < j → j ≤ l.length → IS l j) (hk : (tk l i).Kind = 3) : RG GS l i (eStmt l i) (rStmt l i) := by
  obtain ⟨n1, n2, n3⟩ := W.next (i := i) (by omega)
  have hlen := W.len
  have k1 : ((tk l i).Kind == 1) = false := by rw [hk]; rfl
  have k2 : isT (tk l i) 4 [123] = false := isT_ne (by omega)
  have k3 : ((tk l i).Kind != 3) = false := by rw [hk]; rfl
  have w2 : IntKind.i64.wrap (i + 2) = i + 2 := wrap64_id (by omega) (by omega)
  have w3 : IntKind.i64.wrap (i + 3) = i + 3 := wrap64_id (by omega) (by omega)
  have a2 : i + 1 + 1 = i + 2 := by omega
  have a3 : i + 2 + 1 = i + 3 := by omega
  have isT3 : ∀ s, isT (tk l i) 3 s = ((tk l i).Text == s) := fun s => by unfold isT; rw [hk]; rfl
  -- var
  by_cases hv : (tk l i).Text = [118, 97, 114]
  · by_cases hn : (tk l (i + 1)).Kind = 1
    · obtain ⟨p1, p2, p3⟩ := W.next (i := i + 1) (by omega)
      by_cases he : isT (tk l (i + 2)) 4 [61] = true
      · obtain ⟨q1, q2, q3⟩ := W.next (i := i + 2) (by rw [(isT_kind he).1]; decide)
        refine close_R W (p := i + 3) (by omega) (fun x => ⟨31, (tk l i).At, 0, (tk l (i + 1)).Text, [x]⟩) (fun n hn' => gs_var _ (W.names _ hn) hn') ?_ ?_
        · intro a j ok e1
          refine Ev.sh 4 ?_
          simp only [eStmt, stmt_cursor_stmt, stmt_cursor_word_v2, bind_same]
          simp only [qs, Option.bind_some, Option.map_some, joinK, qb, ↓reduceIte, if_true, if_false, eq_self, Int.reduceBEq, Int.reduceBNe, slook_eq, k1, k2, k3, hv, n3, hn, a2, w2, he, a3, w3]
          refine Ev.bind e1.up ?_
          cases ok
          · simp only [qs, Option.bind_some, Option.map_some, joinK, qb, ↓reduceIte, if_true, if_false, eq_self, Int.reduceBEq, Int.reduceBNe]; exact Ev.pure
          · simp only [qs, Option.bind_some, Option.map_some, joinK, qb, ↓reduceIte, if_true, if_false, eq_self, Int.reduceBEq, Int.reduceBNe]
            cases isT (tk l j) 4 [59]
            · simp only [qs, Option.bind_some, Option.map_some, joinK, qb, ↓reduceIte, if_true, if_false, eq_self, Int.reduceBEq, Int.reduceBNe]; exact Ev.pure
            · simp only [qs, Option.bind_some, Option.map_some, joinK, qb, ↓reduceIte, if_true, if_false, eq_self, Int.reduceBEq, Int.reduceBNe]; exact Ev.pure
        · intro b j ok e2
          refine Ev.sh 1 ?_
          simp only [rStmt, ref14_Stmt]
          simp only [qs, Option.bind_some, Option.map_some, joinK, qb, ↓reduceIte, if_true, if_false, eq_self, Int.reduceBEq, Int.reduceBNe, isT3, k1, k2, k3, hv, show (([118, 97, 114] : List UInt8) == [105, 102]) = false from rfl, show (([118, 97, 114] : List UInt8) == [119, 104, 105, 108, 101]) = false from rfl, show (([118, 97, 114] : List UInt8) == [114, 101, 116, 117, 114, 110]) = false from rfl, show (([118, 97, 114] : List UInt8) == [112, 114, 105, 110, 116]) = false from rfl, n3, hn, a2, w2, he, a3, w3]
          refine Ev.bind e2 ?_
          cases ok
          · simp only [qs, Option.bind_some, Option.map_some, joinK, qb, ↓reduceIte, if_true, if_false, eq_self, Int.reduceBEq, Int.reduceBNe]; exact Ev.pure
          · simp only [qs, Option.bind_some, Option.map_some, joinK, qb, ↓reduceIte, if_true, if_false, eq_self, Int.reduceBEq, Int.reduceBNe]
            cases isT (tk l j) 4 [59]
            · simp only [qs, Option.bind_some, Option.map_some, joinK, qb, ↓reduceIte, if_true, if_false, eq_self, Int.reduceBEq, Int.reduceBNe]; exact Ev.pure
            · simp only [qs, Option.bind_some, Option.map_some, joinK, qb, ↓reduceIte, if_true, if_false, eq_self, Int.reduceBEq, Int.reduceBNe]; exact Ev.pure
      · have he : isT (tk l (i + 2)) 4 [61] = false := by simpa using he
        refine RG.bad (j := i + 2) (n := ⟨31, (tk l i).At, 0, (tk l (i + 1)).Text, [zN]⟩) (Ev.sh 4 ?_) (Ev.sh 1 ?_)
        · simp only [eStmt, stmt_cursor_stmt, stmt_cursor_word_v2, bind_same]
          simp only [qs, Option.bind_some, Option.map_some, joinK, qb, ↓reduceIte, if_true, if_false, eq_self, Int.reduceBEq, Int.reduceBNe, slook_eq, k1, k2, k3, hv, n3, hn, a2, w2, he]; exact Ev.pure
        · simp only [rStmt, ref14_Stmt]
          simp only [qs, Option.bind_some, Option.map_some, joinK, qb, ↓reduceIte, if_true, if_false, eq_self, Int.reduceBEq, Int.reduceBNe, isT3, k1, k2, k3, hv, show (([118, 97, 114] : List UInt8) == [105, 102]) = false from rfl, show (([118, 97, 114] : List UInt8) == [119, 104, 105, 108, 101]) = false from rfl, show (([118, 97, 114] : List UInt8) == [114, 101, 116, 117, 114, 110]) = false from rfl, show (([118, 97, 114] : List UInt8) == [112, 114, 105, 110, 116]) = false from rfl, n3, hn, a2, w2, he]; exact Ev.pure
    · have hn : ((tk l (i + 1)).Kind != 1) = true := by simpa using hn
      refine RG.bad (j := i + 1) (n := ⟨31, (tk l i).At, 0, [], [zN]⟩) (Ev.sh 4 ?_) (Ev.sh 1 ?_)
      · simp only [eStmt, stmt_cursor_stmt, stmt_cursor_word_v2, bind_same]
        simp only [qs, Option.bind_some, Option.map_some, joinK, qb, ↓reduceIte, if_true, if_false, eq_self, Int.reduceBEq, Int.reduceBNe, slook_eq, k1, k2, k3, hv, n3, hn]; exact Ev.pure
      · simp only [rStmt, ref14_Stmt]
        simp only [qs, Option.bind_some, Option.map_some, joinK, qb, ↓reduceIte, if_true, if_false, eq_self, Int.reduceBEq, Int.reduceBNe, isT3, k1, k2, k3, hv, show (([118, 97, 114] : List UInt8) == [105, 102]) = false from rfl, show (([118, 97, 114] : List UInt8) == [119, 104, 105, 108, 101]) = false from rfl, show (([118, 97, 114] : List UInt8) == [114, 101, 116, 117, 114, 110]) = false from rfl, show (([118, 97, 114] : List UInt8) == [112, 114, 105, 110, 116]) = false from rfl, n3, hn]; exact Ev.pure
  have hv : ((tk l i).Text == [118, 97, 114]) = false := by simpa using hv
  -- if
  by_cases hf : (tk l i).Text = [105, 102]
  · obtain ⟨x, j, y, ok, e1, e2, e3, e4⟩ := choice_R W H (by rw [isT3, hf]; rfl)
    refine ⟨x, j, y, ok, Ev.sh 2 ?_, Ev.sh 1 ?_, fun h => ?_, e4⟩
    · simp only [eStmt, stmt_cursor_stmt, stmt_cursor_word_v2, bind_same]
      simp only [qs, Option.bind_some, Option.map_some, joinK, qb, ↓reduceIte, if_true, if_false, eq_self, Int.reduceBEq, Int.reduceBNe, slook_eq, k1, k2, k3, hv, hf, n3, show (([105, 102] : List UInt8) == [118, 97, 114]) = false from rfl]
      exact e1
    · simp only [rStmt, ref14_Stmt]
      simp only [qs, Option.bind_some, Option.map_some, joinK, qb, ↓reduceIte, if_true, if_false, eq_self, Int.reduceBEq, Int.reduceBNe, isT3, k1, k2, k3, hf]
      refine Ev.bind e2 ?_
      exact Ev.pure
    · obtain ⟨g1, g2, g3, g4⟩ := e3 h
      exact ⟨g1, g2, g3, g4.gs⟩
  have hf : ((tk l i).Text == [105, 102]) = false := by simpa using hf
  -- while
  by_cases hw : (tk l i).Text = [119, 104, 105, 108, 101]
  · obtain ⟨a, c, j1, j, ok1, ok, e1, e2, e3, e4⟩ := head_R W H n1 n2 34
    have r1 := room1 (m := 0) a (by omega)
    have r2 := room1 (m := ([a] : List TNode).length) c (by simp)
    have E : Ev (eStmt l i) (⟨34, (tk l i).At, 0, [], [a, c]⟩, j, !ok) := by
      refine Ev.sh 2 ?_
      simp only [eStmt, stmt_cursor_stmt, stmt_cursor_word_v2, bind_same]
      simp only [qs, Option.bind_some, Option.map_some, joinK, qb, ↓reduceIte, if_true, if_false, eq_self, Int.reduceBEq, Int.reduceBNe, slook_eq, k1, k2, k3, hw, n3, show (([119, 104, 105, 108, 101] : List UInt8) == [118, 97, 114]) = false from rfl, show (([119, 104, 105, 108, 101] : List UInt8) == [105, 102]) = false from rfl]
      refine Ev.bind e1 ?_
      simp only [qs, Option.bind_some, Option.map_some, joinK, qb, ↓reduceIte, if_true, if_false, eq_self, Int.reduceBEq, Int.reduceBNe, List.nil_append, List.length_nil, r1]
      refine Ev.bind e2 ?_
      simp only [qs, Option.bind_some, Option.map_some, joinK, qb, ↓reduceIte, if_true, if_false, eq_self, Int.reduceBEq, Int.reduceBNe, r2]; exact Ev.pure
    have Rr : Ev (rStmt l i) (if ok then ⟨⟨34, (tk l i).At, 0, [], [a, c]⟩, j, true⟩ else ⟨zN, j, false⟩) := by
      refine Ev.sh 1 ?_
      simp only [rStmt, ref14_Stmt]
      simp only [qs, Option.bind_some, Option.map_some, joinK, qb, ↓reduceIte, if_true, if_false, eq_self, Int.reduceBEq, Int.reduceBNe, isT3, k1, k2, k3, hf, hw]
      refine Ev.bind e3 ?_
      cases ok
      · simp only [qs, Option.bind_some, Option.map_some, joinK, qb, ↓reduceIte, if_true, if_false, eq_self, Int.reduceBEq, Int.reduceBNe]; exact Ev.pure
      · simp only [qs, Option.bind_some, Option.map_some, joinK, qb, ↓reduceIte, if_true, if_false, eq_self, Int.reduceBEq, Int.reduceBNe]; exact Ev.pure
    cases ok with
    | false => exact RG.bad E Rr
    | true =>
      obtain ⟨g0, g1, g2, g3, g4⟩ := e4 rfl
      exact RG.good E Rr ⟨g1, g2⟩ (gs_two _ 34 (Or.inr rfl) g3 g4)
  have hw : ((tk l i).Text == [119, 104, 105, 108, 101]) = false := by simpa using hw
  -- return
  by_cases hr : (tk l i).Text = [114, 101, 116, 117, 114, 110]
  · by_cases hs : isT (tk l (i + 1)) 4 [59] = true
    · obtain ⟨p1, p2, p3⟩ := W.next (i := i + 1) (by rw [(isT_kind hs).1]; decide)
      refine RG.good (j := i + 2) (n := ⟨35, (tk l i).At, 0, [], []⟩) (Ev.sh 4 ?_) (Ev.sh 1 ?_) ⟨by omega, by omega⟩ (gs_ret0 _)
      · simp only [eStmt, stmt_cursor_stmt, stmt_cursor_word_v2, bind_same]
        simp only [qs, Option.bind_some, Option.map_some, joinK, qb, ↓reduceIte, if_true, if_false, eq_self, Int.reduceBEq, Int.reduceBNe, slook_eq, k1, k2, k3, hr, n3, hs, a2, w2, show (([114, 101, 116, 117, 114, 110] : List UInt8) == [118, 97, 114]) = false from rfl, show (([114, 101, 116, 117, 114, 110] : List UInt8) == [105, 102]) = false from rfl, show (([114, 101, 116, 117, 114, 110] : List UInt8) == [119, 104, 105, 108, 101]) = false from rfl]
        exact Ev.pure
      · simp only [rStmt, ref14_Stmt]
        simp only [qs, Option.bind_some, Option.map_some, joinK, qb, ↓reduceIte, if_true, if_false, eq_self, Int.reduceBEq, Int.reduceBNe, isT3, k1, k2, k3, hf, hw, hr, n3, hs, w2]; exact Ev.pure
    · have hs : isT (tk l (i + 1)) 4 [59] = false := by simpa using hs
      refine close_R W (p := i + 1) (by omega) (fun x => ⟨35, (tk l i).At, 0, [], [x]⟩) (fun n hn' => gs_ret1 _ hn') ?_ ?_
      · intro a j ok e1
        refine Ev.sh 4 ?_
        simp only [eStmt, stmt_cursor_stmt, stmt_cursor_word_v2, bind_same]
        simp only [qs, Option.bind_some, Option.map_some, joinK, qb, ↓reduceIte, if_true, if_false, eq_self, Int.reduceBEq, Int.reduceBNe, slook_eq, k1, k2, k3, hr, n3, hs, show (([114, 101, 116, 117, 114, 110] : List UInt8) == [118, 97, 114]) = false from rfl, show (([114, 101, 116, 117, 114, 110] : List UInt8) == [105, 102]) = false from rfl, show (([114, 101, 116, 117, 114, 110] : List UInt8) == [119, 104, 105, 108, 101]) = false from rfl]
        refine Ev.bind e1.up ?_
        cases ok
        · simp only [qs, Option.bind_some, Option.map_some, joinK, qb, ↓reduceIte, if_true, if_false, eq_self, Int.reduceBEq, Int.reduceBNe]; exact Ev.pure
        · simp only [qs, Option.bind_some, Option.map_some, joinK, qb, ↓reduceIte, if_true, if_false, eq_self, Int.reduceBEq, Int.reduceBNe]
          cases isT (tk l j) 4 [59]
          · simp only [qs, Option.bind_some, Option.map_some, joinK, qb, ↓reduceIte, if_true, if_false, eq_self, Int.reduceBEq, Int.reduceBNe]; exact Ev.pure
          · simp only [qs, Option.bind_some, Option.map_some, joinK, qb, ↓reduceIte, if_true, if_false, eq_self, Int.reduceBEq, Int.reduceBNe]; exact Ev.pure
      · intro b j ok e2
        refine Ev.sh 1 ?_
        simp only [rStmt, ref14_Stmt]
        simp only [qs, Option.bind_some, Option.map_some, joinK, qb, ↓reduceIte, if_true, if_false, eq_self, Int.reduceBEq, Int.reduceBNe, isT3, k1, k2, k3, hf, hw, hr, n3, hs]
        refine Ev.bind e2 ?_
        cases ok
        · simp only [qs, Option.bind_some, Option.map_some, joinK, qb, ↓reduceIte, if_true, if_false, eq_self, Int.reduceBEq, Int.reduceBNe]; exact Ev.pure
        · simp only [qs, Option.bind_some, Option.map_some, joinK, qb, ↓reduceIte, if_true, if_false, eq_self, Int.reduceBEq, Int.reduceBNe]
          cases isT (tk l j) 4 [59]
          · simp only [qs, Option.bind_some, Option.map_some, joinK, qb, ↓reduceIte, if_true, if_false, eq_self, Int.reduceBEq, Int.reduceBNe]; exact Ev.pure
          · simp only [qs, Option.bind_some, Option.map_some, joinK, qb, ↓reduceIte, if_true, if_false, eq_self, Int.reduceBEq, Int.reduceBNe]; exact Ev.pure
  have hr : ((tk l i).Text == [114, 101, 116, 117, 114, 110]) = false := by simpa using hr
  -- join
  by_cases hj : (tk l i).Text = [106, 111, 105, 110]
  · have hp : (([106, 111, 105, 110] : List UInt8) == [112, 114, 105, 110, 116]) = false := rfl
    by_cases hn : (tk l (i + 1)).Kind = 1
    · obtain ⟨p1, p2, p3⟩ := W.next (i := i + 1) (by omega)
      have E : Ev (eStmt l i) (if isT (tk l (i + 2)) 4 [59] then (⟨36, (tk l i).At, 0, (tk l (i + 1)).Text, []⟩, IntKind.i64.wrap (i + 3), false) else (⟨36, (tk l i).At, 0, (tk l (i + 1)).Text, []⟩, i + 2, true)) := by
        refine Ev.sh 4 ?_
        simp only [eStmt, stmt_cursor_stmt, stmt_cursor_word_v2, bind_same]
        simp only [qs, Option.bind_some, Option.map_some, joinK, qb, ↓reduceIte, if_true, if_false, eq_self, Int.reduceBEq, Int.reduceBNe, slook_eq, k1, k2, k3, hj, n3, hn, a2, w2, a3, show (([106, 111, 105, 110] : List UInt8) == [118, 97, 114]) = false from rfl, show (([106, 111, 105, 110] : List UInt8) == [105, 102]) = false from rfl, show (([106, 111, 105, 110] : List UInt8) == [119, 104, 105, 108, 101]) = false from rfl, show (([106, 111, 105, 110] : List UInt8) == [114, 101, 116, 117, 114, 110]) = false from rfl]
        cases isT (tk l (i + 2)) 4 [59]
        · simp only [qs, Option.bind_some, Option.map_some, joinK, qb, ↓reduceIte, if_true, if_false, eq_self, Int.reduceBEq, Int.reduceBNe]; exact Ev.pure
        · simp only [qs, Option.bind_some, Option.map_some, joinK, qb, ↓reduceIte, if_true, if_false, eq_self, Int.reduceBEq, Int.reduceBNe]; exact Ev.pure
      have Rr : Ev (rStmt l i) (if isT (tk l (i + 2)) 4 [59] then ⟨⟨36, (tk l i).At, 0, (tk l (i + 1)).Text, []⟩, IntKind.i64.wrap (i + 3), true⟩ else ⟨zN, i + 2, false⟩) := by
        refine Ev.sh 1 ?_
        simp only [rStmt, ref14_Stmt]
        simp only [qs, Option.bind_some, Option.map_some, joinK, qb, ↓reduceIte, if_true, if_false, eq_self, Int.reduceBEq, Int.reduceBNe, isT3, k1, k2, k3, hf, hw, hr, hv, hp, hj, n3, hn, w2, a3, show (([106, 111, 105, 110] : List UInt8) == [118, 97, 114]) = false from rfl, show (([106, 111, 105, 110] : List UInt8) == [105, 102]) = false from rfl, show (([106, 111, 105, 110] : List UInt8) == [119, 104, 105, 108, 101]) = false from rfl, show (([106, 111, 105, 110] : List UInt8) == [114, 101, 116, 117, 114, 110]) = false from rfl]
        exact Ev.pure
      by_cases h3 : isT (tk l (i + 2)) 4 [59] = true
      · obtain ⟨m1, m2, m3⟩ := W.next (i := i + 2) (by rw [(isT_kind h3).1]; decide)
        simp only [h3, if_true, w3] at E Rr
        exact RG.good E Rr ⟨by omega, by omega⟩ (gs_join _ (W.names _ hn))
      · simp only [show isT (tk l (i + 2)) 4 [59] = false by simpa using h3, Bool.false_eq_true, if_false] at E Rr
        exact RG.bad E Rr
    · have hn : ((tk l (i + 1)).Kind != 1) = true := by simpa using hn
      refine RG.bad (j := i + 1) (n := ⟨36, (tk l i).At, 0, [], []⟩) (Ev.sh 4 ?_) (Ev.sh 1 ?_)
      · simp only [eStmt, stmt_cursor_stmt, stmt_cursor_word_v2, bind_same]
        simp only [qs, Option.bind_some, Option.map_some, joinK, qb, ↓reduceIte, if_true, if_false, eq_self, Int.reduceBEq, Int.reduceBNe, slook_eq, k1, k2, k3, hj, n3, hn, show (([106, 111, 105, 110] : List UInt8) == [118, 97, 114]) = false from rfl, show (([106, 111, 105, 110] : List UInt8) == [105, 102]) = false from rfl, show (([106, 111, 105, 110] : List UInt8) == [119, 104, 105, 108, 101]) = false from rfl, show (([106, 111, 105, 110] : List UInt8) == [114, 101, 116, 117, 114, 110]) = false from rfl]; exact Ev.pure
      · simp only [rStmt, ref14_Stmt]
        simp only [qs, Option.bind_some, Option.map_some, joinK, qb, ↓reduceIte, if_true, if_false, eq_self, Int.reduceBEq, Int.reduceBNe, isT3, k1, k2, k3, hj, hp, n3, hn, show (([106, 111, 105, 110] : List UInt8) == [118, 97, 114]) = false from rfl, show (([106, 111, 105, 110] : List UInt8) == [105, 102]) = false from rfl, show (([106, 111, 105, 110] : List UInt8) == [119, 104, 105, 108, 101]) = false from rfl, show (([106, 111, 105, 110] : List UInt8) == [114, 101, 116, 117, 114, 110]) = false from rfl]; exact Ev.pure
  have hj : ((tk l i).Text == [106, 111, 105, 110]) = false := by simpa using hj
  -- print
  by_cases hp : (tk l i).Text = [112, 114, 105, 110, 116]
  · refine close_R W (p := i + 1) (by omega) (fun x => ⟨37, (tk l i).At, 0, [], [x]⟩) (fun n hn' => gs_print _ hn') ?_ ?_
    · intro a j ok e1
      refine Ev.sh 4 ?_
      simp only [eStmt, stmt_cursor_stmt, stmt_cursor_word_v2, bind_same]
      simp only [qs, Option.bind_some, Option.map_some, joinK, qb, ↓reduceIte, if_true, if_false, eq_self, Int.reduceBEq, Int.reduceBNe, slook_eq, k1, k2, k3, hp, n3, show (([112, 114, 105, 110, 116] : List UInt8) == [118, 97, 114]) = false from rfl, show (([112, 114, 105, 110, 116] : List UInt8) == [105, 102]) = false from rfl, show (([112, 114, 105, 110, 116] : List UInt8) == [119, 104, 105, 108, 101]) = false from rfl, show (([112, 114, 105, 110, 116] : List UInt8) == [114, 101, 116, 117, 114, 110]) = false from rfl, show (([112, 114, 105, 110, 116] : List UInt8) == [106, 111, 105, 110]) = false from rfl]
      refine Ev.bind e1.up ?_
      cases ok
      · simp only [qs, Option.bind_some, Option.map_some, joinK, qb, ↓reduceIte, if_true, if_false, eq_self, Int.reduceBEq, Int.reduceBNe]; exact Ev.pure
      · simp only [qs, Option.bind_some, Option.map_some, joinK, qb, ↓reduceIte, if_true, if_false, eq_self, Int.reduceBEq, Int.reduceBNe]
        cases isT (tk l j) 4 [59]
        · simp only [qs, Option.bind_some, Option.map_some, joinK, qb, ↓reduceIte, if_true, if_false, eq_self, Int.reduceBEq, Int.reduceBNe]; exact Ev.pure
        · simp only [qs, Option.bind_some, Option.map_some, joinK, qb, ↓reduceIte, if_true, if_false, eq_self, Int.reduceBEq, Int.reduceBNe]; exact Ev.pure
    · intro b j ok e2
      refine Ev.sh 1 ?_
      simp only [rStmt, ref14_Stmt]
      simp only [qs, Option.bind_some, Option.map_some, joinK, qb, ↓reduceIte, if_true, if_false, eq_self, Int.reduceBEq, Int.reduceBNe, isT3, k1, k2, k3, hf, hw, hr, hp, n3]
      refine Ev.bind e2 ?_
      cases ok
      · simp only [qs, Option.bind_some, Option.map_some, joinK, qb, ↓reduceIte, if_true, if_false, eq_self, Int.reduceBEq, Int.reduceBNe]; exact Ev.pure
      · simp only [qs, Option.bind_some, Option.map_some, joinK, qb, ↓reduceIte, if_true, if_false, eq_self, Int.reduceBEq, Int.reduceBNe]
        cases isT (tk l j) 4 [59]
        · simp only [qs, Option.bind_some, Option.map_some, joinK, qb, ↓reduceIte, if_true, if_false, eq_self, Int.reduceBEq, Int.reduceBNe]; exact Ev.pure
        · simp only [qs, Option.bind_some, Option.map_some, joinK, qb, ↓reduceIte, if_true, if_false, eq_self, Int.reduceBEq, Int.reduceBNe]; exact Ev.pure
  have hp : ((tk l i).Text == [112, 114, 105, 110, 116]) = false := by simpa using hp
  have wb : IntKind.i64.wrap (i + 1 - 1) = i := by rw [show i + 1 - 1 = i by omega]; exact wrap64_id (by omega) (by omega)
  refine RG.bad (j := i) (n := ⟨0, (tk l i).At, 0, [], []⟩) (Ev.sh 4 ?_) (Ev.sh 1 ?_)
  · simp only [eStmt, stmt_cursor_stmt, stmt_cursor_word_v2, bind_same]
    simp only [qs, Option.bind_some, Option.map_some, joinK, qb, ↓reduceIte, if_true, if_false, eq_self, Int.reduceBEq, Int.reduceBNe, slook_eq, k1, k2, k3, hv, hf, hw, hr, hj, hp, n3, wb]; exact Ev.pure
  · simp only [rStmt, ref14_Stmt]
    simp only [qs, Option.bind_some, Option.map_some, joinK, qb, ↓reduceIte, if_true, if_false, eq_self, Int.reduceBEq, Int.reduceBNe, isT3, k1, k2, k3, hv, hf, hw, hr, hj, hp]; exact Ev.pure
theorem stmt_R {l : List TToken} (W : WF l) {i : Int} (H : ∀ j, i < j → j ≤ l.length → IS l j) (B : RG GB l i (eBlock l i) (rBlock l i)) : RG GS l i (eStmt l i) (rStmt l i) := by
  by_cases hk : (tk l i).Kind = 3
  · exact words_R W H hk
  have k3 : ((tk l i).Kind != 3) = true := by simpa using hk
  have n3 : ∀ s, isT (tk l i) 3 s = false := fun s => isT_ne hk
  by_cases h1 : (tk l i).Kind = 1
  · have k2 : isT (tk l i) 4 [123] = false := isT_ne (by omega)
    obtain ⟨x, j, y, ok, e1, e2, e3, e4⟩ := snamed_R W i h1
    refine ⟨x, j, y, ok, Ev.sh 1 ?_, Ev.sh 1 ?_, e3, e4⟩
    · simp only [eStmt, stmt_cursor_stmt]
      simp only [qs, Option.bind_some, Option.map_some, joinK, qb, ↓reduceIte, if_true, if_false, eq_self, Int.reduceBEq, Int.reduceBNe, slook_eq, h1]
      exact Ev.bind e1 Ev.pure
    · simp only [rStmt, ref14_Stmt]
      simp only [qs, Option.bind_some, Option.map_some, joinK, qb, ↓reduceIte, if_true, if_false, eq_self, Int.reduceBEq, Int.reduceBNe, k2, h1]
      exact Ev.bind e2 Ev.pure
  have k1 : ((tk l i).Kind == 1) = false := by simpa using h1
  by_cases h2 : isT (tk l i) 4 [123] = true
  · obtain ⟨x, j, y, ok, e1, e2, e3, e4⟩ := B
    refine ⟨x, j, y, ok, Ev.sh 1 ?_, Ev.sh 1 ?_, fun h => ?_, e4⟩
    · simp only [eStmt, stmt_cursor_stmt]
      simp only [qs, Option.bind_some, Option.map_some, joinK, qb, ↓reduceIte, if_true, if_false, eq_self, Int.reduceBEq, Int.reduceBNe, slook_eq, k1, h2]
      exact Ev.bind e1 Ev.pure
    · simp only [rStmt, ref14_Stmt]
      simp only [qs, Option.bind_some, Option.map_some, joinK, qb, ↓reduceIte, if_true, if_false, eq_self, Int.reduceBEq, Int.reduceBNe, h2]
      exact Ev.bind e2 Ev.pure
    · obtain ⟨g1, g2, g3, g4⟩ := e3 h
      exact ⟨g1, g2, g3, g4.gs⟩
  have h2 : isT (tk l i) 4 [123] = false := by simpa using h2
  refine RG.bad (j := i) (n := zN) (Ev.sh 1 ?_) (Ev.sh 1 ?_)
  · simp only [eStmt, stmt_cursor_stmt]
    simp only [qs, Option.bind_some, Option.map_some, joinK, qb, ↓reduceIte, if_true, if_false, eq_self, Int.reduceBEq, Int.reduceBNe, slook_eq, k1, h2, k3]; exact Ev.pure
  · simp only [rStmt, ref14_Stmt]
    simp only [qs, Option.bind_some, Option.map_some, joinK, qb, ↓reduceIte, if_true, if_false, eq_self, Int.reduceBEq, Int.reduceBNe, h2, k1, n3]; exact Ev.pure
theorem is_all {l : List TToken} (W : WF l) : ∀ (n : Nat) (i : Int), (l.length : Int) - i ≤ n → IS l i := by
  intro n
  induction n using Nat.strongRecOn with
  | _ n ih =>
  intro i hi
  have H : ∀ j, i < j → j ≤ l.length → IS l j := fun j h1 h2 => ih (n - 1) (by omega) j (by omega)
  have B := block_R W H
  exact ⟨stmt_R W H B, B, choice_R W H⟩
theorem is_at {l : List TToken} (W : WF l) (i : Int) : IS l i := is_all W (l.length - i).toNat i (by omega)
end Go.Proofs.YtjakhfaodfaimaaGreatDoor.F
namespace Go.Proofs.YtjakhfaodfaimaaGreatDoor.F
open Go
structure GPa (n : TNode) : Prop where
  gp : Ev (fun k => ref11_param k n) true
  wide : Wide n
structure GD (n : TNode) : Prop where
  gd : Ev (fun k => ref11_Decl k n) true
  wide : Wide n
theorem gpa_of (a : Int) {s : List UInt8} {t : TNode} (h : Nm s) (ht : GTy t) : GPa ⟨50, a, 0, s, [t]⟩ := by
  refine ⟨?_, wide1 ht.wide⟩
  simp only [ref11_param]
  simp only [qs, Option.bind_some, Option.map_some, joinK, qb, ↓reduceIte, if_true, if_false, eq_self, Int.reduceBEq, Int.reduceBNe]
  refine Ev.bind h ?_
  simp only [qs, Option.bind_some, Option.map_some, joinK, qb, ↓reduceIte, if_true, if_false, eq_self, Int.reduceBEq, Int.reduceBNe, List.length_cons, List.length_nil, show ((0 + 1 : Nat) : Int) = 1 from rfl]
  exact Ev.bindS (x := t) (fun _ => rfl) (Ev.bind ht.gt Ev.pure)
theorem params_loop {ps rest : List TNode} (h : ∀ x ∈ ps, GPa x) (hl : ps.length ≤ 1000000) {J : Nat → Option Bool} {res : Bool} (hJ : Ev J res) : EvL (σ := Int) (ρ := Bool) (fun k (l3_5 : Int) =>
    if decide (l3_5 < (ps.length : Int)) = true then
      (ix (ps ++ rest) l3_5).bind fun x20_3 => (ref11_param k x20_3).bind fun x20_5 =>
        if (!x20_5) = true then some (.inr false) else some (.inl (IntKind.i64.wrap (l3_5 + 1)))
    else (J k).map .inr) 0 res := by
  have key : ∀ (r m : List TNode), ps = m ++ r → EvL (σ := Int) (ρ := Bool) (fun k (l3_5 : Int) =>
    if decide (l3_5 < (ps.length : Int)) = true then
      (ix (ps ++ rest) l3_5).bind fun x20_3 => (ref11_param k x20_3).bind fun x20_5 =>
        if (!x20_5) = true then some (.inr false) else some (.inl (IntKind.i64.wrap (l3_5 + 1)))
    else (J k).map .inr) (m.length : Int) res := by
    intro r
    induction r with
    | nil => intro m hm; exact EvL.done (Ev.ite_f (by rw [hm]; simp) (Ev.map hJ))
    | cons x r ih =>
      intro m hm
      have hx : x ∈ ps := by rw [hm]; simp
      have hlen : ps.length = m.length + (r.length + 1) := by rw [hm]; simp
      have hix : ix (ps ++ rest) (m.length : Int) = some x := ix_of (by omega) (by rw [hm]; simp)
      refine EvL.step (Ev.ite_t (by simp; omega) (Ev.bindS (fun _ => hix) (Ev.bind (h x hx).gp (Ev.ite_f rfl Ev.pure)))) ?_
      rw [wrap64_id (by omega) (by omega)]
      have := ih (m ++ [x]) (by rw [hm]; simp)
      simpa using this
  exact key ps [] rfl
theorem gd_rec (a : Int) {s : List UInt8} {ps : List TNode} (h : Nm s) (h0 : ps ≠ []) (hp : ∀ x ∈ ps, GPa x) (hl : ps.length ≤ 1000000) : GD ⟨51, a, 0, s, ps⟩ := by
  refine ⟨?_, wideL (fun x hx => (hp x hx).wide) hl⟩
  have c0 : ((ps.length : Int) == 0) = false := by simpa using h0
  have c1 : decide ((ps.length : Int) < 0) = false := by simp
  simp only [ref11_Decl]
  refine Ev.bind h ?_
  simp only [qs, Option.bind_some, Option.map_some, joinK, qb, ↓reduceIte, if_true, if_false, eq_self, Int.reduceBEq, Int.reduceBNe, c0, c1]
  refine Ev.loop ?_
  have := params_loop (rest := []) hp hl (J := fun _ => some true) Ev.pure
  rw [List.append_nil] at this
  exact this
theorem gd_iso1 (a : Int) {n : Int} {s : List UInt8} {t : TNode} (h : Nm s) (hn : 0 ≤ n) (ht : GTy t) : GD ⟨52, a, n, s, [t]⟩ := by
  refine ⟨?_, wide1 ht.wide⟩
  simp only [ref11_Decl]
  refine Ev.bind h ?_
  simp only [qs, Option.bind_some, Option.map_some, joinK, qb, ↓reduceIte, if_true, if_false, eq_self, Int.reduceBEq, Int.reduceBNe, List.length_cons, List.length_nil, show ((0 + 1 : Nat) : Int) = 1 from rfl, show decide (n < 0) = false by simpa using hn, show decide ((1 : Int) > 2) = false from rfl]
  refine Ev.bindS (x := t) (fun _ => rfl) (Ev.bind ht.gt ?_)
  simp only [qs, Option.bind_some, Option.map_some, joinK, qb, ↓reduceIte, if_true, if_false, eq_self, Int.reduceBEq, Int.reduceBNe]; exact Ev.pure
theorem gd_iso2 (a b : Int) {n : Int} {s u : List UInt8} {t : TNode} (h : Nm s) (hu : Nm u) (hn : 0 ≤ n) (ht : GTy t) : GD ⟨52, a, n, s, [t, ⟨12, b, 0, u, []⟩]⟩ := by
  refine ⟨?_, wide2 ht.wide wide0⟩
  simp only [ref11_Decl]
  refine Ev.bind h ?_
  simp only [qs, Option.bind_some, Option.map_some, joinK, qb, ↓reduceIte, if_true, if_false, eq_self, Int.reduceBEq, Int.reduceBNe, List.length_cons, List.length_nil, show ((0 + 1 + 1 : Nat) : Int) = 2 from rfl, show decide (n < 0) = false by simpa using hn, show decide ((2 : Int) > 2) = false from rfl]
  refine Ev.bindS (x := t) (fun _ => rfl) (Ev.bind ht.gt ?_)
  simp only [qs, Option.bind_some, Option.map_some, joinK, qb, ↓reduceIte, if_true, if_false, eq_self, Int.reduceBEq, Int.reduceBNe]
  refine Ev.bindS (x := ⟨12, b, 0, u, []⟩) (fun _ => rfl) ?_
  simp only [qs, Option.bind_some, Option.map_some, joinK, qb, ↓reduceIte, if_true, if_false, eq_self, Int.reduceBEq, Int.reduceBNe]
  exact Ev.bindS (x := ⟨12, b, 0, u, []⟩) (fun _ => rfl) (Ev.bind (gp_name b hu).ge Ev.pure)
def TyO (t : TNode) : Prop := GTy t ∨ t = zN
theorem TyO.wide {t : TNode} (h : TyO t) : Wide t := by rcases h with h | rfl; exact h.wide; exact wide0
theorem type_zero : Ev (fun k => ref11_Type k zN) false := by
  refine Ev.sh 1 ?_
  simp only [ref11_Type]
  simp only [qs, Option.bind_some, Option.map_some, joinK, qb, ↓reduceIte, if_true, if_false, eq_self, Int.reduceBEq, Int.reduceBNe, show decide ((0 : Int) ≥ 1) = false from rfl]; exact Ev.pure
theorem gd_fun (a : Int) {s : List UInt8} {ps : List TNode} {t b : TNode} (h : Nm s) (hp : ∀ x ∈ ps, GPa x) (hl : ps.length ≤ 900000) (ht : TyO t) (hb : GB b) : GD ⟨53, a, 0, s, ps ++ [t, b]⟩ := by
  refine ⟨?_, wideL (by simp; intro x hx; rcases hx with hx | rfl | rfl; exact (hp _ hx).wide; exact ht.wide; exact hb.gs.wide) (by simp; omega)⟩
  have c0 : ((ps ++ [t, b]).length : Int) = (ps.length : Int) + 2 := by simp
  have c1 : IntKind.i64.wrap ((ps.length : Int) + 2 - 2) = (ps.length : Int) := by rw [show (ps.length : Int) + 2 - 2 = ps.length by omega]; exact wrap64_id (by omega) (by omega)
  have c2 : IntKind.i64.wrap ((ps.length : Int) + 2 - 1) = (ps.length : Int) + 1 := by rw [show (ps.length : Int) + 2 - 1 = ps.length + 1 by omega]; exact wrap64_id (by omega) (by omega)
  have c3 : decide ((ps.length : Int) < 0) = false := by simp
  have c4 : ((ps.length : Int) + 2 == 0) = false := by simp; omega
  simp only [ref11_Decl]
  refine Ev.bind h ?_
  simp only [qs, Option.bind_some, Option.map_some, joinK, qb, ↓reduceIte, if_true, if_false, eq_self, Int.reduceBEq, Int.reduceBNe, c0, c1, c2, c3, c4]
  refine Ev.loop ?_
  refine params_loop (rest := [t, b]) hp (by omega) ?_
  refine Ev.bindS (x := b) (fun _ => ix_of (by omega) (by rw [show ((ps.length : Int) + 1).toNat = ps.length + 1 by omega]; simp)) (Ev.bind (kind_of hb.gs hb.kd) ?_)
  simp only [qs, Option.bind_some, Option.map_some, joinK, qb, ↓reduceIte, if_true, if_false, eq_self, Int.reduceBEq, Int.reduceBNe]
  refine Ev.bindS (x := [t, b]) (fun _ => by unfold sub; rw [if_pos (by simp; omega), show ((ps.length : Int) + 2).toNat = (ps ++ [t, b]).length by simp only [List.length_append, List.length_cons, List.length_nil]; omega, List.take_length]; simp) (Ev.bindS (x := t) (fun _ => rfl) ?_)
  rcases ht with ht | rfl
  · refine Ev.bind ht.gt ?_
    simp only [qs, Option.bind_some, Option.map_some, joinK, qb, ↓reduceIte, if_true, if_false, eq_self, Int.reduceBEq, Int.reduceBNe]; exact Ev.pure
  · refine Ev.bind type_zero ?_
    simp only [qs, Option.bind_some, Option.map_some, joinK, qb, ↓reduceIte, if_true, if_false, eq_self, Int.reduceBEq, Int.reduceBNe, alone_eq, List.length_nil, show ((0 : Nat) : Int) = 0 from rfl]; exact Ev.pure
theorem gd_merge (a : Int) {s : List UInt8} {ps : List TNode} {b : TNode} (h : Nm s) (hp : ∀ x ∈ ps, GPa x) (hl : ps.length = 3) (hb : GB b) : GD ⟨54, a, 0, s, ps ++ [b]⟩ := by
  refine ⟨?_, wideL (by simp; intro x hx; rcases hx with hx | rfl; exact (hp _ hx).wide; exact hb.gs.wide) (by simp; omega)⟩
  have c0 : ((ps ++ [b]).length : Int) = 4 := by simp; omega
  have c1 : IntKind.i64.wrap ((4 : Int) - 1) = (ps.length : Int) := by rw [hl]; rfl
  have c2 : ((ps.length : Int) == 3) = true := by rw [hl]; rfl
  have c3 : decide ((ps.length : Int) < 0) = false := by simp
  simp only [ref11_Decl]
  refine Ev.bind h ?_
  simp only [qs, Option.bind_some, Option.map_some, joinK, qb, ↓reduceIte, if_true, if_false, eq_self, Int.reduceBEq, Int.reduceBNe, c0, c1, c2, c3]
  refine Ev.loop ?_
  refine params_loop (rest := [b]) hp (by omega) ?_
  refine Ev.bindS (x := b) (fun _ => ix_of (by omega) (by simp)) (Ev.bind (kind_of hb.gs hb.kd) ?_)
  simp only [qs, Option.bind_some, Option.map_some, joinK, qb, ↓reduceIte, if_true, if_false, eq_self, Int.reduceBEq, Int.reduceBNe]; exact Ev.pure
end Go.Proofs.YtjakhfaodfaimaaGreatDoor.F
namespace Go.Proofs.YtjakhfaodfaimaaGreatDoor.F
open Go
theorem param_R {l : List TToken} (W : WF l) (i : Int) : RG GPa l i (fun k => stmt_cursor_param k l i false) (fun k => ref14_param k l i) := by
  by_cases h1 : (tk l i).Kind = 1
  · obtain ⟨n1, n2, n3⟩ := W.next (i := i) (by omega)
    obtain ⟨a, j, b, ok, e1, e2, e3, e4⟩ := spart_all W (i + 1)
    have E : Ev (fun k => stmt_cursor_param k l i false) (⟨50, (tk l i).At, 0, (tk l i).Text, [a]⟩, j, !ok) := by
      simp only [stmt_cursor_param]
      simp only [qs, Option.bind_some, Option.map_some, joinK, qb, ↓reduceIte, if_true, if_false, eq_self, Int.reduceBEq, Int.reduceBNe, h1, n3]
      refine Ev.bind e1 ?_
      simp only [qs, Option.bind_some, Option.map_some, joinK, qb, ↓reduceIte, if_true, if_false, eq_self, Int.reduceBEq, Int.reduceBNe]; exact Ev.pure
    have Rr : Ev (fun k => ref14_param k l i) (if ok then ⟨⟨50, (tk l i).At, 0, (tk l i).Text, [b]⟩, j, true⟩ else ⟨zN, j, false⟩) := by
      simp only [ref14_param]
      simp only [qs, Option.bind_some, Option.map_some, joinK, qb, ↓reduceIte, if_true, if_false, eq_self, Int.reduceBEq, Int.reduceBNe, h1, n3]
      refine Ev.bind e2 ?_
      cases ok
      · simp only [qs, Option.bind_some, Option.map_some, joinK, qb, ↓reduceIte, if_true, if_false, eq_self, Int.reduceBEq, Int.reduceBNe]; exact Ev.pure
      · simp only [qs, Option.bind_some, Option.map_some, joinK, qb, ↓reduceIte, if_true, if_false, eq_self, Int.reduceBEq, Int.reduceBNe]; exact Ev.pure
    cases ok with
    | false => exact RG.bad E Rr
    | true =>
      obtain ⟨rfl, q2, q3, q4⟩ := e3 rfl
      exact RG.good E Rr ⟨by omega, q3⟩ (gpa_of _ (W.names _ h1) q4)
  · have h1 : ((tk l i).Kind != 1) = true := by simpa using h1
    refine RG.bad (j := i) (n := ⟨50, 0, 0, [], [zN]⟩) ?_ ?_
    · simp only [stmt_cursor_param]
      simp only [qs, Option.bind_some, Option.map_some, joinK, qb, ↓reduceIte, if_true, if_false, eq_self, Int.reduceBEq, Int.reduceBNe, h1]; exact Ev.pure
    · simp only [ref14_param]
      simp only [qs, Option.bind_some, Option.map_some, joinK, qb, ↓reduceIte, if_true, if_false, eq_self, Int.reduceBEq, Int.reduceBNe, h1]; exact Ev.pure
def eRecB (l : List TToken) (a : Int) (s : List UInt8) (k : Nat) (st : List TNode × Int × Bool) : Option ((List TNode × Int × Bool) ⊕ (TNode × Int × Bool)) :=
  match st with
  | (c, p, b) =>
    if (!b) then
    (stmt_cursor_param k l p b).bind fun (x3_3_0, x3_3_1, x3_3_2) =>
    if (room 64 (c.length + [x3_3_0].length)) then
    (stmt_cursor_wants k [[59]] l x3_3_1 x3_3_2).bind fun (x4_2_0, x4_2_1) =>
    (stmt_cursor_takes k 4 [125] l x4_2_0 x4_2_1).bind fun (x5_1_0, x5_1_1) =>
    if x5_1_0 then
    (some ((TNode.mk 51 a 0 s (c ++ [x3_3_0])), x5_1_1, x4_2_1)).map .inr
    else
    some (.inl ((c ++ [x3_3_0]), x5_1_1, x4_2_1))
    else none
    else
    (some ((TNode.mk 51 a 0 s c), p, b)).map .inr
def rRecB (l : List TToken) (a : Int) (s : List UInt8) (k : Nat) (st : List TNode × Int) : Option ((List TNode × Int) ⊕ Tref14_Got) :=
  match st with
  | (l0_bclloc54, l0_1) =>
    (ref14_param k l l0_1).bind fun x4_2 =>
    (ref14_closed k l x4_2 (TNode.mk x4_2.N.Kind x4_2.N.At x4_2.N.N x4_2.N.Name x4_2.N.Kids) [59]).bind fun x5_4 =>
    if (!x5_4.Ok) then
    some (.inr x5_4)
    else
    if (room 64 (l0_bclloc54.length + [(TNode.mk x5_4.N.Kind x5_4.N.At x5_4.N.N x5_4.N.Name x5_4.N.Kids)].length)) then
    (ref13_Is k l x5_4.At [125]).bind fun x10_2 =>
    if x10_2 then
    some (.inr (Tref14_Got.mk (TNode.mk 51 a 0 s (l0_bclloc54 ++ [(TNode.mk x5_4.N.Kind x5_4.N.At x5_4.N.N x5_4.N.Name x5_4.N.Kids)])) (IntKind.i64.wrap (x5_4.At + 1)) true))
    else
    some (.inl ((l0_bclloc54 ++ [(TNode.mk x5_4.N.Kind x5_4.N.At x5_4.N.N x5_4.N.Name x5_4.N.Kids)]), x5_4.At))
    else none
abbrev eRec (l : List TToken) (a : Int) (s : List UInt8) (p : Int) (k : Nat) := stmt_cursor_rec_v2 k 51 a 0 s [] l p false
abbrev rRec (l : List TToken) (a : Int) (s : List UInt8) (p : Int) (k : Nat) := ref14_rec_v2 k l p 51 a 0 s []
theorem eRec_eq (k : Nat) (l : List TToken) (a : Int) (s : List UInt8) (p : Int) (b : Bool) : stmt_cursor_rec_v2 k 51 a 0 s [] l p b = (stmt_cursor_wants k [[123]] l p b).bind fun (q, c) => loopM k (eRecB l a s k) ([], q, c) := rfl
theorem rRec_eq (k : Nat) (l : List TToken) (a : Int) (s : List UInt8) (p : Int) : rRec l a s p k = if isT (tk l p) 4 [123] then loopM k (rRecB l a s k) ([], IntKind.i64.wrap (p + 1)) else some ⟨zN, p, false⟩ := by
  unfold rRec ref14_rec_v2
  rw [Is_eq]
  simp only [Option.bind_some]
  cases isT (tk l p) 4 [123]
  · rfl
  · rfl
theorem eRec_end (l : List TToken) (a p : Int) (s : List UInt8) (c : List TNode) : EvL (eRecB l a s) (c, p, true) (⟨51, a, 0, s, c⟩, p, true) := EvL.done (by simp only [eRecB]; simp only [qs, Option.bind_some, Option.map_some, joinK, qb, ↓reduceIte, if_true, if_false, eq_self, Int.reduceBEq, Int.reduceBNe]; exact Ev.pure)
theorem eRec_bad (l : List TToken) (a : Int) (s : List UInt8) (p : Int) : Ev (fun k => stmt_cursor_rec_v2 k 51 a 0 s [] l p true) (⟨51, a, 0, s, []⟩, p, true) := by
  refine Ev.sh 2 ?_
  simp only [eRec_eq]
  simp only [qs, Option.bind_some, Option.map_some, joinK, qb, ↓reduceIte, if_true, if_false, eq_self, Int.reduceBEq, Int.reduceBNe]
  exact (Ev.loop (eRec_end l a p s [])).up (n := 2)
theorem rec_loop {l : List TToken} (W : WF l) (a : Int) {s : List UInt8} (hs : Nm s) : ∀ (n : Nat) (p : Int) (c : List TNode), (l.length : Int) - p ≤ n → 0 < p → p < l.length → (∀ x ∈ c, GPa x) → (c.length : Int) ≤ p →
    ∃ x j y ok, EvL (eRecB l a s) (c, p, false) (x, j, !ok) ∧ EvL (rRecB l a s) (c, p) ⟨y, j, ok⟩ ∧ (ok = true → x = y ∧ p < j ∧ j < l.length ∧ GD y) ∧ (ok = false → y = zN) := by
  intro n
  induction n using Nat.strongRecOn with
  | _ n ih =>
  intro p c hn hp hpl hg hc
  have hlen := W.len
  obtain ⟨x, j, y, ok, e1, e2, e3, e4⟩ := param_R W p
  have r1 := fun x => room1 x (show c.length ≤ 1000000 by omega)
  have bad : (ok && isT (tk l j) 4 [59]) = false → ∃ x j y ok, EvL (eRecB l a s) (c, p, false) (x, j, !ok) ∧ EvL (rRecB l a s) (c, p) ⟨y, j, ok⟩ ∧ (ok = true → x = y ∧ p < j ∧ j < l.length ∧ GD y) ∧ (ok = false → y = zN) := by
    intro hb
    refine ⟨⟨51, a, 0, s, c ++ [x]⟩, j, zN, false, EvL.step (s' := (c ++ [x], j, true)) (Ev.sh 2 ?_) (eRec_end _ _ _ _ _), EvL.done ?_, (fun h => by cases h), fun _ => rfl⟩
    · simp only [eRecB]
      simp only [qs, Option.bind_some, Option.map_some, joinK, qb, ↓reduceIte, if_true, if_false, eq_self, Int.reduceBEq, Int.reduceBNe]
      refine Ev.bind e1.up ?_
      cases ok
      · simp only [qs, Option.bind_some, Option.map_some, joinK, qb, ↓reduceIte, if_true, if_false, eq_self, Int.reduceBEq, Int.reduceBNe, r1]; exact Ev.pure
      · simp only [qs, Option.bind_some, Option.map_some, joinK, qb, ↓reduceIte, if_true, if_false, eq_self, Int.reduceBEq, Int.reduceBNe, r1, show isT (tk l j) 4 [59] = false by simpa using hb]; exact Ev.pure
    · simp only [rRecB]
      refine Ev.bind e2 ?_
      cases ok
      · simp only [qs, Option.bind_some, Option.map_some, joinK, qb, ↓reduceIte, if_true, if_false, eq_self, Int.reduceBEq, Int.reduceBNe]; exact Ev.pure
      · simp only [qs, Option.bind_some, Option.map_some, joinK, qb, ↓reduceIte, if_true, if_false, eq_self, Int.reduceBEq, Int.reduceBNe, show isT (tk l j) 4 [59] = false by simpa using hb]; exact Ev.pure
  cases ok with
  | false => exact bad rfl
  | true =>
    obtain ⟨rfl, q2, q3, q4⟩ := e3 rfl
    by_cases h1 : isT (tk l j) 4 [59] = true
    · obtain ⟨m1, m2, m3⟩ := W.next (i := j) (by rw [(isT_kind h1).1]; decide)
      by_cases h2 : isT (tk l (j + 1)) 4 [125] = true
      · obtain ⟨u1, u2, u3⟩ := W.next (i := j + 1) (by rw [(isT_kind h2).1]; decide)
        refine ⟨⟨51, a, 0, s, c ++ [x]⟩, j + 1 + 1, _, true, EvL.done (Ev.sh 2 ?_), EvL.done ?_, fun _ => ⟨rfl, by omega, u2, gd_rec a hs (by simp) (by simp; exact fun z hz => hz.elim (hg z) (fun e => e ▸ q4)) (by simp; omega)⟩, (fun h => by cases h)⟩
        · simp only [eRecB]
          simp only [qs, Option.bind_some, Option.map_some, joinK, qb, ↓reduceIte, if_true, if_false, eq_self, Int.reduceBEq, Int.reduceBNe]
          refine Ev.bind e1.up ?_
          simp only [qs, Option.bind_some, Option.map_some, joinK, qb, ↓reduceIte, if_true, if_false, eq_self, Int.reduceBEq, Int.reduceBNe, r1, h1, m3, h2, u3, Option.map_some]; exact Ev.pure
        · simp only [rRecB]
          refine Ev.bind e2 ?_
          simp only [qs, Option.bind_some, Option.map_some, joinK, qb, ↓reduceIte, if_true, if_false, eq_self, Int.reduceBEq, Int.reduceBNe, r1, h1, m3, h2, u3]; exact Ev.pure
      · have h2 : isT (tk l (j + 1)) 4 [125] = false := by simpa using h2
        obtain ⟨x', j', y', ok', f1, f2, f3, f4⟩ := ih (n - 1) (by omega) (j + 1) (c ++ [x]) (by omega) (by omega) m2 (by simp; exact fun z hz => hz.elim (hg z) (fun e => e ▸ q4)) (by simp; omega)
        refine ⟨x', j', y', ok', EvL.step (s' := (c ++ [x], j + 1, false)) (Ev.sh 2 ?_) f1, EvL.step (s' := (c ++ [x], j + 1)) ?_ f2, fun h => ?_, f4⟩
        · simp only [eRecB]
          simp only [qs, Option.bind_some, Option.map_some, joinK, qb, ↓reduceIte, if_true, if_false, eq_self, Int.reduceBEq, Int.reduceBNe]
          refine Ev.bind e1.up ?_
          simp only [qs, Option.bind_some, Option.map_some, joinK, qb, ↓reduceIte, if_true, if_false, eq_self, Int.reduceBEq, Int.reduceBNe, r1, h1, m3, h2]; exact Ev.pure
        · simp only [rRecB]
          refine Ev.bind e2 ?_
          simp only [qs, Option.bind_some, Option.map_some, joinK, qb, ↓reduceIte, if_true, if_false, eq_self, Int.reduceBEq, Int.reduceBNe, r1, h1, m3, h2]; exact Ev.pure
        · obtain ⟨g1, g2, g3, g4⟩ := f3 h
          exact ⟨g1, by omega, g3, g4⟩
    · exact bad (by simpa using h1)
theorem rec_R {l : List TToken} (W : WF l) (a : Int) {s : List UInt8} (hs : Nm s) (p : Int) : RG GD l p (eRec l a s p) (rRec l a s p) := by
  by_cases h1 : isT (tk l p) 4 [123] = true
  · obtain ⟨n1, n2, n3⟩ := W.next (i := p) (by rw [(isT_kind h1).1]; decide)
    obtain ⟨x, j, y, ok, e1, e2, e3, e4⟩ := rec_loop W a hs (l.length - (p + 1)).toNat (p + 1) [] (by omega) (by omega) n2 (by simp) (by simp; omega)
    refine ⟨x, j, y, ok, Ev.sh 2 ?_, ?_, fun h => ?_, e4⟩
    · simp only [eRec, eRec_eq]
      simp only [qs, Option.bind_some, Option.map_some, joinK, qb, ↓reduceIte, if_true, if_false, eq_self, Int.reduceBEq, Int.reduceBNe, h1, n3]
      exact (Ev.loop e1).up (n := 2)
    · refine Ev.congr (fun k => rRec_eq k l a s p) ?_
      simp only [qs, Option.bind_some, Option.map_some, joinK, qb, ↓reduceIte, if_true, if_false, eq_self, Int.reduceBEq, Int.reduceBNe, h1, n3]
      exact Ev.loop e2
    · obtain ⟨g1, g2, g3, g4⟩ := e3 h
      exact ⟨g1, by omega, g3, g4⟩
  · have h1 : isT (tk l p) 4 [123] = false := by simpa using h1
    refine RG.bad (j := p) (n := ⟨51, a, 0, s, []⟩) (Ev.sh 2 ?_) ?_
    · simp only [eRec, eRec_eq]
      simp only [qs, Option.bind_some, Option.map_some, joinK, qb, ↓reduceIte, if_true, if_false, eq_self, Int.reduceBEq, Int.reduceBNe, h1]
      exact (Ev.loop (eRec_end l a p s [])).up (n := 2)
    · refine Ev.congr (fun k => rRec_eq k l a s p) ?_
      simp only [qs, Option.bind_some, Option.map_some, joinK, qb, ↓reduceIte, if_true, if_false, eq_self, Int.reduceBEq, Int.reduceBNe, h1]; exact Ev.pure
def eIsoT (l : List TToken) (a : Int) (s : List UInt8) (v : Int) (q : Int) (b : Bool) (k : Nat) : Option (TNode × Int × Bool) :=
    (stmt_cursor_part k l q b).bind fun (x9_3_0, x9_3_1, x9_3_2) =>
    if (room 64 (([] : List TNode).length + [x9_3_0].length)) then
    joinK (fun ((j2_bclloc34, j2_oext0_1, j2_oext0_2) : List TNode × Int × Bool) =>
    (stmt_cursor_wants k [[59]] l j2_oext0_1 j2_oext0_2).bind fun (x14_2_0, x14_2_1) =>
    some ((TNode.mk 52 a v s j2_bclloc34), x14_2_0, x14_2_1)) fun j_j2 =>
    (stmt_cursor_takes k 3 [98, 121] l x9_3_1 x9_3_2).bind fun (x10_1_0, x10_1_1) =>
    if x10_1_0 then
    (stmt_cursor_name k l x10_1_1 x9_3_2).bind fun (x12_1_0, x12_1_1, x12_1_2, x12_1_3) =>
    if (room 64 ((([] : List TNode) ++ [x9_3_0]).length + [(TNode.mk 12 x12_1_1 0 x12_1_0 [])].length)) then
    j_j2 ((([] ++ [x9_3_0]) ++ [(TNode.mk 12 x12_1_1 0 x12_1_0 [])]), x12_1_2, x12_1_3)
    else none
    else
    j_j2 (([] ++ [x9_3_0]), x10_1_1, x9_3_2)
    else none
def rIsoT (l : List TToken) (a : Int) (s : List UInt8) (v : Int) (q : Int) (k : Nat) : Option Tref14_Got :=
    (ref13_Type k l q).bind fun (x9_2_0, x9_2_1, x9_2_2) =>
    if (!x9_2_2) then
    (ref14_fail k x9_2_1).bind fun x11_1 =>
    some x11_1
    else
    joinK (fun ((j1_9, j1_oloc5_4) : Int × List TNode) =>
    (ref14_closed k l (Tref14_Got.mk (TNode.mk 52 a v s j1_oloc5_4) j1_9 true) (TNode.mk 52 a v s j1_oloc5_4) [59]).bind fun x19_5 =>
    some x19_5) fun j_j1 =>
    (ref13_Says k l x9_2_1 [98, 121]).bind fun x13_2 =>
    if x13_2 then
    (ref13_Tok k l (IntKind.i64.wrap (x9_2_1 + 1))).bind fun x14_3 =>
    if (x14_3.Kind != 1) then
    (ref14_fail k (IntKind.i64.wrap (x9_2_1 + 1))).bind fun x16_2 =>
    some x16_2
    else
    if (room 64 ([x9_2_0].length + [(TNode.mk 12 x14_3.At 0 x14_3.Text [])].length)) then
    j_j1 ((IntKind.i64.wrap (x9_2_1 + 2)), ([x9_2_0] ++ [(TNode.mk 12 x14_3.At 0 x14_3.Text [])]))
    else none
    else
    j_j1 (x9_2_1, [x9_2_0])
abbrev eIso (l : List TToken) (a : Int) (s : List UInt8) (p : Int) (k : Nat) := stmt_cursor_iso_v2 k 52 a 0 s [] l p false
abbrev rIso (l : List TToken) (a : Int) (s : List UInt8) (p : Int) (k : Nat) := ref14_iso k l p ⟨52, a, 0, s, []⟩
theorem eIso_eq (k : Nat) (l : List TToken) (a : Int) (s : List UInt8) (p : Int) : eIso l a s p k =
    (if (isT (tk l p) 4 [91] && !isT (tk l (IntKind.i64.wrap (p + 1))) 4 [93]) then
      (if ((tk l (IntKind.i64.wrap (p + 1))).Kind != 2 || (tk l (IntKind.i64.wrap (p + 1))).N == 0) then (stmt_cursor_wants k [[93]] l (IntKind.i64.wrap (p + 1)) true).bind fun (q, b) => eIsoT l a s 0 q b k
       else (stmt_cursor_wants k [[93]] l (IntKind.i64.wrap (IntKind.i64.wrap (p + 1) + 1)) false).bind fun (q, b) => eIsoT l a s (tk l (IntKind.i64.wrap (p + 1))).N q b k)
     else eIsoT l a s 0 p false k) := by
  unfold eIso stmt_cursor_iso_v2
  simp only [joinK]
  rw [sis_eq, sempty_eq, slook_eq]
  simp only [Option.bind_some]
  cases isT (tk l p) 4 [91]
  · rfl
  · cases isT (tk l (IntKind.i64.wrap (p + 1))) 4 [93]
    · simp only [if_true, Bool.not_false, Bool.and_true]
      cases ((tk l (IntKind.i64.wrap (p + 1))).Kind != 2 || (tk l (IntKind.i64.wrap (p + 1))).N == 0)
      · rfl
      · rfl
    · rfl
theorem eIso_bad (l : List TToken) (a : Int) (s : List UInt8) (v q : Int) : ∃ n, Ev (eIsoT l a s v q true) (n, q, true) := by
  refine ⟨⟨52, a, v, s, [zN]⟩, Ev.sh 2 ?_⟩
  simp only [eIsoT]
  simp only [qs, Option.bind_some, Option.map_some, joinK, qb, ↓reduceIte, if_true, if_false, eq_self, Int.reduceBEq, Int.reduceBNe, room1 (m := ([] : List TNode).length) zN (by simp)]; exact Ev.pure
theorem eIso_bad0 (l : List TToken) (a : Int) (s : List UInt8) (p : Int) : ∃ n, Ev (fun k => stmt_cursor_iso_v2 k 52 a 0 s [] l p true) (n, p, true) := by
  obtain ⟨n, h⟩ := eIso_bad l a s 0 p
  refine ⟨n, ?_⟩
  refine Ev.congr (fun k => ?_) h
  simp only [stmt_cursor_iso_v2, sis_bad]
  rfl
theorem rIso_eq (k : Nat) (l : List TToken) (a : Int) (s : List UInt8) (p : Int) : rIso l a s p k =
    (if (isT (tk l p) 4 [91] && !isT (tk l (IntKind.i64.wrap (p + 1))) 4 [93]) then
      (if ((tk l (IntKind.i64.wrap (p + 1))).Kind != 2 || (tk l (IntKind.i64.wrap (p + 1))).N == 0) then some ⟨zN, IntKind.i64.wrap (p + 1), false⟩
       else if isT (tk l (IntKind.i64.wrap (p + 2))) 4 [93] then rIsoT l a s (tk l (IntKind.i64.wrap (p + 1))).N (IntKind.i64.wrap (p + 3)) k
       else some ⟨zN, IntKind.i64.wrap (p + 2), false⟩)
     else rIsoT l a s 0 p k) := by
  unfold rIso ref14_iso
  simp only [joinK]
  rw [Is_eq k l p, Is_eq k l (IntKind.i64.wrap (p + 1)), Tok_eq k l (IntKind.i64.wrap (p + 1)), Is_eq k l (IntKind.i64.wrap (p + 2))]
  simp only [Option.bind_some]
  cases isT (tk l p) 4 [91]
  · rfl
  · cases isT (tk l (IntKind.i64.wrap (p + 1))) 4 [93]
    · simp only [if_true, Bool.not_false, Bool.and_true]
      cases ((tk l (IntKind.i64.wrap (p + 1))).Kind != 2 || (tk l (IntKind.i64.wrap (p + 1))).N == 0)
      · cases isT (tk l (IntKind.i64.wrap (p + 2))) 4 [93]
        · rfl
        · rfl
      · rfl
    · rfl
theorem isoT_R {l : List TToken} (W : WF l) (a : Int) {s : List UInt8} (hs : Nm s) {v : Int} (hv : 0 ≤ v) (q : Int) : RG GD l q (eIsoT l a s v q false) (rIsoT l a s v q) := by
  have hlen := W.len
  obtain ⟨x, j, y, ok, e1, e2, e3, e4⟩ := spart_all W q
  have r1 : ∀ x : TNode, room 64 (([] : List TNode).length + [x].length) = true := fun x => room1 x (by simp)
  have r2 : ∀ x y : TNode, room 64 (([x] : List TNode).length + [y].length) = true := fun x y => room1 y (by simp)
  cases ok with
  | false =>
    refine RG.bad (j := j) (n := ⟨52, a, v, s, [x]⟩) (Ev.sh 2 ?_) ?_
    · simp only [eIsoT]
      refine Ev.bind e1.up ?_
      simp only [qs, Option.bind_some, Option.map_some, joinK, qb, ↓reduceIte, if_true, if_false, eq_self, Int.reduceBEq, Int.reduceBNe, r1]; exact Ev.pure
    · unfold rIsoT
      refine Ev.bind e2 ?_
      simp only [qs, Option.bind_some, Option.map_some, joinK, qb, ↓reduceIte, if_true, if_false, eq_self, Int.reduceBEq, Int.reduceBNe]; exact Ev.pure
  | true =>
    obtain ⟨rfl, q2, q3, q4⟩ := e3 rfl
    by_cases h1 : isT (tk l j) 3 [98, 121] = true
    · obtain ⟨m1, m2, m3⟩ := W.next (i := j) (by rw [(isT_kind h1).1]; decide)
      by_cases h2 : (tk l (j + 1)).Kind = 1
      · obtain ⟨u1, u2, u3⟩ := W.next (i := j + 1) (by omega)
        have w2 : IntKind.i64.wrap (j + 2) = j + 2 := wrap64_id (by omega) (by omega)
        have a2 : j + 1 + 1 = j + 2 := by omega
        have E : Ev (eIsoT l a s v q false) (if isT (tk l (j + 2)) 4 [59] then (⟨52, a, v, s, [x, ⟨12, (tk l (j + 1)).At, 0, (tk l (j + 1)).Text, []⟩]⟩, IntKind.i64.wrap (j + 2 + 1), false) else (⟨52, a, v, s, [x, ⟨12, (tk l (j + 1)).At, 0, (tk l (j + 1)).Text, []⟩]⟩, j + 2, true)) := by
          refine Ev.sh 2 ?_
          simp only [eIsoT]
          refine Ev.bind e1.up ?_
          simp only [qs, Option.bind_some, Option.map_some, joinK, qb, ↓reduceIte, if_true, if_false, eq_self, Int.reduceBEq, Int.reduceBNe, r1, h1, m3, h2, List.nil_append, r2, a2, w2]
          cases isT (tk l (j + 2)) 4 [59]
          · simp only [qs, Option.bind_some, Option.map_some, joinK, qb, ↓reduceIte, if_true, if_false, eq_self, Int.reduceBEq, Int.reduceBNe]; exact Ev.pure
          · simp only [qs, Option.bind_some, Option.map_some, joinK, qb, ↓reduceIte, if_true, if_false, eq_self, Int.reduceBEq, Int.reduceBNe]; exact Ev.pure
        have Rr : Ev (rIsoT l a s v q) (if isT (tk l (j + 2)) 4 [59] then ⟨⟨52, a, v, s, [x, ⟨12, (tk l (j + 1)).At, 0, (tk l (j + 1)).Text, []⟩]⟩, IntKind.i64.wrap (j + 2 + 1), true⟩ else ⟨zN, j + 2, false⟩) := by
          unfold rIsoT
          refine Ev.bind e2 ?_
          simp only [qs, Option.bind_some, Option.map_some, joinK, qb, ↓reduceIte, if_true, if_false, eq_self, Int.reduceBEq, Int.reduceBNe, h1, m3, h2, w2, r2]
          cases isT (tk l (j + 2)) 4 [59]
          · simp only [qs, Option.bind_some, Option.map_some, joinK, qb, ↓reduceIte, if_true, if_false, eq_self, Int.reduceBEq, Int.reduceBNe]; exact Ev.pure
          · simp only [qs, Option.bind_some, Option.map_some, joinK, qb, ↓reduceIte, if_true, if_false, eq_self, Int.reduceBEq, Int.reduceBNe]; exact Ev.pure
        by_cases h3 : isT (tk l (j + 2)) 4 [59] = true
        · obtain ⟨v1, v2, v3⟩ := W.next (i := j + 2) (by rw [(isT_kind h3).1]; decide)
          simp only [h3, if_true, v3] at E Rr
          exact RG.good E Rr ⟨by omega, v2⟩ (gd_iso2 _ _ hs (W.names _ h2) hv q4)
        · simp only [show isT (tk l (j + 2)) 4 [59] = false by simpa using h3, Bool.false_eq_true, if_false] at E Rr
          exact RG.bad E Rr
      · have h2 : ((tk l (j + 1)).Kind != 1) = true := by simpa using h2
        refine RG.bad (j := j + 1) (n := ⟨52, a, v, s, [x, ⟨12, 0, 0, [], []⟩]⟩) (Ev.sh 2 ?_) ?_
        · simp only [eIsoT]
          refine Ev.bind e1.up ?_
          simp only [qs, Option.bind_some, Option.map_some, joinK, qb, ↓reduceIte, if_true, if_false, eq_self, Int.reduceBEq, Int.reduceBNe, r1, h1, m3, h2, List.nil_append, r2]; exact Ev.pure
        · unfold rIsoT
          refine Ev.bind e2 ?_
          simp only [qs, Option.bind_some, Option.map_some, joinK, qb, ↓reduceIte, if_true, if_false, eq_self, Int.reduceBEq, Int.reduceBNe, h1, m3, h2]; exact Ev.pure
    · have h1 : isT (tk l j) 3 [98, 121] = false := by simpa using h1
      have E : Ev (eIsoT l a s v q false) (if isT (tk l j) 4 [59] then (⟨52, a, v, s, [x]⟩, IntKind.i64.wrap (j + 1), false) else (⟨52, a, v, s, [x]⟩, j, true)) := by
        refine Ev.sh 2 ?_
        simp only [eIsoT]
        refine Ev.bind e1.up ?_
        simp only [qs, Option.bind_some, Option.map_some, joinK, qb, ↓reduceIte, if_true, if_false, eq_self, Int.reduceBEq, Int.reduceBNe, r1, h1, List.nil_append]
        cases isT (tk l j) 4 [59]
        · simp only [qs, Option.bind_some, Option.map_some, joinK, qb, ↓reduceIte, if_true, if_false, eq_self, Int.reduceBEq, Int.reduceBNe]; exact Ev.pure
        · simp only [qs, Option.bind_some, Option.map_some, joinK, qb, ↓reduceIte, if_true, if_false, eq_self, Int.reduceBEq, Int.reduceBNe]; exact Ev.pure
      have Rr : Ev (rIsoT l a s v q) (if isT (tk l j) 4 [59] then ⟨⟨52, a, v, s, [x]⟩, IntKind.i64.wrap (j + 1), true⟩ else ⟨zN, j, false⟩) := by
        unfold rIsoT
        refine Ev.bind e2 ?_
        simp only [qs, Option.bind_some, Option.map_some, joinK, qb, ↓reduceIte, if_true, if_false, eq_self, Int.reduceBEq, Int.reduceBNe, h1]
        cases isT (tk l j) 4 [59]
        · simp only [qs, Option.bind_some, Option.map_some, joinK, qb, ↓reduceIte, if_true, if_false, eq_self, Int.reduceBEq, Int.reduceBNe]; exact Ev.pure
        · simp only [qs, Option.bind_some, Option.map_some, joinK, qb, ↓reduceIte, if_true, if_false, eq_self, Int.reduceBEq, Int.reduceBNe]; exact Ev.pure
      by_cases h3 : isT (tk l j) 4 [59] = true
      · obtain ⟨v1, v2, v3⟩ := W.next (i := j) (by rw [(isT_kind h3).1]; decide)
        simp only [h3, if_true, v3] at E Rr
        exact RG.good E Rr ⟨by omega, v2⟩ (gd_iso1 _ hs hv q4)
      · simp only [show isT (tk l j) 4 [59] = false by simpa using h3, Bool.false_eq_true, if_false] at E Rr
        exact RG.bad E Rr
theorem RG.mono {G : TNode → Prop} {l : List TToken} {i p : Int} {e : Nat → Option (TNode × Int × Bool)} {r : Nat → Option Tref14_Got} (h : RG G l p e r) (hp : i ≤ p) : RG G l i e r := by
  obtain ⟨x, j, y, ok, e1, e2, e3, e4⟩ := h
  exact ⟨x, j, y, ok, e1, e2, fun h => by obtain ⟨g1, g2, g3, g4⟩ := e3 h; exact ⟨g1, by omega, g3, g4⟩, e4⟩
theorem RG.congr {G : TNode → Prop} {l : List TToken} {i : Int} {e e' : Nat → Option (TNode × Int × Bool)} {r r' : Nat → Option Tref14_Got} (he : ∀ x, Ev e' x → Ev e x) (hr : ∀ x, Ev r' x → Ev r x) (h : RG G l i e' r') : RG G l i e r := by
  obtain ⟨x, j, y, ok, e1, e2, e3, e4⟩ := h
  exact ⟨x, j, y, ok, he _ e1, hr _ e2, e3, e4⟩
theorem iso_R {l : List TToken} (W : WF l) (a : Int) {s : List UInt8} (hs : Nm s) (p : Int) : RG GD l p (eIso l a s p) (rIso l a s p) := by
  have hlen := W.len
  by_cases h1 : (isT (tk l p) 4 [91] && !isT (tk l (IntKind.i64.wrap (p + 1))) 4 [93]) = true
  · have hb : isT (tk l p) 4 [91] = true := by simp only [Bool.and_eq_true] at h1; exact h1.1
    obtain ⟨n1, n2, n3⟩ := W.next (i := p) (by rw [(isT_kind hb).1]; decide)
    rw [n3] at h1
    by_cases h2 : ((tk l (p + 1)).Kind != 2 || (tk l (p + 1)).N == 0) = true
    · obtain ⟨n, hn⟩ := eIso_bad l a s 0 (p + 1)
      refine RG.bad (j := p + 1) (n := n) (Ev.sh 2 ?_) ?_
      · simp only [eIso_eq]
        simp only [qs, Option.bind_some, Option.map_some, joinK, qb, ↓reduceIte, if_true, if_false, eq_self, Int.reduceBEq, Int.reduceBNe, n3, h1, h2]
        exact hn.up
      · refine Ev.congr (fun k => rIso_eq k l a s p) ?_
        simp only [qs, Option.bind_some, Option.map_some, joinK, qb, ↓reduceIte, if_true, if_false, eq_self, Int.reduceBEq, Int.reduceBNe, n3, h1, h2]; exact Ev.pure
    · have h2 : ((tk l (p + 1)).Kind != 2 || (tk l (p + 1)).N == 0) = false := by simpa using h2
      have hk : (tk l (p + 1)).Kind = 2 := by simp at h2; exact h2.1
      obtain ⟨m1, m2, m3⟩ := W.next (i := p + 1) (by omega)
      have w2 : IntKind.i64.wrap (p + 2) = p + 2 := wrap64_id (by omega) (by omega)
      have w3 : IntKind.i64.wrap (p + 3) = p + 3 := wrap64_id (by omega) (by omega)
      have a2 : p + 1 + 1 = p + 2 := by omega
      have a3 : p + 2 + 1 = p + 3 := by omega
      by_cases h3 : isT (tk l (p + 2)) 4 [93] = true
      · refine RG.congr (fun x hx => Ev.sh 2 ?_) (fun x hx => ?_) (RG.mono (isoT_R W a hs (W.nums _ hk) (p + 3)) (by omega))
        · simp only [eIso_eq]
          simp only [qs, Option.bind_some, Option.map_some, joinK, qb, ↓reduceIte, if_true, if_false, eq_self, Int.reduceBEq, Int.reduceBNe, n3, h1, h2, a2, w2, h3, a3, w3]
          exact hx.up
        · refine Ev.congr (fun k => rIso_eq k l a s p) ?_
          simp only [qs, Option.bind_some, Option.map_some, joinK, qb, ↓reduceIte, if_true, if_false, eq_self, Int.reduceBEq, Int.reduceBNe, n3, h1, h2, w2, h3, w3]
          exact hx
      · have h3 : isT (tk l (p + 2)) 4 [93] = false := by simpa using h3
        obtain ⟨n, hn⟩ := eIso_bad l a s (tk l (p + 1)).N (p + 2)
        refine RG.bad (j := p + 2) (n := n) (Ev.sh 2 ?_) ?_
        · simp only [eIso_eq]
          simp only [qs, Option.bind_some, Option.map_some, joinK, qb, ↓reduceIte, if_true, if_false, eq_self, Int.reduceBEq, Int.reduceBNe, n3, h1, h2, a2, w2, h3]
          exact hn.up
        · refine Ev.congr (fun k => rIso_eq k l a s p) ?_
          simp only [qs, Option.bind_some, Option.map_some, joinK, qb, ↓reduceIte, if_true, if_false, eq_self, Int.reduceBEq, Int.reduceBNe, n3, h1, h2, w2, h3]; exact Ev.pure
  · have h1 : (isT (tk l p) 4 [91] && !isT (tk l (IntKind.i64.wrap (p + 1))) 4 [93]) = false := by simpa using h1
    refine RG.congr (fun x hx => ?_) (fun x hx => ?_) (isoT_R W a hs (v := 0) (by omega) p)
    · refine Ev.congr (fun k => eIso_eq k l a s p) ?_
      simp only [qs, Option.bind_some, Option.map_some, joinK, qb, ↓reduceIte, if_true, if_false, eq_self, Int.reduceBEq, Int.reduceBNe, h1]
      exact hx
    · refine Ev.congr (fun k => rIso_eq k l a s p) ?_
      simp only [qs, Option.bind_some, Option.map_some, joinK, qb, ↓reduceIte, if_true, if_false, eq_self, Int.reduceBEq, Int.reduceBNe, h1]
      exact hx
end Go.Proofs.YtjakhfaodfaimaaGreatDoor.F
namespace Go.Proofs.YtjakhfaodfaimaaGreatDoor.F
open Go
def eFunT (l : List TToken) (a : Int) (s : List UInt8) (c : List TNode) (q : Int) (b : Bool) (k : Nat) : Option (TNode × Int × Bool) :=
    joinK (fun ((j2_bclloc34, j2_oext0_1, j2_oext0_2) : List TNode × Int × Bool) =>
    (stmt_cursor_block k l j2_oext0_1 j2_oext0_2).bind fun (x10_3_0, x10_3_1, x10_3_2) =>
    if (room 64 (j2_bclloc34.length + [x10_3_0].length)) then
    some ((TNode.mk 53 a 0 s (j2_bclloc34 ++ [x10_3_0])), x10_3_1, x10_3_2)
    else none) fun j_j2 =>
    (stmt_cursor_is k 4 [123] l q b).bind fun x7_1 =>
    if x7_1 then
    if (room 64 (c.length + [(TNode.mk 0 0 0 [] [])].length)) then
    j_j2 ((c ++ [(TNode.mk 0 0 0 [] [])]), q, b)
    else none
    else
    (stmt_cursor_part k l q b).bind fun (x9_3_0, x9_3_1, x9_3_2) =>
    if (room 64 (c.length + [x9_3_0].length)) then
    j_j2 ((c ++ [x9_3_0]), x9_3_1, x9_3_2)
    else none
def eMrgT (l : List TToken) (a : Int) (s : List UInt8) (c : List TNode) (q : Int) (b : Bool) (k : Nat) : Option (TNode × Int × Bool) :=
    (stmt_cursor_wants k [[41]] l q b).bind fun (x7_2_0, x7_2_1) =>
    (stmt_cursor_block k l x7_2_0 x7_2_1).bind fun (x8_3_0, x8_3_1, x8_3_2) =>
    if (room 64 (c.length + [x8_3_0].length)) then
    some ((TNode.mk 54 a 0 s (c ++ [x8_3_0])), x8_3_1, x8_3_2)
    else none
theorem eFunT_bad (l : List TToken) (a : Int) (s : List UInt8) (c : List TNode) (q : Int) (hc : c.length ≤ 900000) : ∃ n, Ev (eFunT l a s c q true) (n, q, true) := by
  refine ⟨⟨53, a, 0, s, c ++ [zN] ++ [⟨30, (tk l q).At, 0, [], []⟩]⟩, ?_⟩
  unfold eFunT
  simp only [qs, Option.bind_some, Option.map_some, joinK, qb, ↓reduceIte, if_true, if_false, eq_self, Int.reduceBEq, Int.reduceBNe, room1 zN (show c.length ≤ 1000000 by omega)]
  refine Ev.bind (block_bad l q) ?_
  simp only [qs, Option.bind_some, Option.map_some, joinK, qb, ↓reduceIte, if_true, if_false, eq_self, Int.reduceBEq, Int.reduceBNe, room1 (m := (c ++ [zN]).length) ⟨30, (tk l q).At, 0, [], []⟩ (by simp; omega)]; exact Ev.pure
theorem eMrgT_bad (l : List TToken) (a : Int) (s : List UInt8) (c : List TNode) (q : Int) (hc : c.length ≤ 900000) : ∃ n, Ev (eMrgT l a s c q true) (n, q, true) := by
  refine ⟨⟨54, a, 0, s, c ++ [⟨30, (tk l q).At, 0, [], []⟩]⟩, Ev.sh 2 ?_⟩
  simp only [eMrgT]
  simp only [qs, Option.bind_some, Option.map_some, joinK, qb, ↓reduceIte, if_true, if_false, eq_self, Int.reduceBEq, Int.reduceBNe]
  refine Ev.bind (block_bad l q).up ?_
  simp only [qs, Option.bind_some, Option.map_some, joinK, qb, ↓reduceIte, if_true, if_false, eq_self, Int.reduceBEq, Int.reduceBNe, room1 ⟨30, (tk l q).At, 0, [], []⟩ (show c.length ≤ 1000000 by omega)]; exact Ev.pure
def Tail (l : List TToken) (q kd a : Int) (s : List UInt8) (c : List TNode) (r : Tref14_Got) : Prop :=
  Ev (fun k => ref14_tail_v2 k l q kd a 0 s c) r ∧ ∃ z, Ev (fun k => ref14_tail_v3 k l q kd a 0 s kd a 0 s c) (z, r)
theorem funT_R {l : List TToken} (W : WF l) (a : Int) {s : List UInt8} (hs : Nm s) {c : List TNode} (hp : ∀ x ∈ c, GPa x) (hc : c.length ≤ 200000) (q : Int) :
    ∃ n j m ok, Ev (eFunT l a s c q false) (n, j, !ok) ∧ Tail l q 53 a s c ⟨m, j, ok⟩ ∧ (ok = true → n = m ∧ q < j ∧ j < l.length ∧ GD m) ∧ (ok = false → m = zN) := by
  have r1 := fun x => room1 x (show c.length ≤ 1000000 by omega)
  have r2 := fun (x y : TNode) => room1 y (show (c ++ [x]).length ≤ 1000000 by simp; omega)
  by_cases h1 : isT (tk l q) 4 [123] = true
  · obtain ⟨x, j, y, ok, e1, e2, e3, e4⟩ := (is_at W q).bl
    have E : Ev (eFunT l a s c q false) (⟨53, a, 0, s, c ++ [zN] ++ [x]⟩, j, !ok) := by
      unfold eFunT
      simp only [qs, Option.bind_some, Option.map_some, joinK, qb, ↓reduceIte, if_true, if_false, eq_self, Int.reduceBEq, Int.reduceBNe, h1, r1]
      refine Ev.bind e1 ?_
      simp only [qs, Option.bind_some, Option.map_some, joinK, qb, ↓reduceIte, if_true, if_false, eq_self, Int.reduceBEq, Int.reduceBNe, r2]; exact Ev.pure
    have T2 : Ev (fun k => ref14_tail_v2 k l q 53 a 0 s c) (if ok then ⟨⟨53, a, 0, s, c ++ [zN] ++ [y]⟩, j, true⟩ else ⟨zN, j, false⟩) := by
      simp only [ref14_tail_v2]
      simp only [qs, Option.bind_some, Option.map_some, joinK, qb, ↓reduceIte, if_true, if_false, eq_self, Int.reduceBEq, Int.reduceBNe, h1, r1]
      refine Ev.bind e2 ?_
      cases ok
      · have := e4 rfl; subst this
        simp only [qs, Option.bind_some, Option.map_some, joinK, qb, ↓reduceIte, if_true, if_false, eq_self, Int.reduceBEq, Int.reduceBNe]; exact Ev.pure
      · simp only [qs, Option.bind_some, Option.map_some, joinK, qb, ↓reduceIte, if_true, if_false, eq_self, Int.reduceBEq, Int.reduceBNe, r2]; exact Ev.pure
    have T3 : Ev (fun k => ref14_tail_v3 k l q 53 a 0 s 53 a 0 s c) (if ok then (c ++ [zN] ++ [y], ⟨⟨53, a, 0, s, c ++ [zN] ++ [y]⟩, j, true⟩) else (c ++ [zN], ⟨zN, j, false⟩)) := by
      simp only [ref14_tail_v3]
      simp only [qs, Option.bind_some, Option.map_some, joinK, qb, ↓reduceIte, if_true, if_false, eq_self, Int.reduceBEq, Int.reduceBNe, h1, r1]
      refine Ev.bind e2 ?_
      cases ok
      · have := e4 rfl; subst this
        simp only [qs, Option.bind_some, Option.map_some, joinK, qb, ↓reduceIte, if_true, if_false, eq_self, Int.reduceBEq, Int.reduceBNe]; exact Ev.pure
      · simp only [qs, Option.bind_some, Option.map_some, joinK, qb, ↓reduceIte, if_true, if_false, eq_self, Int.reduceBEq, Int.reduceBNe, r2]; exact Ev.pure
    cases ok with
    | false => exact ⟨_, j, zN, false, E, ⟨T2, _, T3⟩, (fun h => by cases h), fun _ => rfl⟩
    | true =>
      obtain ⟨rfl, g2, g3, g4⟩ := e3 rfl
      refine ⟨_, j, _, true, E, ⟨T2, _, T3⟩, fun _ => ⟨rfl, by omega, g3, ?_⟩, fun h => by cases h⟩
      rw [List.append_assoc]; exact gd_fun a hs hp (by omega) (Or.inr rfl) g4
  · have h1 : isT (tk l q) 4 [123] = false := by simpa using h1
    obtain ⟨x, j, y, ok, e1, e2, e3, e4⟩ := spart_all W q
    cases ok with
    | false =>
      refine ⟨⟨53, a, 0, s, c ++ [x] ++ [⟨30, (tk l j).At, 0, [], []⟩]⟩, j, zN, false, ?_, ⟨?_, c, ?_⟩, (fun h => by cases h), fun _ => rfl⟩
      · unfold eFunT
        simp only [qs, Option.bind_some, Option.map_some, joinK, qb, ↓reduceIte, if_true, if_false, eq_self, Int.reduceBEq, Int.reduceBNe, h1]
        refine Ev.bind e1 ?_
        simp only [qs, Option.bind_some, Option.map_some, joinK, qb, ↓reduceIte, if_true, if_false, eq_self, Int.reduceBEq, Int.reduceBNe, r1]
        refine Ev.bind (block_bad l j) ?_
        simp only [qs, Option.bind_some, Option.map_some, joinK, qb, ↓reduceIte, if_true, if_false, eq_self, Int.reduceBEq, Int.reduceBNe, r2]; exact Ev.pure
      · simp only [ref14_tail_v2]
        simp only [qs, Option.bind_some, Option.map_some, joinK, qb, ↓reduceIte, if_true, if_false, eq_self, Int.reduceBEq, Int.reduceBNe, h1]
        refine Ev.bind e2 ?_
        simp only [qs, Option.bind_some, Option.map_some, joinK, qb, ↓reduceIte, if_true, if_false, eq_self, Int.reduceBEq, Int.reduceBNe]; exact Ev.pure
      · simp only [ref14_tail_v3]
        simp only [qs, Option.bind_some, Option.map_some, joinK, qb, ↓reduceIte, if_true, if_false, eq_self, Int.reduceBEq, Int.reduceBNe, h1]
        refine Ev.bind e2 ?_
        simp only [qs, Option.bind_some, Option.map_some, joinK, qb, ↓reduceIte, if_true, if_false, eq_self, Int.reduceBEq, Int.reduceBNe]; exact Ev.pure
    | true =>
      obtain ⟨rfl, q2, q3, q4⟩ := e3 rfl
      obtain ⟨x', j', y', ok', f1, f2, f3, f4⟩ := (is_at W j).bl
      have E : Ev (eFunT l a s c q false) (⟨53, a, 0, s, c ++ [x] ++ [x']⟩, j', !ok') := by
        unfold eFunT
        simp only [qs, Option.bind_some, Option.map_some, joinK, qb, ↓reduceIte, if_true, if_false, eq_self, Int.reduceBEq, Int.reduceBNe, h1]
        refine Ev.bind e1 ?_
        simp only [qs, Option.bind_some, Option.map_some, joinK, qb, ↓reduceIte, if_true, if_false, eq_self, Int.reduceBEq, Int.reduceBNe, r1]
        refine Ev.bind f1 ?_
        simp only [qs, Option.bind_some, Option.map_some, joinK, qb, ↓reduceIte, if_true, if_false, eq_self, Int.reduceBEq, Int.reduceBNe, r2]; exact Ev.pure
      have T2 : Ev (fun k => ref14_tail_v2 k l q 53 a 0 s c) (if ok' then ⟨⟨53, a, 0, s, c ++ [x] ++ [y']⟩, j', true⟩ else ⟨zN, j', false⟩) := by
        simp only [ref14_tail_v2]
        simp only [qs, Option.bind_some, Option.map_some, joinK, qb, ↓reduceIte, if_true, if_false, eq_self, Int.reduceBEq, Int.reduceBNe, h1]
        refine Ev.bind e2 ?_
        simp only [qs, Option.bind_some, Option.map_some, joinK, qb, ↓reduceIte, if_true, if_false, eq_self, Int.reduceBEq, Int.reduceBNe, r1]
        refine Ev.bind f2 ?_
        cases ok'
        · have := f4 rfl; subst this
          simp only [qs, Option.bind_some, Option.map_some, joinK, qb, ↓reduceIte, if_true, if_false, eq_self, Int.reduceBEq, Int.reduceBNe]; exact Ev.pure
        · simp only [qs, Option.bind_some, Option.map_some, joinK, qb, ↓reduceIte, if_true, if_false, eq_self, Int.reduceBEq, Int.reduceBNe, r2]; exact Ev.pure
      have T3 : Ev (fun k => ref14_tail_v3 k l q 53 a 0 s 53 a 0 s c) (if ok' then (c ++ [x] ++ [y'], ⟨⟨53, a, 0, s, c ++ [x] ++ [y']⟩, j', true⟩) else (c ++ [x], ⟨zN, j', false⟩)) := by
        simp only [ref14_tail_v3]
        simp only [qs, Option.bind_some, Option.map_some, joinK, qb, ↓reduceIte, if_true, if_false, eq_self, Int.reduceBEq, Int.reduceBNe, h1]
        refine Ev.bind e2 ?_
        simp only [qs, Option.bind_some, Option.map_some, joinK, qb, ↓reduceIte, if_true, if_false, eq_self, Int.reduceBEq, Int.reduceBNe, r1]
        refine Ev.bind f2 ?_
        cases ok'
        · have := f4 rfl; subst this
          simp only [qs, Option.bind_some, Option.map_some, joinK, qb, ↓reduceIte, if_true, if_false, eq_self, Int.reduceBEq, Int.reduceBNe]; exact Ev.pure
        · simp only [qs, Option.bind_some, Option.map_some, joinK, qb, ↓reduceIte, if_true, if_false, eq_self, Int.reduceBEq, Int.reduceBNe, r2]; exact Ev.pure
      cases ok' with
      | false => exact ⟨_, j', zN, false, E, ⟨T2, _, T3⟩, (fun h => by cases h), fun _ => rfl⟩
      | true =>
        obtain ⟨rfl, g2, g3, g4⟩ := f3 rfl
        refine ⟨_, j', _, true, E, ⟨T2, _, T3⟩, fun _ => ⟨rfl, by omega, g3, ?_⟩, fun h => by cases h⟩
        rw [List.append_assoc]; exact gd_fun a hs hp (by omega) (Or.inl q4) g4
theorem mrgT_R {l : List TToken} (W : WF l) (a : Int) {s : List UInt8} (hs : Nm s) {c : List TNode} (hp : ∀ x ∈ c, GPa x) (hc : c.length = 3) (q : Int) (hq : isT (tk l q) 4 [41] = true) :
    ∃ n j m ok, Ev (eMrgT l a s c q false) (n, j, !ok) ∧ (∃ z, Ev (fun k => ref14_tail_v3 k l (q + 1) 54 a 0 s 54 a 0 s c) (z, ⟨m, j, ok⟩)) ∧ (ok = true → n = m ∧ q < j ∧ j < l.length ∧ GD m) ∧ (ok = false → m = zN) := by
  have r1 := fun x => room1 x (show c.length ≤ 1000000 by omega)
  obtain ⟨n1, n2, n3⟩ := W.next (i := q) (by rw [(isT_kind hq).1]; decide)
  obtain ⟨x, j, y, ok, e1, e2, e3, e4⟩ := (is_at W (q + 1)).bl
  have E : Ev (eMrgT l a s c q false) (⟨54, a, 0, s, c ++ [x]⟩, j, !ok) := by
    refine Ev.sh 2 ?_
    simp only [eMrgT]
    simp only [qs, Option.bind_some, Option.map_some, joinK, qb, ↓reduceIte, if_true, if_false, eq_self, Int.reduceBEq, Int.reduceBNe, hq, n3]
    refine Ev.bind e1.up ?_
    simp only [qs, Option.bind_some, Option.map_some, joinK, qb, ↓reduceIte, if_true, if_false, eq_self, Int.reduceBEq, Int.reduceBNe, r1]; exact Ev.pure
  have T3 : Ev (fun k => ref14_tail_v3 k l (q + 1) 54 a 0 s 54 a 0 s c) (if ok then (c ++ [y], ⟨⟨54, a, 0, s, c ++ [y]⟩, j, true⟩) else (c, ⟨zN, j, false⟩)) := by
    simp only [ref14_tail_v3]
    simp only [qs, Option.bind_some, Option.map_some, joinK, qb, ↓reduceIte, if_true, if_false, eq_self, Int.reduceBEq, Int.reduceBNe]
    refine Ev.bind e2 ?_
    cases ok
    · have := e4 rfl; subst this
      simp only [qs, Option.bind_some, Option.map_some, joinK, qb, ↓reduceIte, if_true, if_false, eq_self, Int.reduceBEq, Int.reduceBNe]; exact Ev.pure
    · simp only [qs, Option.bind_some, Option.map_some, joinK, qb, ↓reduceIte, if_true, if_false, eq_self, Int.reduceBEq, Int.reduceBNe, r1]; exact Ev.pure
  cases ok with
  | false => exact ⟨_, j, zN, false, E, ⟨_, T3⟩, (fun h => by cases h), fun _ => rfl⟩
  | true =>
    obtain ⟨rfl, g2, g3, g4⟩ := e3 rfl
    exact ⟨_, j, _, true, E, ⟨_, T3⟩, fun _ => ⟨rfl, by omega, g3, gd_merge a hs hp hc g4⟩, fun h => by cases h⟩
def eFunB (l : List TToken) (a : Int) (s : List UInt8) (k : Nat) (st : List TNode × Int × Bool) : Option ((List TNode × Int × Bool) ⊕ (TNode × Int × Bool)) :=
  match st with
  | (c, p, b) =>
    if (!b) then
    (stmt_cursor_param k l p b).bind fun (x4_3_0, x4_3_1, x4_3_2) =>
    if (room 64 (c.length + [x4_3_0].length)) then
    (stmt_cursor_takes k 4 [41] l x4_3_1 x4_3_2).bind fun (x5_1_0, x5_1_1) =>
    if x5_1_0 then
    (eFunT l a s (c ++ [x4_3_0]) x5_1_1 x4_3_2 k).map .inr
    else
    (stmt_cursor_wants k [[44]] l x5_1_1 x4_3_2).bind fun (x6_2_0, x6_2_1) =>
    some (.inl ((c ++ [x4_3_0]), x6_2_0, x6_2_1))
    else none
    else
    (eFunT l a s c p b k).map .inr
def rFunB (l : List TToken) (kd a : Int) (s : List UInt8) (k : Nat) (st : List TNode × Int) : Option ((List TNode × Int) ⊕ Tref14_Got) :=
  match st with
  | (c, p) =>
    (ref14_param k l p).bind fun x6_2 =>
    if (!x6_2.Ok) then
    some (.inr x6_2)
    else
    if (room 64 (c.length + [(TNode.mk x6_2.N.Kind x6_2.N.At x6_2.N.N x6_2.N.Name x6_2.N.Kids)].length)) then
    joinK (fun (g13_5_70 : Bool) =>
    if g13_5_70 then
    (ref14_tail_v3 k l (IntKind.i64.wrap (x6_2.At + 1)) kd a 0 s kd a 0 s (c ++ [(TNode.mk x6_2.N.Kind x6_2.N.At x6_2.N.N x6_2.N.Name x6_2.N.Kids)])).bind fun (x14_4_0, x14_4_1) =>
    some (.inr x14_4_1)
    else
    joinK (fun (g15_7_83 : Bool) =>
    if g15_7_83 then
    (ref14_fail k x6_2.At).bind fun x16_1 =>
    some (.inr x16_1)
    else
    some (.inl ((c ++ [(TNode.mk x6_2.N.Kind x6_2.N.At x6_2.N.N x6_2.N.Name x6_2.N.Kids)]), (IntKind.i64.wrap (x6_2.At + 1))))) fun j_g15_7 =>
    if (!((kd == 53) || (decide (((c ++ [(TNode.mk x6_2.N.Kind x6_2.N.At x6_2.N.N x6_2.N.Name x6_2.N.Kids)]).length : Int) < 3)))) then
    j_g15_7 true
    else
    (ref13_Is k l x6_2.At [44]).bind fun x15_5 =>
    j_g15_7 (!x15_5)) fun j_g13_5 =>
    if ((kd == 53) || (((c ++ [(TNode.mk x6_2.N.Kind x6_2.N.At x6_2.N.N x6_2.N.Name x6_2.N.Kids)]).length : Int) == 3)) then
    (ref13_Is k l x6_2.At [41]).bind fun x13_4 =>
    j_g13_5 x13_4
    else
    j_g13_5 false
    else none
theorem eFun_eq (k : Nat) (l : List TToken) (a : Int) (s : List UInt8) (p : Int) (b : Bool) : stmt_cursor_fun_v2 k 53 a 0 s [] l p b =
    (stmt_cursor_wants k [[40]] l p b).bind fun (q, c) => (stmt_cursor_takes k 4 [41] l q c).bind fun (t, q2) => if (!t) then loopM k (eFunB l a s k) ([], q2, c) else eFunT l a s [] q2 c k := rfl
theorem rFun_eq (k : Nat) (l : List TToken) (a : Int) (s : List UInt8) (p : Int) (kd : Int) : ref14_fun_v2 k l p kd a 0 s [] =
    (if isT (tk l p) 4 [40] then (if kd == 53 && isT (tk l (IntKind.i64.wrap (p + 1))) 4 [41] then ref14_tail_v2 k l (IntKind.i64.wrap (IntKind.i64.wrap (p + 1) + 1)) kd a 0 s [] else loopM k (rFunB l kd a s k) ([], IntKind.i64.wrap (p + 1))) else some ⟨zN, p, false⟩) := by
  have h : ref14_fun_v2 k l p kd a 0 s [] = (ref13_Is k l p [40]).bind fun x1_2 => if (!x1_2) then (ref14_fail k p).bind fun x2_1 => some x2_1 else
      joinK (fun (g4_7_25 : Bool) => if g4_7_25 then (ref14_tail_v2 k l (IntKind.i64.wrap (IntKind.i64.wrap (p + 1) + 1)) kd a 0 s []).bind fun x5_4 => some x5_4 else loopM k (rFunB l kd a s k) ([], IntKind.i64.wrap (p + 1)))
        fun j => if (kd == 53) then (ref13_Is k l (IntKind.i64.wrap (p + 1)) [41]).bind fun x4_6 => j x4_6 else j false := rfl
  rw [h, Is_eq k l p, Is_eq k l (IntKind.i64.wrap (p + 1))]
  generalize loopM k (rFunB l kd a s k) ([], IntKind.i64.wrap (p + 1)) = M
  generalize ref14_tail_v2 k l (IntKind.i64.wrap (IntKind.i64.wrap (p + 1) + 1)) kd a 0 s [] = T
  simp only [Option.bind_some, fail_eq, joinK]
  cases isT (tk l p) 4 [40]
  · rfl
  · cases kd == 53
    · rfl
    · cases isT (tk l (IntKind.i64.wrap (p + 1))) 4 [41]
      · rfl
      · cases T <;> rfl
theorem eFun_end (l : List TToken) (a p : Int) (s : List UInt8) (c : List TNode) (hc : c.length ≤ 900000) : ∃ n, EvL (eFunB l a s) (c, p, true) (n, p, true) := by
  obtain ⟨n, h⟩ := eFunT_bad l a s c p hc
  refine ⟨n, EvL.done ?_⟩
  simp only [eFunB]
  simp only [qs, Option.bind_some, Option.map_some, joinK, qb, ↓reduceIte, if_true, if_false, eq_self, Int.reduceBEq, Int.reduceBNe]
  exact Ev.map h
theorem fun_loop {l : List TToken} (W : WF l) (a : Int) {s : List UInt8} (hs : Nm s) : ∀ (n : Nat) (p : Int) (c : List TNode), (l.length : Int) - p ≤ n → 0 < p → p < l.length → (∀ x ∈ c, GPa x) → (c.length : Int) ≤ p →
    ∃ x j y ok, EvL (eFunB l a s) (c, p, false) (x, j, !ok) ∧ EvL (rFunB l 53 a s) (c, p) ⟨y, j, ok⟩ ∧ (ok = true → x = y ∧ p < j ∧ j < l.length ∧ GD y) ∧ (ok = false → y = zN) := by
  intro n
  induction n using Nat.strongRecOn with
  | _ n ih =>
  intro p c hn hp hpl hg hc
  have hlen := W.len
  obtain ⟨x, j, y, ok, e1, e2, e3, e4⟩ := param_R W p
  have r1 := fun x => room1 x (show c.length ≤ 1000000 by omega)
  cases ok with
  | false =>
    have := e4 rfl; subst this
    obtain ⟨z, hz⟩ := eFun_end l a j s (c ++ [x]) (by simp; omega)
    refine ⟨z, j, zN, false, EvL.step (s' := (c ++ [x], j, true)) (Ev.sh 2 ?_) hz, EvL.done ?_, (fun h => by cases h), fun _ => rfl⟩
    · simp only [eFunB]
      simp only [qs, Option.bind_some, Option.map_some, joinK, qb, ↓reduceIte, if_true, if_false, eq_self, Int.reduceBEq, Int.reduceBNe]
      refine Ev.bind e1.up ?_
      simp only [qs, Option.bind_some, Option.map_some, joinK, qb, ↓reduceIte, if_true, if_false, eq_self, Int.reduceBEq, Int.reduceBNe, r1]; exact Ev.pure
    · simp only [rFunB]
      refine Ev.bind e2 ?_
      simp only [qs, Option.bind_some, Option.map_some, joinK, qb, ↓reduceIte, if_true, if_false, eq_self, Int.reduceBEq, Int.reduceBNe]; exact Ev.pure
  | true =>
    obtain ⟨rfl, q2, q3, q4⟩ := e3 rfl
    have hg' : ∀ z ∈ c ++ [x], GPa z := by simp; exact fun z hz => hz.elim (hg z) (fun e => e ▸ q4)
    by_cases h1 : isT (tk l j) 4 [41] = true
    · obtain ⟨m1, m2, m3⟩ := W.next (i := j) (by rw [(isT_kind h1).1]; decide)
      obtain ⟨x', j', y', ok', f1, ⟨_, w, f2⟩, f3, f4⟩ := funT_R W a hs hg' (by simp; omega) (j + 1)
      refine ⟨x', j', y', ok', EvL.done ?_, EvL.done ?_, fun h => ?_, f4⟩
      · simp only [eFunB]
        simp only [qs, Option.bind_some, Option.map_some, joinK, qb, ↓reduceIte, if_true, if_false, eq_self, Int.reduceBEq, Int.reduceBNe]
        refine Ev.bind e1 ?_
        simp only [qs, Option.bind_some, Option.map_some, joinK, qb, ↓reduceIte, if_true, if_false, eq_self, Int.reduceBEq, Int.reduceBNe, r1, h1, m3]
        exact Ev.map f1
      · simp only [rFunB]
        refine Ev.bind e2 ?_
        simp only [qs, Option.bind_some, Option.map_some, joinK, qb, ↓reduceIte, if_true, if_false, eq_self, Int.reduceBEq, Int.reduceBNe, r1, h1, m3]
        refine Ev.bind f2 ?_
        exact Ev.pure
      · obtain ⟨g1, g2, g3, g4⟩ := f3 h
        exact ⟨g1, by omega, g3, g4⟩
    · have h1 : isT (tk l j) 4 [41] = false := by simpa using h1
      by_cases h2 : isT (tk l j) 4 [44] = true
      · obtain ⟨m1, m2, m3⟩ := W.next (i := j) (by rw [(isT_kind h2).1]; decide)
        obtain ⟨x', j', y', ok', f1, f2, f3, f4⟩ := ih (n - 1) (by omega) (j + 1) (c ++ [x]) (by omega) (by omega) m2 hg' (by simp; omega)
        refine ⟨x', j', y', ok', EvL.step (s' := (c ++ [x], j + 1, false)) (Ev.sh 2 ?_) f1, EvL.step (s' := (c ++ [x], j + 1)) ?_ f2, fun h => ?_, f4⟩
        · simp only [eFunB]
          simp only [qs, Option.bind_some, Option.map_some, joinK, qb, ↓reduceIte, if_true, if_false, eq_self, Int.reduceBEq, Int.reduceBNe]
          refine Ev.bind e1.up ?_
          simp only [qs, Option.bind_some, Option.map_some, joinK, qb, ↓reduceIte, if_true, if_false, eq_self, Int.reduceBEq, Int.reduceBNe, r1, h1, m3, h2]; exact Ev.pure
        · simp only [rFunB]
          refine Ev.bind e2 ?_
          simp only [qs, Option.bind_some, Option.map_some, joinK, qb, ↓reduceIte, if_true, if_false, eq_self, Int.reduceBEq, Int.reduceBNe, r1, h1, m3, h2]; exact Ev.pure
        · obtain ⟨g1, g2, g3, g4⟩ := f3 h
          exact ⟨g1, by omega, g3, g4⟩
      · have h2 : isT (tk l j) 4 [44] = false := by simpa using h2
        obtain ⟨z, hz⟩ := eFun_end l a j s (c ++ [x]) (by simp; omega)
        refine ⟨z, j, zN, false, EvL.step (s' := (c ++ [x], j, true)) (Ev.sh 2 ?_) hz, EvL.done ?_, (fun h => by cases h), fun _ => rfl⟩
        · simp only [eFunB]
          simp only [qs, Option.bind_some, Option.map_some, joinK, qb, ↓reduceIte, if_true, if_false, eq_self, Int.reduceBEq, Int.reduceBNe]
          refine Ev.bind e1.up ?_
          simp only [qs, Option.bind_some, Option.map_some, joinK, qb, ↓reduceIte, if_true, if_false, eq_self, Int.reduceBEq, Int.reduceBNe, r1, h1, h2]; exact Ev.pure
        · simp only [rFunB]
          refine Ev.bind e2 ?_
          simp only [qs, Option.bind_some, Option.map_some, joinK, qb, ↓reduceIte, if_true, if_false, eq_self, Int.reduceBEq, Int.reduceBNe, r1, h1, h2]; exact Ev.pure
theorem fun_R {l : List TToken} (W : WF l) (a : Int) {s : List UInt8} (hs : Nm s) (p : Int) : RG GD l p (fun k => stmt_cursor_fun_v2 k 53 a 0 s [] l p false) (fun k => ref14_fun_v2 k l p 53 a 0 s []) := by
  have hlen := W.len
  by_cases h1 : isT (tk l p) 4 [40] = true
  · obtain ⟨n1, n2, n3⟩ := W.next (i := p) (by rw [(isT_kind h1).1]; decide)
    by_cases h2 : isT (tk l (p + 1)) 4 [41] = true
    · obtain ⟨m1, m2, m3⟩ := W.next (i := p + 1) (by rw [(isT_kind h2).1]; decide)
      obtain ⟨x, j, y, ok, e1, ⟨e2, _⟩, e3, e4⟩ := funT_R W a hs (c := []) (by simp) (by simp) (p + 1 + 1)
      refine ⟨x, j, y, ok, Ev.sh 2 ?_, ?_, fun h => ?_, e4⟩
      · simp only [eFun_eq]
        simp only [qs, Option.bind_some, Option.map_some, joinK, qb, ↓reduceIte, if_true, if_false, eq_self, Int.reduceBEq, Int.reduceBNe, h1, n3, h2, m3]
        exact e1.up
      · simp only [rFun_eq]
        simp only [qs, Option.bind_some, Option.map_some, joinK, qb, ↓reduceIte, if_true, if_false, eq_self, Int.reduceBEq, Int.reduceBNe, h1, n3, h2, m3]
        exact e2
      · obtain ⟨g1, g2, g3, g4⟩ := e3 h
        exact ⟨g1, by omega, g3, g4⟩
    · have h2 : isT (tk l (p + 1)) 4 [41] = false := by simpa using h2
      obtain ⟨x, j, y, ok, e1, e2, e3, e4⟩ := fun_loop W a hs (l.length - (p + 1)).toNat (p + 1) [] (by omega) (by omega) n2 (by simp) (by simp; omega)
      refine ⟨x, j, y, ok, Ev.sh 2 ?_, ?_, fun h => ?_, e4⟩
      · simp only [eFun_eq]
        simp only [qs, Option.bind_some, Option.map_some, joinK, qb, ↓reduceIte, if_true, if_false, eq_self, Int.reduceBEq, Int.reduceBNe, h1, n3, h2]
        exact (Ev.loop e1).up (n := 2)
      · simp only [rFun_eq]
        simp only [qs, Option.bind_some, Option.map_some, joinK, qb, ↓reduceIte, if_true, if_false, eq_self, Int.reduceBEq, Int.reduceBNe, h1, n3, h2]
        exact Ev.loop e2
      · obtain ⟨g1, g2, g3, g4⟩ := e3 h
        exact ⟨g1, by omega, g3, g4⟩
  · have h1 : isT (tk l p) 4 [40] = false := by simpa using h1
    obtain ⟨z, hz⟩ := eFun_end l a p s [] (by simp)
    refine RG.bad (j := p) (n := z) (Ev.sh 2 ?_) ?_
    · simp only [eFun_eq]
      simp only [qs, Option.bind_some, Option.map_some, joinK, qb, ↓reduceIte, if_true, if_false, eq_self, Int.reduceBEq, Int.reduceBNe, h1]
      exact (Ev.loop hz).up (n := 2)
    · simp only [rFun_eq]
      simp only [qs, Option.bind_some, Option.map_some, joinK, qb, ↓reduceIte, if_true, if_false, eq_self, Int.reduceBEq, Int.reduceBNe, h1]; exact Ev.pure
def mmarks : List (List UInt8) := [[40], [44], [44]]
def eMrgB (l : List TToken) (a : Int) (s : List UInt8) (k : Nat) (st : List TNode × Int × Int × Bool) : Option ((List TNode × Int × Int × Bool) ⊕ (TNode × Int × Bool)) :=
  match st with
  | (c, t, p, b) =>
    if (decide (t < (mmarks.length : Int))) then
    (ix mmarks t).bind fun x3_0 =>
    (stmt_cursor_wants k [x3_0] l p b).bind fun (x4_3_0, x4_3_1) =>
    (stmt_cursor_param k l x4_3_0 x4_3_1).bind fun (x5_3_0, x5_3_1, x5_3_2) =>
    if (room 64 (c.length + [x5_3_0].length)) then
    some (.inl ((c ++ [x5_3_0]), (IntKind.i64.wrap (t + 1)), x5_3_1, x5_3_2))
    else none
    else
    (eMrgT l a s c p b k).map .inr
theorem eMrg_eq (k : Nat) (l : List TToken) (a : Int) (s : List UInt8) (p : Int) (b : Bool) : stmt_cursor_merge_v2 k 54 a 0 s [] l p b = loopM k (eMrgB l a s k) ([], 0, p, b) := rfl
theorem mrg_at {t : Nat} (ht : t < 3) : ∃ m, ix mmarks (t : Int) = some m ∧ decide ((t : Int) < (mmarks.length : Int)) = true ∧ IntKind.i64.wrap ((t : Int) + 1) = ((t + 1 : Nat) : Int) := by
  match t, ht with
  | 0, _ => exact ⟨_, rfl, rfl, rfl⟩
  | 1, _ => exact ⟨_, rfl, rfl, rfl⟩
  | 2, _ => exact ⟨_, rfl, rfl, rfl⟩
theorem eMrg_end (l : List TToken) (a p : Int) (s : List UInt8) : ∀ (d t : Nat) (c : List TNode), t + d = 3 → c.length = t → ∃ n, EvL (eMrgB l a s) (c, (t : Int), p, true) (n, p, true)
  | 0, t, c, h, hc => by
    have h : t = 3 := by omega
    subst h
    obtain ⟨n, hn⟩ := eMrgT_bad l a s c p (by omega)
    refine ⟨n, EvL.done ?_⟩
    simp only [eMrgB]
    simp only [qs, Option.bind_some, Option.map_some, joinK, qb, ↓reduceIte, if_true, if_false, eq_self, Int.reduceBEq, Int.reduceBNe, show decide (((3 : Nat) : Int) < (mmarks.length : Int)) = false from rfl]
    exact Ev.map hn
  | d + 1, t, c, h, hc => by
    obtain ⟨m, m1, m2, m3⟩ := mrg_at (t := t) (by omega)
    obtain ⟨n, hn⟩ := eMrg_end l a p s d (t + 1) (c ++ [⟨50, 0, 0, [], [zN]⟩]) (by omega) (by simp; omega)
    refine ⟨n, EvL.step (s' := (c ++ [⟨50, 0, 0, [], [zN]⟩], ((t + 1 : Nat) : Int), p, true)) (Ev.sh 2 ?_) hn⟩
    simp only [eMrgB]
    simp only [qs, Option.bind_some, Option.map_some, joinK, qb, ↓reduceIte, if_true, if_false, eq_self, Int.reduceBEq, Int.reduceBNe, m1, m2, m3, room1 ⟨50, 0, 0, [], [zN]⟩ (show c.length ≤ 1000000 by omega)]; exact Ev.pure
theorem mrg_loop {l : List TToken} (W : WF l) (a : Int) {s : List UInt8} (hs : Nm s) : ∀ (d t : Nat) (p : Int) (c : List TNode) (m : List UInt8), t + d + 1 = 3 → c.length = t → (∀ x ∈ c, GPa x) → ix mmarks (t : Int) = some m → isT (tk l p) 4 m = true →
    ∃ x j y ok, EvL (eMrgB l a s) (c, (t : Int), p, false) (x, j, !ok) ∧ EvL (rFunB l 54 a s) (c, p + 1) ⟨y, j, ok⟩ ∧ (ok = true → x = y ∧ p < j ∧ j < l.length ∧ GD y) ∧ (ok = false → y = zN) := by
  intro d
  induction d with
  | zero =>
    intro t p c m ht hc hg hm hp
    have ht : t = 2 := by omega
    subst ht
    obtain ⟨n1, n2, n3⟩ := W.next (i := p) (by rw [(isT_kind hp).1]; decide)
    obtain ⟨m', m1, m2, m3⟩ := mrg_at (t := 2) (by omega)
    rw [hm] at m1; cases m1
    obtain ⟨x, j, y, ok, e1, e2, e3, e4⟩ := param_R W (p + 1)
    have r1 := fun x => room1 x (show c.length ≤ 1000000 by omega)
    have E : Ev (fun k => eMrgB l a s k (c, ((2 : Nat) : Int), p, false)) (.inl (c ++ [x], ((2 + 1 : Nat) : Int), j, !ok)) := by
      refine Ev.sh 2 ?_
      simp only [eMrgB]
      simp only [qs, Option.bind_some, Option.map_some, joinK, qb, ↓reduceIte, if_true, if_false, eq_self, Int.reduceBEq, Int.reduceBNe, hm, m2, hp, n3]
      refine Ev.bind e1.up ?_
      simp only [qs, Option.bind_some, Option.map_some, joinK, qb, ↓reduceIte, if_true, if_false, eq_self, Int.reduceBEq, Int.reduceBNe, m3, r1]; exact Ev.pure
    cases ok with
    | false =>
      have := e4 rfl; subst this
      obtain ⟨z, hz⟩ := eMrg_end l a j s 0 3 (c ++ [x]) rfl (by simp; omega)
      refine ⟨z, j, zN, false, EvL.step E hz, EvL.done ?_, (fun h => by cases h), fun _ => rfl⟩
      simp only [rFunB]
      refine Ev.bind e2 ?_
      simp only [qs, Option.bind_some, Option.map_some, joinK, qb, ↓reduceIte, if_true, if_false, eq_self, Int.reduceBEq, Int.reduceBNe]; exact Ev.pure
    | true =>
      obtain ⟨rfl, q2, q3, q4⟩ := e3 rfl
      have hg' : ∀ z ∈ c ++ [x], GPa z := by simp; exact fun z hz => hz.elim (hg z) (fun e => e ▸ q4)
      have hl3 : (c ++ [x]).length = 3 := by simp; omega
      have hl3i : ((c ++ [x]).length : Int) = 3 := by omega
      by_cases h1 : isT (tk l j) 4 [41] = true
      · obtain ⟨u1, u2, u3⟩ := W.next (i := j) (by rw [(isT_kind h1).1]; decide)
        obtain ⟨x', j', y', ok', f1, ⟨w, f2⟩, f3, f4⟩ := mrgT_R W a hs hg' hl3 j h1
        refine ⟨x', j', y', ok', EvL.step E (EvL.done ?_), EvL.done ?_, fun h => ?_, f4⟩
        · simp only [eMrgB]
          simp only [qs, Option.bind_some, Option.map_some, joinK, qb, ↓reduceIte, if_true, if_false, eq_self, Int.reduceBEq, Int.reduceBNe, show decide (((2 + 1 : Nat) : Int) < (mmarks.length : Int)) = false from rfl]
          exact Ev.map f1
        · simp only [rFunB]
          refine Ev.bind e2 ?_
          simp only [qs, Option.bind_some, Option.map_some, joinK, qb, ↓reduceIte, if_true, if_false, eq_self, Int.reduceBEq, Int.reduceBNe, r1, hl3i, h1, u3]
          refine Ev.bind f2 ?_
          exact Ev.pure
        · obtain ⟨g1, g2, g3, g4⟩ := f3 h
          exact ⟨g1, by omega, g3, g4⟩
      · have h1 : isT (tk l j) 4 [41] = false := by simpa using h1
        refine ⟨⟨54, a, 0, s, c ++ [x] ++ [⟨30, (tk l j).At, 0, [], []⟩]⟩, j, zN, false, EvL.step E (EvL.done ?_), EvL.done ?_, (fun h => by cases h), fun _ => rfl⟩
        · have hT : Ev (eMrgT l a s (c ++ [x]) j false) (⟨54, a, 0, s, c ++ [x] ++ [⟨30, (tk l j).At, 0, [], []⟩]⟩, j, true) := by
            refine Ev.sh 2 ?_
            simp only [eMrgT]
            simp only [qs, Option.bind_some, Option.map_some, joinK, qb, ↓reduceIte, if_true, if_false, eq_self, Int.reduceBEq, Int.reduceBNe, h1]
            refine Ev.bind (block_bad l j).up ?_
            simp only [qs, Option.bind_some, Option.map_some, joinK, qb, ↓reduceIte, if_true, if_false, eq_self, Int.reduceBEq, Int.reduceBNe, room1 (m := (c ++ [x]).length) ⟨30, (tk l j).At, 0, [], []⟩ (by omega)]; exact Ev.pure
          simp only [eMrgB]
          simp only [qs, Option.bind_some, Option.map_some, joinK, qb, ↓reduceIte, if_true, if_false, eq_self, Int.reduceBEq, Int.reduceBNe, show decide (((2 + 1 : Nat) : Int) < (mmarks.length : Int)) = false from rfl]
          exact Ev.map hT
        · simp only [rFunB]
          refine Ev.bind e2 ?_
          simp only [qs, Option.bind_some, Option.map_some, joinK, qb, ↓reduceIte, if_true, if_false, eq_self, Int.reduceBEq, Int.reduceBNe, r1, hl3i, h1, show decide ((3 : Int) < 3) = false from rfl]; exact Ev.pure
  | succ d ih =>
    intro t p c m ht hc hg hm hp
    obtain ⟨n1, n2, n3⟩ := W.next (i := p) (by rw [(isT_kind hp).1]; decide)
    obtain ⟨m', m1, m2, m3⟩ := mrg_at (t := t) (by omega)
    rw [hm] at m1; cases m1
    have hm2 : ix mmarks ((t + 1 : Nat) : Int) = some [44] := by
      have : t = 0 ∨ t = 1 := by omega
      rcases this with rfl | rfl <;> rfl
    have m2' : decide (((t + 1 : Nat) : Int) < (mmarks.length : Int)) = true := (mrg_at (t := t + 1) (by omega)).choose_spec.2.1
    have m3' : IntKind.i64.wrap (((t + 1 : Nat) : Int) + 1) = ((t + 1 + 1 : Nat) : Int) := (mrg_at (t := t + 1) (by omega)).choose_spec.2.2
    obtain ⟨x, j, y, ok, e1, e2, e3, e4⟩ := param_R W (p + 1)
    have r1 := fun x => room1 x (show c.length ≤ 1000000 by omega)
    have E : Ev (fun k => eMrgB l a s k (c, (t : Int), p, false)) (.inl (c ++ [x], ((t + 1 : Nat) : Int), j, !ok)) := by
      refine Ev.sh 2 ?_
      simp only [eMrgB]
      simp only [qs, Option.bind_some, Option.map_some, joinK, qb, ↓reduceIte, if_true, if_false, eq_self, Int.reduceBEq, Int.reduceBNe, hm, m2, hp, n3]
      refine Ev.bind e1.up ?_
      simp only [qs, Option.bind_some, Option.map_some, joinK, qb, ↓reduceIte, if_true, if_false, eq_self, Int.reduceBEq, Int.reduceBNe, m3, r1]; exact Ev.pure
    cases ok with
    | false =>
      have := e4 rfl; subst this
      obtain ⟨z, hz⟩ := eMrg_end l a j s (d + 1) (t + 1) (c ++ [x]) (by omega) (by simp; omega)
      refine ⟨z, j, zN, false, EvL.step E hz, EvL.done ?_, (fun h => by cases h), fun _ => rfl⟩
      simp only [rFunB]
      refine Ev.bind e2 ?_
      simp only [qs, Option.bind_some, Option.map_some, joinK, qb, ↓reduceIte, if_true, if_false, eq_self, Int.reduceBEq, Int.reduceBNe]; exact Ev.pure
    | true =>
      obtain ⟨rfl, q2, q3, q4⟩ := e3 rfl
      have hg' : ∀ z ∈ c ++ [x], GPa z := by simp; exact fun z hz => hz.elim (hg z) (fun e => e ▸ q4)
      have hl3 : (((c ++ [x]).length : Int) == 3) = false := by simp; omega
      have hl3i : decide (((c ++ [x]).length : Int) < 3) = true := by simp; omega
      by_cases h2 : isT (tk l j) 4 [44] = true
      · obtain ⟨u1, u2, u3⟩ := W.next (i := j) (by rw [(isT_kind h2).1]; decide)
        obtain ⟨x', j', y', ok', f1, f2, f3, f4⟩ := ih (t + 1) j (c ++ [x]) [44] (by omega) (by simp; omega) hg' hm2 h2
        refine ⟨x', j', y', ok', EvL.step E f1, EvL.step (s' := (c ++ [x], j + 1)) ?_ f2, fun h => ?_, f4⟩
        · simp only [rFunB]
          refine Ev.bind e2 ?_
          simp only [qs, Option.bind_some, Option.map_some, joinK, qb, ↓reduceIte, if_true, if_false, eq_self, Int.reduceBEq, Int.reduceBNe, r1, hl3, hl3i, h2, u3]; exact Ev.pure
        · obtain ⟨g1, g2, g3, g4⟩ := f3 h
          exact ⟨g1, by omega, g3, g4⟩
      · have h2 : isT (tk l j) 4 [44] = false := by simpa using h2
        obtain ⟨z, hz⟩ := eMrg_end l a j s d (t + 2) (c ++ [x] ++ [⟨50, 0, 0, [], [zN]⟩]) (by omega) (by simp; omega)
        refine ⟨z, j, zN, false, EvL.step E (EvL.step (s' := (c ++ [x] ++ [⟨50, 0, 0, [], [zN]⟩], ((t + 2 : Nat) : Int), j, true)) (Ev.sh 2 ?_) hz), EvL.done ?_, (fun h => by cases h), fun _ => rfl⟩
        · simp only [eMrgB]
          simp only [qs, Option.bind_some, Option.map_some, joinK, qb, ↓reduceIte, if_true, if_false, eq_self, Int.reduceBEq, Int.reduceBNe, hm2, m2', h2, m3', room1 (m := (c ++ [x]).length) ⟨50, 0, 0, [], [zN]⟩ (by simp; omega)]; exact Ev.pure
        · simp only [rFunB]
          refine Ev.bind e2 ?_
          simp only [qs, Option.bind_some, Option.map_some, joinK, qb, ↓reduceIte, if_true, if_false, eq_self, Int.reduceBEq, Int.reduceBNe, r1, hl3, hl3i, h2]; exact Ev.pure
theorem mrg_R {l : List TToken} (W : WF l) (a : Int) {s : List UInt8} (hs : Nm s) (p : Int) : RG GD l p (fun k => stmt_cursor_merge_v2 k 54 a 0 s [] l p false) (fun k => ref14_fun_v2 k l p 54 a 0 s []) := by
  by_cases h1 : isT (tk l p) 4 [40] = true
  · obtain ⟨n1, n2, n3⟩ := W.next (i := p) (by rw [(isT_kind h1).1]; decide)
    obtain ⟨x, j, y, ok, e1, e2, e3, e4⟩ := mrg_loop W a hs 2 0 p [] [40] rfl rfl (by simp) rfl h1
    refine ⟨x, j, y, ok, ?_, ?_, e3, e4⟩
    · simp only [eMrg_eq]
      exact Ev.loop e1
    · simp only [rFun_eq]
      simp only [qs, Option.bind_some, Option.map_some, joinK, qb, ↓reduceIte, if_true, if_false, eq_self, Int.reduceBEq, Int.reduceBNe, h1, n3]
      exact Ev.loop e2
  · have h1 : isT (tk l p) 4 [40] = false := by simpa using h1
    obtain ⟨z, hz⟩ := eMrg_end l a p s 2 1 [⟨50, 0, 0, [], [zN]⟩] rfl rfl
    refine RG.bad (j := p) (n := z) ?_ ?_
    · simp only [eMrg_eq]
      refine Ev.loop (EvL.step (s' := ([⟨50, 0, 0, [], [zN]⟩], ((1 : Nat) : Int), p, true)) (Ev.sh 2 ?_) hz)
      simp only [eMrgB]
      simp only [qs, Option.bind_some, Option.map_some, joinK, qb, ↓reduceIte, if_true, if_false, eq_self, Int.reduceBEq, Int.reduceBNe, show ix mmarks 0 = some [40] from rfl, show decide ((0 : Int) < (mmarks.length : Int)) = true from rfl, h1, room1 (m := ([] : List TNode).length) ⟨50, 0, 0, [], [zN]⟩ (by simp)]
      exact Ev.pure
    · simp only [rFun_eq]
      simp only [qs, Option.bind_some, Option.map_some, joinK, qb, ↓reduceIte, if_true, if_false, eq_self, Int.reduceBEq, Int.reduceBNe, h1]; exact Ev.pure
end Go.Proofs.YtjakhfaodfaimaaGreatDoor.F
namespace Go.Proofs.YtjakhfaodfaimaaGreatDoor.F
open Go
theorem eFun_bad (l : List TToken) (a : Int) (s : List UInt8) (p : Int) : ∃ n, Ev (fun k => stmt_cursor_fun_v2 k 53 a 0 s [] l p true) (n, p, true) := by
  obtain ⟨z, hz⟩ := eFun_end l a p s [] (by simp)
  refine ⟨z, Ev.sh 2 ?_⟩
  simp only [eFun_eq]
  simp only [qs, Option.bind_some, Option.map_some, joinK, qb, ↓reduceIte, if_true, if_false, eq_self, Int.reduceBEq, Int.reduceBNe]
  exact (Ev.loop hz).up (n := 2)
theorem eMrg_bad (l : List TToken) (a : Int) (s : List UInt8) (p : Int) : ∃ n, Ev (fun k => stmt_cursor_merge_v2 k 54 a 0 s [] l p true) (n, p, true) := by
  obtain ⟨z, hz⟩ := eMrg_end l a p s 3 0 [] rfl rfl
  exact ⟨z, Ev.congr (fun k => eMrg_eq k l a s p true) (Ev.loop hz)⟩
def dwords : List (List UInt8) := [[114, 101, 99], [105, 115, 111], [102, 117, 110], [109, 101, 114, 103, 101]]
def eDeclB (l : List TToken) (a : Int) (k : Nat) (st : Int × Int) : Option ((Int × Int) ⊕ (TNode × Int × Bool)) :=
  match st with
  | (t, p) =>
    if (decide (t < (dwords.length : Int))) then
    (ix dwords t).bind fun x5_1 =>
    (stmt_cursor_takes k 3 x5_1 l p false).bind fun (x6_2_0, x6_2_1) =>
    if (!x6_2_0) then
    some (.inl ((IntKind.i64.wrap (t + 1)), x6_2_1))
    else
    (stmt_cursor_name k l x6_2_1 false).bind fun (x8_1_0, x8_1_1, x8_1_2, x8_1_3) =>
    if ((IntKind.i64.wrap (51 + t)) == 51) then
    (stmt_cursor_rec_v2 k (IntKind.i64.wrap (51 + t)) a 0 x8_1_0 [] l x8_1_2 x8_1_3).bind fun (x11_2_0, x11_2_1, x11_2_2) =>
    some (.inr (x11_2_0, x11_2_1, x11_2_2))
    else
    if ((IntKind.i64.wrap (51 + t)) == 52) then
    (stmt_cursor_iso_v2 k (IntKind.i64.wrap (51 + t)) a 0 x8_1_0 [] l x8_1_2 x8_1_3).bind fun (x13_2_0, x13_2_1, x13_2_2) =>
    some (.inr (x13_2_0, x13_2_1, x13_2_2))
    else
    if ((IntKind.i64.wrap (51 + t)) == 53) then
    (stmt_cursor_fun_v2 k (IntKind.i64.wrap (51 + t)) a 0 x8_1_0 [] l x8_1_2 x8_1_3).bind fun (x15_2_0, x15_2_1, x15_2_2) =>
    some (.inr (x15_2_0, x15_2_1, x15_2_2))
    else
    (stmt_cursor_merge_v2 k (IntKind.i64.wrap (51 + t)) a 0 x8_1_0 [] l x8_1_2 x8_1_3).bind fun (x16_2_0, x16_2_1, x16_2_2) =>
    some (.inr (x16_2_0, x16_2_1, x16_2_2))
    else
    (some ((TNode.mk 0 a 0 [] []), p, true)).map .inr
theorem eDecl_eq (k : Nat) (l : List TToken) (i : Int) : stmt_cursor_decl k l i false = loopM k (eDeclB l (tk l i).At k) (0, i) := by
  unfold stmt_cursor_decl
  rw [slook_eq]
  rfl
def rDeclJ (l : List TToken) (i : Int) (k : Nat) (q : Int) : Option Tref14_Got :=
    if (q == 4) then
    (ref14_fail k i).bind fun x6_1 =>
    some x6_1
    else
    (ref13_Tok k l (IntKind.i64.wrap (i + 1))).bind fun x7_3 =>
    if (x7_3.Kind != 1) then
    (ref14_fail k (IntKind.i64.wrap (i + 1))).bind fun x9_2 =>
    some x9_2
    else
    (ref13_Tok k l i).bind fun x10_4 =>
    if (q == 0) then
    (ref14_rec_v2 k l (IntKind.i64.wrap (i + 2)) (IntKind.i64.wrap (51 + q)) x10_4.At 0 x7_3.Text []).bind fun x12_4 =>
    some x12_4
    else
    if (q == 1) then
    (ref14_iso k l (IntKind.i64.wrap (i + 2)) (TNode.mk (IntKind.i64.wrap (51 + q)) x10_4.At 0 x7_3.Text [])).bind fun x14_4 =>
    some x14_4
    else
    (ref14_fun_v2 k l (IntKind.i64.wrap (i + 2)) (IntKind.i64.wrap (51 + q)) x10_4.At 0 x7_3.Text []).bind fun x15_4 =>
    some x15_4
def rDeclB (l : List TToken) (i : Int) (k : Nat) (t : Int) : Option (Int ⊕ Tref14_Got) :=
    joinK (fun (g3_11_21 : Bool) =>
    if g3_11_21 then
    some (.inl (IntKind.i64.wrap (t + 1)))
    else
    (rDeclJ l i k t).map .inr) fun j_g3_11 =>
    if (decide (t < 4)) then
    (ix dwords t).bind fun x3_7 =>
    (ref13_Says k l i x3_7).bind fun x3_9 =>
    j_g3_11 (!x3_9)
    else
    j_g3_11 false
theorem rDecl_eq (k : Nat) (l : List TToken) (i : Int) : ref14_Decl k l i = loopM k (rDeclB l i k) 0 := rfl
theorem decl_skip {l : List TToken} {i a : Int} {t : Nat} {w : List UInt8} (ht : t < 4) (hw : ix dwords (t : Int) = some w) (h : isT (tk l i) 3 w = false) :
    Ev (fun k => eDeclB l a k ((t : Int), i)) (.inl (((t + 1 : Nat) : Int), i)) ∧ Ev (fun k => rDeclB l i k (t : Int)) (.inl ((t + 1 : Nat) : Int)) := by
  have h1 : decide ((t : Int) < (dwords.length : Int)) = true := by simp [dwords]; omega
  have h2 : decide ((t : Int) < 4) = true := by simp; omega
  have h3 : IntKind.i64.wrap ((t : Int) + 1) = ((t + 1 : Nat) : Int) := wrap64_id (by omega) (by omega)
  constructor
  · simp only [eDeclB]
    simp only [qs, Option.bind_some, Option.map_some, joinK, qb, ↓reduceIte, if_true, if_false, eq_self, Int.reduceBEq, Int.reduceBNe, h1, hw, h, h3]; exact Ev.pure
  · simp only [rDeclB]
    simp only [qs, Option.bind_some, Option.map_some, joinK, qb, ↓reduceIte, if_true, if_false, eq_self, Int.reduceBEq, Int.reduceBNe, h2, hw, h, h3]; exact Ev.pure
abbrev eDecl (l : List TToken) (i : Int) (k : Nat) := stmt_cursor_decl k l i false
abbrev rDecl (l : List TToken) (i : Int) (k : Nat) := ref14_Decl k l i
theorem decl_hit {l : List TToken} (W : WF l) {i a : Int} {t : Nat} {w : List UInt8} (ht : t < 4) (hw : ix dwords (t : Int) = some w) (h : isT (tk l i) 3 w = true) :
    ∃ n j m ok, Ev (fun k => eDeclB l (tk l i).At k ((t : Int), i)) (.inr (n, j, !ok)) ∧ Ev (fun k => rDeclB l i k (t : Int)) (.inr ⟨m, j, ok⟩) ∧ (ok = true → n = m ∧ i < j ∧ j < l.length ∧ GD m) ∧ (ok = false → m = zN) := by
  have hlen := W.len
  have h1 : decide ((t : Int) < (dwords.length : Int)) = true := by simp [dwords]; omega
  have h2 : decide ((t : Int) < 4) = true := by simp; omega
  have h4 : ((t : Int) == 4) = false := by simp; omega
  obtain ⟨n1, n2, n3⟩ := W.next (i := i) (by rw [(isT_kind h).1]; decide)
  by_cases hn : (tk l (i + 1)).Kind = 1
  · obtain ⟨m1, m2, m3⟩ := W.next (i := i + 1) (by omega)
    have w2 : IntKind.i64.wrap (i + 2) = i + 2 := wrap64_id (by omega) (by omega)
    have a2 : i + 1 + 1 = i + 2 := by omega
    have hs := W.names _ hn
    match t, ht with
    | 0, _ =>
      obtain ⟨x, j, y, ok, e1, e2, e3, e4⟩ := rec_R W (tk l i).At hs (i + 2)
      refine ⟨x, j, y, ok, ?_, ?_, fun h => by obtain ⟨g1, g2, g3, g4⟩ := e3 h; exact ⟨g1, by omega, g3, g4⟩, e4⟩
      · simp only [eDeclB]
        simp only [qs, Option.bind_some, Option.map_some, joinK, qb, ↓reduceIte, if_true, if_false, eq_self, Int.reduceBEq, Int.reduceBNe, h1, hw, h, n3, hn, a2, w2, show IntKind.i64.wrap (51 + ((0 : Nat) : Int)) = 51 from rfl]
        exact Ev.bind e1 Ev.pure
      · simp only [rDeclB, rDeclJ]
        simp only [qs, Option.bind_some, Option.map_some, joinK, qb, ↓reduceIte, if_true, if_false, eq_self, Int.reduceBEq, Int.reduceBNe, h2, h4, hw, h, n3, hn, w2, show IntKind.i64.wrap (51 + ((0 : Nat) : Int)) = 51 from rfl, show (((0 : Nat) : Int) == 0) = true from rfl]
        exact Ev.map (Ev.bind e2 Ev.pure)
    | 1, _ =>
      obtain ⟨x, j, y, ok, e1, e2, e3, e4⟩ := iso_R W (tk l i).At hs (i + 2)
      refine ⟨x, j, y, ok, ?_, ?_, fun h => by obtain ⟨g1, g2, g3, g4⟩ := e3 h; exact ⟨g1, by omega, g3, g4⟩, e4⟩
      · simp only [eDeclB]
        simp only [qs, Option.bind_some, Option.map_some, joinK, qb, ↓reduceIte, if_true, if_false, eq_self, Int.reduceBEq, Int.reduceBNe, h1, hw, h, n3, hn, a2, w2, show IntKind.i64.wrap (51 + ((1 : Nat) : Int)) = 52 from rfl]
        exact Ev.bind e1 Ev.pure
      · simp only [rDeclB, rDeclJ]
        simp only [qs, Option.bind_some, Option.map_some, joinK, qb, ↓reduceIte, if_true, if_false, eq_self, Int.reduceBEq, Int.reduceBNe, h2, h4, hw, h, n3, hn, w2, show IntKind.i64.wrap (51 + ((1 : Nat) : Int)) = 52 from rfl, show (((1 : Nat) : Int) == 0) = false from rfl, show (((1 : Nat) : Int) == 1) = true from rfl]
        exact Ev.map (Ev.bind e2 Ev.pure)
    | 2, _ =>
      obtain ⟨x, j, y, ok, e1, e2, e3, e4⟩ := fun_R W (tk l i).At hs (i + 2)
      refine ⟨x, j, y, ok, ?_, ?_, fun h => by obtain ⟨g1, g2, g3, g4⟩ := e3 h; exact ⟨g1, by omega, g3, g4⟩, e4⟩
      · simp only [eDeclB]
        simp only [qs, Option.bind_some, Option.map_some, joinK, qb, ↓reduceIte, if_true, if_false, eq_self, Int.reduceBEq, Int.reduceBNe, h1, hw, h, n3, hn, a2, w2, show IntKind.i64.wrap (51 + ((2 : Nat) : Int)) = 53 from rfl]
        exact Ev.bind e1 Ev.pure
      · simp only [rDeclB, rDeclJ]
        simp only [qs, Option.bind_some, Option.map_some, joinK, qb, ↓reduceIte, if_true, if_false, eq_self, Int.reduceBEq, Int.reduceBNe, h2, h4, hw, h, n3, hn, w2, show IntKind.i64.wrap (51 + ((2 : Nat) : Int)) = 53 from rfl, show (((2 : Nat) : Int) == 0) = false from rfl, show (((2 : Nat) : Int) == 1) = false from rfl]
        exact Ev.map (Ev.bind e2 Ev.pure)
    | 3, _ =>
      obtain ⟨x, j, y, ok, e1, e2, e3, e4⟩ := mrg_R W (tk l i).At hs (i + 2)
      refine ⟨x, j, y, ok, ?_, ?_, fun h => by obtain ⟨g1, g2, g3, g4⟩ := e3 h; exact ⟨g1, by omega, g3, g4⟩, e4⟩
      · simp only [eDeclB]
        simp only [qs, Option.bind_some, Option.map_some, joinK, qb, ↓reduceIte, if_true, if_false, eq_self, Int.reduceBEq, Int.reduceBNe, h1, hw, h, n3, hn, a2, w2, show IntKind.i64.wrap (51 + ((3 : Nat) : Int)) = 54 from rfl]
        exact Ev.bind e1 Ev.pure
      · simp only [rDeclB, rDeclJ]
        simp only [qs, Option.bind_some, Option.map_some, joinK, qb, ↓reduceIte, if_true, if_false, eq_self, Int.reduceBEq, Int.reduceBNe, h2, h4, hw, h, n3, hn, w2, show IntKind.i64.wrap (51 + ((3 : Nat) : Int)) = 54 from rfl, show (((3 : Nat) : Int) == 0) = false from rfl, show (((3 : Nat) : Int) == 1) = false from rfl]
        exact Ev.map (Ev.bind e2 Ev.pure)
  · have hn : ((tk l (i + 1)).Kind != 1) = true := by simpa using hn
    have Rr : Ev (fun k => rDeclB l i k (t : Int)) (.inr ⟨zN, i + 1, false⟩) := by
      simp only [rDeclB, rDeclJ]
      simp only [qs, Option.bind_some, Option.map_some, joinK, qb, ↓reduceIte, if_true, if_false, eq_self, Int.reduceBEq, Int.reduceBNe, h2, h4, hw, h, n3, hn, Option.map_some]; exact Ev.pure
    have fin : ∀ {n}, Ev (fun k => eDeclB l (tk l i).At k ((t : Int), i)) (.inr (n, i + 1, true)) → ∃ n j m ok, Ev (fun k => eDeclB l (tk l i).At k ((t : Int), i)) (.inr (n, j, !ok)) ∧ Ev (fun k => rDeclB l i k (t : Int)) (.inr ⟨m, j, ok⟩) ∧ (ok = true → n = m ∧ i < j ∧ j < l.length ∧ GD m) ∧ (ok = false → m = zN) := fun {n} hE => ⟨n, i + 1, zN, false, hE, Rr, (fun h => by cases h), fun _ => rfl⟩
    match t, ht with
    | 0, _ =>
      refine fin ?_ (n := ⟨51, (tk l i).At, 0, [], []⟩)
      simp only [eDeclB]
      simp only [qs, Option.bind_some, Option.map_some, joinK, qb, ↓reduceIte, if_true, if_false, eq_self, Int.reduceBEq, Int.reduceBNe, h1, hw, h, n3, hn, show IntKind.i64.wrap (51 + ((0 : Nat) : Int)) = 51 from rfl]
      exact Ev.bind (eRec_bad l _ [] (i + 1)) Ev.pure
    | 1, _ =>
      obtain ⟨n, hb⟩ := eIso_bad0 l (tk l i).At [] (i + 1)
      refine fin ?_ (n := n)
      simp only [eDeclB]
      simp only [qs, Option.bind_some, Option.map_some, joinK, qb, ↓reduceIte, if_true, if_false, eq_self, Int.reduceBEq, Int.reduceBNe, h1, hw, h, n3, hn, show IntKind.i64.wrap (51 + ((1 : Nat) : Int)) = 52 from rfl]
      exact Ev.bind hb Ev.pure
    | 2, _ =>
      obtain ⟨n, hb⟩ := eFun_bad l (tk l i).At [] (i + 1)
      refine fin ?_ (n := n)
      simp only [eDeclB]
      simp only [qs, Option.bind_some, Option.map_some, joinK, qb, ↓reduceIte, if_true, if_false, eq_self, Int.reduceBEq, Int.reduceBNe, h1, hw, h, n3, hn, show IntKind.i64.wrap (51 + ((2 : Nat) : Int)) = 53 from rfl]
      exact Ev.bind hb Ev.pure
    | 3, _ =>
      obtain ⟨n, hb⟩ := eMrg_bad l (tk l i).At [] (i + 1)
      refine fin ?_ (n := n)
      simp only [eDeclB]
      simp only [qs, Option.bind_some, Option.map_some, joinK, qb, ↓reduceIte, if_true, if_false, eq_self, Int.reduceBEq, Int.reduceBNe, h1, hw, h, n3, hn, show IntKind.i64.wrap (51 + ((3 : Nat) : Int)) = 54 from rfl]
      exact Ev.bind hb Ev.pure
theorem decl_from {l : List TToken} (W : WF l) (i : Int) : ∀ (d t : Nat), t + d = 4 →
    ∃ n j m ok, EvL (eDeclB l (tk l i).At) ((t : Int), i) (n, j, !ok) ∧ EvL (rDeclB l i) (t : Int) ⟨m, j, ok⟩ ∧ (ok = true → n = m ∧ i < j ∧ j < l.length ∧ GD m) ∧ (ok = false → m = zN)
  | 0, t, h => by
    have h : t = 4 := by omega
    subst h
    refine ⟨⟨0, (tk l i).At, 0, [], []⟩, i, zN, false, EvL.done ?_, EvL.done ?_, (fun h => by cases h), fun _ => rfl⟩
    · simp only [eDeclB]
      simp only [qs, Option.bind_some, Option.map_some, joinK, qb, ↓reduceIte, if_true, if_false, eq_self, Int.reduceBEq, Int.reduceBNe, show decide (((4 : Nat) : Int) < (dwords.length : Int)) = false from rfl, Option.map_some]; exact Ev.pure
    · simp only [rDeclB, rDeclJ]
      simp only [qs, Option.bind_some, Option.map_some, joinK, qb, ↓reduceIte, if_true, if_false, eq_self, Int.reduceBEq, Int.reduceBNe, show decide (((4 : Nat) : Int) < 4) = false from rfl, show (((4 : Nat) : Int) == 4) = true from rfl, Option.map_some]; exact Ev.pure
  | d + 1, t, h => by
    have hw : ∃ w, ix dwords (t : Int) = some w := by
      match t, (show t < 4 by omega) with
      | 0, _ => exact ⟨_, rfl⟩
      | 1, _ => exact ⟨_, rfl⟩
      | 2, _ => exact ⟨_, rfl⟩
      | 3, _ => exact ⟨_, rfl⟩
    obtain ⟨w, hw⟩ := hw
    by_cases hx : isT (tk l i) 3 w = true
    · obtain ⟨n, j, m, ok, e1, e2, e3, e4⟩ := decl_hit W (a := 0) (show t < 4 by omega) hw hx
      exact ⟨n, j, m, ok, EvL.done e1, EvL.done e2, e3, e4⟩
    · obtain ⟨s1, s2⟩ := decl_skip (a := (tk l i).At) (show t < 4 by omega) hw (show isT (tk l i) 3 w = false by simpa using hx)
      obtain ⟨n, j, m, ok, e1, e2, e3, e4⟩ := decl_from W i d (t + 1) (by omega)
      exact ⟨n, j, m, ok, EvL.step s1 e1, EvL.step s2 e2, e3, e4⟩
theorem decl_R {l : List TToken} (W : WF l) (i : Int) : RG GD l i (eDecl l i) (rDecl l i) := by
  obtain ⟨n, j, m, ok, e1, e2, e3, e4⟩ := decl_from W i 4 0 rfl
  exact ⟨n, j, m, ok, Ev.congr (fun k => eDecl_eq k l i) (Ev.loop e1), Ev.congr (fun k => rDecl_eq k l i) (Ev.loop e2), e3, e4⟩
end Go.Proofs.YtjakhfaodfaimaaGreatDoor.F
namespace Go.Proofs.YtjakhfaodfaimaaGreatDoor.F
open Go
def S {α : Type} (π : α → Int) (i m M : Int) (f f' : Option α) : Prop := ∀ r, f = some r → i ≤ π r ∧ (i ≤ M → π r ≤ M) ∧ (π r < m → f' = some r)
section
variable {α β σ ρ : Type} {i m M : Int}
theorem S.bind {π : α → Int} {π2 : β → Int} {f f' : Option α} {g g' : α → Option β} (h : S π i m M f f') (h2 : ∀ x, f = some x → i ≤ π x → S π2 (π x) m M (g x) (g' x)) : S π2 i m M (f.bind g) (f'.bind g') := by
  intro r hr
  obtain ⟨x, h3, h4⟩ := Opt.ex hr
  obtain ⟨a1, a3, a2⟩ := h x h3
  obtain ⟨b1, b3, b2⟩ := h2 x h3 a1 r h4
  refine ⟨by omega, fun hM => b3 (a3 hM), fun hm => ?_⟩
  rw [a2 (by omega)]
  exact b2 hm
theorem S.ite {π : α → Int} {c : Bool} {A A' B B' : Option α} (h1 : c = true → S π i m M A A') (h2 : c = false → S π i m M B B') : S π i m M (if c = true then A else B) (if c = true then A' else B') := by
  cases c with
  | true => exact h1 rfl
  | false => exact h2 rfl
theorem S.pure {π : α → Int} {x : α} (h : i ≤ π x ∧ (i ≤ M → π x ≤ M)) : S π i m M (some x) (some x) := by
  intro r hr
  cases hr
  exact ⟨h.1, h.2, fun _ => rfl⟩
theorem S.here {π : α → Int} {x : α} (h : π x = i) : S π i m M (some x) (some x) := S.pure ⟨by omega, by omega⟩
theorem S.none {π : α → Int} {f' : Option α} : S π i m M none f' := fun r hr => by cases hr
theorem S.le {π : α → Int} {j : Int} {f f' : Option α} (h : S π j m M f f') (hj : i ≤ j ∧ (i ≤ M → j ≤ M)) : S π i m M f f' := fun r hr => ⟨by have := (h r hr).1; omega, fun hM => (h r hr).2.1 (hj.2 hM), (h r hr).2.2⟩
theorem S.map {πs : σ → Int} {πr : ρ → Int} {f f' : Option ρ} (h : S πr i m M f f') : S (Sum.elim πs πr) i m M (f.map (Sum.inr (α := σ))) (f'.map Sum.inr) := by
  intro r hr
  obtain ⟨x, h3, rfl⟩ := Opt.inr hr
  obtain ⟨a1, a3, a2⟩ := h x h3
  exact ⟨a1, a3, fun hm => by rw [a2 hm]; rfl⟩
theorem S.loop {πs : σ → Int} {πr : ρ → Int} {body body' : σ → Option (σ ⊕ ρ)} (h : ∀ s, S (Sum.elim πs πr) (πs s) m M (body s) (body' s)) : ∀ (k : Nat) (s : σ), S πr (πs s) m M (loopM k body s) (loopM k body' s)
  | 0, s => by intro r hr; cases hr
  | k + 1, s => by
    intro r hr
    rw [loopM_step] at hr
    rw [loopM_step]
    cases hb : body s with
    | none => rw [hb] at hr; cases hr
    | some x =>
      rw [hb] at hr
      obtain ⟨a1, a3, a2⟩ := h s x hb
      cases x with
      | inl s' =>
        obtain ⟨b1, b3, b2⟩ := S.loop h k s' r hr
        simp only [Sum.elim_inl] at a1 a2 a3
        exact ⟨by omega, fun hM => b3 (a3 hM), fun hm => by rw [a2 (by omega)]; exact b2 hm⟩
      | inr r' =>
        cases hr
        simp only [Sum.elim_inr] at a1 a2 a3
        exact ⟨a1, a3, fun hm => by rw [a2 hm]⟩
theorem S.ofLoop {πs : σ → Int} {πr : ρ → Int} {body body' : σ → Option (σ ⊕ ρ)} {k : Nat} {s : σ} (h : ∀ s, S (Sum.elim πs πr) (πs s) m M (body s) (body' s)) (hi : i = πs s) : S πr i m M (loopM k body s) (loopM k body' s) := hi ▸ S.loop h k s
theorem S.same {f : Option α} : S (fun _ => i) i m M f f := fun r hr => ⟨Int.le_refl _, fun h => h, fun _ => hr⟩
end
abbrev lm (l : List TToken) : Int := (l.length : Int) - 1
theorem adv {l : List TToken} (W : WF l) {i : Int} (hk : (tk l i).Kind ≠ 0) : i ≤ IntKind.i64.wrap (i + 1) ∧ (i ≤ lm l → IntKind.i64.wrap (i + 1) ≤ lm l) := by
  obtain ⟨n1, n2, n3⟩ := W.next hk
  rw [n3]
  exact ⟨by omega, fun _ => by show i + 1 ≤ (l.length : Int) - 1; omega⟩
def p3 {α β : Type} (x : α × Int × β) : Int := x.2.1
section
variable {l l' : List TToken} {m : Int}
theorem s_look (ag : ∀ p, p < m → tk l' p = tk l p) (k : Nat) (i : Int) (b : Bool) : S (fun _ => i) i m (lm l) (expr_reader_look k l i b) (expr_reader_look k l' i b) := by
  rw [look_eq, look_eq]
  intro r hr
  exact ⟨Int.le_refl _, fun h => h, fun hm => by rw [ag i hm]; exact hr⟩
theorem s_is (ag : ∀ p, p < m → tk l' p = tk l p) (k : Nat) (kd : Int) (s : List UInt8) (i : Int) (b : Bool) : S (fun _ => i) i m (lm l) (expr_reader_is k kd s l i b) (expr_reader_is k kd s l' i b) := by
  rw [is_eq, is_eq]
  intro r hr
  exact ⟨Int.le_refl _, fun h => h, fun hm => by rw [ag i hm]; exact hr⟩
theorem s_sign (ag : ∀ p, p < m → tk l' p = tk l p) (k : Nat) (q i : Int) (b : Bool) : S (fun _ => i) i m (lm l) (expr_reader_sign k q l i b) (expr_reader_sign k q l' i b) := by
  intro r hr
  refine ⟨Int.le_refl _, fun h => h, fun hm => ?_⟩
  unfold expr_reader_sign at hr ⊢
  rw [look_eq] at hr ⊢
  rw [ag i hm]
  exact hr
theorem s_takes (W : WF l) (ag : ∀ p, p < m → tk l' p = tk l p) (k : Nat) (s : List UInt8) (i : Int) (b : Bool) : S (fun x : Bool × Int => x.2) i m (lm l) (expr_reader_takes k s l i b) (expr_reader_takes k s l' i b) := by
  cases b with
  | true => rw [takes_bad, takes_bad]; exact S.here rfl
  | false =>
    rw [takes_eq, takes_eq]
    intro r hr
    have both : i ≤ r.2 ∧ (i ≤ lm l → r.2 ≤ lm l) := by
      cases h : isT (tk l i) 4 s with
      | true =>
        rw [h] at hr; cases hr
        exact adv W (by rw [(isT_kind h).1]; omega)
      | false => rw [h] at hr; cases hr; exact ⟨Int.le_refl _, fun h => h⟩
    refine ⟨both.1, both.2, fun hm => ?_⟩
    · have hle : i < m := by
        cases h : isT (tk l i) 4 s with
        | true =>
          rw [h] at hr; cases hr
          have := (W.next (i := i) (by rw [(isT_kind h).1]; omega)).2.2
          simp only [if_true] at hm; omega
        | false => rw [h] at hr; cases hr; simpa using hm
      rw [ag i hle]; exact hr
theorem s_wants (W : WF l) (ag : ∀ p, p < m → tk l' p = tk l p) (k : Nat) (s : List UInt8) (i : Int) (b : Bool) : S (fun x : Int × Bool => x.1) i m (lm l) (expr_reader_wants k s l i b) (expr_reader_wants k s l' i b) := by
  unfold expr_reader_wants
  refine S.bind (s_takes W ag k s i b) fun x _ hx => ?_
  exact S.here rfl
theorem s_name (W : WF l) (ag : ∀ p, p < m → tk l' p = tk l p) (k : Nat) (i : Int) (b : Bool) : S p3 i m (lm l) (expr_reader_name k l i b) (expr_reader_name k l' i b) := by
  unfold expr_reader_name
  refine S.bind (s_look ag k i b) fun t ht _ => ?_
  rw [look_eq] at ht; cases ht
  refine S.ite (fun _ => S.here rfl) (fun hc => S.pure ?_)
  have hk : (tk l i).Kind = 1 := by
    cases b <;> simp at hc
    exact hc
  exact adv W (by omega)
theorem s_kind (W : WF l) (ag : ∀ p, p < m → tk l' p = tk l p) : ∀ (k : Nat) (i : Int) (b : Bool), S p3 i m (lm l) (expr_reader_kind k l i b) (expr_reader_kind k l' i b)
  | 0, i, b => by rw [expr_reader_kind]; exact S.none
  | k + 1, i, b => by
    rw [expr_reader_kind, expr_reader_kind]
    refine S.bind (s_look ag k i b) fun t ht _ => ?_
    simp only [joinK]
    refine S.ite (fun _ => S.bind (s_name W ag k i b) fun x _ hx => S.here rfl) (fun _ => ?_)
    refine S.bind (s_takes W ag k _ i b) fun x hx hxi => ?_
    obtain ⟨x1, x2⟩ := x
    simp only at hxi ⊢
    refine S.ite (fun _ => ?_) (fun _ => ?_)
    · refine S.bind (s_wants W ag k _ x2 b) fun y _ hy => ?_
      obtain ⟨y1, y2⟩ := y
      simp only at hy ⊢
      refine S.ite (fun _ => S.here rfl) (fun _ => ?_)
      exact S.bind (s_kind W ag k y1 y2) fun z _ hz => S.here rfl
    · have fin : ∀ (kd : Int) (s : List UInt8), expr_reader_is k kd s l x2 b = some true → kd ≠ 0 → x2 ≤ IntKind.i64.wrap (x2 + 1) ∧ (x2 ≤ lm l → IntKind.i64.wrap (x2 + 1) ≤ lm l) := by
        intro kd s h hk
        rw [is_eq] at h
        have h := Option.some.inj h
        exact adv W (by rw [(isT_kind h).1]; exact hk)
      refine S.bind (s_is ag k _ _ x2 b) fun y hy _ => ?_
      refine S.ite (fun hc => S.pure (fin _ _ (by rw [hy, hc]) (by omega))) (fun _ => ?_)
      refine S.bind (s_is ag k _ _ x2 b) fun y hy _ => ?_
      refine S.ite (fun hc => S.pure (fin _ _ (by rw [hy, hc]) (by omega))) (fun _ => ?_)
      refine S.bind (s_is ag k _ _ x2 b) fun y hy _ => ?_
      refine S.ite (fun hc => S.pure (fin _ _ (by rw [hy, hc]) (by omega))) (fun _ => ?_)
      exact S.here rfl
theorem sign_kind {k : Nat} {q i : Int} {b : Bool} {s : Int} (h : expr_reader_sign k q l i b = some s) (hs : s ≠ 0) : (tk l i).Kind = 4 := by
  unfold expr_reader_sign at h
  rw [look_eq] at h
  simp only [Option.bind_some, joinK] at h
  obtain ⟨⟨y1, y2⟩, _, h⟩ := Opt.ex h
  simp only at h
  cases hc : (y2 && ((tk l i).Kind == 4)) with
  | true => simp at hc; exact hc.2
  | false => rw [hc] at h; simp at h; exact (hs h.symm).elim
structure SA (l l' : List TToken) (m : Int) (k : Nat) : Prop where
  args : ∀ (i : Int) (b : Bool), S p3 i m (lm l) (expr_reader_args k l i b) (expr_reader_args k l' i b)
  word : ∀ (n : TNode) (s : List UInt8) (i : Int) (b : Bool), (i ≤ IntKind.i64.wrap (i + 1) ∧ (i ≤ lm l → IntKind.i64.wrap (i + 1) ≤ lm l)) → S p3 i m (lm l) (expr_reader_word k n s l i b) (expr_reader_word k n s l' i b)
  first : ∀ (i : Int) (b : Bool), S p3 i m (lm l) (expr_reader_first k l i b) (expr_reader_first k l' i b)
  part : ∀ (i : Int) (b : Bool), S p3 i m (lm l) (expr_reader_part k l i b) (expr_reader_part k l' i b)
  factor : ∀ (i : Int) (b : Bool), S p3 i m (lm l) (expr_reader_factor k l i b) (expr_reader_factor k l' i b)
  level : ∀ (q i : Int) (b : Bool), S p3 i m (lm l) (expr_reader_level k q l i b) (expr_reader_level k q l' i b)
theorem sa_args (W : WF l) (ag : ∀ p, p < m → tk l' p = tk l p) {k : Nat} (H : SA l l' m k) (i : Int) (b : Bool) : S p3 i m (lm l) (expr_reader_args (k + 1) l i b) (expr_reader_args (k + 1) l' i b) := by
  rw [expr_reader_args, expr_reader_args]
  refine S.bind (s_wants W ag k _ i b) fun x _ hx => ?_
  obtain ⟨x1, x2⟩ := x
  simp only [joinK] at hx ⊢
  refine S.bind (s_takes W ag k _ x1 x2) fun y _ hy => ?_
  obtain ⟨y1, y2⟩ := y
  simp only at hy ⊢
  refine S.ite (fun _ => S.here rfl) (fun _ => ?_)
  refine S.ofLoop (πs := p3) (fun s => ?_) rfl
  obtain ⟨s1, s2, s3⟩ := s
  simp only
  refine S.ite (fun _ => ?_) (fun _ => S.map (S.here rfl))
  refine S.bind (H.level 1 s2 s3) fun x _ hx => ?_
  obtain ⟨x1, x2, x3⟩ := x
  simp only
  refine S.ite (fun _ => ?_) (fun _ => S.none)
  refine S.bind (s_takes W ag k _ x2 x3) fun y _ hy => ?_
  obtain ⟨y1, y2⟩ := y
  simp only
  refine S.ite (fun _ => S.here rfl) (fun _ => ?_)
  exact S.bind (s_wants W ag k _ y2 x3) fun z _ hz => S.here rfl
theorem sa_word (W : WF l) (ag : ∀ p, p < m → tk l' p = tk l p) {k : Nat} (H : SA l l' m k) (n : TNode) (s : List UInt8) (i : Int) (b : Bool) (hi : i ≤ IntKind.i64.wrap (i + 1) ∧ (i ≤ lm l → IntKind.i64.wrap (i + 1) ≤ lm l)) : S p3 i m (lm l) (expr_reader_word (k + 1) n s l i b) (expr_reader_word (k + 1) n s l' i b) := by
  rw [expr_reader_word, expr_reader_word]
  simp only [joinK]
  have main : ∀ c : Bool, S p3 i m (lm l)
      (if c then (if (s == [116, 114, 117, 101]) then some ((TNode.mk 11 n.At 1 n.Name n.Kids), (IntKind.i64.wrap (i + 1)), b) else some ((TNode.mk 11 n.At n.N n.Name n.Kids), (IntKind.i64.wrap (i + 1)), b)) else
       (if (s == [102, 111, 114, 107]) then
        (expr_reader_name k l (IntKind.i64.wrap (i + 1)) b).bind fun x => (expr_reader_args k l x.2.1 x.2.2).bind fun y => some ((TNode.mk 18 n.At n.N x.1 y.1), y.2.1, y.2.2)
        else if (s == [110, 101, 119]) then
        (expr_reader_kind k l (IntKind.i64.wrap (i + 1)) b).bind fun x => (expr_reader_args k l x.2.1 x.2.2).bind fun y => if (room 64 ([x.1].length + y.1.length)) then some ((TNode.mk 19 n.At n.N n.Name ([x.1] ++ y.1)), y.2.1, y.2.2) else none
        else some (n, i, true)))
      (if c then (if (s == [116, 114, 117, 101]) then some ((TNode.mk 11 n.At 1 n.Name n.Kids), (IntKind.i64.wrap (i + 1)), b) else some ((TNode.mk 11 n.At n.N n.Name n.Kids), (IntKind.i64.wrap (i + 1)), b)) else
       (if (s == [102, 111, 114, 107]) then
        (expr_reader_name k l' (IntKind.i64.wrap (i + 1)) b).bind fun x => (expr_reader_args k l' x.2.1 x.2.2).bind fun y => some ((TNode.mk 18 n.At n.N x.1 y.1), y.2.1, y.2.2)
        else if (s == [110, 101, 119]) then
        (expr_reader_kind k l' (IntKind.i64.wrap (i + 1)) b).bind fun x => (expr_reader_args k l' x.2.1 x.2.2).bind fun y => if (room 64 ([x.1].length + y.1.length)) then some ((TNode.mk 19 n.At n.N n.Name ([x.1] ++ y.1)), y.2.1, y.2.2) else none
        else some (n, i, true))) := by
    intro c
    refine S.ite (fun _ => S.ite (fun _ => S.pure hi) (fun _ => S.pure hi)) (fun _ => ?_)
    refine S.ite (fun _ => ?_) (fun _ => S.ite (fun _ => ?_) (fun _ => S.here rfl))
    · refine S.le (S.bind (s_name W ag k _ b) fun x _ hx => ?_) hi
      exact S.bind (H.args x.2.1 x.2.2) fun y _ hy => S.here rfl
    · refine S.le (S.bind (s_kind W ag k _ b) fun x _ hx => ?_) hi
      exact S.bind (H.args x.2.1 x.2.2) fun y _ hy => S.ite (fun _ => S.here rfl) (fun _ => S.none)
  exact S.ite (fun _ => main _) (fun _ => main _)
theorem sa_first (W : WF l) (ag : ∀ p, p < m → tk l' p = tk l p) {k : Nat} (H : SA l l' m k) (i : Int) (b : Bool) : S p3 i m (lm l) (expr_reader_first (k + 1) l i b) (expr_reader_first (k + 1) l' i b) := by
  rw [expr_reader_first, expr_reader_first]
  refine S.bind (s_look ag k i b) fun t ht _ => ?_
  rw [look_eq] at ht; cases ht
  simp only [joinK]
  refine S.ite (fun hc => S.pure ?_) (fun _ => ?_)
  · have hk : (tk l i).Kind = 2 := by simpa using hc
    exact adv W (by omega)
  refine S.ite (fun _ => ?_) (fun _ => ?_)
  · refine S.bind (s_name W ag k i b) fun x _ hx => ?_
    obtain ⟨x1, x2, x3⟩ := x
    simp only
    refine S.bind (s_is ag k _ _ x2 x3) fun y _ _ => ?_
    refine S.ite (fun _ => ?_) (fun _ => S.here rfl)
    exact S.bind (H.args x2 x3) fun z _ hz => S.here rfl
  · refine S.bind (s_takes W ag k _ i b) fun x hx0 hx => ?_
    obtain ⟨x1, x2⟩ := x
    simp only at hx ⊢
    refine S.ite (fun _ => ?_) (fun hx1 => ?_)
    · refine S.bind (H.level 1 x2 b) fun y _ hy => ?_
      obtain ⟨y1, y2, y3⟩ := y
      simp only
      exact S.bind (s_wants W ag k _ y2 y3) fun z _ hz => S.here rfl
    · refine S.ite (fun hc => ?_) (fun _ => S.here rfl)
      have hx2 : x2 = i := by
        subst hx1
        cases b with
        | true => rw [takes_bad] at hx0; cases hx0; rfl
        | false =>
          rw [takes_eq] at hx0
          cases h : isT (tk l i) 4 [40] with
          | true => rw [h] at hx0; cases hx0
          | false => rw [h] at hx0; cases hx0; rfl
      subst hx2
      have hk : (tk l x2).Kind = 3 := by simpa using hc
      exact S.bind (H.word _ _ x2 b (adv W (by omega))) fun z _ hz => S.here rfl
theorem sa_part (W : WF l) (ag : ∀ p, p < m → tk l' p = tk l p) {k : Nat} (H : SA l l' m k) (i : Int) (b : Bool) : S p3 i m (lm l) (expr_reader_part (k + 1) l i b) (expr_reader_part (k + 1) l' i b) := by
  rw [expr_reader_part, expr_reader_part]
  refine S.bind (H.first i b) fun x _ hx => ?_
  obtain ⟨x1, x2, x3⟩ := x
  simp only [joinK]
  refine S.ofLoop (πs := fun s : Int × Bool × TNode => s.1) (fun s => ?_) rfl
  obtain ⟨s1, s2, s3⟩ := s
  simp only
  refine S.ite (fun _ => ?_) (fun _ => S.map (S.here rfl))
  refine S.bind (s_look ag k s1 s2) fun t _ _ => ?_
  refine S.bind (s_takes W ag k _ s1 s2) fun x _ hx => ?_
  obtain ⟨x1, x2⟩ := x
  simp only
  refine S.ite (fun _ => ?_) (fun _ => ?_)
  · refine S.bind (H.level 1 x2 s2) fun y _ hy => ?_
    obtain ⟨y1, y2, y3⟩ := y
    simp only
    exact S.bind (s_wants W ag k _ y2 y3) fun z _ hz => S.here rfl
  · refine S.bind (s_takes W ag k _ x2 s2) fun y _ hy => ?_
    obtain ⟨y1, y2⟩ := y
    simp only
    refine S.ite (fun _ => ?_) (fun _ => S.here rfl)
    exact S.bind (s_name W ag k y2 s2) fun z _ hz => S.here rfl
theorem sa_factor (W : WF l) (ag : ∀ p, p < m → tk l' p = tk l p) {k : Nat} (H : SA l l' m k) (i : Int) (b : Bool) : S p3 i m (lm l) (expr_reader_factor (k + 1) l i b) (expr_reader_factor (k + 1) l' i b) := by
  rw [expr_reader_factor, expr_reader_factor]
  refine S.bind (s_look ag k i b) fun t _ _ => ?_
  simp only [joinK]
  refine S.ofLoop (πs := fun s : Int × Int => s.2) (fun s => ?_) rfl
  obtain ⟨s1, s2⟩ := s
  simp only
  refine S.ite (fun _ => ?_) (fun _ => S.map (S.bind (H.part s2 b) fun z _ hz => S.here rfl))
  refine S.bind (π := fun _ => s2) S.same fun x _ _ => ?_
  refine S.bind (π := fun _ => s2) S.same fun y _ _ => ?_
  refine S.bind (s_takes W ag k _ s2 b) fun z _ hz => ?_
  obtain ⟨z1, z2⟩ := z
  simp only
  refine S.ite (fun _ => ?_) (fun _ => S.here rfl)
  exact S.bind (H.factor z2 b) fun u _ hu => S.here rfl
theorem sa_level (W : WF l) (ag : ∀ p, p < m → tk l' p = tk l p) {k : Nat} (H : SA l l' m k) (q i : Int) (b : Bool) : S p3 i m (lm l) (expr_reader_level (k + 1) q l i b) (expr_reader_level (k + 1) q l' i b) := by
  rw [expr_reader_level, expr_reader_level]
  refine S.ite (fun _ => S.bind (H.factor i b) fun z _ hz => S.here rfl) (fun _ => ?_)
  refine S.bind (H.level _ i b) fun x _ hx => ?_
  obtain ⟨x1, x2, x3⟩ := x
  simp only [joinK]
  refine S.ofLoop (πs := fun s : Int × Bool × TNode => s.1) (fun s => ?_) rfl
  obtain ⟨s1, s2, s3⟩ := s
  simp only
  refine S.ite (fun _ => ?_) (fun _ => S.map (S.here rfl))
  refine S.bind (s_sign ag k q s1 s2) fun y hy _ => ?_
  refine S.ite (fun _ => S.map (S.here rfl)) (fun hc => ?_)
  have hk := sign_kind hy (by simpa using hc)
  have hw := adv W (i := s1) (by omega)
  refine S.bind (s_look ag k s1 s2) fun t _ _ => ?_
  refine S.le (S.bind (H.level _ _ s2) fun z _ hz => ?_) hw
  obtain ⟨z1, z2, z3⟩ := z
  simp only
  exact S.ite (fun _ => S.map (S.here rfl)) (fun _ => S.here rfl)
theorem sa_all (W : WF l) (ag : ∀ p, p < m → tk l' p = tk l p) : ∀ k, SA l l' m k
  | 0 => by
    refine ⟨fun i b => ?_, fun n s i b _ => ?_, fun i b => ?_, fun i b => ?_, fun i b => ?_, fun q i b => ?_⟩
    · rw [expr_reader_args]; exact S.none
    · rw [expr_reader_word]; exact S.none
    · rw [expr_reader_first]; exact S.none
    · rw [expr_reader_part]; exact S.none
    · rw [expr_reader_factor]; exact S.none
    · rw [expr_reader_level]; exact S.none
  | k + 1 => by
    have H := sa_all W ag k
    exact ⟨sa_args W ag H, sa_word W ag H, sa_first W ag H, sa_part W ag H, sa_factor W ag H, sa_level W ag H⟩
end
end Go.Proofs.YtjakhfaodfaimaaGreatDoor.F
namespace Go.Proofs.YtjakhfaodfaimaaGreatDoor.F
open Go
theorem S.ite2 {α : Type} {π : α → Int} {j m M : Int} {c c' : Bool} {A A' B B' : Option α} (hc : j < m → c' = c) (hA : c = true → S π j m M A A') (hB : c = false → S π j m M B B') : S π j m M (if c = true then A else B) (if c' = true then A' else B') := by
  intro r hr
  cases c with
  | true =>
    obtain ⟨h1, h2, h3⟩ := hA rfl r hr
    exact ⟨h1, h2, fun hm => by rw [hc (by omega)]; exact h3 hm⟩
  | false =>
    obtain ⟨h1, h2, h3⟩ := hB rfl r hr
    exact ⟨h1, h2, fun hm => by rw [hc (by omega)]; exact h3 hm⟩
section
variable {l l' : List TToken} {m : Int}
theorem t_look (ag : ∀ p, p < m → tk l' p = tk l p) (k : Nat) (i : Int) (b : Bool) {j : Int} (hj : i ≤ j) : S (fun _ => j) j m (lm l) (stmt_cursor_look k l i b) (stmt_cursor_look k l' i b) := by
  rw [slook_eq, slook_eq]
  intro r hr
  exact ⟨Int.le_refl _, fun h => h, fun hm => by have hm : j < m := hm; rw [ag i (by omega)]; exact hr⟩
theorem t_is (ag : ∀ p, p < m → tk l' p = tk l p) (k : Nat) (kd : Int) (s : List UInt8) (i : Int) (b : Bool) : S (fun _ => i) i m (lm l) (stmt_cursor_is k kd s l i b) (stmt_cursor_is k kd s l' i b) := by
  cases b with
  | true => rw [sis_bad, sis_bad]; exact S.here rfl
  | false =>
    rw [sis_eq, sis_eq]
    intro r hr
    exact ⟨Int.le_refl _, fun h => h, fun hm => by rw [ag i hm]; exact hr⟩
theorem t_takes (W : WF l) (ag : ∀ p, p < m → tk l' p = tk l p) (k : Nat) (kd : Int) (s : List UInt8) (i : Int) (b : Bool) (h0 : kd ≠ 0) : S (fun x : Bool × Int => x.2) i m (lm l) (stmt_cursor_takes k kd s l i b) (stmt_cursor_takes k kd s l' i b) := by
  cases b with
  | true => rw [stakes_bad, stakes_bad]; exact S.here rfl
  | false =>
    rw [stakes_eq, stakes_eq]
    intro r hr
    have both : i ≤ r.2 ∧ (i ≤ lm l → r.2 ≤ lm l) := by
      cases h : isT (tk l i) kd s with
      | true =>
        rw [h] at hr; cases hr
        exact adv W (by rw [(isT_kind h).1]; exact h0)
      | false => rw [h] at hr; cases hr; exact ⟨Int.le_refl _, fun h => h⟩
    refine ⟨both.1, both.2, fun hm => ?_⟩
    have hm : r.2 < m := hm
    rw [ag i (by omega)]; exact hr
theorem t_wants (W : WF l) (ag : ∀ p, p < m → tk l' p = tk l p) (k : Nat) (s : List (List UInt8)) (i : Int) (b : Bool) : S (fun x : Int × Bool => x.1) i m (lm l) (stmt_cursor_wants k s l i b) (stmt_cursor_wants k s l' i b) := by
  unfold stmt_cursor_wants
  refine S.ofLoop (πs := fun s : Int × Int × Bool => s.2.1) (fun s => ?_) rfl
  obtain ⟨s1, s2, s3⟩ := s
  simp only
  refine S.ite (fun _ => ?_) (fun _ => S.here rfl)
  refine S.bind (π := fun _ => s2) S.same fun x _ _ => ?_
  exact S.bind (t_takes W ag k 4 x s2 s3 (by decide)) fun y _ hy => S.here rfl
abbrev p4 {α β γ : Type} (x : α × β × Int × γ) : Int := x.2.2.1
theorem t_name (W : WF l) (ag : ∀ p, p < m → tk l' p = tk l p) (k : Nat) (i : Int) (b : Bool) : S p4 i m (lm l) (stmt_cursor_name k l i b) (stmt_cursor_name k l' i b) := by
  unfold stmt_cursor_name
  refine S.bind (t_look ag k i b (Int.le_refl _)) fun t ht _ => ?_
  rw [slook_eq] at ht; cases ht
  refine S.ite (fun _ => S.here rfl) (fun hc => S.pure ?_)
  have hk : (tk l i).Kind = 1 := by
    cases b <;> simp at hc
    exact hc
  exact adv W (by omega)
theorem t_expr (W : WF l) (ag : ∀ p, p < m → tk l' p = tk l p) (k : Nat) (i : Int) (b : Bool) : S p3 i m (lm l) (stmt_cursor_expr k l i b) (stmt_cursor_expr k l' i b) := by
  unfold stmt_cursor_expr stmt_cursor_part_v2
  refine S.bind (π := p3) (S.ite (fun _ => S.here rfl) (fun _ => ?_)) fun x _ hx => S.here rfl
  refine S.bind (π := p3) ?_ fun x _ hx => S.here rfl
  unfold expr_Expr
  refine S.bind ((sa_all W ag k).level 1 i false) fun x _ hx => ?_
  refine S.bind (π := p3) ?_ fun x _ hx => S.here rfl
  unfold expr_reader_end
  exact S.ite (fun _ => S.here rfl) (fun _ => S.here rfl)
theorem t_partAt (ag : ∀ p, p < m → tk l' p = tk l p) (k : Nat) (i j : Int) (h : S p3 j m (lm l) (expr_reader_kind k l i false) (expr_reader_kind k l' i false)) : S p3 j m (lm l) (stmt_cursor_part k l i false) (stmt_cursor_part k l' i false) := by
  unfold stmt_cursor_part
  refine S.ite (fun hc => by cases hc) (fun _ => ?_)
  refine S.bind (π := p3) ?_ fun x _ hx => S.here rfl
  unfold expr_Type
  refine S.bind h fun x _ hx => ?_
  refine S.bind (π := p3) ?_ fun x _ hx => S.here rfl
  unfold expr_reader_end
  exact S.ite (fun _ => S.here rfl) (fun _ => S.here rfl)
theorem t_part (W : WF l) (ag : ∀ p, p < m → tk l' p = tk l p) (k : Nat) (i : Int) (b : Bool) : S p3 i m (lm l) (stmt_cursor_part k l i b) (stmt_cursor_part k l' i b) := by
  cases b with
  | true => rw [spart_bad, spart_bad]; exact S.here rfl
  | false => exact t_partAt ag k i i (s_kind W ag k i false)
theorem t_partB (W : WF l) (ag : ∀ p, p < m → tk l' p = tk l p) (k : Nat) (i : Int) (h : isT (tk l i) 4 [91] = true) : S p3 (i + 1) m (lm l) (stmt_cursor_part k l i false) (stmt_cursor_part k l' i false) := by
  refine t_partAt ag k i (i + 1) ?_
  obtain ⟨n1, n2, n3⟩ := W.next (i := i) (by rw [(isT_kind h).1]; decide)
  cases k with
  | zero => rw [expr_reader_kind]; exact S.none
  | succ k =>
    rw [kind_step, kind_step]
    simp only [joinK]
    refine S.ite2 (fun hm => by rw [ag i (by omega)]) (fun hc => ?_) (fun _ => ?_)
    · have hc : (tk l i).Kind = 1 := by simpa using hc
      have := (isT_kind h).1
      omega
    · refine S.ite2 (fun hm => by rw [ag i (by omega)]) (fun _ => ?_) (fun hc => by rw [h] at hc; cases hc)
      rw [n3]
      refine S.bind (s_wants W ag k _ (i + 1) false) fun y _ hy => ?_
      obtain ⟨y1, y2⟩ := y
      simp only at hy ⊢
      have hag : y1 < m → tk l' i = tk l i := fun hm => ag i (by omega)
      refine S.ite (fun _ => ?_) (fun _ => ?_)
      · intro r hr
        cases hr
        exact ⟨Int.le_refl _, fun h => h, fun hm => by rw [hag hm]⟩
      · refine S.bind (s_kind W ag k y1 y2) fun z _ hz => ?_
        intro r hr
        cases hr
        exact ⟨Int.le_refl _, fun h => h, fun hm => by have hm : z.2.1 < m := hm; have hz : y1 ≤ z.2.1 := hz; rw [ag i (by omega)]⟩
theorem t_param (W : WF l) (ag : ∀ p, p < m → tk l' p = tk l p) (k : Nat) (i : Int) (b : Bool) : S p3 i m (lm l) (stmt_cursor_param k l i b) (stmt_cursor_param k l' i b) := by
  unfold stmt_cursor_param
  refine S.bind (t_name W ag k i b) fun x _ hx => ?_
  exact S.bind (t_part W ag k _ _) fun y _ hy => S.here rfl
theorem t_place (W : WF l) (ag : ∀ p, p < m → tk l' p = tk l p) (k : Nat) (i j : Int) (b : Bool) (hn : S p4 j m (lm l) (stmt_cursor_name k l i b) (stmt_cursor_name k l' i b)) : S p3 j m (lm l) (stmt_cursor_place k l i b) (stmt_cursor_place k l' i b) := by
  unfold stmt_cursor_place
  refine S.bind hn fun x _ hx => ?_
  obtain ⟨x1, x2, x3, x4⟩ := x
  simp only [joinK]
  refine S.ofLoop (πs := fun s : Int × Bool × TNode => s.1) (fun s => ?_) rfl
  obtain ⟨s1, s2, s3⟩ := s
  simp only
  refine S.ite (fun _ => ?_) (fun _ => S.map (S.here rfl))
  refine S.bind (t_look ag k s1 s2 (Int.le_refl _)) fun t _ _ => ?_
  refine S.bind (t_takes W ag k _ _ s1 s2 (by decide)) fun x _ hx => ?_
  obtain ⟨x1, x2⟩ := x
  simp only
  refine S.ite (fun _ => ?_) (fun _ => ?_)
  · refine S.bind (t_expr W ag k x2 s2) fun y _ hy => ?_
    obtain ⟨y1, y2, y3⟩ := y
    simp only
    exact S.bind (t_wants W ag k _ y2 y3) fun z _ hz => S.here rfl
  · refine S.bind (t_takes W ag k _ _ x2 s2 (by decide)) fun y _ hy => ?_
    obtain ⟨y1, y2⟩ := y
    simp only
    refine S.ite (fun _ => ?_) (fun _ => S.here rfl)
    exact S.bind (t_name W ag k y2 s2) fun z _ hz => S.here rfl
def nA (k : Nat) (l : List TToken) (i : Int) : Option (TNode × Int × Bool) :=
    (stmt_cursor_look k l i false).bind fun x2_1 =>
    (expr_Args k l (i + 1)).bind fun (x3_9_0, x3_9_1, x3_9_2) =>
    (stmt_cursor_wants k [[59]] l x3_9_1 (x3_9_2 != 0)).bind fun (x5_2_0, x5_2_1) =>
    some ((TNode.mk 38 x2_1.At 0 [] [(TNode.mk 17 x2_1.At 0 x2_1.Text x3_9_0)]), x5_2_0, x5_2_1)
def nB (k : Nat) (l : List TToken) (i : Int) : Option (TNode × Int × Bool) :=
    (stmt_cursor_place k l i false).bind fun (x7_1_0, x7_1_1, x7_1_2) =>
    (stmt_cursor_look k l x7_1_1 x7_1_2).bind fun x8_1 =>
    (stmt_cursor_wants k [[61]] l x7_1_1 x7_1_2).bind fun (x9_2_0, x9_2_1) =>
    (stmt_cursor_expr k l x9_2_0 x9_2_1).bind fun (x10_1_0, x10_1_1, x10_1_2) =>
    (stmt_cursor_wants k [[59]] l x10_1_1 x10_1_2).bind fun (x11_2_0, x11_2_1) =>
    some ((TNode.mk 32 x8_1.At 0 [] [x7_1_0, x10_1_0]), x11_2_0, x11_2_1)
theorem named_if (k : Nat) (l : List TToken) (i : Int) (h0 : 0 ≤ i + 1) (n3 : IntKind.i64.wrap (i + 1) = i + 1) : stmt_cursor_named k l i false = if isT (tk l (i + 1)) 4 [40] then nA k l i else nB k l i := by
  have e : stmt_cursor_named k l i false = joinK (fun (g1_25_35 : Bool) =>
      joinK (fun (g1_40_50 : Bool) => if g1_40_50 then nA k l i else nB k l i) fun j_g1_40 =>
      if g1_25_35 then (ix l (i + 1)).bind fun x1_36 => j_g1_40 (x1_36.Text == [40]) else j_g1_40 false) fun j_g1_25 =>
      if (decide ((i + 1) < (l.length : Int))) then (ix l (i + 1)).bind fun x1_21 => j_g1_25 (x1_21.Kind == 4) else j_g1_25 false := by
    unfold stmt_cursor_named nA nB
    rw [n3]
  rw [e]
  simp only [joinK]
  by_cases h1 : i + 1 < l.length
  · simp only [ix_tk h0 h1, show decide (i + 1 < (l.length : Int)) = true by simpa using h1, if_true, Option.bind_some]
    cases hk : (tk l (i + 1)).Kind == 4
    · simp only [isT, hk, Bool.false_and, Bool.false_eq_true, if_false]
    · cases ht : (tk l (i + 1)).Text == [40]
      · simp only [isT, hk, ht, Bool.and_false, Bool.false_eq_true, if_false, if_true]
      · simp only [isT, hk, ht, Bool.and_true, if_true]
  · have hz : (tk l (i + 1)).Kind = 0 := by
      unfold tk
      rw [if_pos h0, List.getElem?_eq_none (by omega)]; rfl
    simp only [show decide (i + 1 < (l.length : Int)) = false by simpa using h1, Bool.false_eq_true, if_false, isT_ne (t := tk l (i + 1)) (k := 4) (s := [40]) (by omega)]
theorem t_named (W : WF l) (ag : ∀ p, p < m → tk l' p = tk l p) (k : Nat) (i : Int) (hk : (tk l i).Kind = 1) : S p3 i m (lm l) (stmt_cursor_named k l i false) (stmt_cursor_named k l' i false) := by
  obtain ⟨n1, n2, n3⟩ := W.next (i := i) (by omega)
  have ha := adv W (i := i) (by omega)
  rw [n3] at ha
  rw [named_if k l i (by omega) n3, named_if k l' i (by omega) n3]
  refine S.le (j := i + 1) (S.ite2 (fun hm => by rw [ag (i + 1) hm]) (fun _ => ?_) (fun _ => ?_)) ha
  · unfold nA
    refine S.bind (t_look ag k i false (j := i + 1) (by omega)) fun t _ _ => ?_
    refine S.bind (π := p3) ?_ fun x _ hx => ?_
    · unfold expr_Args
      refine S.bind ((sa_all W ag k).args (i + 1) false) fun x _ hx => ?_
      obtain ⟨x1, x2, x3⟩ := x
      simp only [joinK]
      exact S.ite (fun _ => S.here rfl) (fun _ => S.here rfl)
    · obtain ⟨x1, x2, x3⟩ := x
      simp only
      exact S.bind (t_wants W ag k _ x2 _) fun y _ hy => S.here rfl
  · unfold nB
    refine S.bind (t_place W ag k i (i + 1) false ?_) fun x _ hx => ?_
    · rw [sname_eq, sname_eq, hk]
      intro r hr
      cases hr
      rw [n3]
      refine ⟨Int.le_refl _, fun h => h, fun hm => ?_⟩
      have : i + 1 < m := hm
      rw [ag i (by omega), hk]
    · obtain ⟨x1, x2, x3⟩ := x
      simp only
      refine S.bind (t_look ag k x2 x3 (Int.le_refl _)) fun t _ _ => ?_
      refine S.bind (t_wants W ag k _ x2 x3) fun y _ hy => ?_
      obtain ⟨y1, y2⟩ := y
      simp only
      refine S.bind (t_expr W ag k y1 y2) fun z _ hz => ?_
      obtain ⟨z1, z2, z3⟩ := z
      simp only
      exact S.bind (t_wants W ag k _ z2 z3) fun u _ hu => S.here rfl
structure SB (l l' : List TToken) (m : Int) (k : Nat) : Prop where
  st : ∀ i, S p3 i m (lm l) (stmt_cursor_stmt k l i false) (stmt_cursor_stmt k l' i false)
  bl : ∀ i b, S p3 i m (lm l) (stmt_cursor_block k l i b) (stmt_cursor_block k l' i b)
  wd : ∀ a0 a1 a2 a3 a4 s i b, (tk l i).Kind ≠ 0 → S p3 i m (lm l) (stmt_cursor_word_v2 k a0 a1 a2 a3 a4 s l i b) (stmt_cursor_word_v2 k a0 a1 a2 a3 a4 s l' i b)
  ch : ∀ a0 a1 a2 a3 a4 i b, S p3 i m (lm l) (stmt_cursor_choice_v2 k a0 a1 a2 a3 a4 l i b) (stmt_cursor_choice_v2 k a0 a1 a2 a3 a4 l' i b)
theorem sb_stmt (W : WF l) (ag : ∀ p, p < m → tk l' p = tk l p) {k : Nat} (H : SB l l' m k) (i : Int) : S p3 i m (lm l) (stmt_cursor_stmt (k + 1) l i false) (stmt_cursor_stmt (k + 1) l' i false) := by
  rw [stmt_cursor_stmt, stmt_cursor_stmt]
  refine S.bind (t_look ag k i false (Int.le_refl _)) fun t ht _ => ?_
  rw [slook_eq] at ht; cases ht
  refine S.ite (fun hc => S.bind (t_named W ag k i (by simpa using hc)) fun x _ hx => S.here rfl) (fun _ => ?_)
  refine S.bind (t_is ag k _ _ i false) fun y _ _ => ?_
  refine S.ite (fun _ => S.bind (H.bl i false) fun x _ hx => S.here rfl) (fun _ => ?_)
  refine S.ite (fun _ => S.here rfl) (fun hc => ?_)
  have hk : (tk l i).Kind = 3 := by simpa using hc
  exact S.bind (H.wd _ _ _ _ _ _ i false (by omega)) fun x _ hx => S.here rfl
theorem sb_block (W : WF l) (ag : ∀ p, p < m → tk l' p = tk l p) {k : Nat} (H : SB l l' m k) (i : Int) (b : Bool) : S p3 i m (lm l) (stmt_cursor_block (k + 1) l i b) (stmt_cursor_block (k + 1) l' i b) := by
  rw [stmt_cursor_block, stmt_cursor_block]
  refine S.bind (t_look ag k i b (Int.le_refl _)) fun t ht _ => ?_
  refine S.bind (t_wants W ag k _ i b) fun x _ hx => ?_
  obtain ⟨x1, x2⟩ := x
  simp only [joinK]
  refine S.ofLoop (πs := fun s : List TNode × Int × Bool => s.2.1) (fun s => ?_) rfl
  obtain ⟨s1, s2, s3⟩ := s
  cases s3 with
  | true => simp only [Bool.not_true, Bool.false_eq_true, if_false]; exact S.map (S.here rfl)
  | false =>
    simp only [Bool.not_false, if_true]
    refine S.bind (t_takes W ag k _ _ s2 false (by decide)) fun y _ hy => ?_
    obtain ⟨y1, y2⟩ := y
    simp only
    refine S.ite (fun _ => ?_) (fun _ => S.map (S.here rfl))
    refine S.bind (H.st y2) fun z _ hz => ?_
    exact S.ite (fun _ => S.here rfl) (fun _ => S.none)
theorem sb_word (W : WF l) (ag : ∀ p, p < m → tk l' p = tk l p) {k : Nat} (H : SB l l' m k) (a0 a1 a2 : Int) (a3 : List UInt8) (a4 : List TNode) (s : List UInt8) (i : Int) (b : Bool) (hk : (tk l i).Kind ≠ 0) : S p3 i m (lm l) (stmt_cursor_word_v2 (k + 1) a0 a1 a2 a3 a4 s l i b) (stmt_cursor_word_v2 (k + 1) a0 a1 a2 a3 a4 s l' i b) := by
  obtain ⟨n1, n2, n3⟩ := W.next hk
  have hlen := W.len
  have hi := adv W hk
  have wb : IntKind.i64.wrap (i + 1 - 1) = i := by rw [show i + 1 - 1 = i by omega]; exact wrap64_id (by omega) (by omega)
  rw [n3] at hi
  rw [stmt_cursor_word_v2, stmt_cursor_word_v2]
  simp only [joinK, n3, wb]
  refine S.ite (fun _ => ?_) (fun _ => ?_)
  · refine S.le (S.bind (t_name W ag k _ b) fun x _ hx => ?_) hi
    refine S.bind (t_wants W ag k _ _ _) fun y _ hy => ?_
    refine S.bind (t_expr W ag k _ _) fun z _ hz => ?_
    exact S.bind (t_wants W ag k _ _ _) fun u _ hu => S.here rfl
  refine S.ite (fun _ => ?_) (fun _ => ?_)
  · exact S.le (S.bind (H.ch _ _ _ _ _ _ b) fun x _ hx => S.here rfl) hi
  refine S.ite (fun _ => ?_) (fun _ => ?_)
  · refine S.le (S.bind (t_expr W ag k _ b) fun x _ hx => ?_) hi
    refine S.ite (fun _ => ?_) (fun _ => S.none)
    refine S.bind (H.bl _ _) fun y _ hy => ?_
    exact S.ite (fun _ => S.here rfl) (fun _ => S.none)
  refine S.ite (fun _ => ?_) (fun _ => ?_)
  · refine S.le (S.bind (t_takes W ag k _ _ _ b (by decide)) fun x _ hx => ?_) hi
    refine S.ite (fun _ => ?_) (fun _ => S.here rfl)
    refine S.bind (t_expr W ag k _ _) fun z _ hz => ?_
    exact S.bind (t_wants W ag k _ _ _) fun u _ hu => S.here rfl
  refine S.ite (fun _ => ?_) (fun _ => ?_)
  · refine S.le (S.bind (t_name W ag k _ b) fun x _ hx => ?_) hi
    exact S.bind (t_wants W ag k _ _ _) fun y _ hy => S.here rfl
  refine S.ite (fun _ => ?_) (fun _ => S.here rfl)
  · refine S.le (S.bind (t_expr W ag k _ b) fun z _ hz => ?_) hi
    exact S.bind (t_wants W ag k _ _ _) fun u _ hu => S.here rfl
theorem sb_choice (W : WF l) (ag : ∀ p, p < m → tk l' p = tk l p) {k : Nat} (H : SB l l' m k) (a0 a1 a2 : Int) (a3 : List UInt8) (a4 : List TNode) (i : Int) (b : Bool) : S p3 i m (lm l) (stmt_cursor_choice_v2 (k + 1) a0 a1 a2 a3 a4 l i b) (stmt_cursor_choice_v2 (k + 1) a0 a1 a2 a3 a4 l' i b) := by
  rw [stmt_cursor_choice_v2, stmt_cursor_choice_v2]
  simp only [joinK]
  refine S.bind (t_expr W ag k _ b) fun x _ hx => ?_
  refine S.ite (fun _ => ?_) (fun _ => S.none)
  refine S.bind (H.bl _ _) fun y _ hy => ?_
  refine S.ite (fun _ => ?_) (fun _ => S.none)
  refine S.bind (t_takes W ag k _ _ _ _ (by decide)) fun z _ hz => ?_
  refine S.ite (fun _ => S.here rfl) (fun _ => ?_)
  refine S.bind (t_look ag k _ _ (Int.le_refl _)) fun t _ _ => ?_
  refine S.bind (t_takes W ag k _ _ _ _ (by decide)) fun u _ hu => ?_
  refine S.ite (fun _ => ?_) (fun _ => ?_)
  · refine S.bind (H.ch _ _ _ _ _ _ _) fun v _ hv => ?_
    exact S.ite (fun _ => S.here rfl) (fun _ => S.none)
  · refine S.bind (H.bl _ _) fun v _ hv => ?_
    exact S.ite (fun _ => S.here rfl) (fun _ => S.none)
theorem sb_all (W : WF l) (ag : ∀ p, p < m → tk l' p = tk l p) : ∀ k, SB l l' m k
  | 0 => by
    refine ⟨fun i => ?_, fun i b => ?_, fun a0 a1 a2 a3 a4 s i b _ => ?_, fun a0 a1 a2 a3 a4 i b => ?_⟩
    · rw [stmt_cursor_stmt]; exact S.none
    · rw [stmt_cursor_block]; exact S.none
    · rw [stmt_cursor_word_v2]; exact S.none
    · rw [stmt_cursor_choice_v2]; exact S.none
  | k + 1 => by
    have H := sb_all W ag k
    exact ⟨sb_stmt W ag H, sb_block W ag H, sb_word W ag H, sb_choice W ag H⟩
theorem t_rec (W : WF l) (ag : ∀ p, p < m → tk l' p = tk l p) (k : Nat) (a0 a1 a2 : Int) (a3 : List UInt8) (a4 : List TNode) (i : Int) (b : Bool) : S p3 i m (lm l) (stmt_cursor_rec_v2 k a0 a1 a2 a3 a4 l i b) (stmt_cursor_rec_v2 k a0 a1 a2 a3 a4 l' i b) := by
  unfold stmt_cursor_rec_v2
  simp only [joinK]
  refine S.bind (t_wants W ag k _ i b) fun x _ hx => ?_
  refine S.ofLoop (πs := fun s : List TNode × Int × Bool => s.2.1) (fun s => ?_) rfl
  obtain ⟨s1, s2, s3⟩ := s
  simp only
  refine S.ite (fun _ => ?_) (fun _ => S.map (S.here rfl))
  refine S.bind (t_param W ag k s2 s3) fun y _ hy => ?_
  refine S.ite (fun _ => ?_) (fun _ => S.none)
  refine S.bind (t_wants W ag k _ _ _) fun z _ hz => ?_
  refine S.bind (t_takes W ag k _ _ _ _ (by decide)) fun u _ hu => ?_
  exact S.ite (fun _ => S.map (S.here rfl)) (fun _ => S.here rfl)
theorem t_isoT (W : WF l) (ag : ∀ p, p < m → tk l' p = tk l p) (k : Nat) (a v q j : Int) (s : List UInt8) (b : Bool) (hp : S p3 j m (lm l) (stmt_cursor_part k l q b) (stmt_cursor_part k l' q b)) : S p3 j m (lm l) (eIsoT l a s v q b k) (eIsoT l' a s v q b k) := by
  unfold eIsoT
  simp only [joinK]
  refine S.bind hp fun x _ hx => ?_
  refine S.ite (fun _ => ?_) (fun _ => S.none)
  refine S.bind (t_takes W ag k _ _ _ _ (by decide)) fun u _ hu => ?_
  refine S.ite (fun _ => ?_) (fun _ => S.bind (t_wants W ag k _ _ _) fun y _ hy => S.here rfl)
  refine S.bind (t_name W ag k _ _) fun y _ hy => ?_
  refine S.ite (fun _ => ?_) (fun _ => S.none)
  exact S.bind (t_wants W ag k _ _ _) fun y _ hy => S.here rfl
theorem t_iso (W : WF l) (ag : ∀ p, p < m → tk l' p = tk l p) (k : Nat) (a : Int) (s : List UInt8) (i : Int) (b : Bool) : S p3 i m (lm l) (stmt_cursor_iso_v2 k 52 a 0 s [] l i b) (stmt_cursor_iso_v2 k 52 a 0 s [] l' i b) := by
  cases b with
  | true =>
    have e : ∀ l : List TToken, stmt_cursor_iso_v2 k 52 a 0 s [] l i true = eIsoT l a s 0 i true k := fun l => by simp only [stmt_cursor_iso_v2, sis_bad]; rfl
    rw [e, e]
    exact t_isoT W ag k a 0 i i s true (t_part W ag k i true)
  | false =>
    have e := fun l => eIso_eq k l a s i
    simp only [eIso] at e
    rw [e, e]
    cases hb : isT (tk l i) 4 [91] with
    | false =>
      refine S.ite2 (fun hm => by rw [ag i hm, hb]; rfl) (fun hc => by cases hc) (fun _ => ?_)
      exact t_isoT W ag k a 0 i i s false (t_part W ag k i false)
    | true =>
      obtain ⟨n1, n2, n3⟩ := W.next (i := i) (by rw [(isT_kind hb).1]; decide)
      have ha := adv W (i := i) (by rw [(isT_kind hb).1]; decide)
      rw [n3] at ha ⊢
      refine S.le (j := i + 1) (S.ite2 (fun hm => by rw [ag i (by omega), ag (i + 1) hm, hb]) (fun _ => ?_) (fun _ => ?_)) ha
      · refine S.ite2 (fun hm => by rw [ag (i + 1) hm]) (fun _ => ?_) (fun hc => ?_)
        · refine S.bind (t_wants W ag k _ (i + 1) true) fun y _ hy => ?_
          exact t_isoT W ag k a 0 _ _ s _ (t_part W ag k _ _)
        · have hk : (tk l (i + 1)).Kind = 2 := by simp at hc; exact hc.1
          refine S.le (S.bind (t_wants W ag k _ _ false) fun y _ hy => ?_) (adv W (i := i + 1) (by omega))
          have hv : y.1 < m → (tk l' (i + 1)).N = (tk l (i + 1)).N := fun hm => by
            have := (adv W (i := i + 1) (by omega)).1
            rw [ag (i + 1) (by omega)]
          intro r hr
          have := t_isoT W ag k a (tk l (i + 1)).N y.1 y.1 s y.2 (t_part W ag k _ _) r hr
          exact ⟨this.1, this.2.1, fun hm => by rw [hv (by have := this.1; omega)]; exact this.2.2 hm⟩
      · exact t_isoT W ag k a 0 i (i + 1) s false (t_partB W ag k i hb)
theorem t_funT (W : WF l) (ag : ∀ p, p < m → tk l' p = tk l p) (k : Nat) (a : Int) (s : List UInt8) (c : List TNode) (q : Int) (b : Bool) : S p3 q m (lm l) (eFunT l a s c q b k) (eFunT l' a s c q b k) := by
  unfold eFunT
  simp only [joinK]
  refine S.bind (t_is ag k _ _ q b) fun x _ _ => ?_
  refine S.ite (fun _ => ?_) (fun _ => ?_)
  · refine S.ite (fun _ => ?_) (fun _ => S.none)
    refine S.bind ((sb_all W ag k).bl _ _) fun y _ hy => ?_
    exact S.ite (fun _ => S.here rfl) (fun _ => S.none)
  · refine S.bind (t_part W ag k _ _) fun x _ hx => ?_
    refine S.ite (fun _ => ?_) (fun _ => S.none)
    refine S.bind ((sb_all W ag k).bl _ _) fun y _ hy => ?_
    exact S.ite (fun _ => S.here rfl) (fun _ => S.none)
theorem t_fun (W : WF l) (ag : ∀ p, p < m → tk l' p = tk l p) (k : Nat) (a : Int) (s : List UInt8) (i : Int) (b : Bool) : S p3 i m (lm l) (stmt_cursor_fun_v2 k 53 a 0 s [] l i b) (stmt_cursor_fun_v2 k 53 a 0 s [] l' i b) := by
  rw [eFun_eq, eFun_eq]
  refine S.bind (t_wants W ag k _ i b) fun x _ hx => ?_
  refine S.bind (t_takes W ag k _ _ _ _ (by decide)) fun y _ hy => ?_
  refine S.ite (fun _ => ?_) (fun _ => t_funT W ag k _ _ _ _ _)
  refine S.ofLoop (πs := fun s : List TNode × Int × Bool => s.2.1) (fun s => ?_) rfl
  obtain ⟨s1, s2, s3⟩ := s
  simp only [eFunB]
  refine S.ite (fun _ => ?_) (fun _ => S.map (t_funT W ag k _ _ _ _ _))
  refine S.bind (t_param W ag k s2 s3) fun y _ hy => ?_
  refine S.ite (fun _ => ?_) (fun _ => S.none)
  refine S.bind (t_takes W ag k _ _ _ _ (by decide)) fun u _ hu => ?_
  refine S.ite (fun _ => S.map (t_funT W ag k _ _ _ _ _)) (fun _ => ?_)
  exact S.bind (t_wants W ag k _ _ _) fun y _ hy => S.here rfl
theorem t_merge (W : WF l) (ag : ∀ p, p < m → tk l' p = tk l p) (k : Nat) (a0 a1 a2 : Int) (a3 : List UInt8) (a4 : List TNode) (i : Int) (b : Bool) : S p3 i m (lm l) (stmt_cursor_merge_v2 k a0 a1 a2 a3 a4 l i b) (stmt_cursor_merge_v2 k a0 a1 a2 a3 a4 l' i b) := by
  unfold stmt_cursor_merge_v2
  simp only [joinK]
  refine S.ofLoop (πs := fun s : List TNode × Int × Int × Bool => s.2.2.1) (fun s => ?_) rfl
  obtain ⟨s1, s2, s3, s4⟩ := s
  simp only
  refine S.ite (fun _ => ?_) (fun _ => S.map ?_)
  · refine S.bind (π := fun _ => s3) S.same fun x _ _ => ?_
    refine S.bind (t_wants W ag k _ s3 s4) fun y _ hy => ?_
    refine S.bind (t_param W ag k _ _) fun z _ hz => ?_
    exact S.ite (fun _ => S.here rfl) (fun _ => S.none)
  · refine S.bind (t_wants W ag k _ s3 s4) fun y _ hy => ?_
    refine S.bind ((sb_all W ag k).bl _ _) fun z _ hz => ?_
    exact S.ite (fun _ => S.here rfl) (fun _ => S.none)
theorem t_decl (W : WF l) (ag : ∀ p, p < m → tk l' p = tk l p) (k : Nat) (i : Int) (b : Bool) : S p3 i m (lm l) (stmt_cursor_decl k l i b) (stmt_cursor_decl k l' i b) := by
  unfold stmt_cursor_decl
  simp only [joinK]
  refine S.bind (t_look ag k i b (Int.le_refl _)) fun t ht _ => ?_
  refine S.ofLoop (πs := fun s : Int × Int => s.2) (fun s => ?_) rfl
  obtain ⟨s1, s2⟩ := s
  simp only
  refine S.ite (fun _ => ?_) (fun _ => S.map (S.here rfl))
  refine S.bind (π := fun _ => s2) S.same fun x _ _ => ?_
  refine S.bind (t_takes W ag k _ _ _ _ (by decide)) fun u _ hu => ?_
  refine S.ite (fun _ => S.here rfl) (fun _ => ?_)
  refine S.bind (t_name W ag k _ _) fun y _ hy => ?_
  refine S.ite (fun _ => S.bind (t_rec W ag k _ _ _ _ _ _ _) fun z _ hz => S.here rfl) (fun _ => ?_)
  refine S.ite (fun hc => ?_) (fun _ => ?_)
  · rw [show IntKind.i64.wrap (51 + s1) = 52 by simpa using hc]
    exact S.bind (t_iso W ag k _ _ _ _) fun z _ hz => S.here rfl
  refine S.ite (fun hc => ?_) (fun _ => ?_)
  · rw [show IntKind.i64.wrap (51 + s1) = 53 by simpa using hc]
    exact S.bind (t_fun W ag k _ _ _ _) fun z _ hz => S.here rfl
  exact S.bind (t_merge W ag k _ _ _ _ _ _ _) fun z _ hz => S.here rfl
end
end Go.Proofs.YtjakhfaodfaimaaGreatDoor.F
namespace Go.Proofs.YtjakhfaodfaimaaGreatDoor.F
open Go
theorem loop_sim {σ τ ρ : Type} {body : σ → Option (σ ⊕ ρ)} {body' : τ → Option (τ ⊕ ρ)} (φ : τ → σ) (h : ∀ s, body (φ s) = (body' s).map (Sum.map φ id)) : ∀ (j : Nat) (s : τ), loopM j body (φ s) = loopM j body' s
  | 0, s => rfl
  | j + 1, s => by
    rw [loopM_step, loopM_step, h]
    cases body' s with
    | none => rfl
    | some x =>
      cases x with
      | inl s' => exact loop_sim φ h j s'
      | inr r => rfl
def postL {σ ρ ρ' : Type} (F : ρ' → Option ρ) : σ ⊕ ρ' → Option (σ ⊕ ρ)
  | .inl s => some (.inl s)
  | .inr r => (F r).map .inr
theorem loop_post {σ ρ ρ' : Type} {body' : σ → Option (σ ⊕ ρ')} (F : ρ' → Option ρ) : ∀ (j : Nat) (s : σ), loopM j (fun s => (body' s).bind (postL F)) s = (loopM j body' s).bind F
  | 0, s => rfl
  | j + 1, s => by
    rw [loopM_step, loopM_step]
    cases body' s with
    | none => rfl
    | some x =>
      cases x with
      | inl s' => exact loop_post F j s'
      | inr r =>
        simp only [Option.bind_some, postL]
        cases F r <;> rfl
def pT (l : List TToken) (k : Nat) (c : List TNode) (p : Int) (b : Bool) : Option (TNode × Int × Bool) :=
    (stmt_cursor_block (k + 1) l p b).bind fun (x, q, d) =>
    if (room 64 (c.length + [x].length)) then some (TNode.mk 55 0 0 [] (c ++ [x]), q, d) else none
def pB (l : List TToken) (k : Nat) (s : List TNode × Int × Bool) : Option ((List TNode × Int × Bool) ⊕ (TNode × Int × Bool)) :=
  match s with
  | (c, p, b) =>
    joinK (fun ((g3_6_16, g3_6_oloc5_1) : Bool × Int) =>
    if g3_6_16 then
    (stmt_cursor_decl k l g3_6_oloc5_1 b).bind fun (x4_2_0, x4_2_1, x4_2_2) =>
    if (room 64 (c.length + [x4_2_0].length)) then
    some (.inl ((c ++ [x4_2_0]), x4_2_1, x4_2_2))
    else none
    else
    (pT l k c g3_6_oloc5_1 b).map .inr) fun j_g3_6 =>
    if (!b) then
    (stmt_cursor_takes k 3 [109, 97, 105, 110] l p b).bind fun (x3_4_0, x3_4_1) =>
    j_g3_6 ((!x3_4_0), x3_4_1)
    else
    j_g3_6 (false, p)
def pF (l : List TToken) (r : TNode × Int × Bool) : Option (TNode × Int × Int) :=
    if r.2.2 || (r.2.1 != IntKind.i64.wrap ((l.length : Int) - 1) || (tk l r.2.1).Kind != 0) then some (zN, r.2.1, 1) else some (r.1, r.2.1, 0)
def pP (l : List TToken) (k : Nat) : Option (TNode × Int × Bool) := loopM k (pB l k) ([], 0, false)
theorem block2_eq (k : Nat) (c : Tstmt_cursor) : stmt_cursor_block_v2 k c = stmt_cursor_block (k + 1) c.l c.at_ c.bad := by
  rw [stmt_cursor_block]; rfl
theorem takes2_eq (k : Nat) (kd : Int) (s : List UInt8) (c : Tstmt_cursor) : stmt_cursor_takes_v2 k kd s c = stmt_cursor_takes k kd s c.l c.at_ c.bad := rfl
def pJ (a0 : List TToken) (k : Nat) (c : List TNode) (o : Tstmt_cursor) : Option (TNode × Int × Int) :=
    (stmt_cursor_block_v2 k o).bind fun (x5_2_0, x5_2_1, x5_2_2) =>
    if (room 64 (c.length + [x5_2_0].length)) then
    joinK (fun (j2_oloc5_2 : Bool) =>
    (stmt_cursor_end k (TNode.mk 55 0 0 [] (c ++ [x5_2_0])) o.l x5_2_1 j2_oloc5_2).bind fun (x8_1_0, x8_1_1, x8_1_2) =>
    some (x8_1_0, x8_1_1, x8_1_2)) fun j_j2 =>
    joinK (fun (g6_15_44 : Bool) =>
    if g6_15_44 then
    j_j2 true
    else
    j_j2 x5_2_2) fun j_g6_15 =>
    if (!x5_2_2) then
    joinK (fun (g6_14_43 : Bool) =>
    j_g6_15 g6_14_43) fun j_g6_14 =>
    if (x5_2_1 != (IntKind.i64.wrap ((a0.length : Int) - 1))) then
    j_g6_14 true
    else
    (stmt_cursor_look k o.l x5_2_1 x5_2_2).bind fun x6_11 =>
    j_g6_14 (x6_11.Kind != 0)
    else
    j_g6_15 false
    else none
def pCB (a0 : List TToken) (k : Nat) (s : List TNode × Tstmt_cursor) : Option ((List TNode × Tstmt_cursor) ⊕ (TNode × Int × Int)) :=
  match s with
  | (c, o) =>
    joinK (fun ((g3_6_16, g3_6_oloc5_1) : Bool × Int) =>
    if g3_6_16 then
    (stmt_cursor_decl k o.l g3_6_oloc5_1 o.bad).bind fun (x4_2_0, x4_2_1, x4_2_2) =>
    if (room 64 (c.length + [x4_2_0].length)) then
    some (.inl ((c ++ [x4_2_0]), (Tstmt_cursor.mk o.l x4_2_1 x4_2_2)))
    else none
    else
    (pJ a0 k c (Tstmt_cursor.mk o.l g3_6_oloc5_1 o.bad)).map .inr) fun j_g3_6 =>
    if (!o.bad) then
    (stmt_cursor_takes_v2 k 3 [109, 97, 105, 110] o).bind fun (x3_4_0, x3_4_1) =>
    j_g3_6 ((!x3_4_0), x3_4_1)
    else
    j_g3_6 (false, o.at_)
theorem pJ_eq (l : List TToken) (k : Nat) (c : List TNode) (q : Int) (b : Bool) : pJ l k c ⟨l, q, b⟩ = (pT l k c q b).bind (pF l) := by
  unfold pJ pT
  rw [block2_eq]
  cases stmt_cursor_block (k + 1) l q b with
  | none => rfl
  | some y =>
    obtain ⟨y1, y2, y3⟩ := y
    simp only [Option.bind_some, slook_eq]
    cases room 64 (c.length + [y1].length) with
    | false => rfl
    | true =>
      simp only [if_true, Option.bind_some, pF]
      cases y3 with
      | true => rfl
      | false =>
        cases h1 : (y2 != IntKind.i64.wrap ((l.length : Int) - 1)) with
        | true => rfl
        | false =>
          cases h2 : ((tk l y2).Kind != 0) with
          | true => rfl
          | false => rfl
theorem prog_eq (l : List TToken) (k : Nat) : stmt_Prog k l = (pP l k).bind (pF l) := by
  have e : stmt_Prog k l = loopM k (pCB l k) ([], ⟨l, 0, false⟩) := rfl
  rw [e]
  refine (loop_sim (body' := fun s => (pB l k s).bind (postL (pF l))) (fun s : List TNode × Int × Bool => (s.1, (⟨l, s.2.1, s.2.2⟩ : Tstmt_cursor))) (fun s => ?_) k ([], 0, false)).trans (loop_post (body' := pB l k) (pF l) k ([], 0, false))
  obtain ⟨c, p, b⟩ := s
  simp only [pCB, pB, joinK, takes2_eq, pJ_eq]
  have tl : ∀ q b, Option.map Sum.inr ((pT l k c q b).bind (pF l)) = Option.map (Sum.map (fun s : List TNode × Int × Bool => (s.1, (⟨l, s.2.1, s.2.2⟩ : Tstmt_cursor))) id) ((Option.map Sum.inr (pT l k c q b)).bind (postL (pF l))) := by
    intro q b
    cases pT l k c q b with
    | none => rfl
    | some r =>
      simp only [Option.bind_some, Option.map_some, postL]
      cases pF l r <;> rfl
  cases b with
  | true => exact tl p true
  | false =>
    simp only [Bool.not_false, if_true]
    cases stmt_cursor_takes k 3 [109, 97, 105, 110] l p false with
    | none => rfl
    | some y =>
      obtain ⟨y1, y2⟩ := y
      simp only [Option.bind_some]
      cases y1 with
      | true => exact tl y2 false
      | false =>
        simp only [Bool.not_false, if_true]
        cases stmt_cursor_decl k l y2 false with
        | none => rfl
        | some z =>
          obtain ⟨z1, z2, z3⟩ := z
          simp only [Option.bind_some]
          cases room 64 (c.length + [z1].length) <;> rfl
theorem s_prog {l l' : List TToken} {m : Int} (W : WF l) (ag : ∀ p, p < m → tk l' p = tk l p) (k : Nat) : S p3 0 m (lm l) (pP l k) (pP l' k) := by
  unfold pP
  refine S.ofLoop (πs := fun s : List TNode × Int × Bool => s.2.1) (fun s => ?_) rfl
  obtain ⟨c, p, b⟩ := s
  have tl : ∀ q, S p3 q m (lm l) (pT l k c q b) (pT l' k c q b) := by
    intro q
    unfold pT
    refine S.bind ((sb_all W ag (k + 1)).bl _ _) fun y _ hy => ?_
    exact S.ite (fun _ => S.here rfl) (fun _ => S.none)
  simp only [pB, joinK]
  refine S.ite (fun _ => ?_) (fun _ => S.ite (fun hc => by cases hc) (fun _ => S.map (tl p)))
  refine S.bind (t_takes W ag k _ _ p b (by decide)) fun x _ hx => ?_
  refine S.ite (fun _ => ?_) (fun _ => S.map (tl _))
  refine S.bind (t_decl W ag k _ _) fun y _ hy => ?_
  exact S.ite (fun _ => S.here rfl) (fun _ => S.none)
theorem prog_le {l : List TToken} (W : WF l) (h0 : 0 < l.length) {r : TNode × Int × Bool} (h : Ev (pP l) r) : 0 ≤ r.2.1 ∧ r.2.1 ≤ lm l := by
  obtain ⟨k0, h⟩ := h
  have := s_prog (l' := l) (m := 0) W (fun _ _ => rfl) k0 r (h k0 (Nat.le_refl _))
  exact ⟨this.1, this.2.1 (by unfold lm; omega)⟩
end Go.Proofs.YtjakhfaodfaimaaGreatDoor.F
set_option maxHeartbeats 2000000
namespace Go.Proofs.YtjakhfaodfaimaaGreatDoor.F
open Go
def rPJ (l : List TToken) (k : Nat) (c : List TNode) (p : Int) : Option Tref14_Got :=
    (ref14_Block k l (IntKind.i64.wrap (p + 1))).bind fun x9_3 =>
    if (!x9_3.Ok) then
    some x9_3
    else
    if (room 64 (c.length + [(TNode.mk x9_3.N.Kind x9_3.N.At x9_3.N.N x9_3.N.Name x9_3.N.Kids)].length)) then
    joinK (fun (g13_14_57 : Bool) =>
    if g13_14_57 then
    (ref14_fail k x9_3.At).bind fun x14_2 =>
    some x14_2
    else
    some (Tref14_Got.mk (TNode.mk 55 0 0 [] (c ++ [(TNode.mk x9_3.N.Kind x9_3.N.At x9_3.N.N x9_3.N.Name x9_3.N.Kids)])) x9_3.At true)) fun j_g13_14 =>
    if (x9_3.At != (IntKind.i64.wrap ((l.length : Int) - 1))) then
    j_g13_14 true
    else
    (ix l x9_3.At).bind fun x13_10 =>
    j_g13_14 (x13_10.Kind != 0)
    else none
def rPB (l : List TToken) (k : Nat) (s : List TNode × Int) : Option ((List TNode × Int) ⊕ Tref14_Got) :=
  match s with
  | (c, p) =>
    (ref13_Says k l p [109, 97, 105, 110]).bind fun x3_2 =>
    if (!x3_2) then
    (ref14_Decl k l p).bind fun x4_2 =>
    if (!x4_2.Ok) then
    some (.inr x4_2)
    else
    if (room 64 (c.length + [(TNode.mk x4_2.N.Kind x4_2.N.At x4_2.N.N x4_2.N.Name x4_2.N.Kids)].length)) then
    some (.inl ((c ++ [(TNode.mk x4_2.N.Kind x4_2.N.At x4_2.N.N x4_2.N.Name x4_2.N.Kids)]), x4_2.At))
    else none
    else
    (rPJ l k c p).map .inr
theorem rprog_eq (k : Nat) (l : List TToken) : ref14_Prog k l = loopM k (rPB l k) ([], 0) := rfl
def badc (l : List TToken) (r : TNode × Int × Bool) : Bool := r.2.2 || (r.2.1 != IntKind.i64.wrap ((l.length : Int) - 1) || (tk l r.2.1).Kind != 0)
def PQ (l : List TToken) (r : TNode × Int × Bool) (g : Tref14_Got) : Prop := (g.Ok = false ∧ g.At = r.2.1 ∧ badc l r = true) ∨ (g.Ok = true ∧ g.N = r.1 ∧ badc l r = false ∧ Wide r.1)
theorem tk_ix {l : List TToken} {j : Int} (h0 : 0 ≤ j) (h1 : j < l.length) : ix l j = some (tk l j) := by
  obtain ⟨q, rfl⟩ : ∃ q : Nat, j = q := ⟨j.toNat, by omega⟩
  have hq : q < l.length := by omega
  rw [ix_nat hq, tk_get (List.getElem?_eq_getElem hq)]
theorem prog_from {l : List TToken} (W : WF l) : ∀ (n : Nat) (p : Int) (c : List TNode), (l.length : Int) - p ≤ n → 0 ≤ p → (c.length : Int) ≤ p → p ≤ l.length → (∀ x ∈ c, Wide x) → ∃ r g, EvL (fun k s => pB l k s) (c, p, false) r ∧ EvL (rPB l) (c, p) g ∧ PQ l r g
  | n, p, c, hn, h0, hc, hp, hw => by
    have hlen := W.len
    cases hm : isT (tk l p) 3 [109, 97, 105, 110] with
    | true =>
      obtain ⟨n1, n2, n3⟩ := W.next (i := p) (by rw [(isT_kind hm).1]; decide)
      obtain ⟨x, j, y, ok, e1, e2, e3, e4⟩ := (is_at W (p + 1)).bl
      have code : EvL (fun k s => pB l k s) (c, p, false) (TNode.mk 55 0 0 [] (c ++ [x]), j, !ok) := by
        refine EvL.done ?_
        simp only [pB]
        simp only [qs, Option.bind_some, Option.map_some, joinK, qb, ↓reduceIte, if_true, if_false, eq_self, Int.reduceBEq, Int.reduceBNe, hm, n3]
        refine Ev.map ?_
        unfold pT
        exact Ev.bind (Ev.up (f := fun k => stmt_cursor_block k l (p + 1) false) e1) (Ev.ite_t (room1 _ (by omega)) Ev.pure)
      cases ok with
      | false =>
        refine ⟨_, ⟨y, j, false⟩, code, EvL.done ?_, .inl ⟨rfl, rfl, rfl⟩⟩
        simp only [rPB]
        simp only [qs, Option.bind_some, Option.map_some, joinK, qb, ↓reduceIte, if_true, if_false, eq_self, Int.reduceBEq, Int.reduceBNe, hm]
        refine Ev.map ?_
        unfold rPJ
        rw [n3]
        exact Ev.bind e2 (Ev.ite_t rfl Ev.pure)
      | true =>
        obtain ⟨rfl, q2, q3, q4⟩ := e3 rfl
        cases hb : (j != IntKind.i64.wrap ((l.length : Int) - 1) || (tk l j).Kind != 0) with
        | true =>
          refine ⟨_, ⟨zN, j, false⟩, code, EvL.done ?_, .inl ⟨rfl, rfl, by simp only [badc, hb]; rfl⟩⟩
          simp only [rPB]
          simp only [qs, Option.bind_some, Option.map_some, joinK, qb, ↓reduceIte, if_true, if_false, eq_self, Int.reduceBEq, Int.reduceBNe, hm]
          refine Ev.map ?_
          unfold rPJ
          rw [n3]
          refine Ev.bind e2 (Ev.ite_f rfl (Ev.ite_t (room1 _ (by omega)) (Ev.joinK ?_)))
          cases hj : j != IntKind.i64.wrap ((l.length : Int) - 1) with
          | true => exact Ev.ite_t rfl (Ev.of fun _ => rfl)
          | false =>
            rw [hj, Bool.false_or] at hb
            exact Ev.ite_f rfl (Ev.bindS (fun _ => tk_ix (j := j) (by omega) q3) (Ev.of fun _ => by simp only [hb]; rfl))
        | false =>
          refine ⟨_, ⟨TNode.mk 55 0 0 [] (c ++ [x]), j, true⟩, code, EvL.done ?_, .inr ⟨rfl, rfl, by simp only [badc, hb]; rfl, ?_⟩⟩
          · simp only [rPB]
            simp only [qs, Option.bind_some, Option.map_some, joinK, qb, ↓reduceIte, if_true, if_false, eq_self, Int.reduceBEq, Int.reduceBNe, hm]
            refine Ev.map ?_
            unfold rPJ
            rw [n3]
            rw [Bool.or_eq_false_iff] at hb
            refine Ev.bind e2 (Ev.ite_f rfl (Ev.ite_t (room1 _ (by omega)) (Ev.joinK (Ev.ite_f hb.1 (Ev.bindS (fun _ => tk_ix (j := j) (by omega) q3) (Ev.of fun _ => ?_))))))
            simp only [hb.2, node_eta]; rfl
          · refine wideL (fun z hz => ?_) (by simp; omega)
            rcases List.mem_append.1 hz with hz | hz
            · exact hw z hz
            · simp at hz; subst hz; exact q4.gs.wide
    | false =>
      obtain ⟨x, j, y, ok, e1, e2, e3, e4⟩ := decl_R W p
      have code : Ev (fun k => pB l k (c, p, false)) (.inl (c ++ [x], j, !ok)) := by
        simp only [pB]
        simp only [qs, Option.bind_some, Option.map_some, joinK, qb, ↓reduceIte, if_true, if_false, eq_self, Int.reduceBEq, Int.reduceBNe, hm]
        refine Ev.bind e1 ?_
        simp only [qs, Option.bind_some, Option.map_some, joinK, qb, ↓reduceIte, if_true, if_false, eq_self, Int.reduceBEq, Int.reduceBNe, room1 x (show c.length ≤ 1000000 by omega)]; exact Ev.pure
      cases ok with
      | false =>
        refine ⟨(TNode.mk 55 0 0 [] ((c ++ [x]) ++ [⟨30, (tk l j).At, 0, [], []⟩]), j, true), ⟨y, j, false⟩, EvL.step code (EvL.done ?_), EvL.done ?_, .inl ⟨rfl, rfl, rfl⟩⟩
        · simp only [pB]
          simp only [qs, Option.bind_some, Option.map_some, joinK, qb, ↓reduceIte, if_true, if_false, eq_self, Int.reduceBEq, Int.reduceBNe]
          refine Ev.map ?_
          unfold pT
          exact Ev.bind (block_bad l j).up (Ev.ite_t (room1 _ (by simp; omega)) Ev.pure)
        · simp only [rPB]
          simp only [qs, Option.bind_some, Option.map_some, joinK, qb, ↓reduceIte, if_true, if_false, eq_self, Int.reduceBEq, Int.reduceBNe, hm]
          exact Ev.bind e2 (Ev.ite_t rfl Ev.pure)
      | true =>
        obtain ⟨rfl, q2, q3, q4⟩ := e3 rfl
        match n, hn with
        | 0, hn => exact absurd hn (by omega)
        | n + 1, hn =>
          obtain ⟨r, g, r1, r2, r3⟩ := prog_from W n j (c ++ [x]) (by omega) (by omega) (by simp; omega) (by omega) (fun z hz => by
            rcases List.mem_append.1 hz with hz | hz
            · exact hw z hz
            · simp at hz; subst hz; exact q4.wide)
          refine ⟨r, g, EvL.step code r1, EvL.step ?_ r2, r3⟩
          simp only [rPB]
          simp only [qs, Option.bind_some, Option.map_some, joinK, qb, ↓reduceIte, if_true, if_false, eq_self, Int.reduceBEq, Int.reduceBNe, hm]
          exact Ev.bind e2 (Ev.ite_f rfl (Ev.ite_t (room1 _ (by omega)) Ev.pure))
theorem prog_both {l : List TToken} (W : WF l) : ∃ r g, Ev (pP l) r ∧ Ev (fun k => ref14_Prog k l) g ∧ PQ l r g := by
  obtain ⟨r, g, h1, h2, h3⟩ := prog_from W l.length 0 [] (by omega) (by omega) (by simp) (by omega) (fun _ h => by cases h)
  exact ⟨r, g, Ev.loop h1, Ev.congr (fun k => rprog_eq k l) (Ev.loop h2), h3⟩
theorem expr_le {l : List TToken} (W : WF l) (h0 : 0 < l.length) {r : TNode × Int × Bool} (h : Ev (eLevel l 0 1) r) : 0 ≤ r.2.1 ∧ r.2.1 < l.length := by
  obtain ⟨k0, h⟩ := h
  have := (sa_all (l' := l) (m := 0) W (fun _ _ => rfl) k0).level 1 0 false r (h k0 (Nat.le_refl _))
  exact ⟨this.1, by have := this.2.1 (by unfold lm; omega); unfold lm p3 at this; omega⟩
structure Ok15 (n : TNode) (f : Tparse_Fault) (g : Tref15_Got) : Prop where
  at_ : f.At = g.At
  line : f.Line = g.Line
  col : f.Col = g.Col
  why : f.Why = g.Why
  node : n = g.N
  wide : Wide n
theorem same15 {n : TNode} {f : Tparse_Fault} {g : Tref15_Got} (h : Ok15 n f g) : Ev (fun k => law15_same k n f g) true := by
  unfold law15_same
  rw [show TNode.mk g.N.Kind g.N.At g.N.N g.N.Name g.N.Kids = n by rw [node_eta]; exact h.node.symm]
  refine Ev.bind (placed_self h.wide) (Ev.of fun _ => ?_)
  rw [h.at_, h.line, h.col, h.why]
  simp
theorem prog15 (s : List UInt8) (hl : s.length ≤ 20000) : ∃ n f g, Ev (fun k => parse_Prog k s) (n, f) ∧ Ev (fun k => ref15_Prog k s) g ∧ Ok15 n f g := by
  have fin : ∀ {n f g}, Ev (fun k => parse_read k s) (n, f) → Ev (fun k => ref15_Prog k s) g → Ok15 n f g → ∃ n f g, Ev (fun k => parse_Prog k s) (n, f) ∧ Ev (fun k => ref15_Prog k s) g ∧ Ok15 n f g := fun {n f g} h h2 o => ⟨n, f, g, Ev.bind h Ev.pure, h2, o⟩
  obtain ⟨⟨l, a, e⟩, h1, h1', g⟩ := lex_both s
  by_cases he : e = 0
  · subst he
    obtain ⟨W, hpos, hat⟩ := g.ok rfl
    simp only at W hpos hat
    obtain ⟨⟨a2, e2⟩, h2, h2', h2x⟩ := nest_both W.len
    by_cases he2 : e2 = 0
    · subst he2
      obtain ⟨⟨n, i, b⟩, gg, h3, h4, hq⟩ := prog_both W
      obtain ⟨hi0, hi1⟩ := prog_le W hpos h3
      simp only at hi0 hi1
      obtain ⟨i, rfl⟩ : ∃ q : Nat, i = q := ⟨i.toNat, by omega⟩
      have hil : i < l.length := by unfold lm at hi1; omega
      rcases hq with ⟨q1, q2, q3⟩ | ⟨q1, q2, q3, q4⟩
      · have hP : Ev (fun k => stmt_Prog k l) (zN, (i : Int), 1) := Ev.congr (prog_eq l) (Ev.bind h3 (Ev.of fun _ => by unfold pF; unfold badc at q3; rw [q3]; rfl))
        have hx : ix l gg.At = some l[i] := by rw [q2]; exact ix_nat hil
        obtain ⟨li, co, h5, h6⟩ := fault_both s hl (hat _ (List.getElem_mem hil)).1 (hat _ (List.getElem_mem hil)).2 1
        exact fin (n := zN) (f := ⟨(l[i]'hil).At, li, co, 1⟩) (Ev.bind h1 (Ev.ite_f rfl (Ev.bind h2 (Ev.ite_f rfl (Ev.bind hP (Ev.ite_t rfl (Ev.bindS (fun _ => ix_nat hil) (Ev.bind h5 Ev.pure))))))))
          (Ev.bind h1' (Ev.ite_f rfl (Ev.bind h2' (Ev.ite_f rfl (Ev.bind h4 (Ev.ite_t (by rw [q1]; rfl) (Ev.bindS (fun _ => hx) (Ev.bind h6 Ev.pure)))))))) ⟨rfl, rfl, rfl, rfl, rfl, wide0⟩
      · have hP : Ev (fun k => stmt_Prog k l) (n, (i : Int), 0) := Ev.congr (prog_eq l) (Ev.bind h3 (Ev.of fun _ => by unfold pF; unfold badc at q3; rw [q3]; rfl))
        exact fin (Ev.bind h1 (Ev.ite_f rfl (Ev.bind h2 (Ev.ite_f rfl (Ev.bind hP (Ev.ite_f rfl Ev.pure))))))
          (Ev.bind h1' (Ev.ite_f rfl (Ev.bind h2' (Ev.ite_f rfl (Ev.bind h4 (Ev.ite_f (by rw [q1]; rfl) Ev.pure)))))) ⟨rfl, rfl, rfl, rfl, q2.symm, q4⟩
    · obtain ⟨t, ht, hta⟩ := h2x.resolve_left he2
      simp only at hta
      subst hta
      have hne : (e2 != 0) = true := by simpa using he2
      obtain ⟨li, co, h5, h6⟩ := fault_both s hl (hat t ht).1 (hat t ht).2 e2
      exact fin (Ev.bind h1 (Ev.ite_f rfl (Ev.bind h2 (Ev.ite_t hne (Ev.bind h5 Ev.pure))))) (Ev.bind h1' (Ev.ite_f rfl (Ev.bind h2' (Ev.ite_t hne (Ev.bind h6 Ev.pure))))) ⟨rfl, rfl, rfl, rfl, rfl, wide0⟩
  · obtain ⟨g1, g2⟩ := g.bad he
    simp only at g1 g2
    obtain ⟨li, co, h5, h6⟩ := fault_both s hl g1 g2 e
    exact fin (Ev.bind h1 (Ev.ite_t (by simpa using he) (Ev.bind h5 Ev.pure))) (Ev.bind h1' (Ev.ite_t (by simpa using he) (Ev.bind h6 Ev.pure))) ⟨rfl, rfl, rfl, rfl, rfl, wide0⟩
theorem expr15 (s : List UInt8) (hl : s.length ≤ 20000) : ∃ n f g, Ev (fun k => parse_Expr k s) (n, f) ∧ Ev (fun k => ref15_Expr k s) g ∧ Ok15 n f g := by
  have fin : ∀ {n f g}, Ev (fun k => parse_read_v2 k s) (n, f) → Ev (fun k => ref15_Expr k s) g → Ok15 n f g → ∃ n f g, Ev (fun k => parse_Expr k s) (n, f) ∧ Ev (fun k => ref15_Expr k s) g ∧ Ok15 n f g := fun {n f g} h h2 o => ⟨n, f, g, Ev.bind h Ev.pure, h2, o⟩
  obtain ⟨⟨l, a, e⟩, h1, h1', g⟩ := lex_both s
  by_cases he : e = 0
  · subst he
    obtain ⟨W, hpos, hat⟩ := g.ok rfl
    simp only at W hpos hat
    obtain ⟨⟨a2, e2⟩, h2, h2', h2x⟩ := nest_both W.len
    by_cases he2 : e2 = 0
    · subst he2
      obtain ⟨n, i, m, ok, h3, h4, hq, hz⟩ := expr_all W 0
      obtain ⟨hi0, hil⟩ := expr_le W hpos h3
      simp only at hi0 hil
      obtain ⟨i, rfl⟩ : ∃ q : Nat, i = q := ⟨i.toNat, by omega⟩
      have hil : i < l.length := by omega
      have hx : ix l (i : Int) = some l[i] := ix_nat hil
      have hE : Ev (fun k => expr_Expr k l 0) (if ok then n else zN, (i : Int), if ok then 0 else 1) := by
        unfold expr_Expr
        refine Ev.bind h3 ?_
        cases ok <;> exact Ev.pure
      obtain ⟨li, co, h5, h6⟩ := fault_both s hl (hat _ (List.getElem_mem hil)).1 (hat _ (List.getElem_mem hil)).2 1
      cases ok with
      | false =>
        have hP : Ev (fun k => parse_Expr_1 k l) (zN, (i : Int), 1) := Ev.bind hE (Ev.joinK (Ev.ite_f rfl (Ev.of fun _ => rfl)))
        exact fin (n := zN) (f := ⟨(l[i]'hil).At, li, co, 1⟩) (Ev.bind h1 (Ev.ite_f rfl (Ev.bind h2 (Ev.ite_f rfl (Ev.bind hP (Ev.ite_t rfl (Ev.bindS (fun _ => hx) (Ev.bind h5 Ev.pure))))))))
          (Ev.bind h1' (Ev.ite_f rfl (Ev.bind h2' (Ev.ite_f rfl (Ev.bind h4 (Ev.joinK (Ev.ite_t rfl (Ev.ite_t rfl (Ev.bindS (fun _ => hx) (Ev.bind h6 Ev.pure)))))))))) ⟨rfl, rfl, rfl, rfl, rfl, wide0⟩
      | true =>
        obtain ⟨rfl, _, _, hw⟩ := hq rfl
        cases hk : (l[i]'hil).Kind != 0 with
        | true =>
          have hP : Ev (fun k => parse_Expr_1 k l) (zN, (i : Int), 1) := Ev.bind hE (Ev.joinK (Ev.ite_t rfl (Ev.bindS (fun _ => hx) (Ev.ite_t hk Ev.pure))))
          exact fin (n := zN) (f := ⟨(l[i]'hil).At, li, co, 1⟩) (Ev.bind h1 (Ev.ite_f rfl (Ev.bind h2 (Ev.ite_f rfl (Ev.bind hP (Ev.ite_t rfl (Ev.bindS (fun _ => hx) (Ev.bind h5 Ev.pure))))))))
            (Ev.bind h1' (Ev.ite_f rfl (Ev.bind h2' (Ev.ite_f rfl (Ev.bind h4 (Ev.joinK (Ev.ite_f rfl (Ev.bindS (fun _ => hx) (Ev.ite_t hk (Ev.bindS (fun _ => hx) (Ev.bind h6 Ev.pure))))))))))) ⟨rfl, rfl, rfl, rfl, rfl, wide0⟩
        | false =>
          have hP : Ev (fun k => parse_Expr_1 k l) (n, (i : Int), 0) := Ev.bind hE (Ev.joinK (Ev.ite_t rfl (Ev.bindS (fun _ => hx) (Ev.ite_f hk Ev.pure))))
          exact fin (Ev.bind h1 (Ev.ite_f rfl (Ev.bind h2 (Ev.ite_f rfl (Ev.bind hP (Ev.ite_f rfl Ev.pure))))))
            (Ev.bind h1' (Ev.ite_f rfl (Ev.bind h2' (Ev.ite_f rfl (Ev.bind h4 (Ev.joinK (Ev.ite_f rfl (Ev.bindS (fun _ => hx) (Ev.ite_f hk Ev.pure))))))))) ⟨rfl, rfl, rfl, rfl, rfl, hw.wide⟩
    · obtain ⟨t, ht, hta⟩ := h2x.resolve_left he2
      simp only at hta
      subst hta
      have hne : (e2 != 0) = true := by simpa using he2
      obtain ⟨li, co, h5, h6⟩ := fault_both s hl (hat t ht).1 (hat t ht).2 e2
      exact fin (Ev.bind h1 (Ev.ite_f rfl (Ev.bind h2 (Ev.ite_t hne (Ev.bind h5 Ev.pure))))) (Ev.bind h1' (Ev.ite_f rfl (Ev.bind h2' (Ev.ite_t hne (Ev.bind h6 Ev.pure))))) ⟨rfl, rfl, rfl, rfl, rfl, wide0⟩
  · obtain ⟨g1, g2⟩ := g.bad he
    simp only at g1 g2
    obtain ⟨li, co, h5, h6⟩ := fault_both s hl g1 g2 e
    exact fin (Ev.bind h1 (Ev.ite_t (by simpa using he) (Ev.bind h5 Ev.pure))) (Ev.bind h1' (Ev.ite_t (by simpa using he) (Ev.bind h6 Ev.pure))) ⟨rfl, rfl, rfl, rfl, rfl, wide0⟩
theorem works15 (k : Nat) : law15_works (k + 80) = some true := by kernel_rfl
theorem works15_ev : Ev law15_works true := Ev.at 80 works15
theorem reads15_holds (s : List UInt8) : Ev (fun k => law15_ParseReads k s) true := by
  unfold law15_ParseReads
  refine Ev.bind works15_ev ?_
  cases hl : decide ((s.length : Int) > 3000) with
  | true => exact Ev.ite_t rfl (Ev.bind works15_ev Ev.pure)
  | false =>
    refine Ev.ite_f rfl ?_
    have hl : s.length ≤ 20000 := by simp at hl; omega
    obtain ⟨n, f, g, h1, h2, h3⟩ := prog15 s hl
    obtain ⟨n', f', g', e1, e2, e3⟩ := expr15 s hl
    exact Ev.bind h1 (Ev.bind e1 (Ev.bind h2 (Ev.bind (same15 h3) (Ev.joinK (Ev.ite_t rfl (Ev.bind e2 (Ev.bind (same15 e3) Ev.pure)))))))
end Go.Proofs.YtjakhfaodfaimaaGreatDoor.F
