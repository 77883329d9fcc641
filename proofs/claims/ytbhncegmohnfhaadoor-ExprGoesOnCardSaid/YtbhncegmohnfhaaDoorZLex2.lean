/- What the lexer gives: names that read back, numbers, marks, the whole. No condition. -/
import Derived.Test.YtbhncegmohnfhaaDoorZLex
set_option linter.unusedVariables false
set_option linter.unusedSimpArgs false
set_option maxRecDepth 100000
set_option maxHeartbeats 4000000
namespace Go.Proofs.YtbhncegmohnfhaaDoor.F
open Go

def allB (k : Nat) (s : List UInt8) (st : List TToken × Int) : Option ((List TToken × Int) ⊕ (List TToken × Int × Int)) :=
  match st with
  | (l1_5, l1_6) =>
    if (decide (l1_6 < ((s.length : Int)))) then
    (ix s l1_6).bind fun x6_2 =>
    (ref10_class k (x6_2.toNat : Int)).bind fun x6_3 =>
    if (x6_3 == 3) then
    some (.inl (l1_5, (IntKind.i64.wrap (l1_6 + 1))))
    else
    if (x6_3 == 4) then
    joinK (fun (j2_6 : Int) =>
    some (.inl (l1_5, j2_6))) fun j_j2 =>
    loopM k (fun (l3_6 : Int) =>
    joinK (fun (g10_9_36 : Bool) =>
    if g10_9_36 then
    some (.inl (IntKind.i64.wrap (l3_6 + 1)))
    else
    (j_j2 l3_6).map .inr) fun j_g10_9 =>
    if (decide (l3_6 < ((s.length : Int)))) then
    (ix s l3_6).bind fun x10_7 =>
    j_g10_9 ((x10_7.toNat : Int) != 10)
    else
    j_g10_9 false) l1_6
    else
    (ref10_one k s l1_6).bind fun (x12_2_0, x12_2_1) =>
    if (x12_2_1 != 0) then
    some (.inr ([], l1_6, x12_2_1))
    else
    if (room 40 (l1_5.length + [x12_2_0].length)) then
    some (.inl ((l1_5 ++ [x12_2_0]), (IntKind.i64.wrap (l1_6 + ((x12_2_0.Text.length : Int))))))
    else none
    else
    (if (room 40 (l1_5.length + [(TToken.mk 0 ((s.length : Int)) 0 [])].length)) then
    some ((l1_5 ++ [(TToken.mk 0 ((s.length : Int)) 0 [])]), (0 : Int), (0 : Int))
    else none).map .inr
theorem all_eq (k : Nat) (s : List UInt8) (h : s.length ≤ 16384) : ref10_All k s = loopM k (allB k s) ([], 0) := by
  unfold ref10_All
  rw [if_neg (by simp; omega)]
  rfl
theorem all_long (k : Nat) (s : List UInt8) (h : 16384 < s.length) : ref10_All k s = some ([], 16384, 3) := by
  unfold ref10_All
  rw [if_pos (by simp; omega)]
/-- Where a token begins. -/
theorem allB_one {s : List UInt8} {i : Nat} {out : List TToken} {t : TToken} {e : Int} (hi : i < s.length) (h3 : cl s i ≠ 3) (h4 : cl s i ≠ 4) (h : Ev (fun k => ref10_one k s i) (t, e)) {x : (List TToken × Int) ⊕ (List TToken × Int × Int)}
    (hx : (if (e != 0) then some (.inr ([], (i : Int), e)) else if (room 40 (out.length + [t].length)) then some (.inl ((out ++ [t]), (IntKind.i64.wrap ((i : Int) + ((t.Text.length : Int)))))) else none) = some x) : Ev (fun k => allB k s (out, (i : Int))) x := by
  have hd : decide ((i : Int) < (s.length : Int)) = true := by simp; omega
  have h3b : (cl s i == 3) = false := by simpa using h3
  have h4b : (cl s i == 4) = false := by simpa using h4
  simp only [allB, class_eq]
  refine Ev.ite_t hd (Ev.bindS (fun _ => ix_bt hi) (Ev.bindS (fun _ => rfl) (Ev.ite_f h3b (Ev.ite_f h4b ?_))))
  refine Ev.bind h ?_
  exact Ev.of fun _ => hx
theorem allB_end {s : List UInt8} {out : List TToken} (h : out.length ≤ 100000) : Ev (fun k => allB k s (out, (s.length : Int))) (.inr (out ++ [⟨0, s.length, 0, []⟩], 0, 0)) := by
  have hd : decide ((s.length : Int) < (s.length : Int)) = false := by simp
  have hr : room 40 (out.length + [(TToken.mk 0 ((s.length : Int)) 0 [])].length) = true := room_of (by omega) (by simp; omega)
  simp only [allB]
  simp only [look_eq, Tok_eq, is_eq, takes_eq, takes_bad, wants_eq, wants_bad, name_eq, name_bad, Is_eq, Says_eq, Option.bind_some, Option.map_some, joinK, Bool.not_true, Bool.not_false, Bool.false_eq_true, Bool.or_true, Bool.true_or, Bool.false_or, Bool.or_false, Bool.and_true, Bool.and_false, Bool.true_and, Bool.false_and, ↓reduceIte, if_true, if_false, eq_self, Int.reduceBEq, Int.reduceBNe, bne_self_eq_false, beq_self_eq_true, hd, hr]; exact Ev.pure
/-- A word that is none of the language's, and not too long: it reads back. -/
theorem named_of {t : List UInt8} (h1 : 1 ≤ t.length) (h32 : t.length ≤ 32) (hc : cl t 0 = 1) (hall : ∀ p, p < t.length → isW t p = true) (hb : Ev (fun k => ref09_Is k t) false) : Nm t := by
  have ho : Ev (fun k => ref10_one k t (0 : Nat)) (⟨1, 0, 0, t⟩, 0) := by
    have := word_one (s := t) (i := 0) (d := t.length) (by omega) h1 (by omega) hc (fun p _ h => hall p (by omega)) (.inl (by omega)) (b := false) (by rw [cut_all]; exact hb)
    rw [cut_all, if_neg (c := 32 < t.length) (by omega)] at this
    simpa using this
  have ha : Ev (fun k => ref10_All k t) ([⟨1, 0, 0, t⟩, ⟨0, t.length, 0, []⟩], 0, 0) := by
    refine Ev.congr (fun k => all_eq k t (by omega)) (Ev.loop (EvL.step (s' := ([⟨1, 0, 0, t⟩], (t.length : Int))) ?_ (EvL.done (allB_end (by simp)))))
    refine allB_one (out := []) (i := 0) (by omega) (by omega) (by omega) ho ?_
    rw [if_neg (by simp), if_pos (room_of (by omega) (by simp)), wrap64_id (by simp <;> omega) (by simp <;> omega)]
    simp
  refine Ev.bind ha ?_
  simp only [look_eq, Tok_eq, is_eq, takes_eq, takes_bad, wants_eq, wants_bad, name_eq, name_bad, Is_eq, Says_eq, Option.bind_some, Option.map_some, joinK, Bool.not_true, Bool.not_false, Bool.false_eq_true, Bool.or_true, Bool.true_or, Bool.false_or, Bool.or_false, Bool.and_true, Bool.and_false, Bool.true_and, Bool.false_and, ↓reduceIte, if_true, if_false, eq_self, Int.reduceBEq, Int.reduceBNe, bne_self_eq_false, beq_self_eq_true, show decide (0 < 1) = true from rfl]
  refine Ev.ite_t rfl (Ev.bindS (fun _ => rfl) (Ev.ite_t rfl (Ev.bindS (fun _ => rfl) ?_)))
  simp only [look_eq, Tok_eq, is_eq, takes_eq, takes_bad, wants_eq, wants_bad, name_eq, name_bad, Is_eq, Says_eq, Option.bind_some, Option.map_some, joinK, Bool.not_true, Bool.not_false, Bool.false_eq_true, Bool.or_true, Bool.true_or, Bool.false_or, Bool.or_false, Bool.and_true, Bool.and_false, Bool.true_and, Bool.false_and, ↓reduceIte, if_true, if_false, eq_self, Int.reduceBEq, Int.reduceBNe, bne_self_eq_false, beq_self_eq_true]; exact Ev.pure

/-! ### numbers -/
theorem u64_nn (x : Int) : 0 ≤ IntKind.u64.wrap x := by
  simp only [IntKind.wrap, IntKind.bits, IntKind.signed]
  simp
  omega
theorem read_ex (t : List UInt8) (hl : t.length ≤ 16384) : ∃ r : Int × Int, Ev (fun k => ref01_Read k t) r ∧ 0 ≤ r.1 := by
  unfold ref01_Read
  by_cases h0 : (t == []) = true
  · exact ⟨(0, 1), Ev.ite_t h0 Ev.pure, by simp⟩
  have h0 : (t == []) = false := by simpa using h0
  have := loop_ex (σ := Int × Bool × Int) (ρ := Int × Int) (body := fun k (s : Int × Bool × Int) => match s with
    | (l1_4, l1_5, l1_6) =>
      if (decide (l1_6 < ((t.length : Int)))) then
      joinK (fun ((j2_4, j2_5) : Int × Bool) =>
      some (.inl (j2_4, j2_5, (IntKind.i64.wrap (l1_6 + 1))))) fun j_j2 =>
      (ix t l1_6).bind fun x8_2 =>
      joinK (fun (g8_9_24 : Bool) =>
      if g8_9_24 then
      some (.inr (0, 1))
      else
      joinK (fun (j3_5 : Bool) =>
      if (!j3_5) then
      (ix t l1_6).bind fun x13_4 =>
      j_j2 ((IntKind.u64.wrap ((IntKind.u64.wrap (10 * l1_4)) + (IntKind.u64.wrap (IntKind.u8.wrap ((x13_4.toNat : Int) - 48))))), j3_5)
      else
      j_j2 (l1_4, j3_5)) fun j_j3 =>
      if (decide (l1_4 > 1000000000000000000)) then
      j_j3 true
      else
      j_j3 l1_5) fun j_g8_9 =>
      if (decide ((x8_2.toNat : Int) < 48)) then
      j_g8_9 true
      else
      (ix t l1_6).bind fun x8_7 =>
      j_g8_9 (decide ((x8_7.toNat : Int) > 57))
      else
      (if (l1_5 || (decide (l1_4 ≥ 9223372036854775808))) then
      some (0, 2)
      else
      some ((IntKind.i64.wrap l1_4), 0)).map .inr)
    (fun s => 0 ≤ s.1 ∧ 0 ≤ s.2.2 ∧ s.2.2 ≤ t.length) (fun s => (t.length - s.2.2).toNat) (fun r => 0 ≤ r.1) ?_ (0, false, 0) (by simp)
  · obtain ⟨r, h1, h2⟩ := this
    exact ⟨r, Ev.ite_f h0 (Ev.joinK (Ev.loop h1)), h2⟩
  rintro ⟨v, big, i⟩ ⟨hv, hi0, hil⟩
  simp only at hv hi0 hil
  by_cases hd : i < t.length
  · have hdb : decide (i < (t.length : Int)) = true := by simpa using hd
    obtain ⟨p, rfl⟩ : ∃ p : Nat, i = p := ⟨i.toNat, by omega⟩
    have hix : ix t (p : Int) = some (bt t p) := ix_bt (by omega)
    have hw : IntKind.i64.wrap ((p : Int) + 1) = (p : Int) + 1 := wrap64_id (by omega) (by omega)
    by_cases hlo : ((bt t p).toNat : Int) < 48
    · refine .inl ⟨(0, 1), ?_, by simp⟩
      have hlob : decide (((bt t p).toNat : Int) < 48) = true := by simpa using hlo
      simp only; simp only [look_eq, Tok_eq, is_eq, takes_eq, takes_bad, wants_eq, wants_bad, name_eq, name_bad, Is_eq, Says_eq, Option.bind_some, Option.map_some, joinK, Bool.not_true, Bool.not_false, Bool.false_eq_true, Bool.or_true, Bool.true_or, Bool.false_or, Bool.or_false, Bool.and_true, Bool.and_false, Bool.true_and, Bool.false_and, ↓reduceIte, if_true, if_false, eq_self, Int.reduceBEq, Int.reduceBNe, bne_self_eq_false, beq_self_eq_true, hdb, hix, hlob]; exact Ev.pure
    · have hlob : decide (((bt t p).toNat : Int) < 48) = false := by simpa using hlo
      cases hhi : decide (((bt t p).toNat : Int) > 57) with
      | true =>
        refine .inl ⟨(0, 1), ?_, by simp⟩
        simp only; simp only [look_eq, Tok_eq, is_eq, takes_eq, takes_bad, wants_eq, wants_bad, name_eq, name_bad, Is_eq, Says_eq, Option.bind_some, Option.map_some, joinK, Bool.not_true, Bool.not_false, Bool.false_eq_true, Bool.or_true, Bool.true_or, Bool.false_or, Bool.or_false, Bool.and_true, Bool.and_false, Bool.true_and, Bool.false_and, ↓reduceIte, if_true, if_false, eq_self, Int.reduceBEq, Int.reduceBNe, bne_self_eq_false, beq_self_eq_true, hdb, hix, hlob, hhi]; exact Ev.pure
      | false =>
        right
        cases hbig : decide (v > 1000000000000000000) with
        | true =>
          refine ⟨(v, true, (p : Int) + 1), ?_, ⟨hv, by simp; omega, by simp; omega⟩, by simp; omega⟩
          simp only; simp only [look_eq, Tok_eq, is_eq, takes_eq, takes_bad, wants_eq, wants_bad, name_eq, name_bad, Is_eq, Says_eq, Option.bind_some, Option.map_some, joinK, Bool.not_true, Bool.not_false, Bool.false_eq_true, Bool.or_true, Bool.true_or, Bool.false_or, Bool.or_false, Bool.and_true, Bool.and_false, Bool.true_and, Bool.false_and, ↓reduceIte, if_true, if_false, eq_self, Int.reduceBEq, Int.reduceBNe, bne_self_eq_false, beq_self_eq_true, hdb, hix, hlob, hhi, hbig, hw]; exact Ev.pure
        | false =>
          cases big with
          | true =>
            refine ⟨(v, true, (p : Int) + 1), ?_, ⟨hv, by simp; omega, by simp; omega⟩, by simp; omega⟩
            simp only; simp only [look_eq, Tok_eq, is_eq, takes_eq, takes_bad, wants_eq, wants_bad, name_eq, name_bad, Is_eq, Says_eq, Option.bind_some, Option.map_some, joinK, Bool.not_true, Bool.not_false, Bool.false_eq_true, Bool.or_true, Bool.true_or, Bool.false_or, Bool.or_false, Bool.and_true, Bool.and_false, Bool.true_and, Bool.false_and, ↓reduceIte, if_true, if_false, eq_self, Int.reduceBEq, Int.reduceBNe, bne_self_eq_false, beq_self_eq_true, hdb, hix, hlob, hhi, hbig, hw]; exact Ev.pure
          | false =>
            refine ⟨(IntKind.u64.wrap ((IntKind.u64.wrap (10 * v)) + (IntKind.u64.wrap (IntKind.u8.wrap (((bt t p).toNat : Int) - 48)))), false, (p : Int) + 1), ?_, ⟨u64_nn _, by simp; omega, by simp; omega⟩, by simp; omega⟩
            simp only; simp only [look_eq, Tok_eq, is_eq, takes_eq, takes_bad, wants_eq, wants_bad, name_eq, name_bad, Is_eq, Says_eq, Option.bind_some, Option.map_some, joinK, Bool.not_true, Bool.not_false, Bool.false_eq_true, Bool.or_true, Bool.true_or, Bool.false_or, Bool.or_false, Bool.and_true, Bool.and_false, Bool.true_and, Bool.false_and, ↓reduceIte, if_true, if_false, eq_self, Int.reduceBEq, Int.reduceBNe, bne_self_eq_false, beq_self_eq_true, hdb, hix, hlob, hhi, hbig, hw]; exact Ev.pure
  · have hdb : decide (i < (t.length : Int)) = false := by simpa using hd
    left
    cases hc : (big || (decide (v ≥ 9223372036854775808))) with
    | true =>
      refine ⟨(0, 2), ?_, by simp⟩
      simp only; simp only [look_eq, Tok_eq, is_eq, takes_eq, takes_bad, wants_eq, wants_bad, name_eq, name_bad, Is_eq, Says_eq, Option.bind_some, Option.map_some, joinK, Bool.not_true, Bool.not_false, Bool.false_eq_true, Bool.or_true, Bool.true_or, Bool.false_or, Bool.or_false, Bool.and_true, Bool.and_false, Bool.true_and, Bool.false_and, ↓reduceIte, if_true, if_false, eq_self, Int.reduceBEq, Int.reduceBNe, bne_self_eq_false, beq_self_eq_true, hdb, hc]; exact Ev.pure
    | false =>
      refine ⟨(IntKind.i64.wrap v, 0), ?_, ?_⟩
      · simp only; simp only [look_eq, Tok_eq, is_eq, takes_eq, takes_bad, wants_eq, wants_bad, name_eq, name_bad, Is_eq, Says_eq, Option.bind_some, Option.map_some, joinK, Bool.not_true, Bool.not_false, Bool.false_eq_true, Bool.or_true, Bool.true_or, Bool.false_or, Bool.or_false, Bool.and_true, Bool.and_false, Bool.true_and, Bool.false_and, ↓reduceIte, if_true, if_false, eq_self, Int.reduceBEq, Int.reduceBNe, bne_self_eq_false, beq_self_eq_true, hdb, hc]; exact Ev.pure
      · simp at hc
        rw [wrap64_id (by omega) (by omega)]; exact hv
end Go.Proofs.YtbhncegmohnfhaaDoor.F
