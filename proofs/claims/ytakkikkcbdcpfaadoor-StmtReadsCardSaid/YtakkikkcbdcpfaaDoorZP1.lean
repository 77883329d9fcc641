/- The plain law. No condition. -/
import Derived.Test.YtakkikkcbdcpfaaDoorZP0
import Derived.KernelRfl
set_option linter.unusedVariables false
set_option linter.unusedSimpArgs false
set_option maxRecDepth 100000
set_option maxHeartbeats 4000000
namespace Go.Proofs.YtakkikkcbdcpfaaDoor.F
open Go

theorem scan_to {ρ : Type} {body : Nat → Int → Option (Int ⊕ ρ)} {r : ρ} : ∀ (d i : Nat), (∀ p : Nat, i ≤ p → p < i + d → Ev (fun k => body k (p : Int)) (.inl ((p + 1 : Nat) : Int))) → Ev (fun k => body k ((i + d : Nat) : Int)) (.inr r) → EvL body (i : Int) r
  | 0, i, _, h2 => EvL.done h2
  | d + 1, i, h, h2 => EvL.step (h i (by omega) (by omega)) (scan_to d (i + 1) (fun p a b => h p (by omega) (by omega)) (by rw [show i + 1 + d = i + (d + 1) by omega]; exact h2))
theorem stretch (P : Nat → Bool) (n : Nat) : ∀ (e i : Nat), i + e = n → ∃ d, i + d ≤ n ∧ (∀ p, i ≤ p → p < i + d → P p = true) ∧ (i + d = n ∨ P (i + d) = false)
  | 0, i, h => ⟨0, by omega, fun p a b => by omega, .inl (by omega)⟩
  | e + 1, i, h => by
    cases hp : P i with
    | false => exact ⟨0, by omega, fun p a b => by omega, .inr hp⟩
    | true =>
      obtain ⟨d, h1, h2, h3⟩ := stretch P n e (i + 1) (by omega)
      refine ⟨d + 1, by omega, fun p a b => ?_, ?_⟩
      · by_cases hpi : p = i
        · rw [hpi]; exact hp
        · exact h2 p (by omega) (by omega)
      · rw [show i + (d + 1) = i + 1 + d by omega]; exact h3
def bt (s : List UInt8) (p : Nat) : UInt8 := (s[p]?).getD 0
theorem ix_bt {s : List UInt8} {p : Nat} (h : p < s.length) : ix s (p : Int) = some (bt s p) := by
  rw [ix_nat h]; unfold bt; simp [h]
def cls (a0 : Int) : Int :=
    if (((a0 == 95) || ((decide (a0 ≥ 97)) && (decide (a0 ≤ 122)))) || ((decide (a0 ≥ 65)) && (decide (a0 ≤ 90)))) then 1 else
    if ((decide (a0 ≥ 48)) && (decide (a0 ≤ 57))) then 2 else
    if ((((a0 == 32) || (a0 == 9)) || (a0 == 10)) || (a0 == 13)) then 3 else
    if (a0 == 35) then 4 else 0
theorem class_eq (k : Nat) (a : Int) : ref10_class k a = some (cls a) := by
  unfold ref10_class cls
  repeat' split
  all_goals first | rfl | simp_all
abbrev cl (s : List UInt8) (p : Nat) : Int := cls ((bt s p).toNat : Int)
def isW (s : List UInt8) (p : Nat) : Bool := (cl s p == 1) || (cl s p == 2)
def cut (s : List UInt8) (i d : Nat) : List UInt8 := (s.take (i + d)).drop i
theorem cut_len {s : List UInt8} {i d : Nat} (h : i + d ≤ s.length) : (cut s i d).length = d := by unfold cut; simp; omega
theorem sub_cut {s : List UInt8} {i d : Nat} (h : i + d ≤ s.length) : sub s (i : Int) ((i + d : Nat) : Int) = some (cut s i d) := by
  unfold sub cut
  rw [if_pos ⟨by omega, by omega, by omega⟩]
  rw [Int.toNat_natCast, Int.toNat_natCast]
theorem bt_cut {s : List UInt8} {i d p : Nat} (h : i + d ≤ s.length) (hp : p < d) : bt (cut s i d) p = bt s (i + p) := by
  unfold bt cut
  rw [List.getElem?_drop, List.getElem?_take]
  rw [if_pos (by omega)]
theorem cut_all (s : List UInt8) : cut s 0 s.length = s := by unfold cut; simp
/-- Is it a word of the language? -/
def wordsL : List (List UInt8) := [[114, 101, 99], [105, 115, 111], [102, 117, 110], [109, 101, 114, 103, 101], [109, 97, 105, 110], [118, 97, 114], [105, 102], [101, 108, 115, 101], [119, 104, 105, 108, 101], [114, 101, 116, 117, 114, 110], [102, 111, 114, 107], [106, 111, 105, 110], [112, 114, 105, 110, 116], [110, 101, 119], [98, 121], [105, 110, 116], [98, 111, 111, 108], [114, 101, 118], [116, 114, 117, 101], [102, 97, 108, 115, 101]]
theorem wordsL_eq (k : Nat) : ref09_All k = some wordsL := rfl
theorem wordsL_len : wordsL.length = 20 := rfl
theorem is_ex (t : List UInt8) : ∃ b, Ev (fun k => ref09_Is k t) b := by
  have h : ∃ r, EvL (σ := Int) (ρ := Bool) (fun k (l1_4 : Int) =>
    if (decide (l1_4 < ((wordsL.length : Int)))) then
    (ix wordsL l1_4).bind fun x5_2 =>
    if (x5_2 == t) then
    some (.inr true)
    else
    some (.inl (IntKind.i64.wrap (l1_4 + 1)))
    else
    (some false).map .inr) 0 r ∧ True := by
    refine loop_ex (fun i => 0 ≤ i ∧ i ≤ 20) (fun i => (20 - i).toNat) (fun _ => True) ?_ 0 (by omega)
    intro i hi
    have hlen := wordsL_len
    by_cases h20 : i < 20
    · obtain ⟨y, hy⟩ : ∃ y, ix wordsL i = some y := by
        refine ⟨wordsL[i.toNat]'(by omega), ?_⟩
        unfold ix; rw [if_pos hi.1]; exact List.getElem?_eq_getElem (by omega)
      have hd : decide (i < (wordsL.length : Int)) = true := by simp; omega
      cases hyt : (y == t) with
      | true => exact .inl ⟨true, Ev.ite_t hd (Ev.bindS (fun _ => hy) (Ev.ite_t hyt Ev.pure)), trivial⟩
      | false => exact .inr ⟨i + 1, Ev.ite_t hd (Ev.bindS (fun _ => hy) (Ev.ite_f hyt (Ev.of fun _ => by rw [wrap64_id (by omega) (by omega)]))), by omega, by omega⟩
    · exact .inl ⟨false, Ev.ite_f (by simp; omega) (Ev.of fun _ => rfl), trivial⟩
  obtain ⟨r, h, _⟩ := h
  exact ⟨r, Ev.bindS (x := wordsL) (fun _ => rfl) (Ev.joinK (Ev.loop h))⟩
/-- A word, read. -/
theorem word_one {s : List UInt8} {i d : Nat} (hl : s.length ≤ 16384) (hd : 1 ≤ d) (h : i + d ≤ s.length) (hc : cl s i = 1) (hall : ∀ p, i ≤ p → p < i + d → isW s p = true) (hend : i + d = s.length ∨ isW s (i + d) = false) {b : Bool} (hb : Ev (fun k => ref09_Is k (cut s i d)) b) :
    Ev (fun k => ref10_one k s (i : Int)) (⟨if b then 3 else 1, i, 0, cut s i d⟩, if 32 < d then 3 else 0) := by
  unfold ref10_one
  simp only [class_eq]
  refine Ev.bindS (fun _ => ix_bt (by omega)) ?_
  simp only [qe, Option.bind_some, Option.map_some, joinK, qb, ↓reduceIte, if_true, if_false, eq_self, Int.reduceBEq, Int.reduceBNe, hc]
  refine Ev.loop (scan_to d i (fun p h1 h2 => ?_) ?_)
  · have hw := hall p h1 h2
    have hp : decide ((p : Int) < (s.length : Int)) = true := by simp; omega
    have hwr : IntKind.i64.wrap ((p : Int) + 1) = ((p + 1 : Nat) : Int) := by rw [wrap64_id (by omega) (by omega)]; simp
    unfold isW at hw
    by_cases h1 : cl s p = 1
    · have : (cl s p == 1) = true := by simpa using h1
      simp only [qe, Option.bind_some, Option.map_some, joinK, qb, ↓reduceIte, if_true, if_false, eq_self, Int.reduceBEq, Int.reduceBNe, hp, ix_bt (show p < s.length by omega), this, hwr]; exact Ev.pure
    · have h1b : (cl s p == 1) = false := by simpa using h1
      have h2b : (cl s p == 2) = true := by simpa [h1b] using hw
      simp only [qe, Option.bind_some, Option.map_some, joinK, qb, ↓reduceIte, if_true, if_false, eq_self, Int.reduceBEq, Int.reduceBNe, hp, ix_bt (show p < s.length by omega), h1b, h2b, hwr]; exact Ev.pure
  · have fin : ∀ {σ : Type}, Ev (fun k => Option.map (Sum.inr (α := σ)) ((sub s (i : Int) ((i + d : Nat) : Int)).bind fun x6_4 => (ref09_Is k x6_4).bind fun x7_2 => if x7_2 then (if (decide (((x6_4.length : Int)) > 32)) then some ((TToken.mk 3 i 0 x6_4), 3) else some ((TToken.mk 3 i 0 x6_4), (0 : Int))) else (if (decide (((x6_4.length : Int)) > 32)) then some ((TToken.mk 1 i 0 x6_4), 3) else some ((TToken.mk 1 i 0 x6_4), 0)))) (.inr (⟨if b then 3 else 1, i, 0, cut s i d⟩, if 32 < d then 3 else 0)) := by
      intro σ
      refine Ev.map (Ev.bindS (fun _ => sub_cut h) (Ev.bind hb ?_))
      rw [cut_len h]
      refine Ev.of fun _ => ?_
      cases b
      · by_cases h32 : 32 < d
        · rw [if_pos h32]; simp; omega
        · rw [if_neg h32]; simp; omega
      · by_cases h32 : 32 < d
        · rw [if_pos h32]; simp; omega
        · rw [if_neg h32]; simp; omega
    rcases hend with he | he
    · have hp : decide (((i + d : Nat) : Int) < (s.length : Int)) = false := by simp; omega
      simp only [qe, Option.bind_some, Option.map_some, joinK, qb, ↓reduceIte, if_true, if_false, eq_self, Int.reduceBEq, Int.reduceBNe, hp]; exact fin
    · by_cases he2 : i + d = s.length
      · have hp : decide (((i + d : Nat) : Int) < (s.length : Int)) = false := by simp; omega
        simp only [qe, Option.bind_some, Option.map_some, joinK, qb, ↓reduceIte, if_true, if_false, eq_self, Int.reduceBEq, Int.reduceBNe, hp]; exact fin
      · have hp : decide (((i + d : Nat) : Int) < (s.length : Int)) = true := by simp; omega
        unfold isW at he
        have h1b : (cl s (i + d) == 1) = false := by
          cases hx : (cl s (i + d) == 1) with
          | false => rfl
          | true => rw [hx] at he; cases he
        have h2b : (cl s (i + d) == 2) = false := by simpa [h1b] using he
        simp only [qe, Option.bind_some, Option.map_some, joinK, qb, ↓reduceIte, if_true, if_false, eq_self, Int.reduceBEq, Int.reduceBNe, hp, ix_bt (show i + d < s.length by omega), h1b, h2b]; exact fin
end Go.Proofs.YtakkikkcbdcpfaaDoor.F
namespace Go.Proofs.YtakkikkcbdcpfaaDoor.F
open Go

def allB (k : Nat) (s : List UInt8) (st : List TToken × Int) : Option ((List TToken × Int) ⊕ (List TToken × Int × Int)) :=
  match st with
  | (l1_5, l1_6) =>
    if (decide (l1_6 < ((s.length : Int)))) then
    (ix s l1_6).bind fun x6_2 =>
    (ref10_class k (x6_2.toNat : Int)).bind fun x6_3 =>
    if (x6_3 == 3) then
    some (.inl (l1_5, (IntKind.i64.wrap (l1_6 + 1))))
    else
    if (x6_3 == 4) then
    joinK (fun (j2_6 : Int) =>
    some (.inl (l1_5, j2_6))) fun j_j2 =>
    loopM k (fun (l3_6 : Int) =>
    joinK (fun (g10_9_36 : Bool) =>
    if g10_9_36 then
    some (.inl (IntKind.i64.wrap (l3_6 + 1)))
    else
    (j_j2 l3_6).map .inr) fun j_g10_9 =>
    if (decide (l3_6 < ((s.length : Int)))) then
    (ix s l3_6).bind fun x10_7 =>
    j_g10_9 ((x10_7.toNat : Int) != 10)
    else
    j_g10_9 false) l1_6
    else
    (ref10_one k s l1_6).bind fun (x12_2_0, x12_2_1) =>
    if (x12_2_1 != 0) then
    some (.inr ([], l1_6, x12_2_1))
    else
    if (room 40 (l1_5.length + [x12_2_0].length)) then
    some (.inl ((l1_5 ++ [x12_2_0]), (IntKind.i64.wrap (l1_6 + ((x12_2_0.Text.length : Int))))))
    else none
    else
    (if (room 40 (l1_5.length + [(TToken.mk 0 ((s.length : Int)) 0 [])].length)) then
    some ((l1_5 ++ [(TToken.mk 0 ((s.length : Int)) 0 [])]), (0 : Int), (0 : Int))
    else none).map .inr
theorem all_eq (k : Nat) (s : List UInt8) (h : s.length ≤ 16384) : ref10_All k s = loopM k (allB k s) ([], 0) := by
  unfold ref10_All
  rw [if_neg (by simp; omega)]
  rfl
theorem all_long (k : Nat) (s : List UInt8) (h : 16384 < s.length) : ref10_All k s = some ([], 16384, 3) := by
  unfold ref10_All
  rw [if_pos (by simp; omega)]
/-- Where a token begins. -/
theorem allB_one {s : List UInt8} {i : Nat} {out : List TToken} {t : TToken} {e : Int} (hi : i < s.length) (h3 : cl s i ≠ 3) (h4 : cl s i ≠ 4) (h : Ev (fun k => ref10_one k s i) (t, e)) {x : (List TToken × Int) ⊕ (List TToken × Int × Int)}
    (hx : (if (e != 0) then some (.inr ([], (i : Int), e)) else if (room 40 (out.length + [t].length)) then some (.inl ((out ++ [t]), (IntKind.i64.wrap ((i : Int) + ((t.Text.length : Int)))))) else none) = some x) : Ev (fun k => allB k s (out, (i : Int))) x := by
  have hd : decide ((i : Int) < (s.length : Int)) = true := by simp; omega
  have h3b : (cl s i == 3) = false := by simpa using h3
  have h4b : (cl s i == 4) = false := by simpa using h4
  simp only [allB, class_eq]
  refine Ev.ite_t hd (Ev.bindS (fun _ => ix_bt hi) (Ev.bindS (fun _ => rfl) (Ev.ite_f h3b (Ev.ite_f h4b ?_))))
  refine Ev.bind h ?_
  exact Ev.of fun _ => hx
theorem allB_end {s : List UInt8} {out : List TToken} (h : out.length ≤ 100000) : Ev (fun k => allB k s (out, (s.length : Int))) (.inr (out ++ [⟨0, s.length, 0, []⟩], 0, 0)) := by
  have hd : decide ((s.length : Int) < (s.length : Int)) = false := by simp
  have hr : room 40 (out.length + [(TToken.mk 0 ((s.length : Int)) 0 [])].length) = true := room_of (by omega) (by simp; omega)
  simp only [allB]
  simp only [qe, Option.bind_some, Option.map_some, joinK, qb, ↓reduceIte, if_true, if_false, eq_self, Int.reduceBEq, Int.reduceBNe, hd, hr]; exact Ev.pure
/-- A word that is none of the language's, and not too long: it reads back. -/
theorem named_of {t : List UInt8} (h1 : 1 ≤ t.length) (h32 : t.length ≤ 32) (hc : cl t 0 = 1) (hall : ∀ p, p < t.length → isW t p = true) (hb : Ev (fun k => ref09_Is k t) false) : Nm t := by
  have ho : Ev (fun k => ref10_one k t (0 : Nat)) (⟨1, 0, 0, t⟩, 0) := by
    have := word_one (s := t) (i := 0) (d := t.length) (by omega) h1 (by omega) hc (fun p _ h => hall p (by omega)) (.inl (by omega)) (b := false) (by rw [cut_all]; exact hb)
    rw [cut_all, if_neg (c := 32 < t.length) (by omega)] at this
    simpa using this
  have ha : Ev (fun k => ref10_All k t) ([⟨1, 0, 0, t⟩, ⟨0, t.length, 0, []⟩], 0, 0) := by
    refine Ev.congr (fun k => all_eq k t (by omega)) (Ev.loop (EvL.step (s' := ([⟨1, 0, 0, t⟩], (t.length : Int))) ?_ (EvL.done (allB_end (by simp)))))
    refine allB_one (out := []) (i := 0) (by omega) (by omega) (by omega) ho ?_
    rw [if_neg (by simp), if_pos (room_of (by omega) (by simp)), wrap64_id (by simp <;> omega) (by simp <;> omega)]
    simp
  refine Ev.bind ha ?_
  simp only [qe, Option.bind_some, Option.map_some, joinK, qb, ↓reduceIte, if_true, if_false, eq_self, Int.reduceBEq, Int.reduceBNe, show decide (0 < 1) = true from rfl]
  refine Ev.ite_t rfl (Ev.bindS (fun _ => rfl) (Ev.ite_t rfl (Ev.bindS (fun _ => rfl) ?_)))
  simp only [qe, Option.bind_some, Option.map_some, joinK, qb, ↓reduceIte, if_true, if_false, eq_self, Int.reduceBEq, Int.reduceBNe]; exact Ev.pure

/-! ### numbers -/
theorem u64_nn (x : Int) : 0 ≤ IntKind.u64.wrap x := by
  simp only [IntKind.wrap, IntKind.bits, IntKind.signed]
  simp
  omega
theorem read_ex (t : List UInt8) (hl : t.length ≤ 16384) : ∃ r : Int × Int, Ev (fun k => ref01_Read k t) r ∧ 0 ≤ r.1 := by
  unfold ref01_Read
  by_cases h0 : (t == []) = true
  · exact ⟨(0, 1), Ev.ite_t h0 Ev.pure, by simp⟩
  have h0 : (t == []) = false := by simpa using h0
  have := loop_ex (σ := Int × Bool × Int) (ρ := Int × Int) (body := fun k (s : Int × Bool × Int) => match s with
    | (l1_4, l1_5, l1_6) =>
      if (decide (l1_6 < ((t.length : Int)))) then
      joinK (fun ((j2_4, j2_5) : Int × Bool) =>
      some (.inl (j2_4, j2_5, (IntKind.i64.wrap (l1_6 + 1))))) fun j_j2 =>
      (ix t l1_6).bind fun x8_2 =>
      joinK (fun (g8_9_24 : Bool) =>
      if g8_9_24 then
      some (.inr (0, 1))
      else
      joinK (fun (j3_5 : Bool) =>
      if (!j3_5) then
      (ix t l1_6).bind fun x13_4 =>
      j_j2 ((IntKind.u64.wrap ((IntKind.u64.wrap (10 * l1_4)) + (IntKind.u64.wrap (IntKind.u8.wrap ((x13_4.toNat : Int) - 48))))), j3_5)
      else
      j_j2 (l1_4, j3_5)) fun j_j3 =>
      if (decide (l1_4 > 1000000000000000000)) then
      j_j3 true
      else
      j_j3 l1_5) fun j_g8_9 =>
      if (decide ((x8_2.toNat : Int) < 48)) then
      j_g8_9 true
      else
      (ix t l1_6).bind fun x8_7 =>
      j_g8_9 (decide ((x8_7.toNat : Int) > 57))
      else
      (if (l1_5 || (decide (l1_4 ≥ 9223372036854775808))) then
      some (0, 2)
      else
      some ((IntKind.i64.wrap l1_4), 0)).map .inr)
    (fun s => 0 ≤ s.1 ∧ 0 ≤ s.2.2 ∧ s.2.2 ≤ t.length) (fun s => (t.length - s.2.2).toNat) (fun r => 0 ≤ r.1) ?_ (0, false, 0) (by simp)
  · obtain ⟨r, h1, h2⟩ := this
    exact ⟨r, Ev.ite_f h0 (Ev.joinK (Ev.loop h1)), h2⟩
  rintro ⟨v, big, i⟩ ⟨hv, hi0, hil⟩
  simp only at hv hi0 hil
  by_cases hd : i < t.length
  · have hdb : decide (i < (t.length : Int)) = true := by simpa using hd
    obtain ⟨p, rfl⟩ : ∃ p : Nat, i = p := ⟨i.toNat, by omega⟩
    have hix : ix t (p : Int) = some (bt t p) := ix_bt (by omega)
    have hw : IntKind.i64.wrap ((p : Int) + 1) = (p : Int) + 1 := wrap64_id (by omega) (by omega)
    by_cases hlo : ((bt t p).toNat : Int) < 48
    · refine .inl ⟨(0, 1), ?_, by simp⟩
      have hlob : decide (((bt t p).toNat : Int) < 48) = true := by simpa using hlo
      simp only; simp only [qe, Option.bind_some, Option.map_some, joinK, qb, ↓reduceIte, if_true, if_false, eq_self, Int.reduceBEq, Int.reduceBNe, hdb, hix, hlob]; exact Ev.pure
    · have hlob : decide (((bt t p).toNat : Int) < 48) = false := by simpa using hlo
      cases hhi : decide (((bt t p).toNat : Int) > 57) with
      | true =>
        refine .inl ⟨(0, 1), ?_, by simp⟩
        simp only; simp only [qe, Option.bind_some, Option.map_some, joinK, qb, ↓reduceIte, if_true, if_false, eq_self, Int.reduceBEq, Int.reduceBNe, hdb, hix, hlob, hhi]; exact Ev.pure
      | false =>
        right
        cases hbig : decide (v > 1000000000000000000) with
        | true =>
          refine ⟨(v, true, (p : Int) + 1), ?_, ⟨hv, by simp; omega, by simp; omega⟩, by simp; omega⟩
          simp only; simp only [qe, Option.bind_some, Option.map_some, joinK, qb, ↓reduceIte, if_true, if_false, eq_self, Int.reduceBEq, Int.reduceBNe, hdb, hix, hlob, hhi, hbig, hw]; exact Ev.pure
        | false =>
          cases big with
          | true =>
            refine ⟨(v, true, (p : Int) + 1), ?_, ⟨hv, by simp; omega, by simp; omega⟩, by simp; omega⟩
            simp only; simp only [qe, Option.bind_some, Option.map_some, joinK, qb, ↓reduceIte, if_true, if_false, eq_self, Int.reduceBEq, Int.reduceBNe, hdb, hix, hlob, hhi, hbig, hw]; exact Ev.pure
          | false =>
            refine ⟨(IntKind.u64.wrap ((IntKind.u64.wrap (10 * v)) + (IntKind.u64.wrap (IntKind.u8.wrap (((bt t p).toNat : Int) - 48)))), false, (p : Int) + 1), ?_, ⟨u64_nn _, by simp; omega, by simp; omega⟩, by simp; omega⟩
            simp only; simp only [qe, Option.bind_some, Option.map_some, joinK, qb, ↓reduceIte, if_true, if_false, eq_self, Int.reduceBEq, Int.reduceBNe, hdb, hix, hlob, hhi, hbig, hw]; exact Ev.pure
  · have hdb : decide (i < (t.length : Int)) = false := by simpa using hd
    left
    cases hc : (big || (decide (v ≥ 9223372036854775808))) with
    | true =>
      refine ⟨(0, 2), ?_, by simp⟩
      simp only; simp only [qe, Option.bind_some, Option.map_some, joinK, qb, ↓reduceIte, if_true, if_false, eq_self, Int.reduceBEq, Int.reduceBNe, hdb, hc]; exact Ev.pure
    | false =>
      refine ⟨(IntKind.i64.wrap v, 0), ?_, ?_⟩
      · simp only; simp only [qe, Option.bind_some, Option.map_some, joinK, qb, ↓reduceIte, if_true, if_false, eq_self, Int.reduceBEq, Int.reduceBNe, hdb, hc]; exact Ev.pure
      · simp at hc
        rw [wrap64_id (by omega) (by omega)]; exact hv
end Go.Proofs.YtakkikkcbdcpfaaDoor.F
namespace Go.Proofs.YtakkikkcbdcpfaaDoor.F
open Go

def markB (t : List UInt8) (L : List (List UInt8)) (k : Nat) (s : List UInt8 × Int) : Option ((List UInt8 × Int) ⊕ List UInt8) :=
  match s with
  | (l3_5, l3_6) =>
    if (decide (l3_6 < ((L.length : Int)))) then
    joinK (fun (j4_5 : List UInt8) =>
    some (.inl (j4_5, (IntKind.i64.wrap (l3_6 + 1))))) fun j_j4 =>
    (ix L l3_6).bind fun x10_2 =>
    joinK (fun (g10_21_44 : Bool) =>
    joinK (fun (g10_31_54 : Bool) =>
    if g10_31_54 then
    (ix L l3_6).bind fun x11_2 =>
    j_j4 x11_2
    else
    j_j4 l3_5) fun j_g10_31 =>
    if g10_21_44 then
    (ix L l3_6).bind fun x10_25 =>
    j_g10_31 (decide (((x10_25.length : Int)) > ((l3_5.length : Int))))
    else
    j_g10_31 false) fun j_g10_21 =>
    if (decide (((x10_2.length : Int)) ≤ ((t.length : Int)))) then
    (ix L l3_6).bind fun x10_12 =>
    (sub t 0 (x10_12.length : Int)).bind fun x10_15 =>
    (ix L l3_6).bind fun x10_18 =>
    j_g10_21 (x10_15 == x10_18)
    else
    j_g10_21 false
    else
    (some l3_5).map .inr
def marks0 : List (List UInt8) := [[40], [41], [123], [125], [91], [93], [44], [59], [46], [61]]
def markA (t : List UInt8) (k : Nat) (s : List (List UInt8) × Int) : Option ((List (List UInt8) × Int) ⊕ List UInt8) :=
  match s with
  | (l1_3, l1_4) =>
    if (decide (l1_4 ≤ 14)) then
    (ref09_Spell k l1_4).bind fun x5_2 =>
    if (room 16 (l1_3.length + [x5_2].length)) then
    some (.inl ((l1_3 ++ [x5_2]), (IntKind.i64.wrap (l1_4 + 1))))
    else none
    else
    (loopM k (markB t l1_3 k) ([], 0)).map .inr
theorem mark_eq (k : Nat) (t : List UInt8) : ref09_Mark k t = loopM k (markA t k) (marks0, 1) := rfl
theorem marks_add (t : List UInt8) : ∀ (d n : Nat) (L : List (List UInt8)), n + d = 15 → 1 ≤ n → L.length = n + 9 → ∀ {r : List UInt8}, EvL (markB t (L ++ spells.drop (n - 1))) ([], 0) r → EvL (markA t) (L, (n : Int)) r
  | 0, n, L, e, h1, hl, r, h => by
    have e : n = 15 := by omega
    subst e
    refine EvL.done ?_
    simp only [markA]
    refine Ev.ite_f (by simp) (Ev.map (Ev.loop ?_))
    simpa [spells] using h
  | d + 1, n, L, e, h1, hl, r, h => by
    obtain ⟨x, hx⟩ : ∃ x, spells[n - 1]? = some x := ⟨_, List.getElem?_eq_getElem (by simp [spells]; omega)⟩
    have hdr : spells.drop (n - 1) = x :: spells.drop n := by
      have h2 := (List.getElem?_eq_some_iff.1 hx)
      rw [List.drop_eq_getElem_cons h2.1, h2.2, show n - 1 + 1 = n by omega]
    refine EvL.step (s' := (L ++ [x], ((n + 1 : Nat) : Int))) ?_ (marks_add t d (n + 1) (L ++ [x]) (by omega) (by omega) (by simp; omega) ?_)
    · have hr : room 16 (L.length + [x].length) = true := room_of (by omega) (by simp; omega)
      have hw : IntKind.i64.wrap ((n : Int) + 1) = ((n + 1 : Nat) : Int) := by rw [wrap64_id (by omega) (by omega)]; simp
      simp only [markA]
      refine Ev.ite_t (by simp; omega) (Ev.bindS (spell_at n h1 (by omega) hx) ?_)
      simp only [qe, Option.bind_some, Option.map_some, joinK, qb, ↓reduceIte, if_true, if_false, eq_self, Int.reduceBEq, Int.reduceBNe, hr, hw]; exact Ev.pure
    · rw [show n + 1 - 1 = n by omega]
      rw [hdr] at h
      simpa using h
def marksL : List (List UInt8) := marks0 ++ spells
theorem mark_ex (t : List UInt8) : ∃ r, Ev (fun k => ref09_Mark k t) r ∧ r.length ≤ t.length := by
  obtain ⟨r, h1, h2⟩ := loop_ex (body := markB t marksL) (fun s => 0 ≤ s.2 ∧ s.2 ≤ marksL.length ∧ s.1.length ≤ t.length) (fun s => (marksL.length - s.2).toNat) (fun r => r.length ≤ t.length) (by
    have hlen : marksL.length = 24 := rfl
    rintro ⟨best, i⟩ ⟨hi0, hil, hb⟩
    simp only at hi0 hil hb
    by_cases hd : i < marksL.length
    · right
      have hdb : decide (i < (marksL.length : Int)) = true := by simpa using hd
      obtain ⟨m, hm⟩ : ∃ m, ix marksL i = some m := by
        refine ⟨marksL[i.toNat]'(by omega), ?_⟩
        unfold ix; rw [if_pos hi0]; exact List.getElem?_eq_getElem (by omega)
      have hw : IntKind.i64.wrap (i + 1) = i + 1 := wrap64_id (by omega) (by omega)
      cases hle : decide ((m.length : Int) ≤ (t.length : Int)) with
      | false =>
        refine ⟨(best, i + 1), ?_, ⟨by simp; omega, by simp; omega, hb⟩, by simp; omega⟩
        simp only [markB]; simp only [qe, Option.bind_some, Option.map_some, joinK, qb, ↓reduceIte, if_true, if_false, eq_self, Int.reduceBEq, Int.reduceBNe, hdb, hm, hle, hw]; exact Ev.pure
      | true =>
        have hle' : m.length ≤ t.length := by simpa using hle
        have hs : sub t 0 (m.length : Int) = some (t.take m.length) := by
          unfold sub
          rw [if_pos ⟨by omega, by omega, by omega⟩]; simp
        cases heq : (t.take m.length == m) with
        | false =>
          refine ⟨(best, i + 1), ?_, ⟨by simp; omega, by simp; omega, hb⟩, by simp; omega⟩
          simp only [markB]; simp only [qe, Option.bind_some, Option.map_some, joinK, qb, ↓reduceIte, if_true, if_false, eq_self, Int.reduceBEq, Int.reduceBNe, hdb, hm, hle, hs, heq, hw]; exact Ev.pure
        | true =>
          cases hgt : decide ((m.length : Int) > (best.length : Int)) with
          | false =>
            refine ⟨(best, i + 1), ?_, ⟨by simp; omega, by simp; omega, hb⟩, by simp; omega⟩
            simp only [markB]; simp only [qe, Option.bind_some, Option.map_some, joinK, qb, ↓reduceIte, if_true, if_false, eq_self, Int.reduceBEq, Int.reduceBNe, hdb, hm, hle, hs, heq, hgt, hw]; exact Ev.pure
          | true =>
            refine ⟨(m, i + 1), ?_, ⟨by simp; omega, by simp; omega, hle'⟩, by simp; omega⟩
            simp only [markB]; simp only [qe, Option.bind_some, Option.map_some, joinK, qb, ↓reduceIte, if_true, if_false, eq_self, Int.reduceBEq, Int.reduceBNe, hdb, hm, hle, hs, heq, hgt, hw]; exact Ev.pure
    · have hdb : decide (i < (marksL.length : Int)) = false := by simpa using hd
      left
      refine ⟨best, ?_, hb⟩
      simp only [markB]; simp only [qe, Option.bind_some, Option.map_some, joinK, qb, ↓reduceIte, if_true, if_false, eq_self, Int.reduceBEq, Int.reduceBNe, hdb]; exact Ev.pure) ([], 0) (by simp)
  refine ⟨r, Ev.congr (fun k => mark_eq k t) (Ev.loop (marks_add t 14 1 marks0 (by omega) (by omega) rfl ?_)), h2⟩
  exact h1
/-- What one reading gives. -/
theorem one_ex {s : List UInt8} (hl : s.length ≤ 16384) {i : Nat} (hi : i < s.length) : ∃ t e, Ev (fun k => ref10_one k s (i : Int)) (t, e) ∧ (e = 0 → 1 ≤ t.Text.length ∧ i + t.Text.length ≤ s.length ∧ (t.Kind = 1 → Nm t.Text) ∧ (t.Kind = 2 → 0 ≤ t.N)) := by
  by_cases h1 : cl s i = 1
  · obtain ⟨d, d1, d2, d3⟩ := stretch (isW s) s.length (s.length - i) i (by omega)
    have hd : 1 ≤ d := by
      rcases Nat.eq_zero_or_pos d with h | h
      · subst h
        rcases d3 with h | h
        · omega
        · unfold isW at h; simp only [Nat.add_zero] at h; rw [h1] at h; simp at h
      · exact h
    obtain ⟨b, hb⟩ := is_ex (cut s i d)
    refine ⟨_, _, word_one hl hd d1 h1 d2 d3 hb, fun he => ?_⟩
    have h32 : d ≤ 32 := by
      by_cases h : 32 < d
      · rw [if_pos h] at he; simp at he
      · omega
    have hcl := cut_len d1
    refine ⟨by simp only [hcl]; omega, by simp only [hcl]; omega, fun hk => ?_, fun hk => ?_⟩
    · cases b with
      | true => simp at hk
      | false =>
        refine named_of (by simp only [hcl]; omega) (by simp only [hcl]; omega) ?_ (fun p hp => ?_) hb
        · have : bt (cut s i d) 0 = bt s i := by rw [bt_cut d1 (by omega)]; rfl
          unfold cl; rw [this]; exact h1
        · simp only [hcl] at hp
          have hx := d2 (i + p) (by omega) (by omega)
          unfold isW cl at hx ⊢
          simp only [bt_cut d1 hp]; exact hx
    · cases b <;> simp at hk
  have h1b : (cl s i == 1) = false := by simpa using h1
  by_cases h2 : cl s i = 2
  · have h2b : (cl s i == 2) = true := by simpa using h2
    obtain ⟨d, d1, d2, d3⟩ := stretch (fun p => cl s p == 2) s.length (s.length - i) i (by omega)
    have hd : 1 ≤ d := by
      rcases Nat.eq_zero_or_pos d with h | h
      · subst h
        rcases d3 with h | h
        · omega
        · simp only [Nat.add_zero] at h; rw [h2b] at h; cases h
      · exact h
    have hcl := cut_len d1
    obtain ⟨⟨v, e⟩, r1, r2⟩ := read_ex (cut s i d) (by omega)
    refine ⟨⟨2, i, v, cut s i d⟩, e, ?_, fun he => ⟨by simp only [hcl]; omega, by simp only [hcl]; omega, fun hk => by simp at hk, fun _ => r2⟩⟩
    unfold ref10_one
    simp only [class_eq]
    refine Ev.bindS (fun _ => ix_bt (by omega)) ?_
    simp only [qe, Option.bind_some, Option.map_some, joinK, qb, ↓reduceIte, if_true, if_false, eq_self, Int.reduceBEq, Int.reduceBNe, h1b, h2b]
    refine Ev.loop (scan_to d i (fun p q1 q2 => ?_) ?_)
    · have hw := d2 p q1 q2
      have hp : decide ((p : Int) < (s.length : Int)) = true := by simp; omega
      have hwr : IntKind.i64.wrap ((p : Int) + 1) = ((p + 1 : Nat) : Int) := by rw [wrap64_id (by omega) (by omega)]; simp
      simp only [qe, Option.bind_some, Option.map_some, joinK, qb, ↓reduceIte, if_true, if_false, eq_self, Int.reduceBEq, Int.reduceBNe, hp, ix_bt (show p < s.length by omega), hw, hwr]; exact Ev.pure
    · have fin : ∀ {σ : Type}, Ev (fun k => Option.map (Sum.inr (α := σ)) ((sub s (i : Int) ((i + d : Nat) : Int)).bind fun x => (ref01_Read k x).bind fun y => (sub s (i : Int) ((i + d : Nat) : Int)).bind fun z => some (TToken.mk 2 i y.1 z, y.2))) (.inr (⟨2, i, v, cut s i d⟩, e)) := by
        intro σ
        exact Ev.map (Ev.bindS (fun _ => sub_cut d1) (Ev.bind r1 (Ev.bindS (fun _ => sub_cut d1) Ev.pure)))
      by_cases he2 : i + d = s.length
      · have hp : decide (((i + d : Nat) : Int) < (s.length : Int)) = false := by simp; omega
        simp only [qe, Option.bind_some, Option.map_some, joinK, qb, ↓reduceIte, if_true, if_false, eq_self, Int.reduceBEq, Int.reduceBNe, hp]; exact fin
      · have hp : decide (((i + d : Nat) : Int) < (s.length : Int)) = true := by simp; omega
        have he : (cl s (i + d) == 2) = false := by
          rcases d3 with h | h
          · exact (he2 h).elim
          · exact h
        simp only [qe, Option.bind_some, Option.map_some, joinK, qb, ↓reduceIte, if_true, if_false, eq_self, Int.reduceBEq, Int.reduceBNe, hp, ix_bt (show i + d < s.length by omega), he]; exact fin
  have h2b : (cl s i == 2) = false := by simpa using h2
  have hwr : IntKind.i64.wrap ((i : Int) + 2) = (i : Int) + 2 := wrap64_id (by omega) (by omega)
  obtain ⟨d, hd1, hd2, hm⟩ : ∃ d, 1 ≤ d ∧ i + d ≤ s.length ∧ mn ((i : Int) + 2) (s.length : Int) = ((i + d : Nat) : Int) := by
    refine ⟨min 2 (s.length - i), by omega, by omega, ?_⟩
    rw [mn_eq]; omega
  have hcl := cut_len hd2
  obtain ⟨r, r1, r2⟩ := mark_ex (cut s i d)
  cases hr : (r == []) with
  | true =>
    refine ⟨⟨0, i, 0, []⟩, 1, ?_, fun he => by simp at he⟩
    unfold ref10_one
    simp only [class_eq]
    refine Ev.bindS (fun _ => ix_bt (by omega)) ?_
    simp only [qe, Option.bind_some, Option.map_some, joinK, qb, ↓reduceIte, if_true, if_false, eq_self, Int.reduceBEq, Int.reduceBNe, h1b, h2b, hwr, hm]
    refine Ev.bindS (fun _ => sub_cut hd2) (Ev.bind r1 ?_)
    simp only [qe, Option.bind_some, Option.map_some, joinK, qb, ↓reduceIte, if_true, if_false, eq_self, Int.reduceBEq, Int.reduceBNe, hr]; exact Ev.pure
  | false =>
    have hr' : r ≠ [] := by simpa using hr
    refine ⟨⟨4, i, 0, r⟩, 0, ?_, fun he => ⟨?_, ?_, fun hk => by simp at hk, fun hk => by simp at hk⟩⟩
    · unfold ref10_one
      simp only [class_eq]
      refine Ev.bindS (fun _ => ix_bt (by omega)) ?_
      simp only [qe, Option.bind_some, Option.map_some, joinK, qb, ↓reduceIte, if_true, if_false, eq_self, Int.reduceBEq, Int.reduceBNe, h1b, h2b, hwr, hm]
      refine Ev.bindS (fun _ => sub_cut hd2) (Ev.bind r1 ?_)
      simp only [qe, Option.bind_some, Option.map_some, joinK, qb, ↓reduceIte, if_true, if_false, eq_self, Int.reduceBEq, Int.reduceBNe, hr]; exact Ev.pure
    · have := List.length_pos_iff.2 hr'; simp only; omega
    · simp only; omega
/-- A token as it should be. -/
structure TokG (t : TToken) : Prop where
  name : t.Kind = 1 → Nm t.Text
  num : t.Kind = 2 → 0 ≤ t.N
theorem tk_get {l : List TToken} {p : Nat} {t : TToken} (h : l[p]? = some t) : tk l (p : Int) = t := by
  unfold tk
  rw [if_pos (by omega), Int.toNat_natCast, h]; rfl
theorem tk_cases (l : List TToken) (p : Int) : tk l p = ⟨0, 0, 0, []⟩ ∨ ∃ n : Nat, p = n ∧ l[n]? = some (tk l p) := by
  unfold tk
  split
  · rename_i h0
    cases hx : l[p.toNat]? with
    | none => left; rfl
    | some x => right; exact ⟨p.toNat, by omega, by rw [hx]; rfl⟩
  · left; rfl
theorem wf_of {out : List TToken} {n : Int} (hl : out.length ≤ 20000) (hg : ∀ t ∈ out, TokG t) : WF (out ++ [⟨0, n, 0, []⟩]) := by
  have key : ∀ p, TokG (tk (out ++ [⟨0, n, 0, []⟩]) p) := by
    intro p
    rcases tk_cases (out ++ [⟨0, n, 0, []⟩]) p with h | ⟨q, rfl, h⟩
    · rw [h]; exact ⟨fun hk => by simp at hk, fun hk => by simp at hk⟩
    · have := List.mem_of_getElem? h
      rcases List.mem_append.1 this with hx | hx
      · exact hg _ hx
      · simp at hx; rw [hx]; exact ⟨fun hk => by simp at hk, fun hk => by simp at hk⟩
  refine ⟨by simp; omega, fun p hp => ?_, fun p hk => (key p).name hk, fun p hk => (key p).num hk⟩
  have : p = (out.length : Int) := by simp at hp; omega
  rw [this, tk_get (t := ⟨0, n, 0, []⟩) (by simp)]
theorem all_loop {s : List UInt8} (hl : s.length ≤ 16384) : ∃ r, EvL (allB · s) (([] : List TToken), (0 : Int)) r ∧ (r.2.2 = 0 → WF r.1) := by
  refine loop_ex (body := (allB · s)) (fun st => 0 ≤ st.2 ∧ st.2 ≤ s.length ∧ (st.1.length : Int) ≤ st.2 ∧ ∀ t ∈ st.1, TokG t) (fun st => (s.length - st.2).toNat) (fun r => r.2.2 = 0 → WF r.1) ?_ ([], 0) (by simp)
  rintro ⟨out, i⟩ ⟨hi0, hil, ho, hg⟩
  simp only at hi0 hil ho hg
  obtain ⟨i, rfl⟩ : ∃ n : Nat, i = n := ⟨i.toNat, by omega⟩
  by_cases hd : i < s.length
  · have hdb : decide ((i : Int) < (s.length : Int)) = true := by simpa using hd
    have hw : IntKind.i64.wrap ((i : Int) + 1) = (i : Int) + 1 := wrap64_id (by omega) (by omega)
    by_cases h3 : cl s i = 3
    · right
      have h3b : (cl s i == 3) = true := by simpa using h3
      refine ⟨(out, (i : Int) + 1), ?_, ⟨by simp; omega, by simp; omega, by simp; omega, hg⟩, by simp; omega⟩
      simp only [allB, class_eq]; simp only [qe, Option.bind_some, Option.map_some, joinK, qb, ↓reduceIte, if_true, if_false, eq_self, Int.reduceBEq, Int.reduceBNe, hdb, ix_bt hd, h3b, hw]; exact Ev.pure
    have h3b : (cl s i == 3) = false := by simpa using h3
    by_cases h4 : cl s i = 4
    · right
      have h4b : (cl s i == 4) = true := by simpa using h4
      obtain ⟨d, d1, d2, d3⟩ := stretch (fun p => ((bt s p).toNat : Int) != 10) s.length (s.length - i) i (by omega)
      have hd' : 1 ≤ d := by
        rcases Nat.eq_zero_or_pos d with h | h
        · subst h
          rcases d3 with h | h
          · omega
          · simp only [Nat.add_zero] at h
            have : ((bt s i).toNat : Int) = 10 := by simpa using h
            unfold cl at h4; rw [this] at h4; exact absurd h4 (by decide)
        · exact h
      refine ⟨(out, ((i + d : Nat) : Int)), ?_, ⟨by simp; omega, by simp; omega, by simp; omega, hg⟩, by simp; omega⟩
      simp only [allB, class_eq]; simp only [qe, Option.bind_some, Option.map_some, joinK, qb, ↓reduceIte, if_true, if_false, eq_self, Int.reduceBEq, Int.reduceBNe, hdb, ix_bt hd, h3b, h4b]
      refine Ev.loop (scan_to d i (fun p q1 q2 => ?_) ?_)
      · have hp : decide ((p : Int) < (s.length : Int)) = true := by simp; omega
        have hwr : IntKind.i64.wrap ((p : Int) + 1) = ((p + 1 : Nat) : Int) := by rw [wrap64_id (by omega) (by omega)]; simp
        have hx := d2 p q1 q2
        simp only [qe, Option.bind_some, Option.map_some, joinK, qb, ↓reduceIte, if_true, if_false, eq_self, Int.reduceBEq, Int.reduceBNe, hp, ix_bt (show p < s.length by omega), hx, hwr]; exact Ev.pure
      · by_cases he2 : i + d = s.length
        · have hp : decide (((i + d : Nat) : Int) < (s.length : Int)) = false := by simp; omega
          simp only [qe, Option.bind_some, Option.map_some, joinK, qb, ↓reduceIte, if_true, if_false, eq_self, Int.reduceBEq, Int.reduceBNe, hp]; exact Ev.pure
        · have hp : decide (((i + d : Nat) : Int) < (s.length : Int)) = true := by simp; omega
          have he : (((bt s (i + d)).toNat : Int) != 10) = false := by
            rcases d3 with h | h
            · exact (he2 h).elim
            · exact h
          simp only [qe, Option.bind_some, Option.map_some, joinK, qb, ↓reduceIte, if_true, if_false, eq_self, Int.reduceBEq, Int.reduceBNe, hp, ix_bt (show i + d < s.length by omega), he]; exact Ev.pure
    · obtain ⟨t, e, h1, h2⟩ := one_ex hl hd
      by_cases he : e = 0
      · subst he
        obtain ⟨g1, g2, g3, g4⟩ := h2 rfl
        right
        have hr : room 40 (out.length + [t].length) = true := room_of (by omega) (by simp; omega)
        refine ⟨(out ++ [t], (i : Int) + (t.Text.length : Int)), allB_one hd h3 h4 h1 ?_, ⟨by simp; omega, by simp; omega, by simp; omega, ?_⟩, by simp; omega⟩
        · rw [if_neg (by simp), if_pos hr, wrap64_id (by omega) (by omega)]
        · intro x hx
          rcases List.mem_append.1 hx with hx | hx
          · exact hg x hx
          · simp at hx; subst hx; exact ⟨g3, g4⟩
      · left
        refine ⟨([], (i : Int), e), allB_one hd h3 h4 h1 ?_, fun h => (he h).elim⟩
        rw [if_pos (by simpa using he)]
  · left
    have hi : i = s.length := by omega
    subst hi
    exact ⟨_, allB_end (by omega), fun _ => wf_of (by omega) hg⟩
/-- The lexer answers; what it gives without an error is as it should be. -/
theorem all_ex (s : List UInt8) : ∃ r, Ev (fun k => ref10_All k s) r ∧ (r.2.2 = 0 → WF r.1) := by
  by_cases h : s.length ≤ 16384
  · obtain ⟨r, h1, h2⟩ := all_loop h
    exact ⟨r, Ev.congr (fun k => all_eq k s h) (Ev.loop h1), h2⟩
  · exact ⟨([], 16384, 3), Ev.of (fun k => all_long k s (by omega)), fun h => by simp at h⟩
end Go.Proofs.YtakkikkcbdcpfaaDoor.F
namespace Go.Proofs.YtakkikkcbdcpfaaDoor.F
open Go

theorem eFun_bad (l : List TToken) (a : Int) (s : List UInt8) (p : Int) : ∃ n, Ev (fun k => stmt_cursor_fun_v2 k 53 a 0 s [] l p true) (n, p, true) := by
  obtain ⟨z, hz⟩ := eFun_end l a p s [] (by simp)
  refine ⟨z, Ev.sh 2 ?_⟩
  simp only [eFun_eq]
  simp only [qs, Option.bind_some, Option.map_some, joinK, qb, ↓reduceIte, if_true, if_false, eq_self, Int.reduceBEq, Int.reduceBNe]
  exact (Ev.loop hz).up (n := 2)
theorem eMrg_bad (l : List TToken) (a : Int) (s : List UInt8) (p : Int) : ∃ n, Ev (fun k => stmt_cursor_merge_v2 k 54 a 0 s [] l p true) (n, p, true) := by
  obtain ⟨z, hz⟩ := eMrg_end l a p s 3 0 [] rfl rfl
  exact ⟨z, Ev.congr (fun k => eMrg_eq k l a s p true) (Ev.loop hz)⟩
def dwords : List (List UInt8) := [[114, 101, 99], [105, 115, 111], [102, 117, 110], [109, 101, 114, 103, 101]]
def eDeclB (l : List TToken) (a : Int) (k : Nat) (st : Int × Int) : Option ((Int × Int) ⊕ (TNode × Int × Bool)) :=
  match st with
  | (t, p) =>
    if (decide (t < (dwords.length : Int))) then
    (ix dwords t).bind fun x5_1 =>
    (stmt_cursor_takes k 3 x5_1 l p false).bind fun (x6_2_0, x6_2_1) =>
    if (!x6_2_0) then
    some (.inl ((IntKind.i64.wrap (t + 1)), x6_2_1))
    else
    (stmt_cursor_name k l x6_2_1 false).bind fun (x8_1_0, x8_1_1, x8_1_2, x8_1_3) =>
    if ((IntKind.i64.wrap (51 + t)) == 51) then
    (stmt_cursor_rec_v2 k (IntKind.i64.wrap (51 + t)) a 0 x8_1_0 [] l x8_1_2 x8_1_3).bind fun (x11_2_0, x11_2_1, x11_2_2) =>
    some (.inr (x11_2_0, x11_2_1, x11_2_2))
    else
    if ((IntKind.i64.wrap (51 + t)) == 52) then
    (stmt_cursor_iso_v2 k (IntKind.i64.wrap (51 + t)) a 0 x8_1_0 [] l x8_1_2 x8_1_3).bind fun (x13_2_0, x13_2_1, x13_2_2) =>
    some (.inr (x13_2_0, x13_2_1, x13_2_2))
    else
    if ((IntKind.i64.wrap (51 + t)) == 53) then
    (stmt_cursor_fun_v2 k (IntKind.i64.wrap (51 + t)) a 0 x8_1_0 [] l x8_1_2 x8_1_3).bind fun (x15_2_0, x15_2_1, x15_2_2) =>
    some (.inr (x15_2_0, x15_2_1, x15_2_2))
    else
    (stmt_cursor_merge_v2 k (IntKind.i64.wrap (51 + t)) a 0 x8_1_0 [] l x8_1_2 x8_1_3).bind fun (x16_2_0, x16_2_1, x16_2_2) =>
    some (.inr (x16_2_0, x16_2_1, x16_2_2))
    else
    (some ((TNode.mk 0 a 0 [] []), p, true)).map .inr
theorem eDecl_eq (k : Nat) (l : List TToken) (i : Int) : stmt_cursor_decl k l i false = loopM k (eDeclB l (tk l i).At k) (0, i) := by
  unfold stmt_cursor_decl
  rw [slook_eq]
  rfl
def rDeclJ (l : List TToken) (i : Int) (k : Nat) (q : Int) : Option Tref14_Got :=
    if (q == 4) then
    (ref14_fail k i).bind fun x6_1 =>
    some x6_1
    else
    (ref13_Tok k l (IntKind.i64.wrap (i + 1))).bind fun x7_3 =>
    if (x7_3.Kind != 1) then
    (ref14_fail k (IntKind.i64.wrap (i + 1))).bind fun x9_2 =>
    some x9_2
    else
    (ref13_Tok k l i).bind fun x10_4 =>
    if (q == 0) then
    (ref14_rec_v2 k l (IntKind.i64.wrap (i + 2)) (IntKind.i64.wrap (51 + q)) x10_4.At 0 x7_3.Text []).bind fun x12_4 =>
    some x12_4
    else
    if (q == 1) then
    (ref14_iso k l (IntKind.i64.wrap (i + 2)) (TNode.mk (IntKind.i64.wrap (51 + q)) x10_4.At 0 x7_3.Text [])).bind fun x14_4 =>
    some x14_4
    else
    (ref14_fun_v2 k l (IntKind.i64.wrap (i + 2)) (IntKind.i64.wrap (51 + q)) x10_4.At 0 x7_3.Text []).bind fun x15_4 =>
    some x15_4
def rDeclB (l : List TToken) (i : Int) (k : Nat) (t : Int) : Option (Int ⊕ Tref14_Got) :=
    joinK (fun (g3_11_21 : Bool) =>
    if g3_11_21 then
    some (.inl (IntKind.i64.wrap (t + 1)))
    else
    (rDeclJ l i k t).map .inr) fun j_g3_11 =>
    if (decide (t < 4)) then
    (ix dwords t).bind fun x3_7 =>
    (ref13_Says k l i x3_7).bind fun x3_9 =>
    j_g3_11 (!x3_9)
    else
    j_g3_11 false
theorem rDecl_eq (k : Nat) (l : List TToken) (i : Int) : ref14_Decl k l i = loopM k (rDeclB l i k) 0 := rfl
/-- The word at which the way parts. -/
theorem decl_skip {l : List TToken} {i a : Int} {t : Nat} {w : List UInt8} (ht : t < 4) (hw : ix dwords (t : Int) = some w) (h : isT (tk l i) 3 w = false) :
    Ev (fun k => eDeclB l a k ((t : Int), i)) (.inl (((t + 1 : Nat) : Int), i)) ∧ Ev (fun k => rDeclB l i k (t : Int)) (.inl ((t + 1 : Nat) : Int)) := by
  have h1 : decide ((t : Int) < (dwords.length : Int)) = true := by simp [dwords]; omega
  have h2 : decide ((t : Int) < 4) = true := by simp; omega
  have h3 : IntKind.i64.wrap ((t : Int) + 1) = ((t + 1 : Nat) : Int) := wrap64_id (by omega) (by omega)
  constructor
  · simp only [eDeclB]
    simp only [qs, Option.bind_some, Option.map_some, joinK, qb, ↓reduceIte, if_true, if_false, eq_self, Int.reduceBEq, Int.reduceBNe, h1, hw, h, h3]; exact Ev.pure
  · simp only [rDeclB]
    simp only [qs, Option.bind_some, Option.map_some, joinK, qb, ↓reduceIte, if_true, if_false, eq_self, Int.reduceBEq, Int.reduceBNe, h2, hw, h, h3]; exact Ev.pure
abbrev eDecl (l : List TToken) (i : Int) (k : Nat) := stmt_cursor_decl k l i false
abbrev rDecl (l : List TToken) (i : Int) (k : Nat) := ref14_Decl k l i
/-- What the code and the document do at a word's declaration. -/
theorem decl_hit {l : List TToken} (W : WF l) {i a : Int} {t : Nat} {w : List UInt8} (ht : t < 4) (hw : ix dwords (t : Int) = some w) (h : isT (tk l i) 3 w = true) :
    ∃ n j m ok, Ev (fun k => eDeclB l (tk l i).At k ((t : Int), i)) (.inr (n, j, !ok)) ∧ Ev (fun k => rDeclB l i k (t : Int)) (.inr ⟨m, j, ok⟩) ∧ (ok = true → n = m ∧ i < j ∧ j < l.length ∧ GD m) ∧ (ok = false → m = zN) := by
  have hlen := W.len
  have h1 : decide ((t : Int) < (dwords.length : Int)) = true := by simp [dwords]; omega
  have h2 : decide ((t : Int) < 4) = true := by simp; omega
  have h4 : ((t : Int) == 4) = false := by simp; omega
  obtain ⟨n1, n2, n3⟩ := W.next (i := i) (by rw [(isT_kind h).1]; decide)
  by_cases hn : (tk l (i + 1)).Kind = 1
  · obtain ⟨m1, m2, m3⟩ := W.next (i := i + 1) (by omega)
    have w2 : IntKind.i64.wrap (i + 2) = i + 2 := wrap64_id (by omega) (by omega)
    have a2 : i + 1 + 1 = i + 2 := by omega
    have hs := W.names _ hn
    match t, ht with
    | 0, _ =>
      obtain ⟨x, j, y, ok, e1, e2, e3, e4⟩ := rec_R W (tk l i).At hs (i + 2)
      refine ⟨x, j, y, ok, ?_, ?_, fun h => by obtain ⟨g1, g2, g3, g4⟩ := e3 h; exact ⟨g1, by omega, g3, g4⟩, e4⟩
      · simp only [eDeclB]
        simp only [qs, Option.bind_some, Option.map_some, joinK, qb, ↓reduceIte, if_true, if_false, eq_self, Int.reduceBEq, Int.reduceBNe, h1, hw, h, n3, hn, a2, w2, show IntKind.i64.wrap (51 + ((0 : Nat) : Int)) = 51 from rfl]
        exact Ev.bind e1 Ev.pure
      · simp only [rDeclB, rDeclJ]
        simp only [qs, Option.bind_some, Option.map_some, joinK, qb, ↓reduceIte, if_true, if_false, eq_self, Int.reduceBEq, Int.reduceBNe, h2, h4, hw, h, n3, hn, w2, show IntKind.i64.wrap (51 + ((0 : Nat) : Int)) = 51 from rfl, show (((0 : Nat) : Int) == 0) = true from rfl]
        exact Ev.map (Ev.bind e2 Ev.pure)
    | 1, _ =>
      obtain ⟨x, j, y, ok, e1, e2, e3, e4⟩ := iso_R W (tk l i).At hs (i + 2)
      refine ⟨x, j, y, ok, ?_, ?_, fun h => by obtain ⟨g1, g2, g3, g4⟩ := e3 h; exact ⟨g1, by omega, g3, g4⟩, e4⟩
      · simp only [eDeclB]
        simp only [qs, Option.bind_some, Option.map_some, joinK, qb, ↓reduceIte, if_true, if_false, eq_self, Int.reduceBEq, Int.reduceBNe, h1, hw, h, n3, hn, a2, w2, show IntKind.i64.wrap (51 + ((1 : Nat) : Int)) = 52 from rfl]
        exact Ev.bind e1 Ev.pure
      · simp only [rDeclB, rDeclJ]
        simp only [qs, Option.bind_some, Option.map_some, joinK, qb, ↓reduceIte, if_true, if_false, eq_self, Int.reduceBEq, Int.reduceBNe, h2, h4, hw, h, n3, hn, w2, show IntKind.i64.wrap (51 + ((1 : Nat) : Int)) = 52 from rfl, show (((1 : Nat) : Int) == 0) = false from rfl, show (((1 : Nat) : Int) == 1) = true from rfl]
        exact Ev.map (Ev.bind e2 Ev.pure)
    | 2, _ =>
      obtain ⟨x, j, y, ok, e1, e2, e3, e4⟩ := fun_R W (tk l i).At hs (i + 2)
      refine ⟨x, j, y, ok, ?_, ?_, fun h => by obtain ⟨g1, g2, g3, g4⟩ := e3 h; exact ⟨g1, by omega, g3, g4⟩, e4⟩
      · simp only [eDeclB]
        simp only [qs, Option.bind_some, Option.map_some, joinK, qb, ↓reduceIte, if_true, if_false, eq_self, Int.reduceBEq, Int.reduceBNe, h1, hw, h, n3, hn, a2, w2, show IntKind.i64.wrap (51 + ((2 : Nat) : Int)) = 53 from rfl]
        exact Ev.bind e1 Ev.pure
      · simp only [rDeclB, rDeclJ]
        simp only [qs, Option.bind_some, Option.map_some, joinK, qb, ↓reduceIte, if_true, if_false, eq_self, Int.reduceBEq, Int.reduceBNe, h2, h4, hw, h, n3, hn, w2, show IntKind.i64.wrap (51 + ((2 : Nat) : Int)) = 53 from rfl, show (((2 : Nat) : Int) == 0) = false from rfl, show (((2 : Nat) : Int) == 1) = false from rfl]
        exact Ev.map (Ev.bind e2 Ev.pure)
    | 3, _ =>
      obtain ⟨x, j, y, ok, e1, e2, e3, e4⟩ := mrg_R W (tk l i).At hs (i + 2)
      refine ⟨x, j, y, ok, ?_, ?_, fun h => by obtain ⟨g1, g2, g3, g4⟩ := e3 h; exact ⟨g1, by omega, g3, g4⟩, e4⟩
      · simp only [eDeclB]
        simp only [qs, Option.bind_some, Option.map_some, joinK, qb, ↓reduceIte, if_true, if_false, eq_self, Int.reduceBEq, Int.reduceBNe, h1, hw, h, n3, hn, a2, w2, show IntKind.i64.wrap (51 + ((3 : Nat) : Int)) = 54 from rfl]
        exact Ev.bind e1 Ev.pure
      · simp only [rDeclB, rDeclJ]
        simp only [qs, Option.bind_some, Option.map_some, joinK, qb, ↓reduceIte, if_true, if_false, eq_self, Int.reduceBEq, Int.reduceBNe, h2, h4, hw, h, n3, hn, w2, show IntKind.i64.wrap (51 + ((3 : Nat) : Int)) = 54 from rfl, show (((3 : Nat) : Int) == 0) = false from rfl, show (((3 : Nat) : Int) == 1) = false from rfl]
        exact Ev.map (Ev.bind e2 Ev.pure)
  · have hn : ((tk l (i + 1)).Kind != 1) = true := by simpa using hn
    have Rr : Ev (fun k => rDeclB l i k (t : Int)) (.inr ⟨zN, i + 1, false⟩) := by
      simp only [rDeclB, rDeclJ]
      simp only [qs, Option.bind_some, Option.map_some, joinK, qb, ↓reduceIte, if_true, if_false, eq_self, Int.reduceBEq, Int.reduceBNe, h2, h4, hw, h, n3, hn, Option.map_some]; exact Ev.pure
    have fin : ∀ {n}, Ev (fun k => eDeclB l (tk l i).At k ((t : Int), i)) (.inr (n, i + 1, true)) → ∃ n j m ok, Ev (fun k => eDeclB l (tk l i).At k ((t : Int), i)) (.inr (n, j, !ok)) ∧ Ev (fun k => rDeclB l i k (t : Int)) (.inr ⟨m, j, ok⟩) ∧ (ok = true → n = m ∧ i < j ∧ j < l.length ∧ GD m) ∧ (ok = false → m = zN) := fun {n} hE => ⟨n, i + 1, zN, false, hE, Rr, (fun h => by cases h), fun _ => rfl⟩
    match t, ht with
    | 0, _ =>
      refine fin ?_ (n := ⟨51, (tk l i).At, 0, [], []⟩)
      simp only [eDeclB]
      simp only [qs, Option.bind_some, Option.map_some, joinK, qb, ↓reduceIte, if_true, if_false, eq_self, Int.reduceBEq, Int.reduceBNe, h1, hw, h, n3, hn, show IntKind.i64.wrap (51 + ((0 : Nat) : Int)) = 51 from rfl]
      exact Ev.bind (eRec_bad l _ [] (i + 1)) Ev.pure
    | 1, _ =>
      obtain ⟨n, hb⟩ := eIso_bad0 l (tk l i).At [] (i + 1)
      refine fin ?_ (n := n)
      simp only [eDeclB]
      simp only [qs, Option.bind_some, Option.map_some, joinK, qb, ↓reduceIte, if_true, if_false, eq_self, Int.reduceBEq, Int.reduceBNe, h1, hw, h, n3, hn, show IntKind.i64.wrap (51 + ((1 : Nat) : Int)) = 52 from rfl]
      exact Ev.bind hb Ev.pure
    | 2, _ =>
      obtain ⟨n, hb⟩ := eFun_bad l (tk l i).At [] (i + 1)
      refine fin ?_ (n := n)
      simp only [eDeclB]
      simp only [qs, Option.bind_some, Option.map_some, joinK, qb, ↓reduceIte, if_true, if_false, eq_self, Int.reduceBEq, Int.reduceBNe, h1, hw, h, n3, hn, show IntKind.i64.wrap (51 + ((2 : Nat) : Int)) = 53 from rfl]
      exact Ev.bind hb Ev.pure
    | 3, _ =>
      obtain ⟨n, hb⟩ := eMrg_bad l (tk l i).At [] (i + 1)
      refine fin ?_ (n := n)
      simp only [eDeclB]
      simp only [qs, Option.bind_some, Option.map_some, joinK, qb, ↓reduceIte, if_true, if_false, eq_self, Int.reduceBEq, Int.reduceBNe, h1, hw, h, n3, hn, show IntKind.i64.wrap (51 + ((3 : Nat) : Int)) = 54 from rfl]
      exact Ev.bind hb Ev.pure
theorem decl_from {l : List TToken} (W : WF l) (i : Int) : ∀ (d t : Nat), t + d = 4 →
    ∃ n j m ok, EvL (eDeclB l (tk l i).At) ((t : Int), i) (n, j, !ok) ∧ EvL (rDeclB l i) (t : Int) ⟨m, j, ok⟩ ∧ (ok = true → n = m ∧ i < j ∧ j < l.length ∧ GD m) ∧ (ok = false → m = zN)
  | 0, t, h => by
    have h : t = 4 := by omega
    subst h
    refine ⟨⟨0, (tk l i).At, 0, [], []⟩, i, zN, false, EvL.done ?_, EvL.done ?_, (fun h => by cases h), fun _ => rfl⟩
    · simp only [eDeclB]
      simp only [qs, Option.bind_some, Option.map_some, joinK, qb, ↓reduceIte, if_true, if_false, eq_self, Int.reduceBEq, Int.reduceBNe, show decide (((4 : Nat) : Int) < (dwords.length : Int)) = false from rfl, Option.map_some]; exact Ev.pure
    · simp only [rDeclB, rDeclJ]
      simp only [qs, Option.bind_some, Option.map_some, joinK, qb, ↓reduceIte, if_true, if_false, eq_self, Int.reduceBEq, Int.reduceBNe, show decide (((4 : Nat) : Int) < 4) = false from rfl, show (((4 : Nat) : Int) == 4) = true from rfl, Option.map_some]; exact Ev.pure
  | d + 1, t, h => by
    have hw : ∃ w, ix dwords (t : Int) = some w := by
      match t, (show t < 4 by omega) with
      | 0, _ => exact ⟨_, rfl⟩
      | 1, _ => exact ⟨_, rfl⟩
      | 2, _ => exact ⟨_, rfl⟩
      | 3, _ => exact ⟨_, rfl⟩
    obtain ⟨w, hw⟩ := hw
    by_cases hx : isT (tk l i) 3 w = true
    · obtain ⟨n, j, m, ok, e1, e2, e3, e4⟩ := decl_hit W (a := 0) (show t < 4 by omega) hw hx
      exact ⟨n, j, m, ok, EvL.done e1, EvL.done e2, e3, e4⟩
    · obtain ⟨s1, s2⟩ := decl_skip (a := (tk l i).At) (show t < 4 by omega) hw (show isT (tk l i) 3 w = false by simpa using hx)
      obtain ⟨n, j, m, ok, e1, e2, e3, e4⟩ := decl_from W i d (t + 1) (by omega)
      exact ⟨n, j, m, ok, EvL.step s1 e1, EvL.step s2 e2, e3, e4⟩
theorem decl_R {l : List TToken} (W : WF l) (i : Int) : RG GD l i (eDecl l i) (rDecl l i) := by
  obtain ⟨n, j, m, ok, e1, e2, e3, e4⟩ := decl_from W i 4 0 rfl
  exact ⟨n, j, m, ok, Ev.congr (fun k => eDecl_eq k l i) (Ev.loop e1), Ev.congr (fun k => rDecl_eq k l i) (Ev.loop e2), e3, e4⟩

/-! ### the law -/
theorem works14 (k : Nat) : law14_works (k + 80) = some true := by kernel_rfl
theorem works14_ev : Ev law14_works true := Ev.at 80 works14
theorem same_ok {n m : TNode} {j : Int} {ok : Bool} (h : ok = true → n = m ∧ Wide m) (h2 : ok = false → m = zN) : Ev (fun k => law14_same k (if ok then n else zN) j (if ok then 0 else 1) ⟨m, j, ok⟩) true := by
  unfold law14_same
  cases ok with
  | false =>
    have := h2 rfl; subst this
    simp only [qs, Option.bind_some, Option.map_some, joinK, qb, ↓reduceIte, if_true, if_false, eq_self, Int.reduceBEq, Int.reduceBNe]
    refine Ev.bind (placed_self wide0) ?_
    exact Ev.of fun _ => by simp
  | true =>
    obtain ⟨rfl, hw⟩ := h rfl
    simp only [qs, Option.bind_some, Option.map_some, joinK, qb, ↓reduceIte, if_true, if_false, eq_self, Int.reduceBEq, Int.reduceBNe]
    refine Ev.bind (placed_self hw) ?_
    exact Ev.of fun _ => by simp
theorem reads14_holds (s : List UInt8) (i : Int) : Ev (fun k => law14_StmtReads k s i) true := by
  unfold law14_StmtReads
  refine Ev.bind works14_ev ?_
  cases hl : decide (((s.length : Int)) > 600) with
  | true => simp only [qs, Option.bind_some, Option.map_some, joinK, qb, ↓reduceIte, if_true, if_false, eq_self, Int.reduceBEq, Int.reduceBNe]; exact Ev.bind works14_ev Ev.pure
  | false =>
    simp only [qs, Option.bind_some, Option.map_some, joinK, qb, ↓reduceIte, if_true, if_false, eq_self, Int.reduceBEq, Int.reduceBNe]
    obtain ⟨⟨l, a, e⟩, h1, h2⟩ := all_ex s
    refine Ev.bind h1 ?_
    by_cases he : e = 0
    · subst he
      have W := h2 rfl
      simp only at W
      obtain ⟨n, j, m, ok, e1, e2, e3, e4⟩ := (is_at W i).st
      obtain ⟨n', j', m', ok', f1, f2, f3, f4⟩ := decl_R W i
      simp only [qs, Option.bind_some, Option.map_some, joinK, qb, ↓reduceIte, if_true, if_false, eq_self, Int.reduceBEq, Int.reduceBNe]
      have E : Ev (fun k => stmt_Stmt k l i) (if ok then n else zN, j, if ok then 0 else 1) := by
        unfold stmt_Stmt
        refine Ev.bind e1 ?_
        cases ok
        · simp only [qs, Option.bind_some, Option.map_some, joinK, qb, ↓reduceIte, if_true, if_false, eq_self, Int.reduceBEq, Int.reduceBNe]; exact Ev.pure
        · simp only [qs, Option.bind_some, Option.map_some, joinK, qb, ↓reduceIte, if_true, if_false, eq_self, Int.reduceBEq, Int.reduceBNe]; exact Ev.pure
      have F : Ev (fun k => stmt_Decl k l i) (if ok' then n' else zN, j', if ok' then 0 else 1) := by
        unfold stmt_Decl
        refine Ev.bind f1 ?_
        cases ok'
        · simp only [qs, Option.bind_some, Option.map_some, joinK, qb, ↓reduceIte, if_true, if_false, eq_self, Int.reduceBEq, Int.reduceBNe]; exact Ev.pure
        · simp only [qs, Option.bind_some, Option.map_some, joinK, qb, ↓reduceIte, if_true, if_false, eq_self, Int.reduceBEq, Int.reduceBNe]; exact Ev.pure
      refine Ev.bind E (Ev.bind F (Ev.bind e2 (Ev.bind (same_ok (fun h => ⟨(e3 h).1, (e3 h).2.2.2.wide⟩) e4) ?_)))
      simp only [qs, Option.bind_some, Option.map_some, joinK, qb, ↓reduceIte, if_true, if_false, eq_self, Int.reduceBEq, Int.reduceBNe]
      refine Ev.bind f2 (Ev.bind (same_ok (fun h => ⟨(f3 h).1, (f3 h).2.2.2.wide⟩) f4) ?_)
      simp only [qs, Option.bind_some, Option.map_some, joinK, qb, ↓reduceIte, if_true, if_false, eq_self, Int.reduceBEq, Int.reduceBNe]
      have rest : Ev (fun k => if ((if ok' then (0 : Int) else 1) != 0) = true then some true else (ref11_Decl k (if ok' then n' else zN)).bind fun x => some x) true := by
        cases ok' with
        | false => simp only [qs, Option.bind_some, Option.map_some, joinK, qb, ↓reduceIte, if_true, if_false, eq_self, Int.reduceBEq, Int.reduceBNe, show ((1 : Int) != 0) = true from rfl]; exact Ev.pure
        | true =>
          obtain ⟨rfl, q2, q3, q4⟩ := f3 rfl
          simp only [qs, Option.bind_some, Option.map_some, joinK, qb, ↓reduceIte, if_true, if_false, eq_self, Int.reduceBEq, Int.reduceBNe]
          exact Ev.bind q4.gd Ev.pure
      cases ok with
      | false => simp only [qs, Option.bind_some, Option.map_some, joinK, qb, ↓reduceIte, if_true, if_false, eq_self, Int.reduceBEq, Int.reduceBNe, show ((1 : Int) != 0) = true from rfl]; exact rest
      | true =>
        obtain ⟨rfl, q2, q3, q4⟩ := e3 rfl
        simp only [qs, Option.bind_some, Option.map_some, joinK, qb, ↓reduceIte, if_true, if_false, eq_self, Int.reduceBEq, Int.reduceBNe]
        refine Ev.bind q4.gs ?_
        simp only [qs, Option.bind_some, Option.map_some, joinK, qb, ↓reduceIte, if_true, if_false, eq_self, Int.reduceBEq, Int.reduceBNe]
        exact rest
    · have heb : (e != 0) = true := by simpa using he
      simp only [qs, Option.bind_some, Option.map_some, joinK, qb, ↓reduceIte, if_true, if_false, eq_self, Int.reduceBEq, Int.reduceBNe, heb]; exact Ev.pure
end Go.Proofs.YtakkikkcbdcpfaaDoor.F
