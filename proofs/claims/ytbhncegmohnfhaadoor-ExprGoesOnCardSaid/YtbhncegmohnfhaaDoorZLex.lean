/- What the lexer gives. No condition. -/
import Derived.Test.YtbhncegmohnfhaaDoorZPGood
set_option linter.unusedVariables false
set_option linter.unusedSimpArgs false
set_option maxRecDepth 100000
set_option maxHeartbeats 4000000
namespace Go.Proofs.YtbhncegmohnfhaaDoor.F
open Go

/-- A loop whose state gets smaller comes to an end. -/
theorem loop_ex {σ ρ : Type} {body : Nat → σ → Option (σ ⊕ ρ)} (Inv : σ → Prop) (m : σ → Nat) (Q : ρ → Prop)
    (h : ∀ s, Inv s → (∃ r, Ev (fun k => body k s) (.inr r) ∧ Q r) ∨ (∃ s', Ev (fun k => body k s) (.inl s') ∧ Inv s' ∧ m s' < m s)) :
    ∀ s, Inv s → ∃ r, EvL body s r ∧ Q r := by
  intro s
  induction hn : m s using Nat.strongRecOn generalizing s with
  | _ n ih =>
  intro hs
  rcases h s hs with ⟨r, h1, h2⟩ | ⟨s', h1, h2, h3⟩
  · exact ⟨r, EvL.done h1, h2⟩
  · obtain ⟨r, g1, g2⟩ := ih (m s') (by omega) s' rfl h2
    exact ⟨r, EvL.step h1 g1, g2⟩
theorem scan_to {ρ : Type} {body : Nat → Int → Option (Int ⊕ ρ)} {r : ρ} : ∀ (d i : Nat), (∀ p : Nat, i ≤ p → p < i + d → Ev (fun k => body k (p : Int)) (.inl ((p + 1 : Nat) : Int))) → Ev (fun k => body k ((i + d : Nat) : Int)) (.inr r) → EvL body (i : Int) r
  | 0, i, _, h2 => EvL.done h2
  | d + 1, i, h, h2 => EvL.step (h i (by omega) (by omega)) (scan_to d (i + 1) (fun p a b => h p (by omega) (by omega)) (by rw [show i + 1 + d = i + (d + 1) by omega]; exact h2))
theorem stretch (P : Nat → Bool) (n : Nat) : ∀ (e i : Nat), i + e = n → ∃ d, i + d ≤ n ∧ (∀ p, i ≤ p → p < i + d → P p = true) ∧ (i + d = n ∨ P (i + d) = false)
  | 0, i, h => ⟨0, by omega, fun p a b => by omega, .inl (by omega)⟩
  | e + 1, i, h => by
    cases hp : P i with
    | false => exact ⟨0, by omega, fun p a b => by omega, .inr hp⟩
    | true =>
      obtain ⟨d, h1, h2, h3⟩ := stretch P n e (i + 1) (by omega)
      refine ⟨d + 1, by omega, fun p a b => ?_, ?_⟩
      · by_cases hpi : p = i
        · rw [hpi]; exact hp
        · exact h2 p (by omega) (by omega)
      · rw [show i + (d + 1) = i + 1 + d by omega]; exact h3
def bt (s : List UInt8) (p : Nat) : UInt8 := (s[p]?).getD 0
theorem ix_bt {s : List UInt8} {p : Nat} (h : p < s.length) : ix s (p : Int) = some (bt s p) := by
  rw [ix_nat h]; unfold bt; simp [h]
def cls (a0 : Int) : Int :=
    if (((a0 == 95) || ((decide (a0 ≥ 97)) && (decide (a0 ≤ 122)))) || ((decide (a0 ≥ 65)) && (decide (a0 ≤ 90)))) then 1 else
    if ((decide (a0 ≥ 48)) && (decide (a0 ≤ 57))) then 2 else
    if ((((a0 == 32) || (a0 == 9)) || (a0 == 10)) || (a0 == 13)) then 3 else
    if (a0 == 35) then 4 else 0
theorem class_eq (k : Nat) (a : Int) : ref10_class k a = some (cls a) := by
  unfold ref10_class cls
  repeat' split
  all_goals first | rfl | simp_all
abbrev cl (s : List UInt8) (p : Nat) : Int := cls ((bt s p).toNat : Int)
def isW (s : List UInt8) (p : Nat) : Bool := (cl s p == 1) || (cl s p == 2)
def cut (s : List UInt8) (i d : Nat) : List UInt8 := (s.take (i + d)).drop i
theorem cut_len {s : List UInt8} {i d : Nat} (h : i + d ≤ s.length) : (cut s i d).length = d := by unfold cut; simp; omega
theorem sub_cut {s : List UInt8} {i d : Nat} (h : i + d ≤ s.length) : sub s (i : Int) ((i + d : Nat) : Int) = some (cut s i d) := by
  unfold sub cut
  rw [if_pos ⟨by omega, by omega, by omega⟩]
  rw [Int.toNat_natCast, Int.toNat_natCast]
theorem bt_cut {s : List UInt8} {i d p : Nat} (h : i + d ≤ s.length) (hp : p < d) : bt (cut s i d) p = bt s (i + p) := by
  unfold bt cut
  rw [List.getElem?_drop, List.getElem?_take]
  rw [if_pos (by omega)]
theorem cut_all (s : List UInt8) : cut s 0 s.length = s := by unfold cut; simp
/-- Is it a word of the language? -/
def wordsL : List (List UInt8) := [[114, 101, 99], [105, 115, 111], [102, 117, 110], [109, 101, 114, 103, 101], [109, 97, 105, 110], [118, 97, 114], [105, 102], [101, 108, 115, 101], [119, 104, 105, 108, 101], [114, 101, 116, 117, 114, 110], [102, 111, 114, 107], [106, 111, 105, 110], [112, 114, 105, 110, 116], [110, 101, 119], [98, 121], [105, 110, 116], [98, 111, 111, 108], [114, 101, 118], [116, 114, 117, 101], [102, 97, 108, 115, 101]]
theorem wordsL_eq (k : Nat) : ref09_All k = some wordsL := rfl
theorem wordsL_len : wordsL.length = 20 := rfl
theorem is_ex (t : List UInt8) : ∃ b, Ev (fun k => ref09_Is k t) b := by
  have h : ∃ r, EvL (σ := Int) (ρ := Bool) (fun k (l1_4 : Int) =>
    if (decide (l1_4 < ((wordsL.length : Int)))) then
    (ix wordsL l1_4).bind fun x5_2 =>
    if (x5_2 == t) then
    some (.inr true)
    else
    some (.inl (IntKind.i64.wrap (l1_4 + 1)))
    else
    (some false).map .inr) 0 r ∧ True := by
    refine loop_ex (fun i => 0 ≤ i ∧ i ≤ 20) (fun i => (20 - i).toNat) (fun _ => True) ?_ 0 (by omega)
    intro i hi
    have hlen := wordsL_len
    by_cases h20 : i < 20
    · obtain ⟨y, hy⟩ : ∃ y, ix wordsL i = some y := by
        refine ⟨wordsL[i.toNat]'(by omega), ?_⟩
        unfold ix; rw [if_pos hi.1]; exact List.getElem?_eq_getElem (by omega)
      have hd : decide (i < (wordsL.length : Int)) = true := by simp; omega
      cases hyt : (y == t) with
      | true => exact .inl ⟨true, Ev.ite_t hd (Ev.bindS (fun _ => hy) (Ev.ite_t hyt Ev.pure)), trivial⟩
      | false => exact .inr ⟨i + 1, Ev.ite_t hd (Ev.bindS (fun _ => hy) (Ev.ite_f hyt (Ev.of fun _ => by rw [wrap64_id (by omega) (by omega)]))), by omega, by omega⟩
    · exact .inl ⟨false, Ev.ite_f (by simp; omega) (Ev.of fun _ => rfl), trivial⟩
  obtain ⟨r, h, _⟩ := h
  exact ⟨r, Ev.bindS (x := wordsL) (fun _ => rfl) (Ev.joinK (Ev.loop h))⟩
/-- A word, read. -/
theorem word_one {s : List UInt8} {i d : Nat} (hl : s.length ≤ 16384) (hd : 1 ≤ d) (h : i + d ≤ s.length) (hc : cl s i = 1) (hall : ∀ p, i ≤ p → p < i + d → isW s p = true) (hend : i + d = s.length ∨ isW s (i + d) = false) {b : Bool} (hb : Ev (fun k => ref09_Is k (cut s i d)) b) :
    Ev (fun k => ref10_one k s (i : Int)) (⟨if b then 3 else 1, i, 0, cut s i d⟩, if 32 < d then 3 else 0) := by
  unfold ref10_one
  simp only [class_eq]
  refine Ev.bindS (fun _ => ix_bt (by omega)) ?_
  simp only [look_eq, Tok_eq, is_eq, takes_eq, takes_bad, wants_eq, wants_bad, name_eq, name_bad, Is_eq, Says_eq, Option.bind_some, Option.map_some, joinK, Bool.not_true, Bool.not_false, Bool.false_eq_true, Bool.or_true, Bool.true_or, Bool.false_or, Bool.or_false, Bool.and_true, Bool.and_false, Bool.true_and, Bool.false_and, ↓reduceIte, if_true, if_false, eq_self, Int.reduceBEq, Int.reduceBNe, bne_self_eq_false, beq_self_eq_true, hc]
  refine Ev.loop (scan_to d i (fun p h1 h2 => ?_) ?_)
  · have hw := hall p h1 h2
    have hp : decide ((p : Int) < (s.length : Int)) = true := by simp; omega
    have hwr : IntKind.i64.wrap ((p : Int) + 1) = ((p + 1 : Nat) : Int) := by rw [wrap64_id (by omega) (by omega)]; simp
    unfold isW at hw
    by_cases h1 : cl s p = 1
    · have : (cl s p == 1) = true := by simpa using h1
      simp only [look_eq, Tok_eq, is_eq, takes_eq, takes_bad, wants_eq, wants_bad, name_eq, name_bad, Is_eq, Says_eq, Option.bind_some, Option.map_some, joinK, Bool.not_true, Bool.not_false, Bool.false_eq_true, Bool.or_true, Bool.true_or, Bool.false_or, Bool.or_false, Bool.and_true, Bool.and_false, Bool.true_and, Bool.false_and, ↓reduceIte, if_true, if_false, eq_self, Int.reduceBEq, Int.reduceBNe, bne_self_eq_false, beq_self_eq_true, hp, ix_bt (show p < s.length by omega), this, hwr]; exact Ev.pure
    · have h1b : (cl s p == 1) = false := by simpa using h1
      have h2b : (cl s p == 2) = true := by simpa [h1b] using hw
      simp only [look_eq, Tok_eq, is_eq, takes_eq, takes_bad, wants_eq, wants_bad, name_eq, name_bad, Is_eq, Says_eq, Option.bind_some, Option.map_some, joinK, Bool.not_true, Bool.not_false, Bool.false_eq_true, Bool.or_true, Bool.true_or, Bool.false_or, Bool.or_false, Bool.and_true, Bool.and_false, Bool.true_and, Bool.false_and, ↓reduceIte, if_true, if_false, eq_self, Int.reduceBEq, Int.reduceBNe, bne_self_eq_false, beq_self_eq_true, hp, ix_bt (show p < s.length by omega), h1b, h2b, hwr]; exact Ev.pure
  · have fin : ∀ {σ : Type}, Ev (fun k => Option.map (Sum.inr (α := σ)) ((sub s (i : Int) ((i + d : Nat) : Int)).bind fun x6_4 => (ref09_Is k x6_4).bind fun x7_2 => if x7_2 then (if (decide (((x6_4.length : Int)) > 32)) then some ((TToken.mk 3 i 0 x6_4), 3) else some ((TToken.mk 3 i 0 x6_4), (0 : Int))) else (if (decide (((x6_4.length : Int)) > 32)) then some ((TToken.mk 1 i 0 x6_4), 3) else some ((TToken.mk 1 i 0 x6_4), 0)))) (.inr (⟨if b then 3 else 1, i, 0, cut s i d⟩, if 32 < d then 3 else 0)) := by
      intro σ
      refine Ev.map (Ev.bindS (fun _ => sub_cut h) (Ev.bind hb ?_))
      rw [cut_len h]
      refine Ev.of fun _ => ?_
      cases b
      · by_cases h32 : 32 < d
        · rw [if_pos h32]; simp; omega
        · rw [if_neg h32]; simp; omega
      · by_cases h32 : 32 < d
        · rw [if_pos h32]; simp; omega
        · rw [if_neg h32]; simp; omega
    rcases hend with he | he
    · have hp : decide (((i + d : Nat) : Int) < (s.length : Int)) = false := by simp; omega
      simp only [look_eq, Tok_eq, is_eq, takes_eq, takes_bad, wants_eq, wants_bad, name_eq, name_bad, Is_eq, Says_eq, Option.bind_some, Option.map_some, joinK, Bool.not_true, Bool.not_false, Bool.false_eq_true, Bool.or_true, Bool.true_or, Bool.false_or, Bool.or_false, Bool.and_true, Bool.and_false, Bool.true_and, Bool.false_and, ↓reduceIte, if_true, if_false, eq_self, Int.reduceBEq, Int.reduceBNe, bne_self_eq_false, beq_self_eq_true, hp]; exact fin
    · by_cases he2 : i + d = s.length
      · have hp : decide (((i + d : Nat) : Int) < (s.length : Int)) = false := by simp; omega
        simp only [look_eq, Tok_eq, is_eq, takes_eq, takes_bad, wants_eq, wants_bad, name_eq, name_bad, Is_eq, Says_eq, Option.bind_some, Option.map_some, joinK, Bool.not_true, Bool.not_false, Bool.false_eq_true, Bool.or_true, Bool.true_or, Bool.false_or, Bool.or_false, Bool.and_true, Bool.and_false, Bool.true_and, Bool.false_and, ↓reduceIte, if_true, if_false, eq_self, Int.reduceBEq, Int.reduceBNe, bne_self_eq_false, beq_self_eq_true, hp]; exact fin
      · have hp : decide (((i + d : Nat) : Int) < (s.length : Int)) = true := by simp; omega
        unfold isW at he
        have h1b : (cl s (i + d) == 1) = false := by
          cases hx : (cl s (i + d) == 1) with
          | false => rfl
          | true => rw [hx] at he; cases he
        have h2b : (cl s (i + d) == 2) = false := by simpa [h1b] using he
        simp only [look_eq, Tok_eq, is_eq, takes_eq, takes_bad, wants_eq, wants_bad, name_eq, name_bad, Is_eq, Says_eq, Option.bind_some, Option.map_some, joinK, Bool.not_true, Bool.not_false, Bool.false_eq_true, Bool.or_true, Bool.true_or, Bool.false_or, Bool.or_false, Bool.and_true, Bool.and_false, Bool.true_and, Bool.false_and, ↓reduceIte, if_true, if_false, eq_self, Int.reduceBEq, Int.reduceBNe, bne_self_eq_false, beq_self_eq_true, hp, ix_bt (show i + d < s.length by omega), h1b, h2b]; exact fin
end Go.Proofs.YtbhncegmohnfhaaDoor.F
