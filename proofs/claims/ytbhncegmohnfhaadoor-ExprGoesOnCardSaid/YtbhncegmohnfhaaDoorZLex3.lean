/- What the lexer gives: the whole. No condition. -/
import Derived.Test.YtbhncegmohnfhaaDoorZLex2
import Derived.Test.YtbhncegmohnfhaaDoorZPSign
set_option linter.unusedVariables false
set_option linter.unusedSimpArgs false
set_option maxRecDepth 100000
set_option maxHeartbeats 4000000
namespace Go.Proofs.YtbhncegmohnfhaaDoor.F
open Go

def markB (t : List UInt8) (L : List (List UInt8)) (k : Nat) (s : List UInt8 × Int) : Option ((List UInt8 × Int) ⊕ List UInt8) :=
  match s with
  | (l3_5, l3_6) =>
    if (decide (l3_6 < ((L.length : Int)))) then
    joinK (fun (j4_5 : List UInt8) =>
    some (.inl (j4_5, (IntKind.i64.wrap (l3_6 + 1))))) fun j_j4 =>
    (ix L l3_6).bind fun x10_2 =>
    joinK (fun (g10_21_44 : Bool) =>
    joinK (fun (g10_31_54 : Bool) =>
    if g10_31_54 then
    (ix L l3_6).bind fun x11_2 =>
    j_j4 x11_2
    else
    j_j4 l3_5) fun j_g10_31 =>
    if g10_21_44 then
    (ix L l3_6).bind fun x10_25 =>
    j_g10_31 (decide (((x10_25.length : Int)) > ((l3_5.length : Int))))
    else
    j_g10_31 false) fun j_g10_21 =>
    if (decide (((x10_2.length : Int)) ≤ ((t.length : Int)))) then
    (ix L l3_6).bind fun x10_12 =>
    (sub t 0 (x10_12.length : Int)).bind fun x10_15 =>
    (ix L l3_6).bind fun x10_18 =>
    j_g10_21 (x10_15 == x10_18)
    else
    j_g10_21 false
    else
    (some l3_5).map .inr
def marks0 : List (List UInt8) := [[40], [41], [123], [125], [91], [93], [44], [59], [46], [61]]
def markA (t : List UInt8) (k : Nat) (s : List (List UInt8) × Int) : Option ((List (List UInt8) × Int) ⊕ List UInt8) :=
  match s with
  | (l1_3, l1_4) =>
    if (decide (l1_4 ≤ 14)) then
    (ref09_Spell k l1_4).bind fun x5_2 =>
    if (room 16 (l1_3.length + [x5_2].length)) then
    some (.inl ((l1_3 ++ [x5_2]), (IntKind.i64.wrap (l1_4 + 1))))
    else none
    else
    (loopM k (markB t l1_3 k) ([], 0)).map .inr
theorem mark_eq (k : Nat) (t : List UInt8) : ref09_Mark k t = loopM k (markA t k) (marks0, 1) := rfl
theorem marks_add (t : List UInt8) : ∀ (d n : Nat) (L : List (List UInt8)), n + d = 15 → 1 ≤ n → L.length = n + 9 → ∀ {r : List UInt8}, EvL (markB t (L ++ spells.drop (n - 1))) ([], 0) r → EvL (markA t) (L, (n : Int)) r
  | 0, n, L, e, h1, hl, r, h => by
    have e : n = 15 := by omega
    subst e
    refine EvL.done ?_
    simp only [markA]
    refine Ev.ite_f (by simp) (Ev.map (Ev.loop ?_))
    simpa [spells] using h
  | d + 1, n, L, e, h1, hl, r, h => by
    obtain ⟨x, hx⟩ : ∃ x, spells[n - 1]? = some x := ⟨_, List.getElem?_eq_getElem (by simp [spells]; omega)⟩
    have hdr : spells.drop (n - 1) = x :: spells.drop n := by
      have h2 := (List.getElem?_eq_some_iff.1 hx)
      rw [List.drop_eq_getElem_cons h2.1, h2.2, show n - 1 + 1 = n by omega]
    refine EvL.step (s' := (L ++ [x], ((n + 1 : Nat) : Int))) ?_ (marks_add t d (n + 1) (L ++ [x]) (by omega) (by omega) (by simp; omega) ?_)
    · have hr : room 16 (L.length + [x].length) = true := room_of (by omega) (by simp; omega)
      have hw : IntKind.i64.wrap ((n : Int) + 1) = ((n + 1 : Nat) : Int) := by rw [wrap64_id (by omega) (by omega)]; simp
      simp only [markA]
      refine Ev.ite_t (by simp; omega) (Ev.bindS (spell_at n h1 (by omega) hx) ?_)
      simp only [look_eq, Tok_eq, is_eq, takes_eq, takes_bad, wants_eq, wants_bad, name_eq, name_bad, Is_eq, Says_eq, Option.bind_some, Option.map_some, joinK, Bool.not_true, Bool.not_false, Bool.false_eq_true, Bool.or_true, Bool.true_or, Bool.false_or, Bool.or_false, Bool.and_true, Bool.and_false, Bool.true_and, Bool.false_and, ↓reduceIte, if_true, if_false, eq_self, Int.reduceBEq, Int.reduceBNe, bne_self_eq_false, beq_self_eq_true, hr, hw]; exact Ev.pure
    · rw [show n + 1 - 1 = n by omega]
      rw [hdr] at h
      simpa using h
def marksL : List (List UInt8) := marks0 ++ spells
theorem mark_ex (t : List UInt8) : ∃ r, Ev (fun k => ref09_Mark k t) r ∧ r.length ≤ t.length := by
  obtain ⟨r, h1, h2⟩ := loop_ex (body := markB t marksL) (fun s => 0 ≤ s.2 ∧ s.2 ≤ marksL.length ∧ s.1.length ≤ t.length) (fun s => (marksL.length - s.2).toNat) (fun r => r.length ≤ t.length) (by
    have hlen : marksL.length = 24 := rfl
    rintro ⟨best, i⟩ ⟨hi0, hil, hb⟩
    simp only at hi0 hil hb
    by_cases hd : i < marksL.length
    · right
      have hdb : decide (i < (marksL.length : Int)) = true := by simpa using hd
      obtain ⟨m, hm⟩ : ∃ m, ix marksL i = some m := by
        refine ⟨marksL[i.toNat]'(by omega), ?_⟩
        unfold ix; rw [if_pos hi0]; exact List.getElem?_eq_getElem (by omega)
      have hw : IntKind.i64.wrap (i + 1) = i + 1 := wrap64_id (by omega) (by omega)
      cases hle : decide ((m.length : Int) ≤ (t.length : Int)) with
      | false =>
        refine ⟨(best, i + 1), ?_, ⟨by simp; omega, by simp; omega, hb⟩, by simp; omega⟩
        simp only [markB]; simp only [look_eq, Tok_eq, is_eq, takes_eq, takes_bad, wants_eq, wants_bad, name_eq, name_bad, Is_eq, Says_eq, Option.bind_some, Option.map_some, joinK, Bool.not_true, Bool.not_false, Bool.false_eq_true, Bool.or_true, Bool.true_or, Bool.false_or, Bool.or_false, Bool.and_true, Bool.and_false, Bool.true_and, Bool.false_and, ↓reduceIte, if_true, if_false, eq_self, Int.reduceBEq, Int.reduceBNe, bne_self_eq_false, beq_self_eq_true, hdb, hm, hle, hw]; exact Ev.pure
      | true =>
        have hle' : m.length ≤ t.length := by simpa using hle
        have hs : sub t 0 (m.length : Int) = some (t.take m.length) := by
          unfold sub
          rw [if_pos ⟨by omega, by omega, by omega⟩]; simp
        cases heq : (t.take m.length == m) with
        | false =>
          refine ⟨(best, i + 1), ?_, ⟨by simp; omega, by simp; omega, hb⟩, by simp; omega⟩
          simp only [markB]; simp only [look_eq, Tok_eq, is_eq, takes_eq, takes_bad, wants_eq, wants_bad, name_eq, name_bad, Is_eq, Says_eq, Option.bind_some, Option.map_some, joinK, Bool.not_true, Bool.not_false, Bool.false_eq_true, Bool.or_true, Bool.true_or, Bool.false_or, Bool.or_false, Bool.and_true, Bool.and_false, Bool.true_and, Bool.false_and, ↓reduceIte, if_true, if_false, eq_self, Int.reduceBEq, Int.reduceBNe, bne_self_eq_false, beq_self_eq_true, hdb, hm, hle, hs, heq, hw]; exact Ev.pure
        | true =>
          cases hgt : decide ((m.length : Int) > (best.length : Int)) with
          | false =>
            refine ⟨(best, i + 1), ?_, ⟨by simp; omega, by simp; omega, hb⟩, by simp; omega⟩
            simp only [markB]; simp only [look_eq, Tok_eq, is_eq, takes_eq, takes_bad, wants_eq, wants_bad, name_eq, name_bad, Is_eq, Says_eq, Option.bind_some, Option.map_some, joinK, Bool.not_true, Bool.not_false, Bool.false_eq_true, Bool.or_true, Bool.true_or, Bool.false_or, Bool.or_false, Bool.and_true, Bool.and_false, Bool.true_and, Bool.false_and, ↓reduceIte, if_true, if_false, eq_self, Int.reduceBEq, Int.reduceBNe, bne_self_eq_false, beq_self_eq_true, hdb, hm, hle, hs, heq, hgt, hw]; exact Ev.pure
          | true =>
            refine ⟨(m, i + 1), ?_, ⟨by simp; omega, by simp; omega, hle'⟩, by simp; omega⟩
            simp only [markB]; simp only [look_eq, Tok_eq, is_eq, takes_eq, takes_bad, wants_eq, wants_bad, name_eq, name_bad, Is_eq, Says_eq, Option.bind_some, Option.map_some, joinK, Bool.not_true, Bool.not_false, Bool.false_eq_true, Bool.or_true, Bool.true_or, Bool.false_or, Bool.or_false, Bool.and_true, Bool.and_false, Bool.true_and, Bool.false_and, ↓reduceIte, if_true, if_false, eq_self, Int.reduceBEq, Int.reduceBNe, bne_self_eq_false, beq_self_eq_true, hdb, hm, hle, hs, heq, hgt, hw]; exact Ev.pure
    · have hdb : decide (i < (marksL.length : Int)) = false := by simpa using hd
      left
      refine ⟨best, ?_, hb⟩
      simp only [markB]; simp only [look_eq, Tok_eq, is_eq, takes_eq, takes_bad, wants_eq, wants_bad, name_eq, name_bad, Is_eq, Says_eq, Option.bind_some, Option.map_some, joinK, Bool.not_true, Bool.not_false, Bool.false_eq_true, Bool.or_true, Bool.true_or, Bool.false_or, Bool.or_false, Bool.and_true, Bool.and_false, Bool.true_and, Bool.false_and, ↓reduceIte, if_true, if_false, eq_self, Int.reduceBEq, Int.reduceBNe, bne_self_eq_false, beq_self_eq_true, hdb]; exact Ev.pure) ([], 0) (by simp)
  refine ⟨r, Ev.congr (fun k => mark_eq k t) (Ev.loop (marks_add t 14 1 marks0 (by omega) (by omega) rfl ?_)), h2⟩
  exact h1
/-- What one reading gives. -/
theorem one_ex {s : List UInt8} (hl : s.length ≤ 16384) {i : Nat} (hi : i < s.length) : ∃ t e, Ev (fun k => ref10_one k s (i : Int)) (t, e) ∧ (e = 0 → 1 ≤ t.Text.length ∧ i + t.Text.length ≤ s.length ∧ (t.Kind = 1 → Nm t.Text) ∧ (t.Kind = 2 → 0 ≤ t.N)) := by
  by_cases h1 : cl s i = 1
  · obtain ⟨d, d1, d2, d3⟩ := stretch (isW s) s.length (s.length - i) i (by omega)
    have hd : 1 ≤ d := by
      rcases Nat.eq_zero_or_pos d with h | h
      · subst h
        rcases d3 with h | h
        · omega
        · unfold isW at h; simp only [Nat.add_zero] at h; rw [h1] at h; simp at h
      · exact h
    obtain ⟨b, hb⟩ := is_ex (cut s i d)
    refine ⟨_, _, word_one hl hd d1 h1 d2 d3 hb, fun he => ?_⟩
    have h32 : d ≤ 32 := by
      by_cases h : 32 < d
      · rw [if_pos h] at he; simp at he
      · omega
    have hcl := cut_len d1
    refine ⟨by simp only [hcl]; omega, by simp only [hcl]; omega, fun hk => ?_, fun hk => ?_⟩
    · cases b with
      | true => simp at hk
      | false =>
        refine named_of (by simp only [hcl]; omega) (by simp only [hcl]; omega) ?_ (fun p hp => ?_) hb
        · have : bt (cut s i d) 0 = bt s i := by rw [bt_cut d1 (by omega)]; rfl
          unfold cl; rw [this]; exact h1
        · simp only [hcl] at hp
          have hx := d2 (i + p) (by omega) (by omega)
          unfold isW cl at hx ⊢
          simp only [bt_cut d1 hp]; exact hx
    · cases b <;> simp at hk
  have h1b : (cl s i == 1) = false := by simpa using h1
  by_cases h2 : cl s i = 2
  · have h2b : (cl s i == 2) = true := by simpa using h2
    obtain ⟨d, d1, d2, d3⟩ := stretch (fun p => cl s p == 2) s.length (s.length - i) i (by omega)
    have hd : 1 ≤ d := by
      rcases Nat.eq_zero_or_pos d with h | h
      · subst h
        rcases d3 with h | h
        · omega
        · simp only [Nat.add_zero] at h; rw [h2b] at h; cases h
      · exact h
    have hcl := cut_len d1
    obtain ⟨⟨v, e⟩, r1, r2⟩ := read_ex (cut s i d) (by omega)
    refine ⟨⟨2, i, v, cut s i d⟩, e, ?_, fun he => ⟨by simp only [hcl]; omega, by simp only [hcl]; omega, fun hk => by simp at hk, fun _ => r2⟩⟩
    unfold ref10_one
    simp only [class_eq]
    refine Ev.bindS (fun _ => ix_bt (by omega)) ?_
    simp only [look_eq, Tok_eq, is_eq, takes_eq, takes_bad, wants_eq, wants_bad, name_eq, name_bad, Is_eq, Says_eq, Option.bind_some, Option.map_some, joinK, Bool.not_true, Bool.not_false, Bool.false_eq_true, Bool.or_true, Bool.true_or, Bool.false_or, Bool.or_false, Bool.and_true, Bool.and_false, Bool.true_and, Bool.false_and, ↓reduceIte, if_true, if_false, eq_self, Int.reduceBEq, Int.reduceBNe, bne_self_eq_false, beq_self_eq_true, h1b, h2b]
    refine Ev.loop (scan_to d i (fun p q1 q2 => ?_) ?_)
    · have hw := d2 p q1 q2
      have hp : decide ((p : Int) < (s.length : Int)) = true := by simp; omega
      have hwr : IntKind.i64.wrap ((p : Int) + 1) = ((p + 1 : Nat) : Int) := by rw [wrap64_id (by omega) (by omega)]; simp
      simp only [look_eq, Tok_eq, is_eq, takes_eq, takes_bad, wants_eq, wants_bad, name_eq, name_bad, Is_eq, Says_eq, Option.bind_some, Option.map_some, joinK, Bool.not_true, Bool.not_false, Bool.false_eq_true, Bool.or_true, Bool.true_or, Bool.false_or, Bool.or_false, Bool.and_true, Bool.and_false, Bool.true_and, Bool.false_and, ↓reduceIte, if_true, if_false, eq_self, Int.reduceBEq, Int.reduceBNe, bne_self_eq_false, beq_self_eq_true, hp, ix_bt (show p < s.length by omega), hw, hwr]; exact Ev.pure
    · have fin : ∀ {σ : Type}, Ev (fun k => Option.map (Sum.inr (α := σ)) ((sub s (i : Int) ((i + d : Nat) : Int)).bind fun x => (ref01_Read k x).bind fun y => (sub s (i : Int) ((i + d : Nat) : Int)).bind fun z => some (TToken.mk 2 i y.1 z, y.2))) (.inr (⟨2, i, v, cut s i d⟩, e)) := by
        intro σ
        exact Ev.map (Ev.bindS (fun _ => sub_cut d1) (Ev.bind r1 (Ev.bindS (fun _ => sub_cut d1) Ev.pure)))
      by_cases he2 : i + d = s.length
      · have hp : decide (((i + d : Nat) : Int) < (s.length : Int)) = false := by simp; omega
        simp only [look_eq, Tok_eq, is_eq, takes_eq, takes_bad, wants_eq, wants_bad, name_eq, name_bad, Is_eq, Says_eq, Option.bind_some, Option.map_some, joinK, Bool.not_true, Bool.not_false, Bool.false_eq_true, Bool.or_true, Bool.true_or, Bool.false_or, Bool.or_false, Bool.and_true, Bool.and_false, Bool.true_and, Bool.false_and, ↓reduceIte, if_true, if_false, eq_self, Int.reduceBEq, Int.reduceBNe, bne_self_eq_false, beq_self_eq_true, hp]; exact fin
      · have hp : decide (((i + d : Nat) : Int) < (s.length : Int)) = true := by simp; omega
        have he : (cl s (i + d) == 2) = false := by
          rcases d3 with h | h
          · exact (he2 h).elim
          · exact h
        simp only [look_eq, Tok_eq, is_eq, takes_eq, takes_bad, wants_eq, wants_bad, name_eq, name_bad, Is_eq, Says_eq, Option.bind_some, Option.map_some, joinK, Bool.not_true, Bool.not_false, Bool.false_eq_true, Bool.or_true, Bool.true_or, Bool.false_or, Bool.or_false, Bool.and_true, Bool.and_false, Bool.true_and, Bool.false_and, ↓reduceIte, if_true, if_false, eq_self, Int.reduceBEq, Int.reduceBNe, bne_self_eq_false, beq_self_eq_true, hp, ix_bt (show i + d < s.length by omega), he]; exact fin
  have h2b : (cl s i == 2) = false := by simpa using h2
  have hwr : IntKind.i64.wrap ((i : Int) + 2) = (i : Int) + 2 := wrap64_id (by omega) (by omega)
  obtain ⟨d, hd1, hd2, hm⟩ : ∃ d, 1 ≤ d ∧ i + d ≤ s.length ∧ mn ((i : Int) + 2) (s.length : Int) = ((i + d : Nat) : Int) := by
    refine ⟨min 2 (s.length - i), by omega, by omega, ?_⟩
    rw [mn_eq]; omega
  have hcl := cut_len hd2
  obtain ⟨r, r1, r2⟩ := mark_ex (cut s i d)
  cases hr : (r == []) with
  | true =>
    refine ⟨⟨0, i, 0, []⟩, 1, ?_, fun he => by simp at he⟩
    unfold ref10_one
    simp only [class_eq]
    refine Ev.bindS (fun _ => ix_bt (by omega)) ?_
    simp only [look_eq, Tok_eq, is_eq, takes_eq, takes_bad, wants_eq, wants_bad, name_eq, name_bad, Is_eq, Says_eq, Option.bind_some, Option.map_some, joinK, Bool.not_true, Bool.not_false, Bool.false_eq_true, Bool.or_true, Bool.true_or, Bool.false_or, Bool.or_false, Bool.and_true, Bool.and_false, Bool.true_and, Bool.false_and, ↓reduceIte, if_true, if_false, eq_self, Int.reduceBEq, Int.reduceBNe, bne_self_eq_false, beq_self_eq_true, h1b, h2b, hwr, hm]
    refine Ev.bindS (fun _ => sub_cut hd2) (Ev.bind r1 ?_)
    simp only [look_eq, Tok_eq, is_eq, takes_eq, takes_bad, wants_eq, wants_bad, name_eq, name_bad, Is_eq, Says_eq, Option.bind_some, Option.map_some, joinK, Bool.not_true, Bool.not_false, Bool.false_eq_true, Bool.or_true, Bool.true_or, Bool.false_or, Bool.or_false, Bool.and_true, Bool.and_false, Bool.true_and, Bool.false_and, ↓reduceIte, if_true, if_false, eq_self, Int.reduceBEq, Int.reduceBNe, bne_self_eq_false, beq_self_eq_true, hr]; exact Ev.pure
  | false =>
    have hr' : r ≠ [] := by simpa using hr
    refine ⟨⟨4, i, 0, r⟩, 0, ?_, fun he => ⟨?_, ?_, fun hk => by simp at hk, fun hk => by simp at hk⟩⟩
    · unfold ref10_one
      simp only [class_eq]
      refine Ev.bindS (fun _ => ix_bt (by omega)) ?_
      simp only [look_eq, Tok_eq, is_eq, takes_eq, takes_bad, wants_eq, wants_bad, name_eq, name_bad, Is_eq, Says_eq, Option.bind_some, Option.map_some, joinK, Bool.not_true, Bool.not_false, Bool.false_eq_true, Bool.or_true, Bool.true_or, Bool.false_or, Bool.or_false, Bool.and_true, Bool.and_false, Bool.true_and, Bool.false_and, ↓reduceIte, if_true, if_false, eq_self, Int.reduceBEq, Int.reduceBNe, bne_self_eq_false, beq_self_eq_true, h1b, h2b, hwr, hm]
      refine Ev.bindS (fun _ => sub_cut hd2) (Ev.bind r1 ?_)
      simp only [look_eq, Tok_eq, is_eq, takes_eq, takes_bad, wants_eq, wants_bad, name_eq, name_bad, Is_eq, Says_eq, Option.bind_some, Option.map_some, joinK, Bool.not_true, Bool.not_false, Bool.false_eq_true, Bool.or_true, Bool.true_or, Bool.false_or, Bool.or_false, Bool.and_true, Bool.and_false, Bool.true_and, Bool.false_and, ↓reduceIte, if_true, if_false, eq_self, Int.reduceBEq, Int.reduceBNe, bne_self_eq_false, beq_self_eq_true, hr]; exact Ev.pure
    · have := List.length_pos_iff.2 hr'; simp only; omega
    · simp only; omega
/-- A token as it should be. -/
structure TokG (t : TToken) : Prop where
  name : t.Kind = 1 → Nm t.Text
  num : t.Kind = 2 → 0 ≤ t.N
theorem tk_get {l : List TToken} {p : Nat} {t : TToken} (h : l[p]? = some t) : tk l (p : Int) = t := by
  unfold tk
  rw [if_pos (by omega), Int.toNat_natCast, h]; rfl
theorem tk_cases (l : List TToken) (p : Int) : tk l p = ⟨0, 0, 0, []⟩ ∨ ∃ n : Nat, p = n ∧ l[n]? = some (tk l p) := by
  unfold tk
  split
  · rename_i h0
    cases hx : l[p.toNat]? with
    | none => left; rfl
    | some x => right; exact ⟨p.toNat, by omega, by rw [hx]; rfl⟩
  · left; rfl
theorem wf_of {out : List TToken} {n : Int} (hl : out.length ≤ 20000) (hg : ∀ t ∈ out, TokG t) : WF (out ++ [⟨0, n, 0, []⟩]) := by
  have key : ∀ p, TokG (tk (out ++ [⟨0, n, 0, []⟩]) p) := by
    intro p
    rcases tk_cases (out ++ [⟨0, n, 0, []⟩]) p with h | ⟨q, rfl, h⟩
    · rw [h]; exact ⟨fun hk => by simp at hk, fun hk => by simp at hk⟩
    · have := List.mem_of_getElem? h
      rcases List.mem_append.1 this with hx | hx
      · exact hg _ hx
      · simp at hx; rw [hx]; exact ⟨fun hk => by simp at hk, fun hk => by simp at hk⟩
  refine ⟨by simp; omega, fun p hp => ?_, fun p hk => (key p).name hk, fun p hk => (key p).num hk⟩
  have : p = (out.length : Int) := by simp at hp; omega
  rw [this, tk_get (t := ⟨0, n, 0, []⟩) (by simp)]
theorem all_loop {s : List UInt8} (hl : s.length ≤ 16384) : ∃ r, EvL (allB · s) (([] : List TToken), (0 : Int)) r ∧ (r.2.2 = 0 → WF r.1) := by
  refine loop_ex (body := (allB · s)) (fun st => 0 ≤ st.2 ∧ st.2 ≤ s.length ∧ (st.1.length : Int) ≤ st.2 ∧ ∀ t ∈ st.1, TokG t) (fun st => (s.length - st.2).toNat) (fun r => r.2.2 = 0 → WF r.1) ?_ ([], 0) (by simp)
  rintro ⟨out, i⟩ ⟨hi0, hil, ho, hg⟩
  simp only at hi0 hil ho hg
  obtain ⟨i, rfl⟩ : ∃ n : Nat, i = n := ⟨i.toNat, by omega⟩
  by_cases hd : i < s.length
  · have hdb : decide ((i : Int) < (s.length : Int)) = true := by simpa using hd
    have hw : IntKind.i64.wrap ((i : Int) + 1) = (i : Int) + 1 := wrap64_id (by omega) (by omega)
    by_cases h3 : cl s i = 3
    · right
      have h3b : (cl s i == 3) = true := by simpa using h3
      refine ⟨(out, (i : Int) + 1), ?_, ⟨by simp; omega, by simp; omega, by simp; omega, hg⟩, by simp; omega⟩
      simp only [allB, class_eq]; simp only [look_eq, Tok_eq, is_eq, takes_eq, takes_bad, wants_eq, wants_bad, name_eq, name_bad, Is_eq, Says_eq, Option.bind_some, Option.map_some, joinK, Bool.not_true, Bool.not_false, Bool.false_eq_true, Bool.or_true, Bool.true_or, Bool.false_or, Bool.or_false, Bool.and_true, Bool.and_false, Bool.true_and, Bool.false_and, ↓reduceIte, if_true, if_false, eq_self, Int.reduceBEq, Int.reduceBNe, bne_self_eq_false, beq_self_eq_true, hdb, ix_bt hd, h3b, hw]; exact Ev.pure
    have h3b : (cl s i == 3) = false := by simpa using h3
    by_cases h4 : cl s i = 4
    · right
      have h4b : (cl s i == 4) = true := by simpa using h4
      obtain ⟨d, d1, d2, d3⟩ := stretch (fun p => ((bt s p).toNat : Int) != 10) s.length (s.length - i) i (by omega)
      have hd' : 1 ≤ d := by
        rcases Nat.eq_zero_or_pos d with h | h
        · subst h
          rcases d3 with h | h
          · omega
          · simp only [Nat.add_zero] at h
            have : ((bt s i).toNat : Int) = 10 := by simpa using h
            unfold cl at h4; rw [this] at h4; exact absurd h4 (by decide)
        · exact h
      refine ⟨(out, ((i + d : Nat) : Int)), ?_, ⟨by simp; omega, by simp; omega, by simp; omega, hg⟩, by simp; omega⟩
      simp only [allB, class_eq]; simp only [look_eq, Tok_eq, is_eq, takes_eq, takes_bad, wants_eq, wants_bad, name_eq, name_bad, Is_eq, Says_eq, Option.bind_some, Option.map_some, joinK, Bool.not_true, Bool.not_false, Bool.false_eq_true, Bool.or_true, Bool.true_or, Bool.false_or, Bool.or_false, Bool.and_true, Bool.and_false, Bool.true_and, Bool.false_and, ↓reduceIte, if_true, if_false, eq_self, Int.reduceBEq, Int.reduceBNe, bne_self_eq_false, beq_self_eq_true, hdb, ix_bt hd, h3b, h4b]
      refine Ev.loop (scan_to d i (fun p q1 q2 => ?_) ?_)
      · have hp : decide ((p : Int) < (s.length : Int)) = true := by simp; omega
        have hwr : IntKind.i64.wrap ((p : Int) + 1) = ((p + 1 : Nat) : Int) := by rw [wrap64_id (by omega) (by omega)]; simp
        have hx := d2 p q1 q2
        simp only [look_eq, Tok_eq, is_eq, takes_eq, takes_bad, wants_eq, wants_bad, name_eq, name_bad, Is_eq, Says_eq, Option.bind_some, Option.map_some, joinK, Bool.not_true, Bool.not_false, Bool.false_eq_true, Bool.or_true, Bool.true_or, Bool.false_or, Bool.or_false, Bool.and_true, Bool.and_false, Bool.true_and, Bool.false_and, ↓reduceIte, if_true, if_false, eq_self, Int.reduceBEq, Int.reduceBNe, bne_self_eq_false, beq_self_eq_true, hp, ix_bt (show p < s.length by omega), hx, hwr]; exact Ev.pure
      · by_cases he2 : i + d = s.length
        · have hp : decide (((i + d : Nat) : Int) < (s.length : Int)) = false := by simp; omega
          simp only [look_eq, Tok_eq, is_eq, takes_eq, takes_bad, wants_eq, wants_bad, name_eq, name_bad, Is_eq, Says_eq, Option.bind_some, Option.map_some, joinK, Bool.not_true, Bool.not_false, Bool.false_eq_true, Bool.or_true, Bool.true_or, Bool.false_or, Bool.or_false, Bool.and_true, Bool.and_false, Bool.true_and, Bool.false_and, ↓reduceIte, if_true, if_false, eq_self, Int.reduceBEq, Int.reduceBNe, bne_self_eq_false, beq_self_eq_true, hp]; exact Ev.pure
        · have hp : decide (((i + d : Nat) : Int) < (s.length : Int)) = true := by simp; omega
          have he : (((bt s (i + d)).toNat : Int) != 10) = false := by
            rcases d3 with h | h
            · exact (he2 h).elim
            · exact h
          simp only [look_eq, Tok_eq, is_eq, takes_eq, takes_bad, wants_eq, wants_bad, name_eq, name_bad, Is_eq, Says_eq, Option.bind_some, Option.map_some, joinK, Bool.not_true, Bool.not_false, Bool.false_eq_true, Bool.or_true, Bool.true_or, Bool.false_or, Bool.or_false, Bool.and_true, Bool.and_false, Bool.true_and, Bool.false_and, ↓reduceIte, if_true, if_false, eq_self, Int.reduceBEq, Int.reduceBNe, bne_self_eq_false, beq_self_eq_true, hp, ix_bt (show i + d < s.length by omega), he]; exact Ev.pure
    · obtain ⟨t, e, h1, h2⟩ := one_ex hl hd
      by_cases he : e = 0
      · subst he
        obtain ⟨g1, g2, g3, g4⟩ := h2 rfl
        right
        have hr : room 40 (out.length + [t].length) = true := room_of (by omega) (by simp; omega)
        refine ⟨(out ++ [t], (i : Int) + (t.Text.length : Int)), allB_one hd h3 h4 h1 ?_, ⟨by simp; omega, by simp; omega, by simp; omega, ?_⟩, by simp; omega⟩
        · rw [if_neg (by simp), if_pos hr, wrap64_id (by omega) (by omega)]
        · intro x hx
          rcases List.mem_append.1 hx with hx | hx
          · exact hg x hx
          · simp at hx; subst hx; exact ⟨g3, g4⟩
      · left
        refine ⟨([], (i : Int), e), allB_one hd h3 h4 h1 ?_, fun h => (he h).elim⟩
        rw [if_pos (by simpa using he)]
  · left
    have hi : i = s.length := by omega
    subst hi
    exact ⟨_, allB_end (by omega), fun _ => wf_of (by omega) hg⟩
/-- The lexer answers; what it gives without an error is as it should be. -/
theorem all_ex (s : List UInt8) : ∃ r, Ev (fun k => ref10_All k s) r ∧ (r.2.2 = 0 → WF r.1) := by
  by_cases h : s.length ≤ 16384
  · obtain ⟨r, h1, h2⟩ := all_loop h
    exact ⟨r, Ev.congr (fun k => all_eq k s h) (Ev.loop h1), h2⟩
  · exact ⟨([], 16384, 3), Ev.of (fun k => all_long k s (by omega)), fun h => by simp at h⟩
end Go.Proofs.YtbhncegmohnfhaaDoor.F
