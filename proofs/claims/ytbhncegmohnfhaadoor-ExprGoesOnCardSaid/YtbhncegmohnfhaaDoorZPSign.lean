/- Signs of a level: the reader's and the document's. No condition. -/
import Derived.Test.YtbhncegmohnfhaaDoorZPGood
set_option linter.unusedVariables false
set_option linter.unusedSimpArgs false
set_option maxRecDepth 100000
namespace Go.Proofs.YtbhncegmohnfhaaDoor.F
open Go

def spells : List (List UInt8) := [[43], [45], [42], [47], [37], [61, 61], [33, 61], [60], [60, 61], [62], [62, 61], [38, 38], [124, 124], [33]]
/-- One round of the document's search. -/
def sgR (t : TToken) (lev : Int) (k : Nat) (j_j0 : Unit → Option Int) (l1_8 : Int) : Option (Int ⊕ Int) :=
    if (decide (l1_8 ≤ 14)) then
    joinK (fun (g5_9_25 : Bool) =>
    joinK (fun (g5_15_31 : Bool) =>
    if g5_15_31 then
    some (.inr l1_8)
    else
    some (.inl (IntKind.i64.wrap (l1_8 + 1)))) fun j_g5_15 =>
    if g5_9_25 then
    (ref09_Bind k l1_8).bind fun x5_12 =>
    j_g5_15 (x5_12 == lev)
    else
    j_g5_15 false) fun j_g5_9 =>
    if (t.Kind == 4) then
    (ref09_Spell k l1_8).bind fun x5_5 =>
    j_g5_9 (x5_5 == t.Text)
    else
    j_g5_9 false
    else
    (j_j0 ()).map .inr
theorem refsign_eq (k : Nat) (l : List TToken) (i lev : Int) : ref13_sign k l i lev = loopM k (sgR (tk l i) lev k (fun _ => some 0)) 1 := by
  unfold ref13_sign
  rw [Tok_eq]
  rfl
/-- The search, from s on, finds nothing where no text fits. -/
theorem sg_none {t : TToken} {lev : Int} (h : t.Kind ≠ 4 ∨ ∀ s : Nat, 1 ≤ s → s ≤ 14 → (spells[s - 1]? ≠ some t.Text)) : ∀ (d s : Nat), s + d = 15 → 1 ≤ s → EvL (fun k => sgR t lev k (fun _ => some 0)) (s : Int) 0
  | 0, s, e, _ => EvL.done (Ev.ite_f (by simp; omega) (Ev.of fun _ => rfl))
  | d + 1, s, e, h1 => by
    have ih := sg_none (lev := lev) h d (s + 1) (by omega) (by omega)
    refine EvL.step (s' := ((s + 1 : Nat) : Int)) ?_ ih
    refine Ev.ite_t (by simp; omega) (Ev.joinK ?_)
    have hw : IntKind.i64.wrap ((s : Int) + 1) = ((s + 1 : Nat) : Int) := by rw [wrap64_id (by omega) (by omega)]; simp
    rcases h with h | h
    · refine Ev.ite_f (by simpa using h) (Ev.joinK (Ev.ite_f rfl (Ev.ite_f rfl (Ev.of fun _ => by rw [hw]))))
    · by_cases hk : t.Kind = 4
      · have hs := h s h1 (by omega)
        obtain ⟨x, hx⟩ : ∃ x, spells[s - 1]? = some x := ⟨_, List.getElem?_eq_getElem (by simp [spells]; omega)⟩
        have hsp : ∀ k, ref09_Spell k (s : Int) = some x := by
          intro k
          unfold ref09_Spell
          rw [if_neg (by simp; omega)]
          rw [ix_of (x := x) (by rw [wrap64_id (by omega) (by omega)]; omega) (by rw [wrap64_id (by omega) (by omega)]; rw [show ((s : Int) - 1).toNat = s - 1 by omega]; exact hx)]
          rfl
        refine Ev.ite_t (by simpa using hk) (Ev.bindS hsp (Ev.joinK (Ev.ite_f ?_ (Ev.ite_f rfl (Ev.of fun _ => by rw [hw])))))
        have : x ≠ t.Text := fun e => hs (by rw [hx, e])
        simpa using this
      · exact Ev.ite_f (by simpa using hk) (Ev.joinK (Ev.ite_f rfl (Ev.ite_f rfl (Ev.of fun _ => by rw [hw]))))
def bindOf : Nat → Int
  | 1 => 4 | 2 => 4 | 3 => 5 | 4 => 5 | 5 => 5 | 6 => 3 | 7 => 3 | 8 => 3 | 9 => 3 | 10 => 3 | 11 => 3 | 12 => 2 | 13 => 1 | _ => 0
theorem binds : ∀ s : Nat, 1 ≤ s → s ≤ 14 → ∀ k, ref09_Bind k (s : Int) = some (bindOf s) ∧ word_Bind k (s : Int) = some (bindOf s) := by
  intro s h1 h2 k
  match s, h1, h2 with
  | 1, _, _ => exact ⟨rfl, rfl⟩
  | 2, _, _ => exact ⟨rfl, rfl⟩
  | 3, _, _ => exact ⟨rfl, rfl⟩
  | 4, _, _ => exact ⟨rfl, rfl⟩
  | 5, _, _ => exact ⟨rfl, rfl⟩
  | 6, _, _ => exact ⟨rfl, rfl⟩
  | 7, _, _ => exact ⟨rfl, rfl⟩
  | 8, _, _ => exact ⟨rfl, rfl⟩
  | 9, _, _ => exact ⟨rfl, rfl⟩
  | 10, _, _ => exact ⟨rfl, rfl⟩
  | 11, _, _ => exact ⟨rfl, rfl⟩
  | 12, _, _ => exact ⟨rfl, rfl⟩
  | 13, _, _ => exact ⟨rfl, rfl⟩
  | 14, _, _ => exact ⟨rfl, rfl⟩
theorem spell_at (s : Nat) (h1 : 1 ≤ s) (h2 : s ≤ 14) {x : List UInt8} (hx : spells[s - 1]? = some x) (k : Nat) : ref09_Spell k (s : Int) = some x := by
  unfold ref09_Spell
  rw [if_neg (by simp; omega)]
  rw [ix_of (x := x) (by rw [wrap64_id (by omega) (by omega)]; omega) (by rw [wrap64_id (by omega) (by omega)]; rw [show ((s : Int) - 1).toNat = s - 1 by omega]; exact hx)]
  rfl
theorem spells_inj {a b : Nat} (ha : a < 14) (hb : b < 14) {x : List UInt8} (h1 : spells[a]? = some x) (h2 : spells[b]? = some x) : a = b := by
  have : ∀ a, a < 14 → ∀ b, b < 14 → spells[a]? = spells[b]? → a = b := by decide
  exact this a ha b hb (by rw [h1, h2])
/-- From s on: it goes past the texts that do not fit, and comes to the n-th one. -/
theorem sg_to {t : TToken} {lev : Int} (hk : t.Kind = 4) {n : Nat} (hn1 : 1 ≤ n) (hn2 : n ≤ 14) (hx : spells[n - 1]? = some t.Text) : ∀ (d s : Nat), s + d = n → 1 ≤ s → EvL (fun k => sgR t lev k (fun _ => some 0)) (s : Int) (if bindOf n = lev then (n : Int) else 0)
  | 0, s, e, h1 => by
    have e : s = n := by omega
    subst e
    by_cases hb : bindOf s = lev
    · rw [if_pos hb]
      refine EvL.done (Ev.ite_t (by simp; omega) (Ev.joinK (Ev.ite_t (by simpa using hk) (Ev.bindS (spell_at s h1 hn2 hx) (Ev.joinK (Ev.ite_t (by simp) ?_))))))
      exact Ev.bindS (fun k => (binds s h1 hn2 k).1) (Ev.ite_t (by simpa using hb) Ev.pure)
    · rw [if_neg hb]
      have hw : IntKind.i64.wrap ((s : Int) + 1) = ((s + 1 : Nat) : Int) := by rw [wrap64_id (by omega) (by omega)]; simp
      have rest : EvL (fun k => sgR t lev k (fun _ => some 0)) ((s + 1 : Nat) : Int) 0 := by
        -- no other text fits
        have : ∀ (d q : Nat), q + d = 15 → s < q → EvL (fun k => sgR t lev k (fun _ => some 0)) (q : Int) 0 := by
          intro d
          induction d with
          | zero => intro q e h; exact EvL.done (Ev.ite_f (by simp; omega) (Ev.of fun _ => rfl))
          | succ d ih =>
            intro q e h
            have hwq : IntKind.i64.wrap ((q : Int) + 1) = ((q + 1 : Nat) : Int) := by rw [wrap64_id (by omega) (by omega)]; simp
            obtain ⟨x, hxq⟩ : ∃ x, spells[q - 1]? = some x := ⟨_, List.getElem?_eq_getElem (by simp [spells]; omega)⟩
            refine EvL.step (s' := ((q + 1 : Nat) : Int)) ?_ (ih (q + 1) (by omega) (by omega))
            refine Ev.ite_t (by simp; omega) (Ev.joinK (Ev.ite_t (by simpa using hk) (Ev.bindS (spell_at q (by omega) (by omega) hxq) (Ev.joinK (Ev.ite_f ?_ (Ev.ite_f rfl (Ev.of fun _ => by rw [hwq])))))))
            have : x ≠ t.Text := fun e' => by
              have := spells_inj (a := s - 1) (b := q - 1) (by omega) (by omega) hx (by rw [hxq, e'])
              omega
            simpa using this
        exact this (14 - s) (s + 1) (by omega) (by omega)
      refine EvL.step (s' := ((s + 1 : Nat) : Int)) ?_ rest
      refine Ev.ite_t (by simp; omega) (Ev.joinK (Ev.ite_t (by simpa using hk) (Ev.bindS (spell_at s h1 hn2 hx) (Ev.joinK (Ev.ite_t (by simp) ?_)))))
      exact Ev.bindS (fun k => (binds s h1 hn2 k).1) (Ev.ite_f (by simpa using hb) (Ev.of fun _ => by rw [hw]))
  | d + 1, s, e, h1 => by
    have hw : IntKind.i64.wrap ((s : Int) + 1) = ((s + 1 : Nat) : Int) := by rw [wrap64_id (by omega) (by omega)]; simp
    obtain ⟨x, hxq⟩ : ∃ x, spells[s - 1]? = some x := ⟨_, List.getElem?_eq_getElem (by simp [spells]; omega)⟩
    refine EvL.step (s' := ((s + 1 : Nat) : Int)) ?_ (sg_to hk hn1 hn2 hx d (s + 1) (by omega) (by omega))
    refine Ev.ite_t (by simp; omega) (Ev.joinK (Ev.ite_t (by simpa using hk) (Ev.bindS (spell_at s (by omega) (by omega) hxq) (Ev.joinK (Ev.ite_f ?_ (Ev.ite_f rfl (Ev.of fun _ => by rw [hw])))))))
    have : x ≠ t.Text := fun e' => by
      have := spells_inj (a := n - 1) (b := s - 1) (by omega) (by omega) hx (by rw [hxq, e'])
      omega
    simpa using this

/-! ### the reader's -/
def wsR (x : List UInt8) (k : Nat) (j_j0 : Unit → Option (Int × Bool)) (l1_7 : Int) : Option (Int ⊕ (Int × Bool)) :=
    if (decide (l1_7 < 15)) then
    (ix g_word_spellings l1_7).bind fun x3_1 =>
    if ((decide (l1_7 > 0)) && (x3_1 == x)) then
    some (.inr (l1_7, true))
    else
    some (.inl (IntKind.i64.wrap (l1_7 + 1)))
    else
    (j_j0 ()).map .inr
theorem wordsign_eq (k : Nat) (x : List UInt8) : word_Sign k x = loopM k (wsR x k (fun _ => some (0, false))) 0 := rfl
theorem gsp (s : Nat) (h1 : 1 ≤ s) (h2 : s ≤ 14) : ix g_word_spellings (s : Int) = spells[s - 1]? := by
  have : ∀ s, s < 15 → 1 ≤ s → g_word_spellings[s]? = spells[s - 1]? := by decide
  unfold ix
  rw [if_pos (by omega)]
  have := this s (by omega) h1
  simpa using this
theorem ws_from {x : List UInt8} (n : Nat) (hn : n ≤ 15) (hx : n < 15 → 1 ≤ n ∧ spells[n - 1]? = some x) (hno : ∀ s, 1 ≤ s → s < n → spells[s - 1]? ≠ some x) : ∀ (d s : Nat), s + d = n → EvL (fun k => wsR x k (fun _ => some (0, false))) (s : Int) (if n < 15 then ((n : Int), true) else (0, false))
  | 0, s, e => by
    have e : s = n := by omega
    subst e
    by_cases h : s < 15
    · rw [if_pos h]
      obtain ⟨h1, h2⟩ := hx h
      exact EvL.done (Ev.ite_t (by simp; omega) (Ev.bindS (x := x) (fun _ => by rw [gsp s h1 (by omega)]; exact h2) (Ev.ite_t (by simp; omega) Ev.pure)))
    · rw [if_neg h]
      exact EvL.done (Ev.ite_f (by simp; omega) (Ev.of fun _ => rfl))
  | d + 1, s, e => by
    have hw : IntKind.i64.wrap ((s : Int) + 1) = ((s + 1 : Nat) : Int) := by rw [wrap64_id (by omega) (by omega)]; simp
    refine EvL.step (s' := ((s + 1 : Nat) : Int)) ?_ (ws_from n hn hx hno d (s + 1) (by omega))
    refine Ev.ite_t (by simp; omega) ?_
    by_cases h0 : s = 0
    · subst h0
      exact Ev.bindS (x := []) (fun _ => rfl) (Ev.ite_f rfl (Ev.of fun _ => by rw [hw]))
    · obtain ⟨y, hy⟩ : ∃ y, spells[s - 1]? = some y := ⟨_, List.getElem?_eq_getElem (by simp [spells]; omega)⟩
      refine Ev.bindS (x := y) (fun _ => by rw [gsp s (by omega) (by omega)]; exact hy) (Ev.ite_f ?_ (Ev.of fun _ => by rw [hw]))
      have : y ≠ x := fun e' => hno s (by omega) (by omega) (by rw [hy, e'])
      simp [this]
theorem find_spell (x : List UInt8) : (∃ n, 1 ≤ n ∧ n ≤ 14 ∧ spells[n - 1]? = some x) ∨ ∀ s, 1 ≤ s → s ≤ 14 → spells[s - 1]? ≠ some x := by
  by_cases h : x ∈ spells
  · left
    obtain ⟨i, hi⟩ := List.mem_iff_getElem?.1 h
    have := (List.getElem?_eq_some_iff.1 hi).1
    exact ⟨i + 1, by omega, by simp [spells] at this; omega, by simpa using hi⟩
  · right
    intro s _ _ hs
    exact h (List.mem_of_getElem? hs)
theorem sign_both (l : List TToken) (i lev : Int) : ∃ s : Int, Ev (fun k => expr_reader_sign k lev l i false) s ∧ Ev (fun k => ref13_sign k l i lev) s ∧ (s ≠ 0 → (tk l i).Kind = 4 ∧ ∀ k, ref09_Bind k s = some lev) := by
  have hd : ∀ s, Ev (fun k => loopM k (sgR (tk l i) lev k (fun _ => some 0)) 1) s → Ev (fun k => ref13_sign k l i lev) s := fun s h => Ev.congr (fun k => refsign_eq k l i lev) h
  have he : ∀ s (p : Int × Bool), Ev (fun k => word_Sign k (tk l i).Text) p → Ev (fun k => joinK (fun (g3_11_27 : Bool) => if g3_11_27 then some p.1 else some 0) fun j => if (p.2 && ((tk l i).Kind == 4)) then (word_Bind k p.1).bind fun x3_8 => j (x3_8 == lev) else j false) s → Ev (fun k => expr_reader_sign k lev l i false) s := by
    intro s p h1 h2
    refine Ev.bindS (x := tk l i) (fun k => look_eq k l i false) (Ev.bind h1 ?_)
    exact h2
  rcases find_spell (tk l i).Text with ⟨n, h1, h2, h3⟩ | hno
  · have hw : Ev (fun k => word_Sign k (tk l i).Text) ((n : Int), true) := by
      have := Ev.loop (ws_from (x := (tk l i).Text) n (by omega) (fun _ => ⟨h1, h3⟩) (fun s q1 q2 q3 => by have := spells_inj (a := s - 1) (b := n - 1) (by omega) (by omega) q3 h3; omega) n 0 (by omega))
      rw [if_pos (by omega)] at this
      exact Ev.congr (fun k => wordsign_eq k _) this
    by_cases hk : (tk l i).Kind = 4
    · refine ⟨if bindOf n = lev then (n : Int) else 0, he _ _ hw ?_, hd _ ?_, fun h => ⟨hk, fun k => ?_⟩⟩
      · refine Ev.joinK (Ev.ite_t (by simpa using hk) (Ev.bindS (fun k => (binds n h1 h2 k).2) ?_))
        by_cases hb : bindOf n = lev
        · rw [if_pos hb]; exact Ev.ite_t (by simpa using hb) Ev.pure
        · rw [if_neg hb]; exact Ev.ite_f (by simpa using hb) Ev.pure
      · exact Ev.loop (sg_to hk h1 h2 h3 (n - 1) 1 (by omega) (by omega))
      · by_cases hb : bindOf n = lev
        · rw [if_pos hb, ← hb]; exact (binds n h1 h2 k).1
        · rw [if_neg hb] at h; exact (h rfl).elim
    · refine ⟨0, he _ _ hw ?_, hd _ ?_, fun h => (h rfl).elim⟩
      · exact Ev.joinK (Ev.ite_f (by simpa using hk) (Ev.ite_f rfl Ev.pure))
      · exact Ev.loop (sg_none (.inl hk) 14 1 (by omega) (by omega))
  · have hw : Ev (fun k => word_Sign k (tk l i).Text) ((0 : Int), false) := by
      have := Ev.loop (ws_from (x := (tk l i).Text) 15 (by omega) (fun h => by omega) (fun s q1 q2 => hno s q1 (by omega)) 15 0 (by omega))
      rw [if_neg (by omega)] at this
      exact Ev.congr (fun k => wordsign_eq k _) this
    refine ⟨0, he _ _ hw ?_, hd _ ?_, fun h => (h rfl).elim⟩
    · exact Ev.joinK (Ev.ite_f rfl (Ev.ite_f rfl Ev.pure))
    · exact Ev.loop (sg_none (.inr fun s q1 q2 => hno s q1 q2) 14 1 (by omega) (by omega))
end Go.Proofs.YtbhncegmohnfhaaDoor.F
