/- Slices that begin to grow; objects that nobody writes any more. No condition. -/
import Derived.Test.YtbckfbohbjhffaaZSem2
set_option linter.unusedVariables false
set_option linter.unusedSimpArgs false
namespace Go.Proofs.Ytbckfbohbjhffaa.AE
open Go

def tokFree (b : Oid) (S : St) : Bool := (S.A.all fun x => !(toks x.2).contains b) && S.H.all fun x => !x.2.toks.contains b
def emptyAt (s : Nat) : AV → Bool
  | .nils => true
  | .slice .full s' _ => s' == s
  | _ => false
def grows (b : Oid) (s : Nat) : AV → AV
  | .slice _ _ es => .slice (.buf b) s es
  | _ => .slice (.buf b) s []
def members : AV → Nat
  | .slice _ _ es => es.length
  | _ => 0
/-- The slot t (or the cell) that holds no members begins to grow, under the name b. -/
def beginSt (S : St) (b : Oid) (s : Nat) (t : Nat) : Option Nat → Option St
  | none => if (find S.H b).isNone && tokFree b S && !isExtB b && emptyAt s (getA S.A t) then some ⟨put t (grows b s (getA S.A t)) S.A, ins b (.buf s (members (getA S.A t))) S.H⟩ else none
  | some j => match getA S.A t with
    | .ptr o 0 => match find S.H o with
      | some (.cells true cs) =>
        if (find S.H b).isNone && tokFree b S && !isExtB b && emptyAt s (cs.getD j .undef) && decide (j < cs.length) then some ⟨S.A, ins b (.buf s (members (cs.getD j .undef))) (ins o (.cells true (cs.set j (grows b s (cs.getD j .undef)))) S.H)⟩ else none
      | _ => none
    | _ => none

theorem V_begin {g g1 : Gh} {s : Nat} {b : Oid} {a : AV} {v : Value} (h : V g a v) (he : emptyAt s a = true) (hΓ : ∀ c o x, g.Γ c o x → g1.Γ c o x) (ht : g1.tip b = some (s, members a)) : V g1 (grows b s a) v := by
  unfold emptyAt at he
  split at he
  · simp only [V, grows] at h ⊢
    exact .inl ⟨.inl h, trivial⟩
  · rename_i s' es
    have e : s' = s := by simpa using he
    subst e
    simp only [V, grows] at h ⊢
    rcases h with ⟨hb, rfl⟩ | ⟨c, off, cap, h1, h2, h3, h4, h5⟩
    · refine .inl ⟨?_, rfl⟩
      rcases hb with hb | ⟨a, cap, hb, hc | hc⟩
      · exact .inl hb
      · cases hc
      · exact .inr ⟨a, cap, hb, .inr hc⟩
    · simp only [TokOk] at h5
      refine .inr ⟨c, off, cap, h1, h2, h3, h4.mono hΓ, fun s n hn => ?_⟩
      rw [ht] at hn
      cases hn
      exact ⟨Nat.le_refl _, fun _ => .inr h5⟩
  · cases he
def Gh.begun (g : Gh) (b : Oid) (H : Heap) : Gh := { g with bufc := fun x => if x = b then none else g.bufc x, tip := tipOf H }
theorem VL.setD {g : Gh} : ∀ {as : List AV} {vs : List Value} (j : Nat) (a : AV), VL g as vs → (∀ v, vs[j]? = some v → V g a v) → VL g (as.set j a) vs
  | [], vs, j, a, h, _ => by cases j <;> exact h
  | x :: as, _, 0, a, h, k => by
    obtain ⟨v, vs, rfl, h1, h2⟩ := h
    exact ⟨v, vs, rfl, k v rfl, h2⟩
  | x :: as, _, j + 1, a, h, k => by
    obtain ⟨v, vs, rfl, h1, h2⟩ := h
    exact ⟨v, vs, rfl, h1, VL.setD j a h2 (fun u hu => k u (by simpa using hu))⟩

/-- What a state and one in which something has begun to grow have in common. -/
theorem begin_core {gl : List (Nat × List AV)} {n : Nat} {g : Gh} {S S1 : St} {a : Act} {w : World} (h : StOk gl n g S a w) (b : Oid) (s : Nat) (m : Nat) (hb : find S.H b = none) (hf : tokFree b S = true) (hx : isExtB b = false)
    (hH : ∀ x, x ≠ b → find S1.H x = find S.H x ∨ ∃ cs j e, find S.H x = some (.cells true cs) ∧ find S1.H x = some (.cells true (cs.set j (grows b s e))) ∧ cs[j]? = some e ∧ emptyAt s e = true ∧ members e = m) (hHb : find S1.H b = some (.buf s m))
    (hA : ∀ t, getA S1.A t = getA S.A t ∨ (getA S1.A t = grows b s (getA S.A t) ∧ emptyAt s (getA S.A t) = true ∧ members (getA S.A t) = m)) :
    ∃ g1, StOk gl n g1 S1 a w ∧ Ctx w g S.H g1 S1.H w ∧ Keep (fun b => ¬ IsExt b) g g1 ∧ Pers S.H S1.H := by
  simp only [tokFree, Bool.and_eq_true, List.all_eq_true, Bool.not_eq_true', List.contains_eq_mem, decide_eq_false_iff_not] at hf
  obtain ⟨f1, f2⟩ := hf
  have htip : ∀ x, x ≠ b → tipOf S1.H x = tipOf S.H x := by
    intro x hne
    unfold tipOf
    rcases hH x hne with e | ⟨cs, j, e, e1, e2, _⟩
    · rw [e]
    · rw [e1, e2]
  have hle : ∀ x, x ≠ b → TokLe g (g.begun b S1.H) x := fun x hne => .same (by show tipOf S1.H x = g.tip x; rw [htip x hne, h.wc.tip]) (by simp [Gh.begun, hne])
  have hmono : ∀ a v, (∀ y ∈ toks a, y ≠ b) → V g a v → V (g.begun b S1.H) a v := fun a v ht hv => V.mono (g := g) (g' := g.begun b S1.H) (fun _ _ _ h => h) a v (fun _ _ _ h => h) (fun y hy => hle y (ht y hy)) hv
  have hmonoL : ∀ as vs, (∀ y ∈ toksL as, y ≠ b) → VL g as vs → VL (g.begun b S1.H) as vs := fun a v ht hv => VL.mono (g := g) (g' := g.begun b S1.H) (fun _ _ _ h => h) a v (fun _ _ _ h => h) (fun y hy => hle y (ht y hy)) hv
  have hslot : ∀ t, ∀ y ∈ toks (getA S.A t), y ≠ b := by
    intro t y hy e
    subst e
    unfold getA at hy
    cases hq : find S.A t with
    | none => rw [hq] at hy; simp [toks] at hy
    | some v => rw [hq] at hy; exact f1 _ (find_mem hq) hy
  have hcell : ∀ x ob, find S.H x = some ob → ∀ y ∈ ob.toks, y ≠ b := fun x ob hq y hy e => f2 _ (find_mem hq) (e ▸ hy)
  have hblk : ∀ x ob, find S1.H x = some ob → ∀ c, (blockOf (g.begun b S1.H) x ob = some c → x ≠ b ∧ ∃ ob0, find S.H x = some ob0 ∧ blockOf g x ob0 = some c) ∧ (ownOf (g.begun b S1.H) x ob = some c → x ≠ b ∧ ∃ ob0, find S.H x = some ob0 ∧ ownOf g x ob0 = some c) := by
    intro x ob hq c
    by_cases hne : x = b
    · subst hne
      rw [hHb] at hq; cases hq
      exact ⟨fun h => by simp [blockOf, Gh.begun] at h, fun h => by simp [ownOf, Gh.begun] at h⟩
    · rcases hH x hne with e | ⟨cs, j, e, e1, e2, _⟩
      · rw [e] at hq
        refine ⟨fun h => ⟨hne, ob, hq, ?_⟩, fun h => ⟨hne, ob, hq, ?_⟩⟩
        · cases ob with
          | cells wr cs => exact h
          | buf s n => simp only [blockOf, Gh.begun, if_neg hne] at h ⊢; exact h
          | map es => exact h
        · cases ob with
          | cells wr cs => cases wr <;> exact h
          | buf s n => simp only [ownOf, Gh.begun, if_neg hne] at h ⊢; exact h
          | map es => exact h
      · rw [e2] at hq; cases hq
        exact ⟨fun h => ⟨hne, _, e1, h⟩, fun h => ⟨hne, _, e1, h⟩⟩
  refine ⟨g.begun b S1.H, ⟨⟨fun _ => rfl, fun c o x hc => ?_, fun x ob hq => ?_, fun x x' ob ob' c h1 h2 h3 h4 => ?_⟩, fun t => ?_, h.size, h.defers, h.glob⟩,
    ⟨Nat.le_refl _, fun _ _ _ => ⟨rfl, fun _ => rfl⟩, fun _ _ _ h => h, fun c ⟨x, ob, q1, q2⟩ => .inl ?_, fun c ⟨x, ob, q1, q2⟩ => .inl ?_, rfl, rfl, rfl⟩, ⟨fun _ _ _ h => h, fun _ _ _ h => h, fun x hne => hle x ?_⟩, fun e he hs => ?_⟩
  · obtain ⟨v, q1, q2, q3, q4, q5⟩ := h.wc.pin c o x hc
    exact ⟨v, q1, hmono _ _ (by simp [q4]) q2, q3, q4, q5⟩
  · by_cases hne : x = b
    · subst hne
      rw [hHb] at hq; cases hq
      intro c cap hc
      simp [Gh.begun] at hc
    · rcases hH x hne with e | ⟨cs, j, e, e1, e2, e3, e4, e5⟩
      · rw [e] at hq
        have h0 := h.wc.objs x ob hq
        cases ob with
        | cells wr cs =>
          obtain ⟨c, vs, e, k1, k2, k3, k4⟩ := h0
          exact ⟨c, vs, e, k1, k2, hmonoL _ _ (hcell x _ hq) k3, k4⟩
        | buf s n =>
          intro c cap hc
          simp only [Gh.begun, if_neg hne] at hc
          exact h0 c cap hc
        | map es => exact h0.elim
      · rw [e2] at hq; cases hq
        obtain ⟨c, vs, e', k1, k2, k3, k4⟩ := h.wc.objs x _ e1
        refine ⟨c, vs, e', k1, k2, VL.setD j _ (hmonoL _ _ (hcell x _ e1) k3) fun v hv => ?_, k4⟩
        obtain ⟨u, u1, u2⟩ := k3.get j e e3
        rw [hv] at u1; cases u1
        exact V_begin u2 e4 (fun _ _ _ h => h) (by show tipOf S1.H b = _; simp [tipOf, hHb, e5])
  · obtain ⟨_, ob0, q1, q2⟩ := (hblk x ob h1 c).1 h3
    obtain ⟨_, ob0', q3, q4⟩ := (hblk x' ob' h2 c).1 h4
    exact h.wc.inj x x' ob0 ob0' c q1 q3 q2 q4
  · rcases hA t with e | ⟨e1, e2, e3⟩
    · rw [e]; exact hmono _ _ (hslot t) (h.vals t)
    · rw [e1]; exact V_begin (h.vals t) e2 (fun _ _ _ h => h) (by show tipOf S1.H b = _; simp [tipOf, hHb, e3])
  · obtain ⟨_, ob0, q3, q4⟩ := (hblk x ob q1 c).2 q2
    exact ⟨x, ob0, q3, q4⟩
  · obtain ⟨_, ob0, q3, q4⟩ := (hblk x ob q1 c).1 q2
    exact ⟨x, ob0, q3, q4⟩
  · intro e
    subst e
    exact hne fun hi => by rw [(isExtB_iff x).2 hi] at hx; cases hx
  · by_cases hne : e = b
    · subst hne; rw [hHb]; rfl
    · rcases hH e hne with q | ⟨cs, j, e', e1, e2, _⟩
      · rw [q]; exact hs
      · rw [e2]; rfl
theorem begin_ok {gl : List (Nat × List AV)} {n : Nat} {g : Gh} {S S1 : St} {a : Act} {w : World} (h : StOk gl n g S a w) {b : Oid} {s t : Nat} {j : Option Nat} (hs : beginSt S b s t j = some S1) :
    ∃ g1, StOk gl n g1 S1 a w ∧ Ctx w g S.H g1 S1.H w ∧ Keep (fun b => ¬ IsExt b) g g1 ∧ Pers S.H S1.H := by
  cases j with
  | none =>
    simp only [beginSt] at hs
    split at hs
    · rename_i hc
      cases hs
      simp only [Bool.and_eq_true, Option.isNone_iff_eq_none, Bool.not_eq_true'] at hc
      obtain ⟨⟨⟨c1, c2⟩, c3⟩, c4⟩ := hc
      refine begin_core h b s _ c1 c2 c3 (fun x hne => .inl ?_) (by rw [find_ins, if_pos rfl]) fun u => ?_
      · rw [find_ins, if_neg (Ne.symm hne)]
      · by_cases e : t = u
        · subst e; right; exact ⟨by rw [getA_put, if_pos rfl], c4, rfl⟩
        · left; rw [getA_put, if_neg e]
    · cases hs
  | some j =>
    simp only [beginSt] at hs
    split at hs <;> try cases hs
    rename_i o ho
    split at hs <;> try cases hs
    rename_i cs hcs
    split at hs <;> try cases hs
    rename_i hc
    simp only [Bool.and_eq_true, Option.isNone_iff_eq_none, Bool.not_eq_true', decide_eq_true_eq] at hc
    obtain ⟨⟨⟨⟨c1, c2⟩, c3⟩, c4⟩, c5⟩ := hc
    have ec : cs.getD j .undef = cs[j] := by rw [List.getD_eq_getElem?_getD, List.getElem?_eq_getElem c5, Option.getD_some]
    refine begin_core h b s (members cs[j]) c1 c2 c3 (fun x hne => ?_) ?_ fun u => .inl rfl
    · by_cases e : o = x
      · subst e
        right
        refine ⟨cs, j, cs[j], hcs, ?_, List.getElem?_eq_getElem c5, ?_, rfl⟩
        · rw [find_ins, if_neg (Ne.symm hne), find_ins, if_pos rfl, ec]
        · rwa [ec] at c4
      · left; rw [find_ins, if_neg (Ne.symm hne), find_ins, if_neg e]
    · rw [find_ins, if_pos rfl, ec]
section
variable {Z : Seat} {n : Nat}
theorem SC.begin {c : Code} {S : St} {Q : Ex → St → Prop} (b : Oid) (s t : Nat) (j : Option Nat) (S1 : St) (hs : beginSt S b s t j = some S1) (h : SC Z n c S1 Q) : SC Z n c S Q := by
  intro g a w hS
  obtain ⟨g1, k1, k2, k3, k4⟩ := begin_ok hS hs
  exact wp_mono (h g1 a w k1) fun e a' w' ⟨x, S', h1, h2⟩ => ⟨x, S', h1, CodePost.trans k2 k3 k4 e a' w' h2⟩
theorem SO.begin {ops : Array Oper} {k e : Nat} {S : St} {K : St → Prop} (b : Oid) (s t : Nat) (j : Option Nat) (S1 : St) (hs : beginSt S b s t j = some S1) (h : SO Z n ops k e S1 K) : SO Z n ops k e S K := by
  intro g a w hS Q m hq
  obtain ⟨g1, k1, k2, k3, k4⟩ := begin_ok hS hs
  exact h g1 a w k1 Q m fun S' a' w' hK st => hq S' a' w' hK (StepTo.trans k2 k3 k4 st)
theorem SO.eqS {ops : Array Oper} {k e : Nat} {S S1 : St} {K : St → Prop} (hs : S = S1) (h : SO Z n ops k e S1 K) : SO Z n ops k e S K := hs ▸ h
end
end Go.Proofs.Ytbckfbohbjhffaa.AE
