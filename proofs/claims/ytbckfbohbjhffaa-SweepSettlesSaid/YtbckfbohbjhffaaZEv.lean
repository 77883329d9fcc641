/- What a printed function answers, with enough rounds. No condition. -/
import Derived.Test.YtbckfbohbjhffaaZWords
set_option linter.unusedVariables false
namespace Go.Proofs.Ytbckfbohbjhffaa.F
open Go

/-- With enough rounds it answers x. -/
def Ev {α : Type} (g : Nat → Option α) (x : α) : Prop := ∃ k0, ∀ k, k0 ≤ k → g k = some x
/-- Likewise rounds of rounds. -/
def EvL {σ ρ : Type} (body : Nat → σ → Option (σ ⊕ ρ)) (s : σ) (r : ρ) : Prop := ∃ k0, ∀ k j, k0 ≤ k → k0 ≤ j → loopM j (body k) s = some r

section
variable {α β σ ρ : Type}
theorem Ev.of {g : Nat → Option α} {x : α} (h : ∀ k, g k = some x) : Ev g x := ⟨0, fun k _ => h k⟩
theorem Ev.at {g : Nat → Option α} {x : α} (n : Nat) (h : ∀ k, g (k + n) = some x) : Ev g x := ⟨n, fun k hk => by have := h (k - n); rwa [show k - n + n = k by omega] at this⟩
theorem Ev.pure {x : α} : Ev (fun _ => some x) x := ⟨0, fun _ _ => rfl⟩
theorem Ev.bind {g : Nat → Option α} {f : Nat → α → Option β} {x : α} {y : β} (h : Ev g x) (h2 : Ev (fun k => f k x) y) : Ev (fun k => (g k).bind (f k)) y := by
  obtain ⟨k1, h1⟩ := h
  obtain ⟨k2, h2⟩ := h2
  exact ⟨max k1 k2, fun k hk => by show (g k).bind (f k) = _; rw [h1 k (by omega)]; exact h2 k (by omega)⟩
theorem Ev.bindS {g : Nat → Option α} {f : Nat → α → Option β} {x : α} {y : β} (h : ∀ k, g k = some x) (h2 : Ev (fun k => f k x) y) : Ev (fun k => (g k).bind (f k)) y := Ev.bind (Ev.of h) h2
theorem Ev.ite_t {c : Bool} {A B : Nat → Option α} {x : α} (hc : c = true) (h : Ev A x) : Ev (fun k => if c = true then A k else B k) x := by
  obtain ⟨k1, h1⟩ := h
  exact ⟨k1, fun k hk => by show (if c = true then A k else B k) = _; rw [if_pos hc]; exact h1 k hk⟩
theorem Ev.ite_f {c : Bool} {A B : Nat → Option α} {x : α} (hc : c = false) (h : Ev B x) : Ev (fun k => if c = true then A k else B k) x := by
  obtain ⟨k1, h1⟩ := h
  exact ⟨k1, fun k hk => by show (if c = true then A k else B k) = _; rw [if_neg (by rw [hc]; simp)]; exact h1 k hk⟩
theorem Ev.map {g : Nat → Option ρ} {r : ρ} (h : Ev g r) : Ev (fun k => (g k).map (Sum.inr (α := σ))) (.inr r) := by
  obtain ⟨k1, h1⟩ := h
  exact ⟨k1, fun k hk => by show (g k).map _ = _; rw [h1 k hk]; rfl⟩
/-- A function that takes a round. -/
theorem Ev.succ {g h : Nat → Option α} {x : α} (e : ∀ k, g (k + 1) = h k) (hh : Ev h x) : Ev g x := by
  obtain ⟨k1, h1⟩ := hh
  refine ⟨k1 + 1, fun k hk => ?_⟩
  obtain ⟨k, rfl⟩ : ∃ j, k = j + 1 := ⟨k - 1, by omega⟩
  rw [e]; exact h1 k (by omega)
theorem Ev.congr {g h : Nat → Option α} {x : α} (e : ∀ k, g k = h k) (hh : Ev h x) : Ev g x := by
  obtain ⟨k1, h1⟩ := hh
  exact ⟨k1, fun k hk => by rw [e]; exact h1 k hk⟩
theorem Ev.eq {g : Nat → Option α} {x y : α} (h : Ev g x) (e : x = y) : Ev g y := e ▸ h
theorem EvL.done {body : Nat → σ → Option (σ ⊕ ρ)} {s : σ} {r : ρ} (h : Ev (fun k => body k s) (.inr r)) : EvL body s r := by
  obtain ⟨k1, h1⟩ := h
  refine ⟨k1 + 1, fun k j hk hj => ?_⟩
  obtain ⟨j, rfl⟩ : ∃ i, j = i + 1 := ⟨j - 1, by omega⟩
  have := h1 k (by omega)
  simp only at this
  rw [loopM_step, this]
theorem EvL.step {body : Nat → σ → Option (σ ⊕ ρ)} {s s' : σ} {r : ρ} (h : Ev (fun k => body k s) (.inl s')) (h2 : EvL body s' r) : EvL body s r := by
  obtain ⟨k1, h1⟩ := h
  obtain ⟨k2, h2⟩ := h2
  refine ⟨k1 + k2 + 1, fun k j hk hj => ?_⟩
  obtain ⟨j, rfl⟩ : ∃ i, j = i + 1 := ⟨j - 1, by omega⟩
  have := h1 k (by omega)
  simp only at this
  rw [loopM_step, this]
  exact h2 k j (by omega) (by omega)
theorem Ev.loop {body : Nat → σ → Option (σ ⊕ ρ)} {s : σ} {r : ρ} (h : EvL body s r) : Ev (fun k => loopM k (body k) s) r := by
  obtain ⟨k1, h1⟩ := h
  exact ⟨k1, fun k hk => h1 k k hk hk⟩
theorem Ev.joinK {J : Nat → α → Option ρ} {B : Nat → (α → Option ρ) → Option ρ} {r : ρ} (h : Ev (fun k => B k (J k)) r) : Ev (fun k => F.joinK (J k) (B k)) r := h
theorem Ev.uniq {g : Nat → Option α} {x y : α} (h : Ev g x) (h2 : Ev g y) : x = y := by
  obtain ⟨k1, h1⟩ := h
  obtain ⟨k2, h2⟩ := h2
  have a := h1 (max k1 k2) (by omega)
  have b := h2 (max k1 k2) (by omega)
  rw [a] at b; exact Option.some.inj b
end
theorem Ev.succ1 {α : Type} {f : Nat → Option α} {x : α} (h : Ev (fun k => f (k + 1)) x) : Ev f x := Ev.succ (fun _ => rfl) h
/-- A loop whose state gets smaller comes to an end. -/
theorem loop_ex {σ ρ : Type} {body : Nat → σ → Option (σ ⊕ ρ)} (Inv : σ → Prop) (m : σ → Nat) (Q : ρ → Prop)
    (h : ∀ s, Inv s → (∃ r, Ev (fun k => body k s) (.inr r) ∧ Q r) ∨ (∃ s', Ev (fun k => body k s) (.inl s') ∧ Inv s' ∧ m s' < m s)) :
    ∀ s, Inv s → ∃ r, EvL body s r ∧ Q r := by
  intro s
  induction hn : m s using Nat.strongRecOn generalizing s with
  | _ n ih =>
  intro hs
  rcases h s hs with ⟨r, h1, h2⟩ | ⟨s', h1, h2, h3⟩
  · exact ⟨r, EvL.done h1, h2⟩
  · obtain ⟨r, g1, g2⟩ := ih (m s') (by omega) s' rfl h2
    exact ⟨r, EvL.step h1 g1, g2⟩
theorem ix_of {α : Type} {l : List α} {i : Int} {x : α} (h0 : 0 ≤ i) (h : l[i.toNat]? = some x) : ix l i = some x := by unfold ix; rw [if_pos h0]; exact h
theorem ix_nat {α : Type} {l : List α} {i : Nat} (h : i < l.length) : ix l (i : Int) = some l[i] := by unfold ix; rw [if_pos (by omega)]; simp [h]
theorem room_of {b n : Nat} (h0 : 0 < b) (h : (2 * n + 1024) * b ≤ 140737488355328) : room b n = true := by unfold room; exact decide_eq_true ⟨h0, h⟩
end Go.Proofs.Ytbckfbohbjhffaa.F
