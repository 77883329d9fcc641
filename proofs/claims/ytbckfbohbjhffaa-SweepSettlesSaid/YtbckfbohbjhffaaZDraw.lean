/- A region whose order is drawn: whatever the order, it comes to what the order of the text comes to. No condition. -/
import Derived.Test.YtbckfbohbjhffaaZStep
set_option linter.unusedVariables false
set_option linter.unusedSimpArgs false
namespace Go.Proofs.Ytbckfbohbjhffaa.AE
open Go

theorem evOp_congr {tb : List TI} {cfg : Cfg} {call : CallF} {fid : FuncId} {ρ ρ' : Operand → AV} {H : Heap} {o : Oper} (h : ∀ x ∈ o.op.operands.toList, ρ x = ρ' x) : evOp tb cfg call fid ρ H o = evOp tb cfg call fid ρ' H o := by
  have hl : ∀ l : List Operand, (∀ x ∈ l, x ∈ o.op.operands.toList) → l.map ρ = l.map ρ' := fun l hl => List.map_congr_left fun x hx => h x (hl x hx)
  have hp : ∀ l : List (Nat × Operand), (∀ x ∈ l, x.2 ∈ o.op.operands.toList) → (l.map fun p => (p.1, ρ p.2)) = l.map fun p => (p.1, ρ' p.2) := fun l hl => List.map_congr_left fun x hx => by rw [h x.2 (hl x hx)]
  have ho : ∀ q : Option Operand, (∀ x, q = some x → x ∈ o.op.operands.toList) → q.map ρ = q.map ρ' := fun q hq => by
    cases q with
    | none => rfl
    | some x => simp [h x (hq x rfl)]
  unfold evOp
  simp only
  cases hop : o.op with
  | move x => simp only; rw [h x (by simp [hop, Op.operands])]
  | assign x => simp only; rw [h x (by simp [hop, Op.operands])]
  | pick c a b => simp only; rw [h c (by simp [hop, Op.operands]), h a (by simp [hop, Op.operands]), h b (by simp [hop, Op.operands])]
  | alloc e => rfl
  | box e x => simp only; rw [h x (by simp [hop, Op.operands])]
  | build t parts =>
    simp only
    rw [hp parts.toList fun x hx => by simp [hop, Op.operands]; exact ⟨x.1, by simpa using hx⟩]
  | buildSlice t n parts =>
    simp only
    rw [hp parts.toList fun x hx => by simp [hop, Op.operands]; exact ⟨x.1, by simpa using hx⟩]
  | load t x => simp only; rw [h x (by simp [hop, Op.operands])]
  | store t a x => simp only; rw [h a (by simp [hop, Op.operands]), h x (by simp [hop, Op.operands])]
  | nilCheck x => simp only; rw [h x (by simp [hop, Op.operands])]
  | binOp op t x y u => simp only; rw [h x (by simp [hop, Op.operands]), h y (by simp [hop, Op.operands])]
  | unOp op t x => simp only; rw [h x (by simp [hop, Op.operands])]
  | convert s d x => simp only; rw [h x (by simp [hop, Op.operands])]
  | makeFunc f a b =>
    simp only
    rw [hl a.toList fun x hx => by simp [hop, Op.operands]; exact .inl (by simpa using hx), hl b.toList fun x hx => by simp [hop, Op.operands]; exact .inr (by simpa using hx)]
  | slice t x lo hi mx =>
    simp only
    rw [h x (by simp [hop, Op.operands]), ho lo fun y hy => by simp [hop, Op.operands, hy], ho hi fun y hy => by simp [hop, Op.operands, hy], ho mx fun y hy => by simp [hop, Op.operands, hy]]
  | fieldAddr s x f => simp only; rw [h x (by simp [hop, Op.operands])]
  | field s x f => simp only; rw [h x (by simp [hop, Op.operands])]
  | indexAddr t x i => simp only; rw [h x (by simp [hop, Op.operands]), h i (by simp [hop, Op.operands])]
  | index t x i => simp only; rw [h x (by simp [hop, Op.operands]), h i (by simp [hop, Op.operands])]
  | extract x i => simp only; rw [h x (by simp [hop, Op.operands])]
  | call c =>
    simp only
    rw [hl c.args.toList fun x hx => by simp [hop, Op.operands, Call.operands]; exact .inr (by simpa using hx)]
    cases hc : c.callee with
    | value f => simp only; rw [h f (by simp [hop, Op.operands, Call.operands, hc])]
    | invoke r m => rfl
    | builtin b => cases b <;> rfl
  | _ => rfl

/-! ### which operations come ahead -/
inductive Before (ops : Array Oper) : Nat → Nat → Prop
  | edge {j : Nat} {o : Oper} {e : Edge} (ho : ops[j]? = some o) (he : e ∈ o.after) (hb : Region.binds .any e = true) : Before ops j e.on
  | step {j i : Nat} {o : Oper} {e : Edge} (ho : ops[j]? = some o) (he : e ∈ o.after) (hb : Region.binds .any e = true) (h : Before ops e.on i) : Before ops j i

theorem befores_spec (ops : Array Oper) : ∀ (l : List Oper) (acc : List (List Nat)), (∀ i, l[i]? = ops[acc.length + i]?) → (∀ j i, i ∈ acc.getD j [] → Before ops j i) →
    ∀ j i, i ∈ (befores l acc).getD j [] → Before ops j i
  | [], acc, _, ha => by simpa only [befores] using ha
  | o :: r, acc, hl, ha => by
    simp only [befores]
    have ho : ops[acc.length]? = some o := by have := hl 0; simpa using this.symm
    refine befores_spec ops r _ (fun i => ?_) (fun j i hi => ?_)
    · have := hl (i + 1)
      simp only [List.getElem?_cons_succ] at this
      rw [this]; simp only [List.length_append, List.length_singleton]; congr 1; omega
    · by_cases hj : j < acc.length
      · rw [List.getD_eq_getElem?_getD, List.getElem?_append_left hj, ← List.getD_eq_getElem?_getD] at hi
        exact ha j i hi
      · by_cases hj2 : j = acc.length
        · subst hj2
          rw [List.getD_eq_getElem?_getD, List.getElem?_append_right (Nat.le_refl _)] at hi
          simp only [Nat.sub_self, List.getElem?_cons_zero, Option.getD_some, List.mem_flatMap, List.mem_filter] at hi
          obtain ⟨e, ⟨he, hb⟩, hi⟩ := hi
          rcases List.mem_cons.1 hi with rfl | hi
          · exact .edge ho (by simpa using he) hb
          · exact .step ho (by simpa using he) hb (ha _ _ hi)
        · rw [List.getD_eq_getElem?_getD, List.getElem?_eq_none (by simp; omega)] at hi
          simp at hi

/-! ### what has been done -/
def updA (o : Option Oper) (r : Option OpR) (A : Slots) : Slots :=
  match o, r with
  | some o, some r => match o.dst with
    | some d => put d r.v A
    | none => A
  | _, _ => A
def updH (r : Option OpR) (H : Heap) : Heap :=
  match r with
  | some r => insAll H r.ws
  | none => H
section
variable (ops : Array Oper) (R : List OpR) (D : Nat → Bool)
/-- The slots, and the heap, when those of the first k that D tells are done, in the order of the text. -/
def slotsAt (A : Slots) : Nat → Slots
  | 0 => A
  | k + 1 => if D k then updA ops[k]? R[k]? (slotsAt A k) else slotsAt A k
def heapAt (H : Heap) : Nat → Heap
  | 0 => H
  | k + 1 => if D k then updH R[k]? (heapAt H k) else heapAt H k
end
/-- The operation's own slot. -/
def dstAt (ops : Array Oper) (i : Nat) : Option Nat := (ops[i]?).bind (·.dst)

theorem getA_updA (ops : Array Oper) (R : List OpR) (k : Nat) (A : Slots) (t : Nat) :
    (dstAt ops k = some t ∧ ∃ r, R[k]? = some r ∧ getA (updA ops[k]? R[k]? A) t = r.v) ∨ getA (updA ops[k]? R[k]? A) t = getA A t := by
  unfold updA dstAt
  split
  · rename_i o r ho hr
    split
    · rename_i d hd
      rw [getA_put]
      by_cases e : d = t
      · subst e; left; exact ⟨by rw [ho]; exact hd, r, hr, by simp⟩
      · right; rw [if_neg e]
    · right; rfl
  · right; rfl
theorem updA_other {ops : Array Oper} (R : List OpR) {k : Nat} {t : Nat} (h : dstAt ops k ≠ some t) (A : Slots) : getA (updA ops[k]? R[k]? A) t = getA A t := by
  rcases getA_updA ops R k A t with ⟨h1, _⟩ | h1
  · exact (h h1).elim
  · exact h1
theorem updA_same {ops : Array Oper} {R : List OpR} {k : Nat} {t : Nat} {r : OpR} (h : dstAt ops k = some t) (hr : R[k]? = some r) (A : Slots) : getA (updA ops[k]? R[k]? A) t = r.v := by
  unfold dstAt at h
  cases ho : ops[k]? with
  | none => rw [ho] at h; cases h
  | some o => 
    rw [ho] at h
    simp only [Option.bind_some] at h
    simp only [updA, hr, h, getA_put, if_true]
theorem updA_congr (o : Option Oper) (r : Option OpR) {A A' : Slots} {t : Nat} (h : getA A t = getA A' t) : getA (updA o r A) t = getA (updA o r A') t := by
  unfold updA
  split
  · split
    · rw [getA_put, getA_put, h]
    · exact h
  · exact h
theorem slots_congr (ops : Array Oper) (R : List OpR) {D D' : Nat → Bool} (A : Slots) (t : Nat) : ∀ k, (∀ i, i < k → D i ≠ D' i → dstAt ops i ≠ some t) → getA (slotsAt ops R D A k) t = getA (slotsAt ops R D' A k) t
  | 0, _ => rfl
  | k + 1, h => by
    have ih := slots_congr ops R A t k fun i hi => h i (by omega)
    simp only [slotsAt]
    by_cases e : D k = D' k
    · rw [e]; split
      · exact updA_congr _ _ ih
      · exact ih
    · have hd := h k (by omega) e
      split <;> split <;> (try rw [updA_other R hd]) <;> (try rw [updA_other R hd]) <;> exact ih
theorem slots_last (ops : Array Oper) (R : List OpR) {D : Nat → Bool} (A : Slots) {t j : Nat} {r : OpR} (hd : dstAt ops j = some t) (hr : R[j]? = some r) (hD : D j = true) :
    ∀ k, j < k → (∀ i, j < i → i < k → D i = true → dstAt ops i ≠ some t) → getA (slotsAt ops R D A k) t = r.v
  | 0, h, _ => by omega
  | k + 1, hk, h => by
    simp only [slotsAt]
    by_cases e : j = k
    · subst e; rw [if_pos hD]; exact updA_same hd hr _
    · have ih := slots_last ops R A hd hr hD k (by omega) fun i h1 h2 => h i h1 (by omega)
      split
      · rename_i hDk; rw [updA_other R (h k (by omega) (by omega) hDk)]; exact ih
      · exact ih
theorem slots_from (ops : Array Oper) (R : List OpR) {D : Nat → Bool} (A : Slots) (t : Nat) : ∀ k, getA (slotsAt ops R D A k) t = getA A t ∨ ∃ i r, i < k ∧ D i = true ∧ dstAt ops i = some t ∧ R[i]? = some r ∧ getA (slotsAt ops R D A k) t = r.v
  | 0 => .inl rfl
  | k + 1 => by
    simp only [slotsAt]
    split
    · rename_i hD
      rcases getA_updA ops R k (slotsAt ops R D A k) t with ⟨h1, r, h2, h3⟩ | h1
      · exact .inr ⟨k, r, by omega, hD, h1, h2, h3⟩
      · rw [h1]
        rcases slots_from ops R A t k with h | ⟨i, r, h2, h3⟩
        · exact .inl h
        · exact .inr ⟨i, r, by omega, h3⟩
    · rcases slots_from ops R A t k with h | ⟨i, r, h2, h3⟩
      · exact .inl h
      · exact .inr ⟨i, r, by omega, h3⟩
theorem slots_stop (ops : Array Oper) (R : List OpR) (A : Slots) (j : Nat) : ∀ x, slotsAt ops R (fun i => decide (i < j)) A (j + x) = slotsAt ops R (fun _ => true) A j
  | 0 => by
    have : ∀ k, k ≤ j → slotsAt ops R (fun i => decide (i < j)) A k = slotsAt ops R (fun _ => true) A k := by
      intro k
      induction k with
      | zero => intro _; rfl
      | succ k ih => 
        intro hk
        simp only [slotsAt, if_true, ih (by omega), show k < j by omega, decide_true]
    exact this j (Nat.le_refl _)
  | x + 1 => by
    have h := slots_stop ops R A j x
    show slotsAt ops R _ A ((j + x) + 1) = _
    simp only [slotsAt]
    rw [if_neg (by simp)]
    exact h

/-- This operation writes nothing there. -/
def offAt (R : List OpR) (i : Nat) (b : Oid) : Prop := ∀ r, R[i]? = some r → find r.ws b = none
theorem updH_other {R : List OpR} {k : Nat} {b : Oid} (h : offAt R k b) (H : Heap) : find (updH R[k]? H) b = find H b := by
  unfold updH
  split
  · rename_i r hr
    rw [find_insAll, h r hr]
  · rfl
theorem updH_congr (r : Option OpR) {H H' : Heap} {b : Oid} (h : find H b = find H' b) : find (updH r H) b = find (updH r H') b := by
  unfold updH
  split
  · rw [find_insAll, find_insAll, h]
  · exact h
theorem heap_congr (R : List OpR) {D D' : Nat → Bool} (H : Heap) (b : Oid) : ∀ k, (∀ i, i < k → D i ≠ D' i → offAt R i b) → find (heapAt R D H k) b = find (heapAt R D' H k) b
  | 0, _ => rfl
  | k + 1, h => by
    have ih := heap_congr R H b k fun i hi => h i (by omega)
    simp only [heapAt]
    by_cases e : D k = D' k
    · rw [e]; split
      · exact updH_congr _ ih
      · exact ih
    · have hd := h k (by omega) e
      split <;> split <;> (try rw [updH_other hd]) <;> (try rw [updH_other hd]) <;> exact ih
theorem heap_last (R : List OpR) {D : Nat → Bool} (H : Heap) {b : Oid} {j : Nat} {r : OpR} {ob : Ob} (hr : R[j]? = some r) (hf : find r.ws b = some ob) (hD : D j = true) :
    ∀ k, j < k → (∀ i, j < i → i < k → D i = true → offAt R i b) → find (heapAt R D H k) b = some ob
  | 0, h, _ => by omega
  | k + 1, hk, h => by
    simp only [heapAt]
    by_cases e : j = k
    · subst e; rw [if_pos hD, hr]; simp only [updH]; rw [find_insAll, hf]
    · have ih := heap_last R H hr hf hD k (by omega) fun i h1 h2 => h i h1 (by omega)
      split
      · rename_i hDk; rw [updH_other (h k (by omega) (by omega) hDk)]; exact ih
      · exact ih
theorem heap_from (R : List OpR) {D : Nat → Bool} (H : Heap) {b : Oid} {ob : Ob} : ∀ k, find (heapAt R D H k) b = some ob → find H b = some ob ∨ ∃ i r, i < k ∧ D i = true ∧ R[i]? = some r ∧ find r.ws b = some ob
  | 0, h => .inl h
  | k + 1, h => by
    simp only [heapAt] at h
    split at h
    · rename_i hD
      unfold updH at h
      split at h
      · rename_i r hr
        rw [find_insAll] at h
        split at h
        · rename_i ob' hf
          cases h
          exact .inr ⟨k, r, by omega, hD, hr, hf⟩
        · rcases heap_from R H k h with h | ⟨i, r, h2, h3⟩
          · exact .inl h
          · exact .inr ⟨i, r, by omega, h3⟩
      · rcases heap_from R H k h with h | ⟨i, r, h2, h3⟩
        · exact .inl h
        · exact .inr ⟨i, r, by omega, h3⟩
    · rcases heap_from R H k h with h | ⟨i, r, h2, h3⟩
      · exact .inl h
      · exact .inr ⟨i, r, by omega, h3⟩
theorem heap_stop (R : List OpR) (H : Heap) (j : Nat) : ∀ x, heapAt R (fun i => decide (i < j)) H (j + x) = heapAt R (fun _ => true) H j
  | 0 => by
    have : ∀ k, k ≤ j → heapAt R (fun i => decide (i < j)) H k = heapAt R (fun _ => true) H k := by
      intro k
      induction k with
      | zero => intro _; rfl
      | succ k ih => 
        intro hk
        simp only [heapAt, if_true, ih (by omega), show k < j by omega, decide_true]
    exact this j (Nat.le_refl _)
  | x + 1 => by
    have h := heap_stop R H j x
    show heapAt R _ H ((j + x) + 1) = _
    simp only [heapAt]
    rw [if_neg (by simp)]
    exact h
def stAt (ops : Array Oper) (R : List OpR) (D : Nat → Bool) (S : St) (k : Nat) : St := ⟨slotsAt ops R D S.A k, heapAt R D S.H k⟩

theorem find_none_of_roots {ws : List (Oid × Ob)} {b : Oid} (h : ∀ w ∈ ws, w.1.root ≠ b.root) : find ws b = none := by
  cases hf : find ws b with
  | none => rfl
  | some ob => exact (h _ (find_mem hf) rfl).elim

/-! ### what the trace says -/
theorem evTrace_spec {tb : List TI} {cfg : Cfg} {gl : List (Nat × List AV)} {call : CallF} {fid : FuncId} {n : Nat} (ops : Array Oper) (S0 : St) (R : List OpR) : ∀ (l : List Oper) (k : Nat) (S S' : St) (rs : List OpR),
    evTrace tb cfg gl call fid n ops l S = some (S', rs) → (∀ i, l[i]? = ops[k + i]?) → (∀ i, rs[i]? = R[k + i]?) → S = stAt ops R (fun _ => true) S0 k →
    S' = stAt ops R (fun _ => true) S0 (k + l.length) ∧ ∀ j o, k ≤ j → ops[j]? = some o → ∃ r, R[j]? = some r ∧ evStep0 tb cfg gl call fid ops (stAt ops R (fun _ => true) S0 j) o = some r ∧ ∀ d, o.dst = some d → d < n
  | [], k, S, S', rs, h, hl, hr, hS => by
    simp only [evTrace] at h
    cases h
    refine ⟨hS, fun j o hj ho => ?_⟩
    have := hl (j - k)
    rw [show k + (j - k) = j by omega, ho] at this
    cases this
  | o :: l, k, S, S', rs, h, hl, hr, hS => by
    simp only [evTrace] at h
    split at h
    · rename_i x hx
      split at h
      · rename_i S1 hS1
        split at h
        · rename_i S2 xs hxs
          cases h
          have ho : ops[k]? = some o := by have := hl 0; simpa using this.symm
          have hrk : R[k]? = some x := by have := hr 0; simpa using this.symm
          have hd : ∀ d, o.dst = some d → d < n := by
            intro d hd
            unfold putO setDst at hS1
            rw [hd] at hS1
            simp only at hS1
            by_cases hdn : d < n
            · exact hdn
            · rw [if_neg hdn] at hS1; cases hS1
          have h1 : S1 = stAt ops R (fun _ => true) S0 (k + 1) := by
            unfold putO setDst at hS1
            subst hS
            simp only [stAt, slotsAt, heapAt, if_true, ho, hrk, updA, updH]
            cases hdd : o.dst with
            | none => rw [hdd] at hS1; simp only at hS1; cases hS1; rfl
            | some d =>
              rw [hdd] at hS1
              simp only [if_pos (hd d hdd)] at hS1
              cases hS1; rfl
          obtain ⟨k1, k2⟩ := evTrace_spec ops S0 R l (k + 1) S1 _ _ hxs (fun i => by have := hl (i + 1); simp only [List.getElem?_cons_succ] at this; rw [this]; congr 1; omega)
            (fun i => by have := hr (i + 1); simp only [List.getElem?_cons_succ] at this; rw [this]; congr 1; omega) h1
          refine ⟨by rw [k1, List.length_cons]; congr 1; omega, fun j o' hj ho' => ?_⟩
          by_cases e : j = k
          · subst e
            rw [ho] at ho'; cases ho'
            exact ⟨x, hrk, by rw [← hS]; exact hx, hd⟩
          · exact k2 j o' (by omega) ho'
        · cases h
      · cases h
    · cases h

end Go.Proofs.Ytbckfbohbjhffaa.AE
