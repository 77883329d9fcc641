/- What a heap and a state stand for; steps in the model's memory that keep it. No condition. -/
import Derived.Test.YtbckfbohbjhffaaZRel
set_option linter.unusedVariables false
set_option linter.unusedSimpArgs false
namespace Go.Proofs.Ytbckfbohbjhffaa.AE
open Go

/-! ### association lists -/
section
variable {K α : Type} [DecidableEq K]
theorem find_ins (k k' : K) (v : α) : ∀ l : List (K × α), find (ins k v l) k' = if k = k' then some v else find l k'
  | [] => by simp [ins, find]
  | (x, y) :: r => by
    simp only [ins]
    split
    · rename_i h; subst h; simp only [find]; split <;> simp_all
    · simp only [find]; split
      · rename_i h1 h2; subst h2; simp [Ne.symm h1]
      · exact find_ins k k' v r
theorem find_filter (p : K × α → Bool) (q : K → Bool) (hp : ∀ x, p x = q x.1) (k : K) : ∀ l : List (K × α), find (l.filter p) k = if q k then find l k else none
  | [] => by simp [find]
  | (x, y) :: r => by
    simp only [List.filter_cons, hp]
    split
    · simp only [find]; split
      · rename_i h; subst h; simp_all
      · exact find_filter p q hp k r
    · rename_i h
      rw [find_filter p q hp k r]
      simp only [find]
      by_cases hx : x = k
      · subst hx; rw [if_neg h, if_neg h]
      · rw [if_neg hx]
theorem find_map {β : Type} (f : α → β) (k : K) : ∀ l : List (K × α), find (l.map fun x => (x.1, f x.2)) k = (find l k).map f
  | [] => rfl
  | (x, y) :: r => by
    simp only [List.map_cons, find]
    split
    · rfl
    · exact find_map f k r
theorem find_mem {k : K} {v : α} : ∀ {l : List (K × α)}, find l k = some v → (k, v) ∈ l
  | [], h => by simp [find] at h
  | (x, y) :: r, h => by
    simp only [find] at h
    split at h
    · rename_i e; subst e; cases h; simp
    · exact List.mem_cons_of_mem _ (find_mem h)
end
theorem find_put (k k' : Nat) (v : AV) : ∀ A : Slots, find (put k v A) k' = if k = k' then some v else find A k'
  | [] => by simp [put, find]
  | (x, y) :: r => by
    simp only [put]
    split
    · simp only [find]
    · split
      · rename_i h; subst h; simp only [find]; split <;> simp_all
      · rename_i h1 h2; simp only [find]; split
        · rename_i h3; subst h3; simp [Ne.symm h2]
        · exact find_put k k' v r
theorem getA_put (k k' : Nat) (v : AV) (A : Slots) : getA (put k v A) k' = if k = k' then v else getA A k' := by
  simp only [getA, find_put]; split <;> rfl

/-! ### heaps -/
def tipOf (H : Heap) (b : Oid) : Option (Nat × Nat) := match find H b with | some (.buf s n) => some (s, n) | _ => none
def blockOf (g : Gh) (b : Oid) : Ob → Option Nat
  | .buf _ _ => (g.bufc b).map (·.1)
  | _ => g.μ b
/-- The block that may be written on the object's account. -/
def ownOf (g : Gh) (b : Oid) : Ob → Option Nat
  | .buf _ _ => (g.bufc b).map (·.1)
  | .cells false _ => none
  | _ => g.μ b
theorem ownOf_block {g : Gh} {b : Oid} {ob : Ob} {c : Nat} (h : ownOf g b ob = some c) : blockOf g b ob = some c := by
  cases ob with
  | cells wr cs => cases wr <;> simp_all [ownOf, blockOf]
  | buf s n => exact h
  | map es => exact h
def ObOk (g : Gh) (w : World) (b : Oid) : Ob → Prop
  | .cells _ cs => ∃ c vs e, g.μ b = some c ∧ w.heap[c]? = some (.cells vs e (0, 0)) ∧ VL g cs vs.toList ∧ ∀ o, g.Γ c o = nob
  | .buf s n => ∀ c cap, g.bufc b = some (c, cap) → ∃ vs e, w.heap[c]? = some (.cells vs e (0, 0)) ∧ cap * s ≤ vs.size ∧ n ≤ cap ∧ ∀ o, n * s ≤ o → g.Γ c o = nob
  | .map _ => False

structure WC (g : Gh) (H : Heap) (w : World) : Prop where
  tip : ∀ b, g.tip b = tipOf H b
  pin : ∀ c o a, g.Γ c o a → ∃ v, w.cell? ⟨c, o, none⟩ = some v ∧ V g a v ∧ refs a = [] ∧ toks a = [] ∧ cellOk a = true
  objs : ∀ b ob, find H b = some ob → ObOk g w b ob
  inj : ∀ b b' ob ob' c, find H b = some ob → find H b' = some ob' → blockOf g b ob = some c → blockOf g b' ob' = some c → b = b'

def Live (g : Gh) (H : Heap) (c : Nat) : Prop := ∃ b ob, find H b = some ob ∧ ownOf g b ob = some c

/-- A block that belongs to an object, whether it may be written or not. -/
def Used (g : Gh) (H : Heap) (c : Nat) : Prop := ∃ b ob, find H b = some ob ∧ blockOf g b ob = some c
theorem Live.used {g : Gh} {H : Heap} {c : Nat} (h : Live g H c) : Used g H c := by
  obtain ⟨b, ob, h1, h2⟩ := h
  exact ⟨b, ob, h1, ownOf_block h2⟩
structure Ctx (w0 : World) (g0 : Gh) (H0 : Heap) (g : Gh) (H : Heap) (w : World) : Prop where
  size : w0.heap.size ≤ w.heap.size
  keep : ∀ c, c < w0.heap.size → ¬ Live g0 H0 c → w.heap[c]? = w0.heap[c]? ∧ ∀ o, g.Γ c o = g0.Γ c o
  gam : ∀ c o a, g0.Γ c o a → g.Γ c o a
  own : ∀ c, Live g H c → Live g0 H0 c ∨ w0.heap.size ≤ c
  usd : ∀ c, Used g H c → Used g0 H0 c ∨ w0.heap.size ≤ c
  os : w.os = w0.os
  out : w.output = w0.output
  tape : w.tape = w0.tape

theorem Ctx.refl (w : World) (g : Gh) (H : Heap) : Ctx w g H g H w :=
  ⟨Nat.le_refl _, fun _ _ _ => ⟨rfl, fun _ => rfl⟩, fun _ _ _ h => h, fun c h => .inl h, fun c h => .inl h, rfl, rfl, rfl⟩

theorem Ctx.trans {w0 w1 w2 : World} {g0 g1 g2 : Gh} {H0 H1 H2 : Heap} (h : Ctx w0 g0 H0 g1 H1 w1) (k : Ctx w1 g1 H1 g2 H2 w2) : Ctx w0 g0 H0 g2 H2 w2 := by
  refine ⟨Nat.le_trans h.size k.size, fun c hc ho => ?_, fun c o a e => k.gam _ _ _ (h.gam _ _ _ e), fun c hl => ?_, fun c hl => ?_, k.os.trans h.os, k.out.trans h.out, k.tape.trans h.tape⟩
  · have hn : ¬ Live g1 H1 c := fun hl => (h.own c hl).elim ho (fun x => by omega)
    obtain ⟨e1, e2⟩ := h.keep c hc ho
    obtain ⟨f1, f2⟩ := k.keep c (Nat.lt_of_lt_of_le hc h.size) hn
    exact ⟨f1.trans e1, fun o => (f2 o).trans (e2 o)⟩
  · rcases k.own c hl with h1 | h1
    · exact h.own c h1
    · exact .inr (Nat.le_trans h.size h1)
  · rcases k.usd c hl with h1 | h1
    · exact h.usd c h1
    · exact .inr (Nat.le_trans h.size h1)

structure Keep (F : Oid → Prop) (g g' : Gh) : Prop where
  gam : ∀ c o x, g.Γ c o x → g'.Γ c o x
  mu : ∀ b, ¬ F b → ∀ c, g.μ b = some c → g'.μ b = some c
  tok : ∀ b, ¬ F b → TokLe g g' b

theorem TokLe.same {g g' : Gh} {b : Oid} (h : g'.tip b = g.tip b) (k : g'.bufc b = g.bufc b) : TokLe g g' b :=
  ⟨fun s n' hn => ⟨s, n', by rw [← h]; exact hn, Nat.le_refl _, fun _ => k⟩⟩
theorem TokLe.gone {g g' : Gh} {b : Oid} (h : g'.tip b = none) : TokLe g g' b := ⟨fun s n' hn => by rw [h] at hn; cases hn⟩
theorem Keep.refl (F : Oid → Prop) (g : Gh) : Keep F g g := ⟨fun _ _ _ h => h, fun _ _ _ h => h, fun _ _ => .same rfl rfl⟩
theorem TokLe.trans {g g' g'' : Gh} {b : Oid} (h : TokLe g g' b) (k : TokLe g' g'' b) : TokLe g g'' b := by
  refine ⟨fun s n'' hn => ?_⟩
  obtain ⟨s', n', h1, h2, h3⟩ := k.le s n'' hn
  obtain ⟨s0, n, k1, k2, k3⟩ := h.le s' n' h1
  refine ⟨s0, n, k1, Nat.le_trans k2 h2, fun e => ?_⟩
  subst e
  have e' : n = n' := Nat.le_antisymm k2 h2
  subst e'
  rw [h3 rfl, k3 rfl]
theorem Keep.trans {F : Oid → Prop} {g g' g'' : Gh} (h : Keep F g g') (k : Keep F g' g'') : Keep F g g'' :=
  ⟨fun c o x e => k.gam _ _ _ (h.gam _ _ _ e), fun b hb c e => k.mu b hb c (h.mu b hb c e), fun b hb => (h.tok b hb).trans (k.tok b hb)⟩
theorem Keep.wider {F F' : Oid → Prop} {g g' : Gh} (h : Keep F g g') (hF : ∀ b, F b → F' b) : Keep F' g g' :=
  ⟨h.gam, fun b hb => h.mu b (fun x => hb (hF b x)), fun b hb => h.tok b (fun x => hb (hF b x))⟩

def Off (F : Oid → Prop) (a : AV) : Prop := (∀ b ∈ refs a, ¬ F b) ∧ ∀ b ∈ toks a, ¬ F b
def OffL (F : Oid → Prop) (as : List AV) : Prop := (∀ b ∈ refsL as, ¬ F b) ∧ ∀ b ∈ toksL as, ¬ F b
theorem Keep.V {F : Oid → Prop} {g g' : Gh} (h : Keep F g g') {a : AV} {v : Value} (ha : Off F a) (hv : AE.V g a v) : AE.V g' a v :=
  V.mono h.gam a v (fun b hb => h.mu b (ha.1 b hb)) (fun b hb => h.tok b (ha.2 b hb)) hv
theorem Keep.VL {F : Oid → Prop} {g g' : Gh} (h : Keep F g g') {as : List AV} {vs : List Value} (ha : OffL F as) (hv : AE.VL g as vs) : AE.VL g' as vs :=
  VL.mono h.gam as vs (fun b hb => h.mu b (ha.1 b hb)) (fun b hb => h.tok b (ha.2 b hb)) hv
theorem Off.of_nil {F : Oid → Prop} {a : AV} (h1 : refs a = []) (h2 : toks a = []) : Off F a := ⟨by simp [h1], by simp [h2]⟩
theorem Off.none (a : AV) : Off (fun _ => False) a := ⟨fun _ _ h => h, fun _ _ h => h⟩
theorem OffL.none (a : List AV) : OffL (fun _ => False) a := ⟨fun _ _ h => h, fun _ _ h => h⟩
theorem OffL.get {F : Oid → Prop} : ∀ {as : List AV}, OffL F as → ∀ {i : Nat} {a : AV}, as[i]? = some a → Off F a
  | [], _, i, a, h => by simp at h
  | x :: as, h, i, a, hi => by
    obtain ⟨h1, h2⟩ := h
    simp only [refsL, toksL, List.mem_append] at h1 h2
    cases i with
    | zero => simp at hi; subst hi; exact ⟨fun b hb => h1 b (.inl hb), fun b hb => h2 b (.inl hb)⟩
    | succ i => exact OffL.get (as := as) ⟨fun b hb => h1 b (.inr hb), fun b hb => h2 b (.inr hb)⟩ (by simpa using hi)
theorem OffL.of_all {F : Oid → Prop} : ∀ {as : List AV}, (∀ a ∈ as, Off F a) → OffL F as
  | [], _ => ⟨by simp [refsL], by simp [toksL]⟩
  | x :: as, h => by
    have h1 := h x (by simp)
    have h2 := OffL.of_all (as := as) fun a ha => h a (by simp [ha])
    refine ⟨fun b hb => ?_, fun b hb => ?_⟩
    · simp only [refsL, List.mem_append] at hb
      exact hb.elim (h1.1 b) (h2.1 b)
    · simp only [toksL, List.mem_append] at hb
      exact hb.elim (h1.2 b) (h2.2 b)

/-! ### small facts on the world -/
theorem cell_of_block {w : World} {c : Nat} {vs : Array Value} {e : TypeId} {fz : Nat × Nat} (h : w.heap[c]? = some (.cells vs e fz)) (o : Nat) : w.cell? ⟨c, o, none⟩ = vs[o]? := by
  simp [World.cell?, h]
theorem block_of_cell {w : World} {c o : Nat} {v : Value} (h : w.cell? ⟨c, o, none⟩ = some v) : ∃ vs e fz, w.heap[c]? = some (.cells vs e fz) ∧ vs[o]? = some v := by
  unfold World.cell? at h
  split at h
  · rename_i vs e fz hb; exact ⟨vs, e, fz, hb, by simpa using h⟩
  · cases h
theorem WC.lt {g : Gh} {H : Heap} {w : World} (h : WC g H w) {c o : Nat} {a : AV} (hc : g.Γ c o a) : c < w.heap.size := by
  obtain ⟨v, h1, _⟩ := h.pin c o a hc
  exact World.block_lt_of_cell? _ _ h1
theorem WC.noΓ {g : Gh} {H : Heap} {w : World} (h : WC g H w) {c : Nat} (hc : w.heap.size ≤ c) (o : Nat) : g.Γ c o = nob := by
  funext a
  refine propext ⟨fun he => ?_, fun h => h.elim⟩
  have := h.lt he; omega
theorem WC.used_lt {g : Gh} {H : Heap} {w : World} (h : WC g H w) {c : Nat} (hc : Used g H c) : c < w.heap.size := by
  obtain ⟨b, ob, h1, h2⟩ := hc
  have h3 := h.objs b ob h1
  cases ob with
  | cells wr cs =>
    obtain ⟨c', vs, e, k1, k2, _⟩ := h3
    simp only [blockOf] at h2
    rw [k1] at h2; cases h2
    exact Array.getElem?_eq_some_iff.1 k2 |>.1
  | buf s n =>
    simp only [blockOf] at h2
    cases hb : g.bufc b with
    | none => rw [hb] at h2; cases h2
    | some p =>
      obtain ⟨c', cap⟩ := p
      rw [hb] at h2; simp at h2; subst h2
      obtain ⟨vs, e, k2, _⟩ := h3 _ cap hb
      exact Array.getElem?_eq_some_iff.1 k2 |>.1
  | map es => exact h3.elim

theorem WC.live_lt {g : Gh} {H : Heap} {w : World} (h : WC g H w) {c : Nat} (hc : Live g H c) : c < w.heap.size := h.used_lt hc.used
theorem heap_alloc_old (w : World) (o : Obj) {c : Nat} (h : c < w.heap.size) : (w.alloc o).heap[c]? = w.heap[c]? := by
  simp only [World.alloc]; rw [Array.getElem?_push, if_neg (by omega)]
theorem heap_alloc_new (w : World) (o : Obj) : (w.alloc o).heap[w.heap.size]? = some o := by
  show (w.heap.push o)[w.heap.size]? = _
  simp
theorem cell_alloc_old (w : World) (o : Obj) {c i : Nat} {v : Value} (h : w.cell? ⟨c, i, none⟩ = some v) : (w.alloc o).cell? ⟨c, i, none⟩ = some v := by
  rw [World.cell?_alloc_lt w o ⟨c, i, none⟩ (World.block_lt_of_cell? _ _ h)]; exact h

/-- The world has moved by draws, and by nothing else. -/
structure Drew (w w' : World) : Prop where
  heap : w'.heap = w.heap
  tape : w'.tape = w.tape
  os : w'.os = w.os
  out : w'.output = w.output
theorem Drew.refl (w : World) : Drew w w := ⟨rfl, rfl, rfl, rfl⟩
theorem Drew.drew (w : World) : Drew w w.drew := ⟨rfl, rfl, rfl, rfl⟩
theorem WC.drew {g : Gh} {H : Heap} {w w' : World} (h : WC g H w) (hd : Drew w w') : WC g H w' := by
  have hc : ∀ a, w'.cell? a = w.cell? a := fun a => by simp only [World.cell?, hd.heap]
  refine ⟨h.tip, fun c o a e => ?_, fun b ob e => ?_, h.inj⟩
  · obtain ⟨v, h1, h2⟩ := h.pin c o a e
    exact ⟨v, by rw [hc]; exact h1, h2⟩
  · have := h.objs b ob e
    cases ob <;> simp only [ObOk, hd.heap] at this ⊢ <;> exact this
theorem Ctx.drew {w w' : World} (hd : Drew w w') (g : Gh) (H : Heap) : Ctx w g H g H w' :=
  ⟨by rw [hd.heap]; exact Nat.le_refl _, fun c _ _ => ⟨by rw [hd.heap], fun _ => rfl⟩, fun _ _ _ h => h, fun c h => .inl h, fun c h => .inl h, hd.os, hd.out, hd.tape⟩

/-- A new row that nobody writes any more. -/
def Gh.pinAt (g : Gh) (c : Nat) (cs : List AV) : Gh := { g with Γ := fun c' o => if c' = c then fun a => cs[o]? = some a else g.Γ c' o }

theorem Keep.pinAt {g : Gh} {H : Heap} {w : World} (h : WC g H w) (cs : List AV) (F : Oid → Prop) : Keep F g (g.pinAt w.heap.size cs) := by
  refine ⟨fun c o x e => ?_, fun _ _ _ h => h, fun _ _ => .same rfl rfl⟩
  have := h.lt e
  simp only [Gh.pinAt]
  rw [if_neg (by omega)]; exact e

theorem WC.newPin {g : Gh} {H : Heap} {w : World} (h : WC g H w) (cs : List AV) (vs : Array Value) (e : TypeId) (hv : VL g cs (vs.toList.take cs.length))
    (hs : stillL cs = true) : WC (g.pinAt w.heap.size cs) H (w.alloc (.cells vs e)) ∧ Ctx w g H (g.pinAt w.heap.size cs) H (w.alloc (.cells vs e)) := by
  have hk := Keep.pinAt h cs (fun _ => False)
  simp only [stillL, Bool.and_eq_true, List.isEmpty_iff, List.all_eq_true] at hs
  obtain ⟨⟨hr, ht⟩, hc⟩ := hs
  have hoff : OffL (fun _ => True) cs := ⟨by simp [hr], by simp [ht]⟩
  have hnil : ∀ (i : Nat) a, cs[i]? = some a → refs a = [] ∧ toks a = [] := by
    intro i a ha
    have := OffL.get hoff ha
    exact ⟨List.eq_nil_iff_forall_not_mem.2 fun b hb => this.1 b hb trivial, List.eq_nil_iff_forall_not_mem.2 fun b hb => this.2 b hb trivial⟩
  refine ⟨⟨h.tip, fun c o a ha => ?_, fun b ob hb => ?_, h.inj⟩, ⟨by simp, fun c hc _ => ⟨heap_alloc_old _ _ hc, fun o => by simp only [Gh.pinAt]; rw [if_neg (by omega)]⟩, hk.gam, fun c hl => .inl hl, fun c hl => .inl hl, rfl, rfl, rfl⟩⟩
  · simp only [Gh.pinAt] at ha
    split at ha
    · rename_i he; subst he
      obtain ⟨v, h1, h2⟩ := hv.get o a ha
      obtain ⟨n1, n2⟩ := hnil o a ha
      refine ⟨v, ?_, hk.V (Off.none _) h2, n1, n2, hc a (List.mem_of_getElem? ha)⟩
      rw [cell_of_block (heap_alloc_new _ _), ← Array.getElem?_toList]
      rw [List.getElem?_take] at h1
      split at h1 <;> simp_all
    · obtain ⟨v, h1, h2, h3⟩ := h.pin c o a ha
      exact ⟨v, cell_alloc_old _ _ h1, hk.V (Off.none _) h2, h3⟩
  · have h1 := h.objs b ob hb
    cases ob with
    | cells wr cs' =>
      obtain ⟨c, us, e', k1, k2, k3, k4⟩ := h1
      have hlt := (Array.getElem?_eq_some_iff.1 k2).1
      exact ⟨c, us, e', k1, by rw [heap_alloc_old _ _ hlt]; exact k2, hk.VL (OffL.none _) k3, fun o => by simp only [Gh.pinAt]; rw [if_neg (by omega)]; exact k4 o⟩
    | buf s n =>
      intro c cap hcb
      obtain ⟨us, e', k2, k3, k5, k4⟩ := h1 c cap hcb
      have hlt := (Array.getElem?_eq_some_iff.1 k2).1
      exact ⟨us, e', by rw [heap_alloc_old _ _ hlt]; exact k2, k3, k5, fun o ho => by simp only [Gh.pinAt]; rw [if_neg (by omega)]; exact k4 o ho⟩
    | map es => exact h1

end Go.Proofs.Ytbckfbohbjhffaa.AE
