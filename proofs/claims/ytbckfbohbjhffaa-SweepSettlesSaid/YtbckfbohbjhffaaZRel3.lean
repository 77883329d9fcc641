/- Steps of the model's memory and of the abstract heap, side by side. No condition. -/
import Derived.Test.YtbckfbohbjhffaaZRel2
set_option linter.unusedVariables false
set_option linter.unusedSimpArgs false
namespace Go.Proofs.Ytbckfbohbjhffaa.AE
open Go

theorem setRow_tape (w : World) (c : Nat) (cs : Array Value) : (w.setRow c cs).tape = w.tape := rfl
theorem setRow_os (w : World) (c : Nat) (cs : Array Value) : (w.setRow c cs).os = w.os := rfl
theorem setRow_out (w : World) (c : Nat) (cs : Array Value) : (w.setRow c cs).output = w.output := rfl
theorem setRow_size (w : World) (c : Nat) (cs : Array Value) : (w.setRow c cs).heap.size = w.heap.size := by simp [World.setRow]

theorem find_insAll {H : Heap} : ∀ (ws : List (Oid × Ob)) (b : Oid), find (insAll H ws) b = match find ws b with | some ob => some ob | none => find H b
  | [], _ => rfl
  | (o, ob) :: r, b => by
    simp only [insAll, find_ins, find]
    by_cases e : o = b
    · simp [e]
    · simp only [if_neg e]; exact find_insAll r b
/-- Another heap, with no block moved. -/
def Gh.heap (g : Gh) (H : Heap) : Gh := { g with tip := tipOf H }
theorem insAll_one (H : Heap) (o : Oid) (ob : Ob) : insAll H [(o, ob)] = ins o ob H := rfl

theorem tipOf_ins (H : Heap) (o b : Oid) (ob : Ob) : tipOf (ins o ob H) b = if o = b then (match ob with | .buf s n => some (s, n) | _ => none) else tipOf H b := by
  by_cases h : o = b
  · simp only [tipOf, find_ins, if_pos h]; cases ob <;> rfl
  · simp only [tipOf, find_ins, if_neg h]

/-- A store into an object. -/
theorem WC.store {g : Gh} {H : Heap} {w : World} (h : WC g H w) {b : Oid} {cs cs' : List AV} (hb : find H b = some (.cells true cs))
    {c : Nat} {vs : Array Value} {e : TypeId} (hc : g.μ b = some c) (hw : w.heap[c]? = some (.cells vs e (0, 0))) (hg : ∀ o, g.Γ c o = nob)
    (vs' : Array Value) (hv : VL g cs' vs'.toList) :
    WC g (ins b (.cells true cs') H) (w.setRow c vs') ∧ Ctx w g H g (ins b (.cells true cs') H) (w.setRow c vs') := by
  have hlive : Live g H c := ⟨b, _, hb, hc⟩
  have htip : ∀ x, tipOf (ins b (.cells true cs') H) x = tipOf H x := by
    intro x; rw [tipOf_ins]; split
    · rename_i e; subst e; simp [tipOf, hb]
    · rfl
  have hne : ∀ c' o v, g.Γ c' o v → c' ≠ c := by
    rintro c' o v e rfl; rw [hg o] at e; cases e
  have hlu : ∀ c', Used g (ins b (.cells true cs') H) c' → Used g H c' := by
    rintro c' ⟨x, ob, h1, h2⟩
    rw [find_ins] at h1
    split at h1
    · rename_i e; subst e; cases h1; exact ⟨b, _, hb, h2⟩
    · exact ⟨x, ob, h1, h2⟩
  have hlv : ∀ c', Live g (ins b (.cells true cs') H) c' → Live g H c' := by
    rintro c' ⟨x, ob, h1, h2⟩
    rw [find_ins] at h1
    split at h1
    · rename_i e; subst e; cases h1; exact ⟨b, _, hb, h2⟩
    · exact ⟨x, ob, h1, h2⟩
  refine ⟨⟨fun x => (h.tip x).trans (htip x).symm, fun c' o a ha => ?_, fun x ob hx => ?_, fun x x' ob ob' c' h1 h2 h3 h4 => ?_⟩,
    ⟨by rw [setRow_size]; exact Nat.le_refl _, fun c' _ hn => ⟨setRow_other _ _ _ _ (fun e => hn (e ▸ hlive)), fun _ => rfl⟩, fun _ _ _ h => h, fun c' hl => .inl (hlv c' hl), fun c' hl => .inl (hlu c' hl), rfl, rfl, rfl⟩⟩
  · obtain ⟨v, h1, h2⟩ := h.pin c' o a ha
    refine ⟨v, ?_, h2⟩
    simp only [World.cell?, setRow_other w c c' vs' (hne c' o a ha)]
    exact h1
  · rw [find_ins] at hx
    split at hx
    · rename_i e'; subst e'; cases hx
      exact ⟨c, vs', e, hc, setRow_heap w c vs vs' e (0, 0) hw, hv, hg⟩
    · rename_i hxb
      have h1 := h.objs x ob hx
      cases ob with
      | cells wr' cs2 =>
        obtain ⟨c2, us, e2, k1, k2, k3⟩ := h1
        have : c2 ≠ c := fun e' => hxb (h.inj b x _ _ c hb hx hc (by simp only [blockOf]; rw [k1, e']))
        exact ⟨c2, us, e2, k1, by rw [setRow_other _ _ _ _ this]; exact k2, k3⟩
      | buf s n =>
        intro c2 cap hcb
        obtain ⟨us, e2, k2, k3⟩ := h1 c2 cap hcb
        have : c2 ≠ c := fun e' => hxb (h.inj b x _ _ c hb hx hc (by simp only [blockOf]; rw [hcb, ← e']; rfl))
        exact ⟨us, e2, by rw [setRow_other _ _ _ _ this]; exact k2, k3⟩
      | map es => exact h1
  · have cases_ : ∀ y oy, find (ins b (.cells true cs') H) y = some oy → blockOf g y oy = some c' → ∃ oy', find H y = some oy' ∧ blockOf g y oy' = some c' := by
      intro y oy hy hby
      rw [find_ins] at hy
      split at hy
      · rename_i e'; subst e'; cases hy; exact ⟨_, hb, hby⟩
      · exact ⟨oy, hy, hby⟩
    obtain ⟨o1, k1, k2⟩ := cases_ x ob h1 h3
    obtain ⟨o2, k3, k4⟩ := cases_ x' ob' h2 h4
    exact h.inj x x' o1 o2 c' k1 k3 k2 k4

/-- An append within the capacity. -/
def Gh.more (g : Gh) (c off : Nat) (cs : List AV) : Gh := { g with Γ := fun c' o => if c' = c ∧ off ≤ o ∧ o < off + cs.length then fun a => cs[o - off]? = some a else g.Γ c' o }

theorem Keep.more {g : Gh} {c off : Nat} (hg : ∀ o, off ≤ o → g.Γ c o = nob) (cs : List AV) (F : Oid → Prop) : Keep F g (g.more c off cs) := by
  refine ⟨fun c' o x e => ?_, fun _ _ _ h => h, fun _ _ => .same rfl rfl⟩
  simp only [Gh.more]
  rw [if_neg]
  · exact e
  · rintro ⟨rfl, h1, _⟩; rw [hg o h1] at e; cases e

theorem still_nil {cs : List AV} (hs : stillL cs = true) : ∀ (i : Nat) a, cs[i]? = some a → refs a = [] ∧ toks a = [] ∧ cellOk a = true := by
  simp only [stillL, Bool.and_eq_true, List.isEmpty_iff, List.all_eq_true] at hs
  obtain ⟨⟨hr, ht⟩, hc⟩ := hs
  have hoff : OffL (fun _ => True) cs := ⟨by simp [hr], by simp [ht]⟩
  intro i a ha
  have := OffL.get hoff ha
  exact ⟨List.eq_nil_iff_forall_not_mem.2 fun b hb => this.1 b hb trivial, List.eq_nil_iff_forall_not_mem.2 fun b hb => this.2 b hb trivial, hc a (List.mem_of_getElem? ha)⟩

theorem WC.fits {g : Gh} {H : Heap} {w : World} (h : WC g H w) {b : Oid} {s n m : Nat} (hb : find H b = some (.buf s n)) {c cap : Nat} (hc : g.bufc b = some (c, cap))
    {vs : Array Value} {e : TypeId} (hw : w.heap[c]? = some (.cells vs e (0, 0))) (hsz : cap * s ≤ vs.size) (hm : n + m ≤ cap) (hg : ∀ o, n * s ≤ o → g.Γ c o = nob)
    (cs : List AV) (us : List Value) (hl : cs.length = m * s) (hv : VL g cs us) (hs : stillL cs = true) :
    WC ((g.more c (n * s) cs).heap (ins b (.buf s (n + m)) H)) (ins b (.buf s (n + m)) H) (w.setRow c (vs.toList.take (n * s) ++ us ++ vs.toList.drop (n * s + us.length)).toArray) ∧
    Ctx w g H ((g.more c (n * s) cs).heap (ins b (.buf s (n + m)) H)) (ins b (.buf s (n + m)) H) (w.setRow c (vs.toList.take (n * s) ++ us ++ vs.toList.drop (n * s + us.length)).toArray) ∧
    Keep (fun _ => False) g ((g.more c (n * s) cs).heap (ins b (.buf s (n + m)) H)) := by
  have hlive : Live g H c := ⟨b, _, hb, by simp only [ownOf]; rw [hc]; rfl⟩
  have hul : us.length = m * s := by rw [hv.length, hl]
  have hms : (n + m) * s ≤ cap * s := Nat.mul_le_mul_right s hm
  rw [Nat.add_mul] at hms
  have hk : Keep (fun _ => False) g ((g.more c (n * s) cs).heap (ins b (.buf s (n + m)) H)) := by
    have h0 := Keep.more hg cs (fun _ => False)
    refine ⟨h0.gam, h0.mu, fun x _ => ?_⟩
    by_cases hx : b = x
    · subst hx
      refine ⟨fun s' n' hn => ?_⟩
      simp only [Gh.heap, tipOf_ins, if_true] at hn
      cases hn
      exact ⟨s, n, by rw [h.tip]; simp [tipOf, hb], by omega, fun _ => rfl⟩
    · refine .same ?_ rfl
      simp only [Gh.heap, tipOf_ins, if_neg hx]
      rw [h.tip]
  have hne : ∀ x ob c', find H x = some ob → x ≠ b → blockOf g x ob = some c' → c' ≠ c := by
    rintro x ob c' h1 h2 h3 rfl
    exact h2 (h.inj x b _ _ c' h1 hb h3 (by simp only [blockOf]; rw [hc]; rfl))
  have hnl := still_nil hs
  have hrow : ∀ o, (vs.toList.take (n * s) ++ us ++ vs.toList.drop (n * s + us.length)).toArray[o]? = if o < n * s then vs[o]? else if o < n * s + m * s then us[o - n * s]? else vs[o]? := by
    intro o
    have hmin : min (n * s) vs.size = n * s := by omega
    simp only [List.getElem?_toArray, List.getElem?_append, List.length_append, List.length_take, Array.length_toList, hmin, hul]
    split
    · split
      · rename_i h1; rw [List.getElem?_take, if_pos h1, Array.getElem?_toList]
      · rfl
    · rename_i h1
      rw [if_neg (by omega), List.getElem?_drop, Array.getElem?_toList]
      congr 1; omega
  refine ⟨⟨fun x => rfl, fun c' o a ha => ?_, fun x ob hx => ?_, fun x x' ob ob' c' h1 h2 h3 h4 => ?_⟩,
    ⟨by rw [setRow_size]; exact Nat.le_refl _, fun c' _ hn => ⟨setRow_other _ _ _ _ (fun e' => hn (e' ▸ hlive)), fun o => ?_⟩, hk.gam, fun c' hl => ?_, fun c' hl => ?_, rfl, rfl, rfl⟩, hk⟩
  · simp only [Gh.heap, Gh.more] at ha
    split at ha
    · rename_i hh
      obtain ⟨rfl, h1, h2⟩ := hh
      obtain ⟨v, k1, k2⟩ := hv.get _ a ha
      refine ⟨v, ?_, hk.V (Off.none _) k2, hnl _ a ha⟩
      rw [cell_of_block (setRow_heap w c' vs _ e (0, 0) hw), hrow, if_neg (by omega), if_pos (by omega)]
      exact k1
    · rename_i hh
      obtain ⟨v, k1, k2, k3⟩ := h.pin c' o a ha
      refine ⟨v, ?_, hk.V (Off.none _) k2, k3⟩
      by_cases hcc : c' = c
      · subst hcc
        have ho : o < n * s := by
          rcases Nat.lt_or_ge o (n * s) with h1 | h1
          · exact h1
          · rw [hg o h1] at ha; cases ha
        rw [cell_of_block (setRow_heap w c' vs _ e (0, 0) hw), hrow, if_pos ho]
        rw [cell_of_block hw] at k1; exact k1
      · simp only [World.cell?, setRow_other w c c' _ hcc]; exact k1
  · rw [find_ins] at hx
    split at hx
    · rename_i e'; subst e'; cases hx
      intro c2 cap2 hcb
      have : g.bufc b = some (c2, cap2) := hcb
      rw [hc] at this; cases this
      refine ⟨_, e, setRow_heap w c vs _ e (0, 0) hw, ?_, hm, fun o ho => ?_⟩
      · simp [hul]; omega
      · rw [Nat.add_mul] at ho
        simp only [Gh.heap, Gh.more]
        rw [if_neg (by omega)]; exact hg o (by omega)
    · rename_i hxb
      have h1 := h.objs x ob hx
      cases ob with
      | cells wr' cs2 =>
        obtain ⟨c2, vs2, e2, k1, k2, k3, k4⟩ := h1
        have : c2 ≠ c := hne x _ c2 hx (Ne.symm hxb) k1
        exact ⟨c2, vs2, e2, k1, by rw [setRow_other _ _ _ _ this]; exact k2, hk.VL (OffL.none _) k3, fun o => by simp only [Gh.heap, Gh.more]; rw [if_neg (by omega)]; exact k4 o⟩
      | buf s2 n2 =>
        intro c2 cap2 hcb
        have hcb' : g.bufc x = some (c2, cap2) := hcb
        obtain ⟨vs2, e2, k2, k3, k5, k4⟩ := h1 c2 cap2 hcb'
        have : c2 ≠ c := hne x _ c2 hx (Ne.symm hxb) (by simp only [blockOf]; rw [hcb']; rfl)
        exact ⟨vs2, e2, by rw [setRow_other _ _ _ _ this]; exact k2, k3, k5, fun o ho => by simp only [Gh.heap, Gh.more]; rw [if_neg (by omega)]; exact k4 o ho⟩
      | map es => exact h1
  · have cases_ : ∀ y oy, find (ins b (.buf s (n + m)) H) y = some oy → blockOf ((g.more c (n * s) cs).heap (ins b (.buf s (n + m)) H)) y oy = some c' → ∃ oy', find H y = some oy' ∧ blockOf g y oy' = some c' := by
      intro y oy hy hby
      rw [find_ins] at hy
      split at hy
      · rename_i e'; subst e'; cases hy; exact ⟨_, hb, hby⟩
      · exact ⟨oy, hy, by cases oy <;> exact hby⟩
    obtain ⟨o1, k1, k2⟩ := cases_ x ob h1 h3
    obtain ⟨o2, k3, k4⟩ := cases_ x' ob' h2 h4
    exact h.inj x x' o1 o2 c' k1 k3 k2 k4
  · simp only [Gh.heap, Gh.more]
    rw [if_neg]
    rintro ⟨rfl, _⟩; exact hn hlive
  · obtain ⟨x, ob, h1, h2⟩ := hl
    rw [find_ins] at h1
    split at h1
    · rename_i e'; subst e'; cases h1; exact .inl ⟨b, _, hb, h2⟩
    · exact .inl ⟨x, ob, h1, by cases ob <;> exact h2⟩
  · obtain ⟨x, ob, h1, h2⟩ := hl
    rw [find_ins] at h1
    split at h1
    · rename_i e'; subst e'; cases h1; exact .inl ⟨b, _, hb, h2⟩
    · exact .inl ⟨x, ob, h1, by cases ob <;> exact h2⟩

/-- The spare of a slice gets another block, which nobody else has. -/
def Gh.moved (g : Gh) (b : Oid) (p : Option (Nat × Nat)) (H : Heap) : Gh := { g with bufc := fun x => if x = b then p else g.bufc x, tip := tipOf H }

theorem WC.moved {F : Oid → Prop} {g : Gh} {H : Heap} {w : World} (h : WC g H w) (b : Oid) (s n : Nat) (p : Option (Nat × Nat)) (hob : ∀ ob, find H b = some ob → ∃ s' n', ob = .buf s' n')
    (hp : ∀ c cap, p = some (c, cap) → ¬ Used g H c ∧ ∃ vs e, w.heap[c]? = some (.cells vs e (0, 0)) ∧ cap * s ≤ vs.size ∧ n ≤ cap ∧ ∀ o, n * s ≤ o → g.Γ c o = nob)
    (hk : Keep (fun x => x = b) g (g.moved b p (ins b (.buf s n) H)) → Keep F g (g.moved b p (ins b (.buf s n) H)))
    (hF : ∀ x ob, x ≠ b → find H x = some ob → ∀ y ∈ ob.refs ++ ob.toks, ¬ F y) :
    Keep F g (g.moved b p (ins b (.buf s n) H)) ∧ WC (g.moved b p (ins b (.buf s n) H)) (ins b (.buf s n) H) w := by
  have hk' : Keep F g (g.moved b p (ins b (.buf s n) H)) := hk (by
    refine ⟨fun _ _ _ h => h, fun _ _ _ h => h, fun x hx => .same ?_ ?_⟩
    · simp only [Gh.moved, tipOf_ins]; rw [if_neg (Ne.symm hx), h.tip]
    · simp only [Gh.moved]; rw [if_neg hx])
  refine ⟨hk', fun x => rfl, fun c o a ha => ?_, fun x ob hx => ?_, fun x x' ob ob' c h1 h2 h3 h4 => ?_⟩
  · obtain ⟨v, k1, k2, k3, k4, k5⟩ := h.pin c o a ha
    exact ⟨v, k1, hk'.V (Off.of_nil k3 k4) k2, k3, k4, k5⟩
  · rw [find_ins] at hx
    split at hx
    · rename_i e'; subst e'; cases hx
      intro c cap hcb
      simp only [Gh.moved, if_true] at hcb
      exact (hp c cap hcb).2
    · rename_i hxb
      have h1 := h.objs x ob hx
      have h2 := hF x ob (Ne.symm hxb) hx
      cases ob with
      | cells wr' cs2 =>
        obtain ⟨c2, vs2, e2, k1, k2, k3, k4⟩ := h1
        exact ⟨c2, vs2, e2, k1, k2, hk'.VL ⟨fun y hy => h2 y (by simp [Ob.refs, hy]), fun y hy => h2 y (by simp [Ob.toks, hy])⟩ k3, k4⟩
      | buf s2 n2 =>
        intro c2 cap2 hcb
        simp only [Gh.moved] at hcb
        rw [if_neg (Ne.symm hxb)] at hcb
        exact h1 c2 cap2 hcb
      | map es => exact h1
  · have live_ : ∀ y oy, y ≠ b → find (ins b (.buf s n) H) y = some oy → blockOf (g.moved b p (ins b (.buf s n) H)) y oy = some c → find H y = some oy ∧ blockOf g y oy = some c := by
      intro y oy hyb hy hby
      rw [find_ins, if_neg (Ne.symm hyb)] at hy
      refine ⟨hy, ?_⟩
      cases oy <;> simp only [blockOf, Gh.moved] at hby ⊢ <;> (try rw [if_neg hyb] at hby) <;> exact hby
    have own_ : ∀ oy, find (ins b (.buf s n) H) b = some oy → blockOf (g.moved b p (ins b (.buf s n) H)) b oy = some c → ∃ cap, p = some (c, cap) := by
      intro oy hy hby
      rw [find_ins, if_pos rfl] at hy
      cases hy
      simp only [blockOf, Gh.moved, if_true] at hby
      cases p with
      | none => cases hby
      | some q => obtain ⟨c2, cap⟩ := q; simp at hby; exact ⟨cap, by rw [hby]⟩
    by_cases e1 : x = b
    · by_cases e2 : x' = b
      · rw [e1, e2]
      · subst e1
        obtain ⟨cap, hpc⟩ := own_ ob h1 h3
        obtain ⟨k1, k2⟩ := live_ x' ob' e2 h2 h4
        exact ((hp c cap hpc).1 ⟨x', ob', k1, k2⟩).elim
    · by_cases e2 : x' = b
      · subst e2
        obtain ⟨cap, hpc⟩ := own_ ob' h2 h4
        obtain ⟨k1, k2⟩ := live_ x ob e1 h1 h3
        exact ((hp c cap hpc).1 ⟨x, ob, k1, k2⟩).elim
      · obtain ⟨k1, k2⟩ := live_ x ob e1 h1 h3
        obtain ⟨k3, k4⟩ := live_ x' ob' e2 h2 h4
        exact h.inj x x' ob ob' c k1 k3 k2 k4

/-! ### names that are made anew -/
def NoRoot (d : Nat) (H : Heap) : Prop := ∀ b, rooted d b = true → find H b = none
/-- Nothing in the heap speaks of the object of this slot. -/
def ClearH (d : Nat) (H : Heap) : Prop := NoRoot d H ∧ ∀ x ob, find H x = some ob → ∀ y ∈ ob.refs ++ ob.toks, rooted d y = false

theorem rooted_loc (d : Nat) : rooted d (.loc d) = true := by simp [rooted, Oid.root]
theorem rooted_cl (d : Nat) (o : Oid) (j : Nat) : rooted d (.cl o j) = rooted d o := rfl

/-- A new object, with slices in it that begin to grow. -/
def Gh.made (g : Gh) (d c : Nat) (H : Heap) : Gh := { g with μ := fun x => if x = .loc d then some c else g.μ x, tip := tipOf H, bufc := fun x => if rooted d x then none else g.bufc x }

theorem find_insAll_cl {d : Nat} {ts : List (Oid × Ob)} (hts : ∀ x ∈ ts, ∃ j s, x = (.cl (.loc d) j, .buf s 0)) (H : Heap) (b : Oid) : find (insAll H ts) b = find H b ∨ ∃ j s, b = .cl (.loc d) j ∧ find (insAll H ts) b = some (.buf s 0) := by
  rw [find_insAll]
  cases hf : find ts b with
  | none => exact .inl rfl
  | some ob =>
    obtain ⟨j, s, e⟩ := hts _ (find_mem hf)
    cases e
    exact .inr ⟨j, s, rfl, rfl⟩

theorem WC.newObj {g : Gh} {H : Heap} {w : World} (h : WC g H w) {d : Nat} (hd : ClearH d H) (cs : List AV) (vs : Array Value) (e : TypeId) (ts : List (Oid × Ob))
    (hts : ∀ x ∈ ts, ∃ j s, x = (.cl (.loc d) j, .buf s 0))
    (hv : ∀ g', Keep (fun x => rooted d x = true) g g' → (∀ x, g'.tip x = tipOf (insAll H ((.loc d, .cells true cs) :: ts)) x) → VL g' cs vs.toList) :
    ∃ g', V g' (.ptr (.loc d) 0) (.pointer (some ⟨w.heap.size, 0, none⟩)) ∧ WC g' (insAll H ((.loc d, .cells true cs) :: ts)) (w.alloc (.cells vs e)) ∧
      Keep (fun x => rooted d x = true) g g' ∧ Ctx w g H g' (insAll H ((.loc d, .cells true cs) :: ts)) (w.alloc (.cells vs e)) := by
  obtain ⟨hnr, hsp⟩ := hd
  let H' := insAll H ((.loc d, .cells true cs) :: ts)
  let g' := g.made d w.heap.size H'
  have hfind : ∀ b, (b = .loc d ∧ find H' b = some (.cells true cs)) ∨ (∃ j s, b = .cl (.loc d) j ∧ find H' b = some (.buf s 0)) ∨ (b ≠ .loc d ∧ find H' b = find H b) := by
    intro b
    simp only [H', insAll, find_ins]
    by_cases e : b = .loc d
    · exact .inl ⟨e, by rw [if_pos e.symm]⟩
    · rw [if_neg (Ne.symm e)]
      rcases find_insAll_cl hts H b with h1 | ⟨j, s, h1, h2⟩
      · exact .inr (.inr ⟨e, h1⟩)
      · exact .inr (.inl ⟨j, s, h1, h2⟩)
  have hk : Keep (fun x => rooted d x = true) g g' := by
    refine ⟨fun _ _ _ h => h, fun b hb c hc => ?_, fun b hb => .same ?_ ?_⟩
    · simp only [g', Gh.made]; rw [if_neg]; exact hc
      rintro rfl; exact hb (rooted_loc d)
    · simp only [g', Gh.made, h.tip, tipOf]
      rcases hfind b with ⟨rfl, _⟩ | ⟨j, s, rfl, _⟩ | ⟨_, h2⟩
      · exact (hb (rooted_loc d)).elim
      · exact (hb (by rw [rooted_cl]; exact rooted_loc d)).elim
      · rw [h2]
    · simp only [g', Gh.made]; rw [if_neg hb]
  have hvg : VL g' cs vs.toList := hv g' hk (fun _ => rfl)
  have hold : ∀ b ob, find H' b = some ob → find H b = some ob → ∀ c, blockOf g' b ob = some c → blockOf g b ob = some c := by
    intro b ob h1 h2 c h3
    have hnb : ¬ rooted d b = true := fun hr => by rw [hnr b hr] at h2; cases h2
    cases ob <;> simp only [blockOf, g', Gh.made] at h3 ⊢
    · rw [if_neg] at h3; exact h3
      rintro rfl; exact hnb (rooted_loc d)
    · rw [if_neg hnb] at h3; exact h3
    · rw [if_neg] at h3; exact h3
      rintro rfl; exact hnb (rooted_loc d)
  have hbuf0 : ∀ j, g'.bufc (.cl (.loc d) j) = none := fun j => by
    simp only [g', Gh.made]; rw [if_pos (by rw [rooted_cl]; exact rooted_loc d)]
  have hmuc : g'.μ (.loc d) = some w.heap.size := by simp [g', Gh.made]
  refine ⟨g', ⟨_, hmuc, rfl⟩, ⟨fun _ => rfl, fun c o a ha => ?_, fun b ob hb => ?_, fun b b' ob ob' c h1 h2 h3 h4 => ?_⟩, hk,
    ⟨by simp, fun c hc _ => ⟨heap_alloc_old _ _ hc, fun _ => rfl⟩, fun _ _ _ h => h, fun c hl => ?_, fun c hl => ?_, rfl, rfl, rfl⟩⟩
  · obtain ⟨v, k1, k2, k3, k4, k5⟩ := h.pin c o a ha
    exact ⟨v, cell_alloc_old _ _ k1, hk.V (Off.of_nil k3 k4) k2, k3, k4, k5⟩
  · rcases hfind b with ⟨rfl, h2⟩ | ⟨j, s, rfl, h2⟩ | ⟨_, h2⟩
    · rw [show find (insAll H ((.loc d, .cells true cs) :: ts)) (.loc d) = some (.cells true cs) from h2] at hb
      cases hb
      exact ⟨w.heap.size, vs, e, hmuc, heap_alloc_new _ _, hvg, fun o => h.noΓ (Nat.le_refl _) o⟩
    · rw [show find (insAll H ((.loc d, .cells true cs) :: ts)) (.cl (.loc d) j) = some (.buf s 0) from h2] at hb
      cases hb
      intro c cap hcb
      rw [hbuf0] at hcb; cases hcb
    · rw [show find (insAll H ((.loc d, .cells true cs) :: ts)) b = find H b from h2] at hb
      have hnb : ¬ rooted d b = true := fun hr => by rw [hnr b hr] at hb; cases hb
      have h3 := h.objs b ob hb
      have h4 := hsp b ob hb
      cases ob with
      | cells wr' cs2 =>
        obtain ⟨c2, vs2, e2, k1, k2, k3, k4⟩ := h3
        have hlt := (Array.getElem?_eq_some_iff.1 k2).1
        exact ⟨c2, vs2, e2, hk.mu b hnb c2 k1, by rw [heap_alloc_old _ _ hlt]; exact k2,
          hk.VL ⟨fun y hy => by show ¬ rooted d y = true; rw [h4 y (by simp [Ob.refs, hy])]; simp, fun y hy => by show ¬ rooted d y = true; rw [h4 y (by simp [Ob.toks, hy])]; simp⟩ k3, k4⟩
      | buf s2 n2 =>
        intro c2 cap2 hcb
        simp only [g', Gh.made] at hcb
        rw [if_neg hnb] at hcb
        obtain ⟨vs2, e2, k2, k3⟩ := h3 c2 cap2 hcb
        have hlt := (Array.getElem?_eq_some_iff.1 k2).1
        exact ⟨vs2, e2, by rw [heap_alloc_old _ _ hlt]; exact k2, k3⟩
      | map es => exact h3
  · have which : ∀ x ox, find H' x = some ox → blockOf g' x ox = some c → (x = .loc d ∧ c = w.heap.size) ∨ (find H x = some ox ∧ blockOf g x ox = some c) := by
      intro x ox hx hbx
      rcases hfind x with ⟨rfl, h2⟩ | ⟨j, s, rfl, h2⟩ | ⟨_, h2⟩
      · rw [h2] at hx; cases hx
        simp only [blockOf] at hbx
        rw [hmuc] at hbx; cases hbx
        exact .inl ⟨rfl, rfl⟩
      · rw [h2] at hx; cases hx
        simp only [blockOf] at hbx
        rw [hbuf0] at hbx; cases hbx
      · rw [h2] at hx
        exact .inr ⟨hx, hold x ox (by rw [h2]; exact hx) hx c hbx⟩
    rcases which b ob h1 h3 with ⟨rfl, e1⟩ | ⟨k1, k2⟩
    · rcases which b' ob' h2 h4 with ⟨rfl, _⟩ | ⟨k3, k4⟩
      · rfl
      · have := h.used_lt ⟨b', ob', k3, k4⟩; omega
    · rcases which b' ob' h2 h4 with ⟨rfl, e2⟩ | ⟨k3, k4⟩
      · have := h.used_lt ⟨b, ob, k1, k2⟩; omega
      · exact h.inj b b' ob ob' c k1 k3 k2 k4
  · obtain ⟨b, ob, h1, h2⟩ := hl
    rcases hfind b with ⟨rfl, h3⟩ | ⟨j, s, rfl, h3⟩ | ⟨_, h3⟩
    · rw [show find (insAll H ((.loc d, .cells true cs) :: ts)) (.loc d) = some (.cells true cs) from h3] at h1
      cases h1
      simp only [ownOf] at h2
      rw [hmuc] at h2; cases h2; exact .inr (Nat.le_refl _)
    · rw [show find (insAll H ((.loc d, .cells true cs) :: ts)) (.cl (.loc d) j) = some (.buf s 0) from h3] at h1
      cases h1
      simp only [ownOf] at h2
      rw [hbuf0] at h2; cases h2
    · rw [show find (insAll H ((.loc d, .cells true cs) :: ts)) b = find H b from h3] at h1
      refine .inl ⟨b, ob, h1, ?_⟩
      have h5 := hold b ob (by rw [h3]; exact h1) h1 c (ownOf_block h2)
      cases ob with
      | cells wr cs2 => cases wr with
        | false => cases h2
        | true => exact h5
      | buf s n => exact h5
      | map es => exact h5
  · obtain ⟨b, ob, h1, h2⟩ := hl
    rcases hfind b with ⟨rfl, h3⟩ | ⟨j, s, rfl, h3⟩ | ⟨_, h3⟩
    · rw [show find (insAll H ((.loc d, .cells true cs) :: ts)) (.loc d) = some (.cells true cs) from h3] at h1
      cases h1
      simp only [blockOf] at h2
      rw [hmuc] at h2; cases h2; exact .inr (Nat.le_refl _)
    · rw [show find (insAll H ((.loc d, .cells true cs) :: ts)) (.cl (.loc d) j) = some (.buf s 0) from h3] at h1
      cases h1
      simp only [blockOf] at h2
      rw [hbuf0] at h2; cases h2
    · rw [show find (insAll H ((.loc d, .cells true cs) :: ts)) b = find H b from h3] at h1
      exact .inl ⟨b, ob, h1, hold b ob (by rw [h3]; exact h1) h1 c h2⟩

end Go.Proofs.Ytbckfbohbjhffaa.AE
