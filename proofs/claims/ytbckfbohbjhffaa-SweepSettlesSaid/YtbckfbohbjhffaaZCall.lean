/- Calls: the callee sees the objects that can be reached from its arguments, under names of its own. No condition. -/
import Derived.Test.YtbckfbohbjhffaaZOps6
set_option linter.unusedVariables false
set_option linter.unusedSimpArgs false
namespace Go.Proofs.Ytbckfbohbjhffaa.AE
open Go

def IsExt (b : Oid) : Prop := ∃ i, b.root = .ext i
def Pers (H H' : Heap) : Prop := ∀ e, IsExt e → (find H e).isSome = true → (find H' e).isSome = true

structure Ret (g : Gh) (H : Heap) (w : World) (r : AV) (H' : Heap) (v : Value) (g' : Gh) (w' : World) : Prop where
  val : V g' r v
  wc : WC g' H' w'
  keep : Keep (fun b => ¬ IsExt b) g g'
  ctx : Ctx w g H g' H' w'
  pers : Pers H H'

def RetPost (g : Gh) (H : Heap) (w : World) (r : AV) (H' : Heap) (e : Ending) (w' : World) : Prop := ∃ v g', e = .returned v ∧ Ret g H w r H' v g' w'
/-- The variables of the program that are laid. -/
def Glob (gl : List (Nat × List AV)) (g : Gh) : Prop := ∀ x ∈ gl, Pinned g x.1 0 x.2
def CallOk (P : Program) (gl : List (Nat × List AV)) (call : CallF) : Prop :=
  ∀ f args H r H', call f args H = some (r, H') → ∀ g (vs : Array Value) w, WC g H w → VL g args vs.toList → Glob gl g → Calls P f vs w (RetPost g H w r H')

/-! ### names -/
theorem idx_spec : ∀ (ids : List Oid) (o : Oid) (k i : Nat), idx ids o k = some i → k ≤ i ∧ ids[i - k]? = some o
  | [], _, _, _, h => by cases h
  | x :: r, o, k, i, h => by
    simp only [idx] at h
    split at h
    · rename_i e; cases h; subst e; simp
    · obtain ⟨h1, h2⟩ := idx_spec r o (k + 1) i h
      refine ⟨by omega, ?_⟩
      have : i - k = (i - (k + 1)) + 1 := by omega
      rw [this, List.getElem?_cons_succ]; exact h2
theorem idx_none : ∀ (ids : List Oid) (o : Oid) (k : Nat), idx ids o k = none → o ∉ ids
  | [], _, _, _ => by simp
  | x :: r, o, k, h => by
    simp only [idx] at h
    split at h
    · cases h
    · rename_i e
      have := idx_none r o (k + 1) h
      simp only [List.mem_cons, not_or]
      exact ⟨Ne.symm e, this⟩
theorem of_toExt (ids : List Oid) : ∀ (b e : Oid), toExt ids b = some e → ofExt ids e = some b ∧ IsExt e
  | .cl o j, e, h => by
    simp only [toExt] at h
    split at h
    · rename_i o' ho
      cases h
      obtain ⟨k1, i, k2⟩ := of_toExt ids o o' ho
      exact ⟨by simp only [ofExt, k1], i, by simpa [Oid.root] using k2⟩
    · cases h
  | .loc d, e, h => by
    simp only [toExt] at h
    cases hi : idx ids (.loc d) 0 with
    | none => rw [hi] at h; cases h
    | some i =>
      rw [hi] at h; cases h
      obtain ⟨_, k⟩ := idx_spec _ _ _ _ hi
      exact ⟨by simpa [ofExt] using k, i, rfl⟩
  | .ext q, e, h => by
    simp only [toExt] at h
    cases hi : idx ids (.ext q) 0 with
    | none => rw [hi] at h; cases h
    | some i =>
      rw [hi] at h; cases h
      obtain ⟨_, k⟩ := idx_spec _ _ _ _ hi
      exact ⟨by simpa [ofExt] using k, i, rfl⟩
theorem toExt_inj (ids : List Oid) {b b' e : Oid} (h : toExt ids b = some e) (h' : toExt ids b' = some e) : b = b' := by
  have h1 := (of_toExt ids b e h).1
  have h2 := (of_toExt ids b' e h').1
  rw [h1] at h2; cases h2; rfl

/-- Base names, each once. -/
structure Base (ids : List Oid) : Prop where
  nodup : ids.Nodup
  plain : ∀ o ∈ ids, ∀ b j, o ≠ .cl b j
theorem idx_get {ids : List Oid} (h : ids.Nodup) : ∀ (i : Nat) (o : Oid) (k : Nat), ids[i]? = some o → idx ids o k = some (k + i) := by
  induction ids with
  | nil => intro i o k hi; simp at hi
  | cons x r ih =>
    intro i o k hi
    rw [List.nodup_cons] at h
    simp only [idx]
    cases i with
    | zero => simp at hi; subst hi; simp
    | succ i =>
      simp at hi
      have hne : x ≠ o := by rintro rfl; exact h.1 (List.mem_of_getElem? hi)
      rw [if_neg hne, ih h.2 i o (k + 1) hi]
      congr 1; omega
theorem to_ofExt {ids : List Oid} (hb : Base ids) : ∀ (e b : Oid), ofExt ids e = some b → toExt ids b = some e
  | .cl o j, b, h => by
    simp only [ofExt] at h
    split at h
    · rename_i o' ho
      cases h
      simp only [toExt, to_ofExt hb o o' ho]
    · cases h
  | .loc d, b, h => by cases h
  | .ext i, b, h => by
    simp only [ofExt] at h
    have hm := List.mem_of_getElem? h
    have hi := idx_get hb.nodup i b 0 h
    cases b with
    | cl o j => exact (hb.plain _ hm o j rfl).elim
    | loc d => simp only [toExt, hi]; simp
    | ext q => simp only [toExt, hi]; simp

theorem reach_nodup (H : Heap) : ∀ (n : Nat) (todo seen r : List Oid), reach H n todo seen = some r → seen.Nodup → r.Nodup
  | 0, _, _, _, h, _ => by cases h
  | n + 1, [], seen, r, h, hs => by simp only [reach] at h; cases h; exact hs
  | n + 1, o :: todo, seen, r, h, hs => by
    simp only [reach] at h
    split at h
    · exact reach_nodup H n todo seen r h hs
    · rename_i hc
      split at h
      · refine reach_nodup H n _ _ r h ?_
        rw [List.nodup_append]
        refine ⟨hs, by simp, ?_⟩
        intro a ha b hb
        simp at hb; subst hb
        rintro rfl
        exact hc (by simpa using ha)
      · cases h

/-! ### renaming -/
structure RenOk (σ : Oid → Option Oid) (g g' : Gh) : Prop where
  gam : ∀ c o x, g.Γ c o x → g'.Γ c o x
  mu : ∀ b b', σ b = some b' → g'.μ b' = g.μ b
  tip : ∀ b b', σ b = some b' → g'.tip b' = g.tip b
  buf : ∀ b b', σ b = some b' → g'.bufc b' = g.bufc b
mutual
theorem V.ren {σ : Oid → Option Oid} {g g' : Gh} (h : RenOk σ g g') : ∀ (a a' : AV) (v : Value), ren σ a = some a' → V g a v → V g' a' v
  | .undef, a', v, e, hv => by simp only [AE.ren] at e; cases e; exact hv
  | .bool b, a', v, e, hv => by simp only [AE.ren] at e; cases e; exact hv
  | .int k n, a', v, e, hv => by simp only [AE.ren] at e; cases e; exact hv
  | .str s, a', v, e, hv => by simp only [AE.ren] at e; cases e; exact hv
  | .nilp, a', v, e, hv => by simp only [AE.ren] at e; cases e; exact hv
  | .nils, a', v, e, hv => by simp only [AE.ren] at e; cases e; exact hv
  | .nilm, a', v, e, hv => by simp only [AE.ren] at e; cases e; exact hv
  | .nilf, a', v, e, hv => by simp only [AE.ren] at e; cases e; exact hv
  | .nili, a', v, e, hv => by simp only [AE.ren] at e; cases e; exact hv
  | .ptr b off, a', v, e, hv => by
    simp only [AE.ren] at e
    split at e
    · rename_i b' hb
      cases e
      obtain ⟨c, h1, h2⟩ := hv
      exact ⟨c, by rw [h.mu b b' hb]; exact h1, h2⟩
    · cases e
  | .pin cs, a', v, e, hv => by
    simp only [AE.ren] at e; cases e
    obtain ⟨c, o, h1, h2⟩ := hv
    exact ⟨c, o, h1, h2.mono h.gam⟩
  | .slice tok s es, a', v, e, hv => by
    have hn : ∀ tok', (∀ c off cap, TokOk g es.length c off cap tok → TokOk g' es.length c off cap tok') → (Bare tok v → Bare tok' v) → V g' (.slice tok' s es) v := by
      intro tok' ht hbr
      rcases hv with hv | ⟨c, o, cap, h1, h2, h3, h4, h5⟩
      · exact .inl ⟨hbr hv.1, hv.2⟩
      · exact .inr ⟨c, o, cap, h1, h2, h3, h4.mono h.gam, ht _ _ _ h5⟩
    cases tok with
    | none => simp only [AE.ren] at e; cases e; exact hn _ (fun _ _ _ _ => trivial) id
    | full => simp only [AE.ren] at e; cases e; exact hn _ (fun _ _ _ h => h) id
    | buf b =>
      simp only [AE.ren] at e
      split at e
      · rename_i b' hb
        cases e
        exact hn _ (fun c off cap ht => fun s n hn => by
          rw [h.tip b b' hb] at hn
          rw [h.buf b b' hb]
          exact ht s n hn) fun hb => by
          rcases hb with hb | ⟨a, cap, hb, hb2 | hb2⟩
          · exact .inl hb
          · cases hb2
          · exact .inr ⟨a, cap, hb, .inr hb2⟩
      · cases e; exact hn _ (fun _ _ _ _ => trivial) Bare.none
  | .mref b s off len cap, a', v, e, hv => by
    simp only [AE.ren] at e
    split at e
    · rename_i b' hb
      cases e
      obtain ⟨c, h1, h2⟩ := hv
      exact ⟨c, by rw [h.mu b b' hb]; exact h1, h2⟩
    · cases e
  | .mapr b, a', v, e, hv => by
    simp only [AE.ren] at e
    split at e
    · rename_i b' hb
      cases e
      obtain ⟨c, h1, h2⟩ := hv
      exact ⟨c, by rw [h.mu b b' hb]; exact h1, h2⟩
    · cases e
  | .fn f a b, a', v, e, hv => by
    simp only [AE.ren] at e
    split at e
    · rename_i x y hx hy
      cases e
      obtain ⟨p, q, h1, h2, h3⟩ := hv
      exact ⟨p, q, h1, VL.ren h a x _ hx h2, VL.ren h b y _ hy h3⟩
    · cases e
  | .iface t x, a', v, e, hv => by
    simp only [AE.ren] at e
    split at e
    · rename_i y hy
      cases e
      obtain ⟨p, h1, h2⟩ := hv
      exact ⟨p, h1, V.ren h x y _ hy h2⟩
    · cases e
  | .agg cs, a', v, e, hv => by
    simp only [AE.ren] at e
    split at e
    · rename_i y hy
      cases e
      obtain ⟨p, h1, h2⟩ := hv
      exact ⟨p, h1, VL.ren h cs y _ hy h2⟩
    · cases e
  | .tuple cs, a', v, e, hv => by
    simp only [AE.ren] at e
    split at e
    · rename_i y hy
      cases e
      obtain ⟨p, h1, h2⟩ := hv
      exact ⟨p, h1, VL.ren h cs y _ hy h2⟩
    · cases e
theorem VL.ren {σ : Oid → Option Oid} {g g' : Gh} (h : RenOk σ g g') : ∀ (as as' : List AV) (vs : List Value), renL σ as = some as' → VL g as vs → VL g' as' vs
  | [], as', vs, e, hv => by simp only [AE.renL] at e; cases e; exact hv
  | a :: as, as', vs, e, hv => by
    simp only [AE.renL] at e
    split at e
    · rename_i x y hx hy
      cases e
      obtain ⟨v, vs, h1, h2, h3⟩ := hv
      exact ⟨v, vs, h1, V.ren h a x _ hx h2, VL.ren h as y _ hy h3⟩
    · cases e
end

/-- What of a heap has a name under σ. -/
theorem find_renHeap {σ : Oid → Option Oid} : ∀ {H Hc : Heap}, renHeap σ H = some Hc → (∀ b b' e, σ b = some e → σ b' = some e → b = b') →
    (∀ e ob', find Hc e = some ob' → ∃ b ob, σ b = some e ∧ find H b = some ob ∧ renOb σ ob = some ob') ∧ (∀ b e ob, σ b = some e → find H b = some ob → ∃ ob', find Hc e = some ob' ∧ renOb σ ob = some ob')
  | [], Hc, h, _ => by simp only [renHeap] at h; cases h; simp [find]
  | (o, ob) :: r, Hc, h, hi => by
    simp only [renHeap] at h
    split at h
    · rename_i ho
      obtain ⟨k1, k2⟩ := find_renHeap h hi
      refine ⟨fun e ob' he => ?_, fun b e ob2 hb hf => ?_⟩
      · obtain ⟨b, ob2, h1, h2, h3⟩ := k1 e ob' he
        refine ⟨b, ob2, h1, ?_, h3⟩
        simp only [find]
        rw [if_neg]; exact h2
        rintro rfl; rw [ho] at h1; cases h1
      · simp only [find] at hf
        rw [if_neg (by rintro rfl; rw [ho] at hb; cases hb)] at hf
        exact k2 b e ob2 hb hf
    · rename_i o' ho
      split at h
      · rename_i ob' r' hob hr
        cases h
        obtain ⟨k1, k2⟩ := find_renHeap hr hi
        refine ⟨fun e ob2 he => ?_, fun b e ob2 hb hf => ?_⟩
        · simp only [find] at he
          split at he
          · rename_i e1; subst e1; cases he
            exact ⟨o, ob, ho, by simp [find], hob⟩
          · rename_i hne
            obtain ⟨b, ob3, h1, h2, h3⟩ := k1 e ob2 he
            refine ⟨b, ob3, h1, ?_, h3⟩
            simp only [find]
            rw [if_neg]; exact h2
            rintro rfl; rw [ho] at h1; cases h1; exact hne rfl
        · simp only [find] at hf
          split at hf
          · rename_i e1; subst e1; cases hf
            rw [ho] at hb; cases hb
            exact ⟨ob', by simp [find], hob⟩
          · rename_i hne
            obtain ⟨ob3, h1, h2⟩ := k2 b e ob2 hb hf
            refine ⟨ob3, ?_, h2⟩
            simp only [find]
            rw [if_neg]; exact h1
            rintro rfl; exact hne (hi _ _ _ ho hb)
      · cases h

theorem renOb_block {σ : Oid → Option Oid} {g g' : Gh} (h : RenOk σ g g') {b b' : Oid} (hb : σ b = some b') {ob ob' : Ob} (ho : renOb σ ob = some ob') : blockOf g' b' ob' = blockOf g b ob ∧ ownOf g' b' ob' = ownOf g b ob := by
  cases ob with
  | cells w cs =>
    simp only [renOb] at ho
    cases hr : renL σ cs with
    | none => rw [hr] at ho; cases ho
    | some cs' => rw [hr] at ho; cases ho; cases w <;> simp [blockOf, ownOf, h.mu b b' hb]
  | buf s n => simp only [renOb] at ho; cases ho; simp [blockOf, ownOf, h.buf b b' hb]
  | map es =>
    simp only [renOb] at ho
    cases hr : renEs σ es with
    | none => rw [hr] at ho; cases ho
    | some cs' => rw [hr] at ho; cases ho; simp [blockOf, ownOf, h.mu b b' hb]
theorem renOb_tip {σ : Oid → Option Oid} {ob ob' : Ob} (ho : renOb σ ob = some ob') : (match some ob' with | some (.buf s n) => some (s, n) | _ => none) = (match some ob with | some (.buf s n) => some (s, n) | _ => none : Option (Nat × Nat)) := by
  cases ob with
  | cells w cs => simp only [renOb] at ho; cases hr : renL σ cs <;> rw [hr] at ho <;> cases ho; rfl
  | buf s n => simp only [renOb] at ho; cases ho; rfl
  | map es => simp only [renOb] at ho; cases hr : renEs σ es <;> rw [hr] at ho <;> cases ho; rfl
theorem renOb_ok {ob : Ob} {σ : Oid → Option Oid} {g g' : Gh} (h : RenOk σ g g') {w : World} {b b' : Oid} (hb : σ b = some b') (hΓ : ∀ c, blockOf g b ob = some c → ∀ o, g'.Γ c o = g.Γ c o) {ob' : Ob} (ho : renOb σ ob = some ob') (hk : ObOk g w b ob) : ObOk g' w b' ob' := by
  cases ob with
  | cells wr cs =>
    simp only [renOb] at ho
    cases hr : renL σ cs with
    | none => rw [hr] at ho; cases ho
    | some cs' =>
      rw [hr] at ho; cases ho
      obtain ⟨c, vs, e, k1, k2, k3, k4⟩ := hk
      exact ⟨c, vs, e, by rw [h.mu b b' hb]; exact k1, k2, VL.ren h cs cs' _ hr k3, fun o => by rw [hΓ c (by simpa [blockOf] using k1)]; exact k4 o⟩
  | buf s n =>
    simp only [renOb] at ho; cases ho
    intro c cap hcb
    rw [h.buf b b' hb] at hcb
    obtain ⟨vs, e, k2, k3, k4, k5⟩ := hk c cap hcb
    exact ⟨vs, e, k2, k3, k4, fun o hoo => by rw [hΓ c (by simp [blockOf, hcb])]; exact k5 o hoo⟩
  | map es => exact hk.elim

theorem toExt_root (ids : List Oid) : ∀ (b e : Oid), toExt ids b = some e → b.root ∈ ids
  | .cl o j, e, h => by
    simp only [toExt] at h
    split at h
    · rename_i o' ho
      exact toExt_root ids o o' ho
    · cases h
  | .loc d, e, h => by
    simp only [toExt] at h
    cases hi : idx ids (.loc d) 0 with
    | none => rw [hi] at h; cases h
    | some i => exact List.mem_of_getElem? (idx_spec _ _ _ _ hi).2
  | .ext q, e, h => by
    simp only [toExt] at h
    cases hi : idx ids (.ext q) 0 with
    | none => rw [hi] at h; cases h
    | some i => exact List.mem_of_getElem? (idx_spec _ _ _ _ hi).2

theorem find_ren2 {ids : List Oid} {G H Hc : Heap} (hr : renHeap (toExt ids) G = some Hc) (hG : ∀ b e, toExt ids b = some e → find G b = find H b) :
    (∀ e ob', find Hc e = some ob' → ∃ b ob, toExt ids b = some e ∧ find H b = some ob ∧ renOb (toExt ids) ob = some ob') ∧ (∀ b e ob, toExt ids b = some e → find H b = some ob → ∃ ob', find Hc e = some ob' ∧ renOb (toExt ids) ob = some ob') := by
  obtain ⟨k1, k2⟩ := find_renHeap hr (fun b b' e => toExt_inj ids)
  refine ⟨fun e ob' h => ?_, fun b e ob h1 h2 => ?_⟩
  · obtain ⟨b, ob, q1, q2, q3⟩ := k1 e ob' h
    exact ⟨b, ob, q1, by rw [← hG b e q1]; exact q2, q3⟩
  · exact k2 b e ob h1 (by rw [hG b e h1]; exact h2)

/-- The callee's ghost. -/
def Gh.callee (g : Gh) (ids : List Oid) (Hc : Heap) : Gh :=
  { Γ := g.Γ, μ := fun e => (ofExt ids e).bind g.μ, tip := tipOf Hc, bufc := fun e => (ofExt ids e).bind g.bufc }

theorem callee_ren {g : Gh} {G H Hc : Heap} {w : World} (hw : WC g H w) {ids : List Oid} (hr : renHeap (toExt ids) G = some Hc) (hG : ∀ b e, toExt ids b = some e → find G b = find H b) : RenOk (toExt ids) g (g.callee ids Hc) := by
  obtain ⟨k1, k2⟩ := find_ren2 hr hG
  refine ⟨fun _ _ _ h => h, fun b b' hb => ?_, fun b b' hb => ?_, fun b b' hb => ?_⟩
  · simp [Gh.callee, (of_toExt ids b b' hb).1]
  · show tipOf Hc b' = g.tip b
    rw [hw.tip]
    simp only [tipOf]
    cases hf : find H b with
    | none =>
      cases hf' : find Hc b' with
      | none => rfl
      | some ob' =>
        obtain ⟨b2, ob, h1, h2, _⟩ := k1 b' ob' hf'
        rw [toExt_inj ids h1 hb, hf] at h2; cases h2
    | some ob =>
      obtain ⟨ob', h1, h2⟩ := k2 b b' ob hb hf
      rw [h1]; exact renOb_tip h2
  · simp [Gh.callee, (of_toExt ids b b' hb).1]

theorem callee_wc {g : Gh} {G H Hc : Heap} {w : World} (hw : WC g H w) {ids : List Oid} (hr : renHeap (toExt ids) G = some Hc) (hG : ∀ b e, toExt ids b = some e → find G b = find H b) :
    WC (g.callee ids Hc) Hc w ∧ (∀ c, Used (g.callee ids Hc) Hc c → ∃ b e ob, toExt ids b = some e ∧ find H b = some ob ∧ blockOf g b ob = some c) ∧ ∀ c, Live (g.callee ids Hc) Hc c → Live g H c := by
  obtain ⟨k1, k2⟩ := find_ren2 hr hG
  have hR := callee_ren hw hr hG
  refine ⟨⟨fun _ => rfl, fun c o a ha => ?_, fun e ob' he => ?_, fun e1 e2 ob1 ob2 c h1 h2 h3 h4 => ?_⟩, fun c hl => ?_, fun c hl => ?_⟩
  · obtain ⟨v, h1, h2, h3, h4, h5⟩ := hw.pin c o a ha
    exact ⟨v, h1, V.mono (g := g) (g' := g.callee ids Hc) (fun _ _ _ h => h) a v (by simp [h3]) (by simp [h4]) h2, h3, h4, h5⟩
  · obtain ⟨b, ob, h1, h2, h3⟩ := k1 e ob' he
    exact renOb_ok hR h1 (fun _ _ _ => rfl) h3 (hw.objs b ob h2)
  · obtain ⟨b1, o1, p1, p2, p3⟩ := k1 e1 ob1 h1
    obtain ⟨b2, o2, q1, q2, q3⟩ := k1 e2 ob2 h2
    rw [(renOb_block hR p1 p3).1] at h3
    rw [(renOb_block hR q1 q3).1] at h4
    have := hw.inj b1 b2 o1 o2 c p2 q2 h3 h4
    subst this
    rw [p1] at q1; cases q1; rfl
  · obtain ⟨e, ob', h1, h2⟩ := hl
    obtain ⟨b, ob, p1, p2, p3⟩ := k1 e ob' h1
    rw [(renOb_block hR p1 p3).1] at h2
    exact ⟨b, e, ob, p1, p2, h2⟩
  · obtain ⟨e, ob', h1, h2⟩ := hl
    obtain ⟨b, ob, p1, p2, p3⟩ := k1 e ob' h1
    rw [(renOb_block hR p1 p3).2] at h2
    exact ⟨b, ob, p2, h2⟩

/-- The caller's ghost behind the call. -/
def Gh.back (g g2 : Gh) (ids : List Oid) (H : Heap) : Gh :=
  { Γ := g2.Γ, μ := fun b => match toExt ids b with | some e => g2.μ e | none => g.μ b, tip := tipOf H, bufc := fun b => match toExt ids b with | some e => g2.bufc e | none => g.bufc b }

theorem mem_find {H : Heap} {x : Oid × Ob} (h : x ∈ H) : ∃ ob, find H x.1 = some ob := by
  induction H with
  | nil => simp at h
  | cons y r ih =>
    simp only [find]
    by_cases e : y.1 = x.1
    · exact ⟨y.2, by rw [if_pos e]⟩
    · rw [if_neg e]
      rcases List.mem_cons.1 h with rfl | h
      · exact (e rfl).elim
      · exact ih h

theorem back_step {g g2 : Gh} {G H Hc H2 ws : Heap} {w w' : World} (hw : WC g H w) {ids : List Oid} (hb : Base ids) (hr : renHeap (toExt ids) G = some Hc) (hG : ∀ b e, toExt ids b = some e → find G b = find H b)
    (hw2 : WC g2 H2 w') (hk : Keep (fun b => ¬ IsExt b) (g.callee ids Hc) g2) (hc : Ctx w (g.callee ids Hc) Hc g2 H2 w') (hp : Pers Hc H2)
    (hws : renHeap (ofExt ids) H2 = some ws) :
    RenOk (ofExt ids) g2 (g.back g2 ids (insAll H ws)) ∧ WC (g.back g2 ids (insAll H ws)) (insAll H ws) w' ∧ Keep (fun _ => False) g (g.back g2 ids (insAll H ws)) ∧ Ctx w g H (g.back g2 ids (insAll H ws)) (insAll H ws) w' ∧
      ∀ b s n c cap, find H2 b = some (.buf s n) → ofExt ids b = none → g2.bufc b = some (c, cap) → ¬ Used (g.back g2 ids (insAll H ws)) (insAll H ws) c := by
  obtain ⟨cw, cu, cl⟩ := callee_wc hw hr hG
  have hR := callee_ren hw hr hG
  obtain ⟨i1, i2⟩ := find_ren2 hr hG
  obtain ⟨j1, j2⟩ := find_renHeap hws (fun e e' b h h' => by
    have h1 := to_ofExt hb e b h
    have h2 := to_ofExt hb e' b h'
    rw [h1] at h2; cases h2; rfl)
  -- which object stands in the new heap
  have which : ∀ b ob, find (insAll H ws) b = some ob → (∃ e ob2, ofExt ids e = some b ∧ toExt ids b = some e ∧ find H2 e = some ob2 ∧ renOb (ofExt ids) ob2 = some ob) ∨ (toExt ids b = none ∧ find H b = some ob) := by
    intro b ob hf
    rw [find_insAll] at hf
    cases hq : find ws b with
    | some ob' =>
      rw [hq] at hf; cases hf
      obtain ⟨e, ob2, h1, h2, h3⟩ := j1 b _ hq
      exact .inl ⟨e, ob2, h1, to_ofExt hb e b h1, h2, h3⟩
    | none =>
      rw [hq] at hf
      simp only at hf
      cases ht : toExt ids b with
      | none => exact .inr ⟨rfl, hf⟩
      | some e =>
        obtain ⟨ob', h1, _⟩ := i2 b e ob ht hf
        have h2 := hp e (of_toExt ids b e ht).2 (by rw [h1]; rfl)
        cases h3 : find H2 e with
        | none => rw [h3] at h2; cases h2
        | some ob2 =>
          obtain ⟨ob3, h4, _⟩ := j2 e b ob2 (of_toExt ids b e ht).1 h3
          rw [hq] at h4; cases h4
  have hR2 : RenOk (ofExt ids) g2 (g.back g2 ids (insAll H ws)) := by
    refine ⟨fun _ _ _ h => h, fun e b he => ?_, fun e b he => ?_, fun e b he => ?_⟩
    · simp [Gh.back, to_ofExt hb e b he]
    · show tipOf (insAll H ws) b = g2.tip e
      rw [hw2.tip]
      simp only [tipOf]
      cases hf : find H2 e with
      | some ob2 =>
        obtain ⟨ob3, h4, h5⟩ := j2 e b ob2 he hf
        rw [find_insAll, h4]
        exact renOb_tip h5
      | none =>
        cases hf' : find (insAll H ws) b with
        | none => rfl
        | some ob =>
          rcases which b ob hf' with ⟨e', ob2, h1, h2, h3, _⟩ | ⟨h1, _⟩
          · have := to_ofExt hb e b he
            rw [h2] at this; cases this
            rw [hf] at h3; cases h3
          · rw [to_ofExt hb e b he] at h1; cases h1
    · simp [Gh.back, to_ofExt hb e b he]
  -- a block of an object that was not handed over
  have apart_ : ∀ b ob c, toExt ids b = none → find H b = some ob → blockOf g b ob = some c → ¬ Used (g.callee ids Hc) Hc c := by
    intro b ob c h1 h2 h3 hu
    obtain ⟨b', e, ob', q1, q2, q3⟩ := cu c hu
    have := hw.inj b b' ob ob' c h2 q2 h3 q3
    subst this
    rw [h1] at q1; cases q1
  have hkeep : Keep (fun _ => False) g (g.back g2 ids (insAll H ws)) := by
    refine ⟨fun c o x h => hk.gam c o x h, fun b _ c hcb => ?_, fun b _ => ?_⟩
    · simp only [Gh.back]
      split
      · rename_i e he
        exact hk.mu e (fun h => h (of_toExt ids b e he).2) c (by rw [hR.mu b e he]; exact hcb)
      · exact hcb
    · cases ht : toExt ids b with
      | some e =>
        have hx := hk.tok e (fun h => h (of_toExt ids b e ht).2)
        refine ⟨fun s n' hn => ?_⟩
        have hn2 : g2.tip e = some (s, n') := by rw [← hR2.tip e b (of_toExt ids b e ht).1]; exact hn
        obtain ⟨s', n, q1, q2, q3⟩ := hx.le s n' hn2
        refine ⟨s', n, by rw [← hR.tip b e ht]; exact q1, q2, fun he => ?_⟩
        rw [hR2.buf e b (of_toExt ids b e ht).1, q3 he, hR.buf b e ht]
      | none =>
        refine .same ?_ (by simp [Gh.back, ht])
        show tipOf (insAll H ws) b = g.tip b
        rw [hw.tip]
        simp only [tipOf]
        cases hf : find H b with
        | some ob =>
          rw [find_insAll]
          cases hq : find ws b with
          | none => simp only [hf]
          | some ob' =>
            obtain ⟨e, ob2, h1, _⟩ := j1 b _ hq
            rw [to_ofExt hb e b h1] at ht; cases ht
        | none =>
          rw [find_insAll]
          cases hq : find ws b with
          | none => simp only [hf]
          | some ob' =>
            obtain ⟨e, ob2, h1, _⟩ := j1 b _ hq
            rw [to_ofExt hb e b h1] at ht; cases ht
  have side : ∀ c b ob, find (insAll H ws) b = some ob → blockOf (g.back g2 ids (insAll H ws)) b ob = some c →
      (∃ e ob2, toExt ids b = some e ∧ find H2 e = some ob2 ∧ blockOf g2 e ob2 = some c) ∨ (toExt ids b = none ∧ find H b = some ob ∧ blockOf g b ob = some c) := by
    intro c b ob hf hbl
    rcases which b ob hf with ⟨e, ob2, q1, q2, q3, q4⟩ | ⟨q1, q2⟩
    · rw [(renOb_block hR2 q1 q4).1] at hbl
      exact .inl ⟨e, ob2, q2, q3, hbl⟩
    · refine .inr ⟨q1, q2, ?_⟩
      cases ob <;> simpa [blockOf, Gh.back, q1] using hbl
  have mixed : ∀ c e ob2 b ob, find H2 e = some ob2 → blockOf g2 e ob2 = some c → toExt ids b = none → find H b = some ob → blockOf g b ob = some c → False := by
    intro c e ob2 b ob p1 p2 p3 p4 p5
    have hlt := hw.used_lt ⟨b, ob, p4, p5⟩
    have hnu := apart_ b ob c p3 p4 p5
    rcases hc.usd c ⟨e, ob2, p1, p2⟩ with h | h
    · exact hnu h
    · omega
  refine ⟨hR2, ⟨fun _ => rfl, fun c o a ha => ?_, fun b ob hf => ?_, fun b1 b2 o1 o2 c h1 h2 h3 h4 => ?_⟩, hkeep, ⟨hc.size, fun c hlt hn => ?_, hc.gam, fun c hl => ?_, fun c hl => ?_, hc.os, hc.out, hc.tape⟩, fun b s n c cap h1 h2 h3 hu => ?_⟩
  · obtain ⟨v, h1, h2, h3, h4, h5⟩ := hw2.pin c o a ha
    exact ⟨v, h1, V.mono (g := g2) (g' := g.back g2 ids (insAll H ws)) (fun _ _ _ h => h) a v (by simp [h3]) (by simp [h4]) h2, h3, h4, h5⟩
  · rcases which b ob hf with ⟨e, ob2, q1, q2, q3, q4⟩ | ⟨q1, q2⟩
    · exact renOb_ok hR2 q1 (fun _ _ _ => rfl) q4 (hw2.objs e ob2 q3)
    · have h0 := hw.objs b ob q2
      have frame : ∀ c, blockOf g b ob = some c → w'.heap[c]? = w.heap[c]? ∧ ∀ o, g2.Γ c o = g.Γ c o := by
        intro c hcb
        exact hc.keep c (hw.used_lt ⟨b, ob, q2, hcb⟩) fun hl => apart_ b ob c q1 q2 hcb hl.used
      cases ob with
      | cells wr cs =>
        obtain ⟨c, vs, e, k1, k2, k3, k4⟩ := h0
        obtain ⟨f1, f2⟩ := frame c (by simpa [blockOf] using k1)
        exact ⟨c, vs, e, hkeep.mu b (fun h => h) c k1, by rw [f1]; exact k2, hkeep.VL (OffL.none _) k3, fun o => by show g2.Γ c o = nob; rw [f2]; exact k4 o⟩
      | buf s n =>
        intro c cap hcb
        have hcb' : g.bufc b = some (c, cap) := by simpa [Gh.back, q1] using hcb
        obtain ⟨vs, e, k2, k3, k4, k5⟩ := h0 c cap hcb'
        obtain ⟨f1, f2⟩ := frame c (by simp [blockOf, hcb'])
        exact ⟨vs, e, by rw [f1]; exact k2, k3, k4, fun o ho => by show g2.Γ c o = nob; rw [f2]; exact k5 o ho⟩
      | map es => exact h0
  · rcases side c b1 o1 h1 h3 with ⟨e1, x1, p1, p2, p3⟩ | ⟨p1, p2, p3⟩
    · rcases side c b2 o2 h2 h4 with ⟨e2, x2, q1, q2, q3⟩ | ⟨q1, q2, q3⟩
      · have := hw2.inj e1 e2 x1 x2 c p2 q2 p3 q3
        subst this
        exact toExt_inj ids p1 q1
      · exact (mixed c e1 x1 b2 o2 p2 p3 q1 q2 q3).elim
    · rcases side c b2 o2 h2 h4 with ⟨e2, x2, q1, q2, q3⟩ | ⟨q1, q2, q3⟩
      · exact (mixed c e2 x2 b1 o1 q2 q3 p1 p2 p3).elim
      · exact hw.inj b1 b2 o1 o2 c p2 q2 p3 q3
  · obtain ⟨f1, f2⟩ := hc.keep c hlt fun hl => hn (cl c hl)
    exact ⟨f1, f2⟩
  · obtain ⟨b, ob, h1, h2⟩ := hl
    rcases which b ob h1 with ⟨e, ob2, q1, q2, q3, q4⟩ | ⟨q1, q2⟩
    · rw [(renOb_block hR2 q1 q4).2] at h2
      rcases hc.own c ⟨e, ob2, q3, h2⟩ with h3 | h3
      · exact .inl (cl c h3)
      · exact .inr h3
    · refine .inl ⟨b, ob, q2, ?_⟩
      cases ob with
      | cells wr cs => cases wr with
        | false => cases h2
        | true => simpa [ownOf, Gh.back, q1] using h2
      | buf s n => simpa [ownOf, Gh.back, q1] using h2
      | map es => simpa [ownOf, Gh.back, q1] using h2
  · obtain ⟨b, ob, h1, h2⟩ := hl
    rcases which b ob h1 with ⟨e, ob2, q1, q2, q3, q4⟩ | ⟨q1, q2⟩
    · rw [(renOb_block hR2 q1 q4).1] at h2
      rcases hc.usd c ⟨e, ob2, q3, h2⟩ with h3 | h3
      · obtain ⟨b', e', ob', p1, p2, p3⟩ := cu c h3
        exact .inl ⟨b', ob', p2, p3⟩
      · exact .inr h3
    · refine .inl ⟨b, ob, q2, ?_⟩
      cases ob with
      | cells wr cs => simp [blockOf, Gh.back, q1] at h2 ⊢; exact h2
      | buf s n => simpa [blockOf, Gh.back, q1] using h2
      | map es => simpa [blockOf, Gh.back, q1] using h2
  · obtain ⟨x, ob, k1, k2⟩ := hu
    rcases side c x ob k1 k2 with ⟨e, ob2, p1, p2, p3⟩ | ⟨p1, p2, p3⟩
    · have := hw2.inj e b ob2 _ c p2 h1 p3 (by simp [blockOf, h3])
      subst this
      rw [(of_toExt ids x e p1).1] at h2; cases h2
    · exact mixed c b _ x ob h1 (by simp [blockOf, h3]) p1 p2 p3

/-! ### calls that only read what comes in -/
theorem find_readOnly (H : Heap) (e : Oid) : find (readOnly H) e = (find H e).map Ob.seen := find_map Ob.seen e H

def Gh.seeing (g : Gh) (H : Heap) : Gh := { g with tip := tipOf H, bufc := fun _ => none }

theorem seen_wc {g : Gh} {H : Heap} {w : World} (hw : WC g H w) : WC (g.seeing (readOnly H)) (readOnly H) w ∧ ∀ c, ¬ Live (g.seeing (readOnly H)) (readOnly H) c := by
  have hf : ∀ e ob, find (readOnly H) e = some ob → ∃ ob0, find H e = some ob0 ∧ ob = ob0.seen := by
    intro e ob h
    rw [find_readOnly] at h
    cases hq : find H e with
    | none => rw [hq] at h; cases h
    | some ob0 => rw [hq] at h; cases h; exact ⟨ob0, rfl, rfl⟩
  refine ⟨⟨fun _ => rfl, fun c o a ha => ?_, fun e ob he => ?_, fun b b' ob ob' c h1 h2 h3 h4 => ?_⟩, ?_⟩
  · obtain ⟨v, h1, h2, h3, h4, h5⟩ := hw.pin c o a ha
    exact ⟨v, h1, V.mono (g := g) (g' := g.seeing (readOnly H)) (fun _ _ _ h => h) a v (by simp [h3]) (by simp [h4]) h2, h3, h4, h5⟩
  · obtain ⟨ob0, h1, rfl⟩ := hf e ob he
    have h0 := hw.objs e ob0 h1
    cases ob0 with
    | cells wr cs =>
      obtain ⟨c, vs, e', k1, k2, k3, k4⟩ := h0
      exact ⟨c, vs, e', k1, k2, VL.mono (g := g) (g' := g.seeing (readOnly H)) (fun _ _ _ h => h) _ _ (fun _ _ _ h => h) (by simp [toksL_clean]) (VL.clean cs _ k3), k4⟩
    | buf s n => intro c cap h; cases h
    | map es => exact h0
  · obtain ⟨o1, p1, rfl⟩ := hf b ob h1
    obtain ⟨o2, p2, rfl⟩ := hf b' ob' h2
    have key : ∀ b o, blockOf (g.seeing (readOnly H)) b o.seen = some c → blockOf g b o = some c := by
      intro b o h
      cases o with
      | cells wr cs => exact h
      | buf s n => cases h
      | map es => exact h
    exact hw.inj b b' o1 o2 c p1 p2 (key _ _ h3) (key _ _ h4)
  · rintro c ⟨b, ob, h1, h2⟩
    obtain ⟨o1, p1, rfl⟩ := hf b ob h1
    have h0 := hw.objs b o1 p1
    cases o1 with
    | cells wr cs => cases h2
    | buf s n => cases h2
    | map es => exact h0

/-- The caller's ghost behind a call that only read. -/
def Gh.only (g g2 : Gh) (ids : List Oid) : Gh := { Γ := g2.Γ, μ := fun b => match toExt ids b with | some e => g2.μ e | none => g.μ b, tip := g.tip, bufc := g.bufc }
def Gh.bare (g : Gh) : Gh := { g with tip := fun _ => none, bufc := fun _ => none }
theorem adopt_some {dst : Option Nat} {ids : List Oid} {r : AV} {H2 ws : Heap} {ra : OpR} (h : adopt dst ids r H2 ws = some ra) :
    ∃ d b s n es, dst = some d ∧ r = .slice (.buf b) s es ∧ ofExt ids b = none ∧ find H2 b = some (.buf s n) ∧ n = es.length ∧
      (∀ w ∈ ws, rooted d w.1 = false ∧ ∀ y ∈ w.2.refs ++ w.2.toks, rooted d y = false) ∧ ra = { v := .slice (.buf (.loc d)) s es, ws := (.loc d, .buf s n) :: ws, rd := ids, fresh := true } := by
  unfold adopt at h
  split at h
  · rename_i d b s es
    split at h
    · rename_i s' n h1 h2
      split at h
      · rename_i hc
        obtain ⟨e1, e2, e3⟩ := hc
        subst e1
        cases h
        refine ⟨d, b, _, n, es, rfl, rfl, h1, h2, e2, fun w hw => ?_, rfl⟩
        have := List.all_eq_true.1 e3 w hw
        simp only [Bool.and_eq_true, Bool.not_eq_true', List.any_eq_false] at this
        refine ⟨this.1.1, fun y hy => ?_⟩
        rcases List.mem_append.1 hy with hy | hy
        · simpa using this.1.2 y hy
        · simpa using this.2 y hy
      · cases h
    · cases h
  · cases h
theorem adopt_rd {dst : Option Nat} {ids : List Oid} {r : AV} {H2 ws : Heap} {ra : OpR} (h : adopt dst ids r H2 ws = some ra) : ra.rd = ids := by
  obtain ⟨d, b, s, n, es, _, _, _, _, _, _, rfl⟩ := adopt_some h
  rfl
theorem good_call {P : Program} {gl : List (Nat × List AV)} {call : CallF} (hcall : CallOk P gl call) {g : Gh} (hgl : Glob gl g) {G H : Heap} {a : Act} {w : World} {o : Oper} (hw : WC g H w) {ro : FuncId → Bool} {f : FuncId} {args : List AV} {r : OpR}
    {dst : Option Nat} (h : evCall ro call dst G f args = some r) (hdst : ∀ d, dst = some d → o.dst = some d) (hag : Agree r G H) (hfr : r.fresh = true → ∃ d, o.dst = some d ∧ ClearH d H) {vs : Array Value} (hv : VL g args vs.toList) (hex : (execOp a.eval o).run P w = .ok (.enter f vs) w) :
    OpGood P g H a w (fun b => r.fresh = true ∧ ∃ d, o.dst = some d ∧ rooted d b = true) o r := by
  unfold evCall at h
  split at h
  · cases h
  rename_i ids hreach
  split at h
  · cases h
  rename_i hcl
  have hb : Base ids := by
    refine ⟨reach_nodup G _ _ _ _ hreach (by simp), fun x hx b j e => ?_⟩
    subst e
    exact hcl (List.any_eq_true.2 ⟨_, hx, rfl⟩)
  have hG : r.rd = ids → ∀ b e, toExt ids b = some e → find G b = find H b := fun hrd b e he => by
    have hm := toExt_root ids b e he
    refine hag b ⟨b.root, by rw [hrd]; exact hm, ?_⟩
    cases hq : b.root with
    | cl o j => exact (hb.plain _ hm o j hq).elim
    | loc d => rfl
    | ext i => rfl
  split at h
  · rename_i args' Hc hra hrh
    have hrd : r.rd = ids := by
      split at h
      · split at h
        · split at h
          · cases h; rfl
          · cases h
        · cases h
      · split at h
        · rename_i r0 H2 hc0
          split at h
          · rename_i r' ws hr' hws
            cases h
            cases ha : adopt dst ids r0 H2 ws with
            | none => rfl
            | some ra => simp only [Option.getD_some]; exact adopt_rd ha
          · cases h
        · cases h
    replace hG := hG hrd
    obtain ⟨cw, cu, cl⟩ := callee_wc hw hrh hG
    have hR := callee_ren hw hrh hG
    have hva : VL (g.callee ids Hc) (cleanL args') vs.toList := VL.clean _ _ (VL.ren hR args args' _ hra hv)
    split at h
    · -- it only reads
      split at h
      · rename_i r0 H2 hc
        split at h
        · rename_i r' hr'
          cases h
          obtain ⟨sw, sl⟩ := seen_wc cw
          have hva' : VL ((g.callee ids Hc).seeing (readOnly Hc)) (cleanL args') vs.toList :=
            VL.mono (g := g.callee ids Hc) (g' := (g.callee ids Hc).seeing (readOnly Hc)) (fun _ _ _ h => h) _ _ (fun _ _ _ h => h) (by simp [toksL_clean]) hva
          intro next Q hn
          unfold Oper.wp
          rw [hex]
          refine (hcall f _ _ _ _ hc _ vs w sw hva' hgl).mono ?_
          rintro e w' ⟨v, g2, rfl, ret⟩
          refine hn v w' (g.only g2 ids) ?_
          have hkeep : Keep (fun _ => False) g (g.only g2 ids) := by
            refine ⟨fun c o x h => ret.keep.gam c o x h, fun b _ c hcb => ?_, fun b _ => .same rfl rfl⟩
            show (match toExt ids b with | some e => g2.μ e | none => g.μ b) = some c
            split
            · rename_i e he
              exact ret.keep.mu e (fun h => h (of_toExt ids b e he).2) c (by show (ofExt ids e).bind g.μ = some c; rw [(of_toExt ids b e he).1]; exact hcb)
            · exact hcb
          have hfr : ∀ c, c < w.heap.size → w'.heap[c]? = w.heap[c]? ∧ ∀ o, g2.Γ c o = g.Γ c o := fun c hc => ret.ctx.keep c hc (sl c)
          have hval : V (g.only g2 ids).bare r' v := by
            refine V.ren (g := g2.bare) (g' := (g.only g2 ids).bare) (σ := ofExt ids) ⟨fun _ _ _ h => h, fun e b he => ?_, fun _ _ _ => rfl, fun _ _ _ => rfl⟩ r0 r' v hr' (V.mono (g := g2) (g' := g2.bare) (fun _ _ _ h => h) _ _ (fun _ _ _ h => h) (fun _ _ => .gone rfl) ret.val)
            show (match toExt ids b with | some e => g2.μ e | none => g.μ b) = g2.μ e
            rw [to_ofExt hb e b he]
          have hblk : ∀ b ob c, find H b = some ob → blockOf (g.only g2 ids) b ob = some c → blockOf g b ob = some c := by
            intro b ob c hf hbl
            have h0 := hw.objs b ob hf
            cases ob with
            | cells wr cs =>
              obtain ⟨c0, vs, e, k1, _⟩ := h0
              have := hkeep.mu b (fun h => h) c0 k1
              have hbl' : (g.only g2 ids).μ b = some c := hbl
              rw [this] at hbl'; cases hbl'; exact k1
            | buf s n => exact hbl
            | map es => exact h0.elim
          have hown : ∀ b ob c, find H b = some ob → ownOf (g.only g2 ids) b ob = some c → ownOf g b ob = some c := by
            intro b ob c hf hbl
            cases ob with
            | cells wr cs => cases wr with
              | false => cases hbl
              | true => exact hblk b _ c hf hbl
            | buf s n => exact hbl
            | map es => exact hblk b _ c hf hbl
          refine ⟨?_, ⟨hw.tip, fun c o a ha => ?_, fun b ob hob => ?_, fun b b' ob ob' c h1 h2 h3 h4 => hw.inj b b' ob ob' c h1 h2 (hblk _ _ _ h1 h3) (hblk _ _ _ h2 h4)⟩, hkeep.wider fun _ h => h.elim,
            ⟨ret.ctx.size, fun c hc _ => hfr c hc, fun c o a h => ret.keep.gam c o a h, fun c hl => ?_, fun c hl => ?_, ret.ctx.os, ret.ctx.out, ret.ctx.tape⟩⟩
          · exact V.mono (g := (g.only g2 ids).bare) (g' := g.only g2 ids) (fun _ _ _ h => h) _ _ (fun _ _ _ h => h) (by simp [toks_clean]) (V.clean _ _ hval)
          · obtain ⟨v, h1, h2, h3, h4, h5⟩ := ret.wc.pin c o a ha
            exact ⟨v, h1, V.mono (g := g2) (g' := g.only g2 ids) (fun _ _ _ h => h) a v (by simp [h3]) (by simp [h4]) h2, h3, h4, h5⟩
          · have h0 := hw.objs b ob hob
            cases ob with
            | cells wr cs =>
              obtain ⟨c, us, e, k1, k2, k3, k4⟩ := h0
              obtain ⟨f1, f2⟩ := hfr c (hw.used_lt ⟨b, _, hob, k1⟩)
              exact ⟨c, us, e, hkeep.mu b (fun h => h) c k1, by rw [f1]; exact k2, hkeep.VL (OffL.none _) k3, fun o => by show g2.Γ c o = nob; rw [f2]; exact k4 o⟩
            | buf s n =>
              intro c cap hcb
              obtain ⟨us, e, k2, k3, k4, k5⟩ := h0 c cap hcb
              obtain ⟨f1, f2⟩ := hfr c (hw.used_lt ⟨b, _, hob, by simp only [blockOf]; rw [show g.bufc b = some (c, cap) from hcb]; rfl⟩)
              exact ⟨us, e, by rw [f1]; exact k2, k3, k4, fun o ho => by show g2.Γ c o = nob; rw [f2]; exact k5 o ho⟩
            | map es => exact h0
          · obtain ⟨b, ob, h1, h2⟩ := hl
            exact .inl ⟨b, ob, h1, hown b ob c h1 h2⟩
          · obtain ⟨b, ob, h1, h2⟩ := hl
            exact .inl ⟨b, ob, h1, hblk b ob c h1 h2⟩
        · cases h
      · cases h
    · split at h
      · rename_i r0 H2 hc
        split at h
        · rename_i r' ws hr' hws
          cases h
          intro next Q hn
          unfold Oper.wp
          rw [hex]
          refine (hcall f _ _ _ _ hc _ vs w cw hva hgl).mono ?_
          rintro e w' ⟨v, g2, rfl, ret⟩
          obtain ⟨b1, b2, b3, b4, b5⟩ := back_step hw hb hrh hG ret.wc ret.keep ret.ctx ret.pers hws
          cases had : adopt dst ids r0 H2 ws with
          | none =>
            rw [had] at hn hfr
            exact hn v w' _ ⟨V.clean _ _ (V.ren b1 r0 r' _ hr' ret.val), b2, b3.wider fun _ h => h.elim, b4⟩
          | some ra =>
            rw [had] at hn hfr
            simp only [Option.getD_some] at hn hfr
            obtain ⟨d, b, s, n, es, hd0, rfl, h1, h2, rfl, hwsd, rfl⟩ := adopt_some had
            have hd := hdst d hd0
            obtain ⟨d', hd', hcl⟩ := hfr rfl
            rw [hd] at hd'; cases hd'
            have hobj := ret.wc.objs b _ h2
            obtain ⟨m1, m2⟩ := b2.moved (F := fun x => rooted d x = true) (.loc d) s es.length (g2.bufc b)
              (fun ob hob => by
                rw [find_insAll] at hob
                split at hob
                · rename_i ob' hf
                  have := (hwsd _ (find_mem hf)).1
                  simp [rooted, Oid.root] at this
                · rw [hcl.1 _ (rooted_loc d)] at hob; cases hob)
              (fun c cap hc0 => ⟨b5 b s es.length c cap h2 h1 hc0, by
                obtain ⟨us, e', k2, k3, k4, k5⟩ := hobj c cap hc0
                exact ⟨us, e', k2, k3, k4, k5⟩⟩)
              (fun hk => hk.wider fun x hx => by subst hx; exact rooted_loc d)
              (fun x ob hx hf y hy hF => by
                rw [find_insAll] at hf
                split at hf
                · rename_i ob' hf'
                  cases hf
                  have := (hwsd _ (find_mem hf')).2 y hy
                  rw [this] at hF; cases hF
                · rw [hcl.2 x ob hf y hy] at hF; cases hF)
            refine hn v w' _ ⟨?_, m2, (b3.wider fun _ h => h.elim).trans (m1.wider fun x hx => ⟨rfl, d, hd, hx⟩),
              b4.moved (.loc d) s es.length (g2.bufc b) fun c cap hc0 => (ret.ctx.own c ⟨b, _, h2, by simp [ownOf, hc0]⟩).imp (cl c) id⟩
            have hv0 := ret.val
            simp only [V] at hv0 ⊢
            rcases hv0 with ⟨hb0, h3⟩ | ⟨c, off, cap, q0, q1, q2, q3, q4⟩
            · refine .inl ⟨?_, h3⟩
              rcases hb0 with hb0 | ⟨a, cap, hb0, hb1 | hb1⟩
              · exact .inl hb0
              · cases hb1
              · exact .inr ⟨a, cap, hb0, .inr hb1⟩
            · refine .inr ⟨c, off, cap, q0, q1, q2, q3, fun s' n' ht => ?_⟩
              simp only [Gh.moved, tipOf_ins, if_true] at ht
              cases ht
              refine ⟨Nat.le_refl _, fun _ => ?_⟩
              simp only [Gh.moved, if_true]
              exact (q4 s es.length (by rw [ret.wc.tip]; simp [tipOf, h2])).2 rfl
        · cases h
      · cases h
  · cases h

end Go.Proofs.Ytbckfbohbjhffaa.AE
