/- Rules by which code is walked in states of the evaluator, calls by contracts: what it comes to in the model. No condition. -/
import Derived.Test.YtbckfbohbjhffaaZCode
set_option linter.unusedVariables false
set_option linter.unusedSimpArgs false
namespace Go.Proofs.Ytbckfbohbjhffaa.AE
open Go

/-- What is known of a program: its types, its laid variables. -/
structure Seat where
  tb : List TI
  P : Program
  gl : List (Nat × List AV)
  hP : TbOk P tb
  hm : P.follows .mixedOrders = true

def c0 : Cfg := { ro := fun _ => false, acc := fun _ _ => false, accCells := fun _ _ => [], kill := fun _ _ => none, adopt := fun _ _ => false, plainAp := fun _ _ => false }
/-- Slots in which nil slices begin to grow. -/
def cA (ds : List Nat) : Cfg := { c0 with acc := fun _ d => ds.contains d }
/-- Cells of new objects in which nil slices begin to grow: the slot, the cell, the elements' size. -/
def cC (l : List (Nat × Nat × Nat)) : Cfg := { c0 with accCells := fun _ d => (l.filter fun x => x.1 == d).map (·.2) }
/-- Appends of which the spare is not wanted. -/
def cP (ds : List Nat) : Cfg := { c0 with plainAp := fun _ d => ds.contains d }
def noCall : CallF := fun _ _ _ => none
theorem noCall_ok (Z : Seat) : CallOk Z.P Z.gl noCall := fun _ _ _ _ _ h => by cases h
theorem noCall_ent (Z : Seat) : Enters Z.P noCall := fun _ _ _ _ h => by cases h

/-! ### less told -/
def Wk (a b : AV) : Prop := ∀ g v, V g a v → V g b v
def WkL : List AV → List AV → Prop
  | [], [] => True
  | a :: as, b :: bs => Wk a b ∧ WkL as bs
  | _, _ => False
theorem Wk.refl (a : AV) : Wk a a := fun _ _ h => h
theorem Wk.eq {a b : AV} (h : a = b) : Wk a b := h ▸ Wk.refl a
theorem Wk.trans {a b c : AV} (h : Wk a b) (k : Wk b c) : Wk a c := fun g v x => k g v (h g v x)
theorem Wk.undef (a : AV) : Wk a .undef := fun _ _ _ => trivial
theorem Wk.nils (tok : Tok) (s : Nat) : Wk .nils (.slice tok s []) := fun g v h => by
  simp only [V] at h
  simp only [V]
  exact .inl ⟨.inl h, trivial⟩
theorem Wk.tok (tok : Tok) (s : Nat) (es : List AV) : Wk (.slice tok s es) (.slice .none s es) := fun g v h => by
  simp only [V] at h ⊢
  rcases h with h | ⟨c, o, cap, h1, h2, h3, h4, h5⟩
  · exact .inl ⟨h.1.none, h.2⟩
  · exact .inr ⟨c, o, cap, h1, h2, h3, h4, trivial⟩
theorem WkL.refl : ∀ as : List AV, WkL as as
  | [] => trivial
  | a :: as => ⟨Wk.refl a, WkL.refl as⟩
theorem WkL.eq {a b : List AV} (h : a = b) : WkL a b := h ▸ WkL.refl a
theorem WkL.vl {g : Gh} : ∀ {as bs : List AV} {vs : List Value}, WkL as bs → VL g as vs → VL g bs vs
  | [], [], _, _, h => h
  | a :: as, b :: bs, _, h, k => by
    obtain ⟨v, vs, rfl, k1, k2⟩ := k
    exact ⟨v, vs, rfl, h.1 g v k1, WkL.vl h.2 k2⟩
  | [], _ :: _, _, h, _ => h.elim
  | _ :: _, [], _, h, _ => h.elim
theorem Wk.agg {a b : List AV} (h : WkL a b) : Wk (.agg a) (.agg b) := fun g v k => by
  simp only [V] at k ⊢
  obtain ⟨x, h1, h2⟩ := k
  exact ⟨x, h1, h.vl h2⟩
theorem Wk.tuple {a b : List AV} (h : WkL a b) : Wk (.tuple a) (.tuple b) := fun g v k => by
  simp only [V] at k ⊢
  obtain ⟨x, h1, h2⟩ := k
  exact ⟨x, h1, h.vl h2⟩
theorem Wk.pin {a : List AV} (b : List AV) : Wk (.pin (a ++ b)) (.pin a) := fun g v k => by
  simp only [V] at k ⊢
  obtain ⟨c, o, h1, h2⟩ := k
  refine ⟨c, o, h1, fun i x hi => h2 i x ?_⟩
  rw [List.getElem?_append_left (List.getElem?_eq_some_iff.1 hi).1]; exact hi

def ObWk : Ob → Ob → Prop
  | .cells wr cs, .cells wr' cs' => wr = wr' ∧ WkL cs cs'
  | .buf s n, .buf s' n' => s = s' ∧ n = n'
  | _, _ => False
theorem ObWk.refl : ∀ ob : Ob, (∀ es, ob ≠ .map es) → ObWk ob ob
  | .cells wr cs, _ => ⟨rfl, WkL.refl cs⟩
  | .buf s n, _ => ⟨rfl, rfl⟩
  | .map es, h => (h es rfl).elim
theorem ObWk.cells {wr : Bool} {a b : List AV} (h : WkL a b) : ObWk (.cells wr a) (.cells wr b) := ⟨rfl, h⟩
theorem ObWk.buf {s n m : Nat} (h : n = m) : ObWk (.buf s n) (.buf s m) := ⟨rfl, h⟩
def hwk (H : Heap) : Heap → Prop
  | [] => True
  | (b, ob') :: r => (∃ ob, find H b = some ob ∧ ObWk ob ob') ∧ hwk H r
def awk (A : Slots) : Slots → Prop
  | [] => True
  | (t, v) :: r => Wk (getA A t) v ∧ awk A r
def isExtB (b : Oid) : Bool := match b.root with | .ext _ => true | _ => false
def persB (H H' : Heap) : Bool := H.all fun x => !isExtB x.1 || (find H' x.1).isSome
theorem hwk_get {H : Heap} : ∀ {H' : Heap}, hwk H H' → ∀ b ob', find H' b = some ob' → ∃ ob, find H b = some ob ∧ ObWk ob ob'
  | [], _, _, _, h => by cases h
  | (c, oc) :: r, hw, b, ob', h => by
    simp only [find] at h
    split at h
    · rename_i e; cases h; subst e; exact hw.1
    · exact hwk_get hw.2 b ob' h
theorem awk_get {A : Slots} : ∀ {A' : Slots}, awk A A' → ∀ t, Wk (getA A t) (getA A' t)
  | [], _, t => Wk.undef _
  | (c, v) :: r, hw, t => by
    show Wk (getA A t) (getA ((c, v) :: r) t)
    simp only [getA, find]
    split
    · rename_i e; subst e; exact hw.1
    · exact awk_get hw.2 t
theorem isExtB_iff (b : Oid) : isExtB b = true ↔ IsExt b := by
  unfold isExtB IsExt
  cases b.root <;> simp
theorem persB_pers {H H' : Heap} (h : persB H H' = true) : Pers H H' := by
  intro e he hs
  cases hf : find H e with
  | none => rw [hf] at hs; cases hs
  | some ob =>
    have := List.all_eq_true.1 h _ (find_mem hf)
    simp only [Bool.or_eq_true, Bool.not_eq_true'] at this
    rcases this with h1 | h1
    · rw [(isExtB_iff e).2 he] at h1; cases h1
    · exact h1

theorem WC.weak {g : Gh} {H H' : Heap} {w : World} (h : WC g H w) (hl : hwk H H') :
    WC (g.heap H') H' w ∧ Keep (fun _ => False) g (g.heap H') ∧ Ctx w g H (g.heap H') H' w := by
  have ex := hwk_get hl
  have htip : ∀ b s n, tipOf H' b = some (s, n) → tipOf H b = some (s, n) := by
    intro b s n ht
    unfold tipOf at ht ⊢
    split at ht
    · rename_i s' n' hf
      cases ht
      obtain ⟨ob, h1, h2⟩ := ex b _ hf
      cases ob with
      | buf s2 n2 => obtain ⟨rfl, rfl⟩ := h2; rw [h1]
      | cells wr cs => exact h2.elim
      | map es => exact h2.elim
    · cases ht
  have hk : Keep (fun _ => False) g (g.heap H') := by
    refine ⟨fun _ _ _ h => h, fun _ _ _ h => h, fun b _ => ⟨fun s n hn => ?_⟩⟩
    exact ⟨s, n, by rw [h.tip]; exact htip b s n hn, Nat.le_refl _, fun _ => rfl⟩
  have hblk : ∀ b ob ob', ObWk ob ob' → blockOf (g.heap H') b ob' = blockOf g b ob ∧ ownOf (g.heap H') b ob' = ownOf g b ob := by
    intro b ob ob' ho
    cases ob with
    | cells wr cs => cases ob' with
      | cells wr' cs' => obtain ⟨rfl, _⟩ := ho; cases wr <;> exact ⟨rfl, rfl⟩
      | buf _ _ => exact ho.elim
      | map _ => exact ho.elim
    | buf s n => cases ob' with
      | buf s' n' => exact ⟨rfl, rfl⟩
      | cells _ _ => exact ho.elim
      | map _ => exact ho.elim
    | map es => cases ob' <;> exact ho.elim
  refine ⟨⟨fun _ => rfl, fun c o a ha => ?_, fun b ob' hb => ?_, fun b b' o1 o2 c h1 h2 h3 h4 => ?_⟩, hk, ⟨Nat.le_refl _, fun _ _ _ => ⟨rfl, fun _ => rfl⟩, fun _ _ _ h => h, fun c hl' => ?_, fun c hl' => ?_, rfl, rfl, rfl⟩⟩
  · obtain ⟨v, h1, h2, h3, h4, h5⟩ := h.pin c o a ha
    exact ⟨v, h1, hk.V (Off.none _) h2, h3, h4, h5⟩
  · obtain ⟨ob, h1, h2⟩ := ex b ob' hb
    have h0 := h.objs b ob h1
    cases ob with
    | cells wr cs => cases ob' with
      | cells wr' cs' =>
        obtain ⟨rfl, h3⟩ := h2
        obtain ⟨c, vs, e, k1, k2, k3, k4⟩ := h0
        exact ⟨c, vs, e, k1, k2, h3.vl (hk.VL (OffL.none _) k3), k4⟩
      | buf _ _ => exact h2.elim
      | map _ => exact h2.elim
    | buf s n => cases ob' with
      | buf s' n' => obtain ⟨rfl, rfl⟩ := h2; exact h0
      | cells _ _ => exact h2.elim
      | map _ => exact h2.elim
    | map es => exact h0.elim
  · obtain ⟨q1, k1, l1⟩ := ex b o1 h1
    obtain ⟨q2, k2, l2⟩ := ex b' o2 h2
    rw [(hblk _ _ _ l1).1] at h3
    rw [(hblk _ _ _ l2).1] at h4
    exact h.inj b b' q1 q2 c k1 k2 h3 h4
  · obtain ⟨b, ob, h1, h2⟩ := hl'
    obtain ⟨q, k1, l1⟩ := ex b ob h1
    exact .inl ⟨b, q, k1, by rw [(hblk _ _ _ l1).2] at h2; exact h2⟩
  · obtain ⟨b, ob, h1, h2⟩ := hl'
    obtain ⟨q, k1, l1⟩ := ex b ob h1
    exact .inl ⟨b, q, k1, by rw [(hblk _ _ _ l1).1] at h2; exact h2⟩

structure SWk (S S1 : St) : Prop where
  a : awk S.A S1.A
  h : hwk S.H S1.H
  p : persB S.H S1.H = true

theorem StOk.weak {gl : List (Nat × List AV)} {n : Nat} {g : Gh} {S S1 : St} {a : Act} {w : World} (h : StOk gl n g S a w) (hs : SWk S S1) :
    ∃ g1, StOk gl n g1 S1 a w ∧ Ctx w g S.H g1 S1.H w ∧ Keep (fun b => ¬ IsExt b) g g1 ∧ Pers S.H S1.H := by
  obtain ⟨l1, l2, l3⟩ := h.wc.weak hs.h
  exact ⟨_, ⟨l1, fun t => awk_get hs.a t _ _ (l2.V (Off.none _) (h.vals t)), h.size, h.defers, fun x hx => (h.glob x hx).mono l2.gam⟩, l3, l2.wider fun _ h => h.elim, persB_pers hs.p⟩

/-! ### a state of which some is forgotten -/
def hasKey {K α : Type} [DecidableEq K] (l : List (K × α)) (k : K) : Bool := (find l k).isSome
def narrow (S1 S : St) : Option St :=
  if persB S.H S1.H = true then some ⟨S.A.filter fun x => hasKey S1.A x.1, S.H.filter fun x => hasKey S1.H x.1⟩ else none
theorem awk_filter (A A1 : Slots) : ∀ t, Wk (getA A t) (getA (A.filter fun x => hasKey A1 x.1) t) := by
  intro t
  simp only [getA]
  rw [find_filter (fun x : Nat × AV => hasKey A1 x.1) (fun b => hasKey A1 b) (fun _ => rfl)]
  split
  · exact Wk.refl _
  · exact Wk.undef _
theorem narrow_good {gl : List (Nat × List AV)} {n : Nat} {g : Gh} {S0 S S1 S2 : St} {a : Act} {w0 w : World} (h : StepTo gl n g S0 w0 S a w) (hn : narrow S1 S = some S2) : StepTo gl n g S0 w0 S2 a w := by
  unfold narrow at hn
  split at hn
  · rename_i hp
    cases hn
    obtain ⟨g1, k1, k2, k3, k4⟩ := h
    have hless : Less S.H (S.H.filter fun x => hasKey S1.H x.1) := by
      refine ⟨fun b ob' hb => ?_⟩
      rw [find_filter (fun x : Oid × Ob => hasKey S1.H x.1) (fun b => hasKey S1.H b) (fun _ => rfl)] at hb
      split at hb
      · exact ⟨ob', fun _ => false, hb, (obStrip_never ob').symm⟩
      · cases hb
    obtain ⟨l1, l2, l3⟩ := k1.wc.less hless
    refine ⟨_, ⟨l1, fun t => awk_filter S.A S1.A t _ _ (l2.V (Off.none _) (k1.vals t)), k1.size, k1.defers, fun x hx => (k1.glob x hx).mono l2.gam⟩, k2.trans l3, k3.trans (l2.wider fun _ h => h.elim), k4.trans ?_⟩
    intro e he hs
    show (find (S.H.filter _) e).isSome = true
    rw [find_filter (fun x : Oid × Ob => hasKey S1.H x.1) (fun b => hasKey S1.H b) (fun _ => rfl), show hasKey S1.H e = true from persB_pers hp e he hs, if_pos rfl]
    exact hs
  · cases hn

theorem StepTo.weak {gl : List (Nat × List AV)} {n : Nat} {g : Gh} {S0 S S1 : St} {a : Act} {w0 w : World} (h : StepTo gl n g S0 w0 S a w) (hs : SWk S S1) : StepTo gl n g S0 w0 S1 a w := by
  obtain ⟨g1, k1, k2, k3, k4⟩ := h
  obtain ⟨g2, l1, l2, l3, l4⟩ := k1.weak hs
  exact ⟨g2, l1, k2.trans l2, k3.trans l3, k4.trans l4⟩

/-! ### code -/
section
variable (Z : Seat)
/-- From S a code ends as Q says. -/
def SC (n : Nat) (c : Code) (S : St) (Q : Ex → St → Prop) : Prop :=
  ∀ g a w, StOk Z.gl n g S a w → c.wp Z.P (fun e a' w' => ∃ x S', Q x S' ∧ CodePost Z.gl n g S w x S' e a' w') a w
/-- From S the operations from the k-th to ahead of the e-th one end as K says. -/
def SO (n : Nat) (ops : Array Oper) (k e : Nat) (S : St) (K : St → Prop) : Prop :=
  ∀ g a w, StOk Z.gl n g S a w → ∀ (Q : Exit → Act → World → Prop) (m : Nat), (∀ S' a' w', K S' → StepTo Z.gl n g S w S' a' w' → wpOps Z.P ops Q (List.range' e m) a' w') → wpOps Z.P ops Q (List.range' k (e - k + m)) a w
/-- A call comes to an answer. -/
def SF (f : FuncId) (args : List AV) (H : Heap) (r : AV) (H' : Heap) : Prop :=
  (∃ fn, Z.P.funcs[f]? = some fn ∧ fn.name ≠ "runtime.NumGoroutine" ∧ fn.body.isSome = true) ∧
  ∀ g (vs : Array Value) w, WC g H w → VL g args vs.toList → Glob Z.gl g → Calls Z.P f vs w (RetPost g H w r H')
end

section
variable {Z : Seat} {n : Nat}

theorem SC.mono {c : Code} {S : St} {Q Q' : Ex → St → Prop} (h : SC Z n c S Q) (hq : ∀ x S', Q x S' → Q' x S') : SC Z n c S Q' :=
  fun g a w hS => wp_mono (h g a w hS) fun e a' w' ⟨x, S', h1, h2⟩ => ⟨x, S', hq _ _ h1, h2⟩
theorem SC.weak {c : Code} {S S1 : St} {Q : Ex → St → Prop} (hs : SWk S S1) (h : SC Z n c S1 Q) : SC Z n c S Q := by
  intro g a w hS
  obtain ⟨g1, k1, k2, k3, k4⟩ := hS.weak hs
  exact wp_mono (h g1 a w k1) fun e a' w' ⟨x, S', h1, h2⟩ => ⟨x, S', h1, CodePost.trans k2 k3 k4 e a' w' h2⟩
theorem SC.eqS {c : Code} {S S1 : St} {Q : Ex → St → Prop} (hs : S = S1) (h : SC Z n c S1 Q) : SC Z n c S Q := hs ▸ h

/-- What goes on behind a part that ends as it may. -/
def thenK (K : St → Prop) (Q : Ex → St → Prop) : Ex → St → Prop
  | .normal, S => K S
  | x, S => Q x S
def blockK (id : Nat) (Q : Ex → St → Prop) : Ex → St → Prop
  | .exit id', S => if id' = id then Q .normal S else Q (.exit id') S
  | x, S => Q x S

theorem SC.skip {S : St} {Q : Ex → St → Prop} (h : Q .normal S) : SC Z n .skip S Q := fun g a w hS => wp_skip ⟨_, S, h, rfl, StepTo.refl hS⟩
theorem SC.exit {id : Nat} {S : St} {Q : Ex → St → Prop} (h : Q (.exit id) S) : SC Z n (.exit id) S Q := fun g a w hS => wp_exit ⟨_, S, h, rfl, StepTo.refl hS⟩
theorem SC.ret {S : St} {Q : Ex → St → Prop} (h : Q .ret S) : SC Z n .ret S Q := fun g a w hS => wp_ret ⟨_, S, h, rfl, StepTo.refl hS⟩
theorem SC.seq {a b : Code} {S : St} {Q : Ex → St → Prop} (h : SC Z n a S (thenK (fun S1 => SC Z n b S1 Q) Q)) : SC Z n (.seq a b) S Q := by
  intro g ac w hS
  refine wp_seq (wp_mono (h g ac w hS) ?_)
  rintro e a1 w1 ⟨x, S1, h1, h2⟩
  cases e with
  | normal =>
    obtain ⟨rfl, g1, k1, k2, k3, k4⟩ := h2
    exact wp_mono (h1 g1 a1 w1 k1) fun e a' w' ⟨x, S', q1, q2⟩ => ⟨x, S', q1, CodePost.trans k2 k3 k4 e a' w' q2⟩
  | exit id => obtain ⟨rfl, st⟩ := h2; exact ⟨_, S1, h1, rfl, st⟩
  | ret => obtain ⟨rfl, st⟩ := h2; exact ⟨_, S1, h1, rfl, st⟩
  | goto _ => exact h2.elim
  | panic _ => exact h2.elim
  | outgrown => exact h2.elim
theorem SC.cond {c : Operand} {a b : Code} {S : St} {Q : Ex → St → Prop} (t : Bool) (hc : evalA Z.gl S.A c = .bool t) (ht : t = true → SC Z n a S Q) (hf : t = false → SC Z n b S Q) : SC Z n (.cond c a b) S Q := by
  intro g ac w hS
  have hv := hS.eval c
  rw [hc] at hv
  cases t with
  | true => exact wp_cond_true hv (ht rfl g ac w hS)
  | false => exact wp_cond_false hv (hf rfl g ac w hS)
theorem SC.block {id : Nat} {b : Code} {S : St} {Q : Ex → St → Prop} (h : SC Z n b S (blockK id Q)) : SC Z n (.block id b) S Q := by
  intro g ac w hS
  refine wp_block (wp_mono (h g ac w hS) ?_)
  rintro e a1 w1 ⟨x, S1, h1, h2⟩
  cases e with
  | normal => obtain ⟨rfl, st⟩ := h2; exact ⟨_, S1, h1, rfl, st⟩
  | ret => obtain ⟨rfl, st⟩ := h2; exact ⟨_, S1, h1, rfl, st⟩
  | exit id' =>
    obtain ⟨rfl, st⟩ := h2
    simp only [blockK] at h1
    simp only [Exit.inBlock]
    by_cases e : id' = id
    · rw [if_pos e] at h1 ⊢; exact ⟨_, S1, h1, rfl, st⟩
    · rw [if_neg e] at h1 ⊢; exact ⟨_, S1, h1, rfl, st⟩
  | goto _ => exact h2.elim
  | panic _ => exact h2.elim
  | outgrown => exact h2.elim
theorem SC.region {id : Nat} {ops : Array Oper} {S : St} {Q : Ex → St → Prop} (e : Nat) (he : ops.size = e) (h : SO Z n ops 0 e S (Q .normal)) : SC Z n (.region id ops false) S Q := by
  intro g a w hS
  refine wp_region ?_
  have := h g a w hS (fun e a' w' => ∃ x S', Q x S' ∧ CodePost Z.gl n g S w x S' e a' w') 0 fun S' a' w' h1 h2 => ⟨_, S', h1, rfl, h2⟩
  rw [List.range_eq_range', he]
  simpa using this
theorem SC.draw {id : Nat} {ops : Array Oper} {S S1 : St} {Q : Ex → St → Prop} {call : CallF} (hcall : CallOk Z.P Z.gl call) (hent : Enters Z.P call) {cfg : Cfg} {f : FuncId} (h : evDraw Z.tb cfg Z.gl call f n ops S = some S1) (S2 : St) (hn : narrow S2 S1 = some S2) (hq : Q .normal S2) :
    SC Z n (.region id ops true) S Q :=
  fun g a w hS => evDraw_good Z.hP hcall hent Z.hm hS h fun a' w' st => ⟨_, S2, hq, rfl, narrow_good st hn⟩

/-! ### loops -/
theorem SC.rounds {c : Code} {Q : Ex → St → Prop} : ∀ (k : Nat) (I : Nat → St → Prop), (∀ j S, I j S → SC Z n c S (thenK (fun S1 => ∃ i, j = i + 1 ∧ I i S1) Q)) → ∀ S, I k S →
    ∀ g a w, StOk Z.gl n g S a w → Code.rounds Z.P c (fun e a' w' => ∃ x S', Q x S' ∧ CodePost Z.gl n g S w x S' e a' w') (k + 1) a w := by
  intro k
  induction k with
  | zero =>
    intro I h S hI g a w hS
    rw [rounds_succ]
    refine wp_mono (h 0 S hI g a w hS) fun e a1 w1 ⟨x, S1, h1, h2⟩ => ?_
    cases e with
    | normal => obtain ⟨rfl, _⟩ := h2; obtain ⟨i, e, _⟩ := h1; omega
    | exit id => obtain ⟨rfl, st⟩ := h2; exact ⟨_, S1, h1, rfl, st⟩
    | ret => obtain ⟨rfl, st⟩ := h2; exact ⟨_, S1, h1, rfl, st⟩
    | goto _ => exact h2.elim
    | panic _ => exact h2.elim
    | outgrown => exact h2.elim
  | succ k ih =>
    intro I h S hI g a w hS
    rw [rounds_succ]
    refine wp_mono (h (k + 1) S hI g a w hS) fun e a1 w1 ⟨x, S1, h1, h2⟩ => ?_
    cases e with
    | normal =>
      obtain ⟨rfl, g1, k1, k2, k3, k4⟩ := h2
      obtain ⟨i, e, hi⟩ := h1
      have e' : i = k := by omega
      subst e'
      exact loop_good.rounds_mono (i + 1) (fun e a' w' ⟨x, S', q1, q2⟩ => ⟨x, S', q1, CodePost.trans k2 k3 k4 e a' w' q2⟩) (ih I h S1 hi g1 a1 w1 k1)
    | exit id => obtain ⟨rfl, st⟩ := h2; exact ⟨_, S1, h1, rfl, st⟩
    | ret => obtain ⟨rfl, st⟩ := h2; exact ⟨_, S1, h1, rfl, st⟩
    | goto _ => exact h2.elim
    | panic _ => exact h2.elim
    | outgrown => exact h2.elim
theorem SC.loopI {c : Code} {S : St} {Q : Ex → St → Prop} (k : Nat) (I : Nat → St → Prop) (h : ∀ j S, I j S → SC Z n c S (thenK (fun S1 => ∃ i, j = i + 1 ∧ I i S1) Q)) (hS : I k S) : SC Z n (.loop c) S Q :=
  fun g a w hs => wp_loop_rounds (k + 1) (SC.rounds k I h S hS g a w hs)

/-! ### operations -/
theorem SO.done {ops : Array Oper} {e : Nat} {S : St} {K : St → Prop} (h : K S) : SO Z n ops e e S K := by
  intro g a w hS Q m hq
  have := hq S a w h (StepTo.refl hS)
  rw [Nat.sub_self, Nat.zero_add]; exact this
theorem SO.weak {ops : Array Oper} {k e : Nat} {S S1 : St} {K : St → Prop} (hs : SWk S S1) (h : SO Z n ops k e S1 K) : SO Z n ops k e S K := by
  intro g a w hS Q m hq
  obtain ⟨g1, k1, k2, k3, k4⟩ := hS.weak hs
  exact h g1 a w k1 Q m fun S' a' w' hK st => hq S' a' w' hK (StepTo.trans k2 k3 k4 st)
theorem SO.cut {ops : Array Oper} {k e : Nat} {S : St} {K : St → Prop} (p : Nat) (h1 : k ≤ p) (h2 : p ≤ e) (h : SO Z n ops k p S fun S1 => SO Z n ops p e S1 K) : SO Z n ops k e S K := by
  intro g a w hS Q m hq
  have := h g a w hS Q (e - p + m) fun S' a' w' hK st => by
    obtain ⟨g1, k1, k2, k3, k4⟩ := st
    exact hK g1 a' w' k1 Q m fun S2 a2 w2 hK2 st2 => hq S2 a2 w2 hK2 (StepTo.trans k2 k3 k4 st2)
  rw [show e - k + m = p - k + (e - p + m) by omega]; exact this
/-- One operation. -/
theorem SO.step {ops : Array Oper} {k e : Nat} {S S1 : St} {K : St → Prop} {cfg : Cfg} {call : CallF} {f : FuncId} (hcall : CallOk Z.P Z.gl call) (hent : Enters Z.P call) (hke : k < e) {o : Oper} (ho : ops[k]? = some o) {r : OpR} (h : evStep Z.tb cfg Z.gl call f n ops S o = some (S1, r))
    {S2 : St} (hS2 : narrow S2 S1 = some S2) (hn : SO Z n ops (k + 1) e S2 K) : SO Z n ops k e S K := by
  intro g a w hS Q m hq
  have main := evStep_good Z.hP hcall hent hS h (wpOps Z.P ops Q (List.range' (k + 1) (e - (k + 1) + m))) Q fun a' w' st => by
    obtain ⟨g1, k1, k2, k3, k4⟩ := narrow_good st hS2
    exact hn g1 a' w' k1 Q m fun S' a'' w'' hK st2 => hq S' a'' w'' hK (StepTo.trans k2 k3 k4 st2)
  rw [show e - k + m = (e - (k + 1) + m) + 1 by omega]
  simp only [List.range'_succ, wpOps, ho]
  cases hw : Region.wanted o (yielded ops a.tmps) with
  | true => simp only [if_true]; exact .inl (main.1 hw)
  | false => simp only [Bool.false_eq_true, if_false]; exact main.2 hw

/-- m operations from the k-th one on, that call nobody. -/
def evSeg (tb : List TI) (cfg : Cfg) (gl : List (Nat × List AV)) (n : Nat) (ops : Array Oper) (k : Nat) : Nat → St → Option St
  | 0, S => some S
  | m + 1, S => match ops[k]? with
    | none => none
    | some o => match evStep tb cfg gl noCall 0 n ops S o with
      | none => none
      | some (S', _) => evSeg tb cfg gl n ops (k + 1) m S'
theorem evSeg_good {cfg : Cfg} {ops : Array Oper} {Q : Exit → Act → World → Prop} : ∀ (m k q : Nat) {g : Gh} {S S' : St} {a : Act} {w : World}, StOk Z.gl n g S a w →
    evSeg Z.tb cfg Z.gl n ops k m S = some S' → (∀ a' w', StepTo Z.gl n g S w S' a' w' → wpOps Z.P ops Q (List.range' (k + m) q) a' w') → wpOps Z.P ops Q (List.range' k (m + q)) a w
  | 0, k, q, g, S, S', a, w, hS, h, hQ => by
    simp only [evSeg] at h; cases h
    have := hQ a w (StepTo.refl hS)
    rw [Nat.zero_add]; exact this
  | m + 1, k, q, g, S, S', a, w, hS, h, hQ => by
    simp only [evSeg] at h
    split at h
    · cases h
    · rename_i o ho
      split at h
      · cases h
      · rename_i S1 r hst
        have main := evStep_good Z.hP (noCall_ok Z) (noCall_ent Z) hS hst (wpOps Z.P ops Q (List.range' (k + 1) (m + q))) Q fun a' w' st => by
          obtain ⟨g1, k1, k2, k3, k4⟩ := st
          exact evSeg_good m (k + 1) q k1 h fun a' w' st => by
            have := hQ a' w' (StepTo.trans k2 k3 k4 st)
            rw [show k + 1 + m = k + (m + 1) by omega]; exact this
        rw [show m + 1 + q = m + q + 1 by omega]
        simp only [List.range'_succ, wpOps, ho]
        cases hw : Region.wanted o (yielded ops a.tmps) with
        | true => simp only [if_true]; exact .inl (main.1 hw)
        | false => simp only [Bool.false_eq_true, if_false]; exact main.2 hw
/-- .. up to ahead of the p-th one. -/
theorem SO.run {ops : Array Oper} {k e : Nat} {S : St} {K : St → Prop} (cfg : Cfg) (p : Nat) (S1 : St) (hk : (k ≤ p ∧ p ≤ e)) (h : (evSeg Z.tb cfg Z.gl n ops k (p - k) S).bind (narrow S1) = some S1) (hn : SO Z n ops p e S1 K) : SO Z n ops k e S K := by
  intro g a w hS Q m hq
  obtain ⟨S0, h1, h2⟩ := Option.bind_eq_some_iff.1 h
  have := evSeg_good (Q := Q) (p - k) k (e - p + m) hS h1 fun a' w' st => by
    obtain ⟨g1, k1, k2, k3, k4⟩ := narrow_good st h2
    have := hn g1 a' w' k1 Q m fun S' a'' w'' hK st2 => hq S' a'' w'' hK (StepTo.trans k2 k3 k4 st2)
    rw [show k + (p - k) = p by omega]; exact this
  rw [show e - k + m = p - k + (e - p + m) by omega]; exact this
/-- .. where a truth decides what is done. -/
theorem SO.runB {ops : Array Oper} {k e : Nat} {K : St → Prop} (cfg : Cfg) (p : Nat) (t : Bool) (F I : Bool → St) (hk : (k ≤ p ∧ p ≤ e)) (ht : (evSeg Z.tb cfg Z.gl n ops k (p - k) (F true)).bind (narrow (I true)) = some (I true))
    (hf : (evSeg Z.tb cfg Z.gl n ops k (p - k) (F false)).bind (narrow (I false)) = some (I false)) (hn : SO Z n ops p e (I t) K) : SO Z n ops k e (F t) K := by
  cases t with
  | true => exact SO.run cfg p _ hk ht hn
  | false => exact SO.run cfg p _ hk hf hn
theorem SO.bool {ops : Array Oper} {k e : Nat} {K : St → Prop} (t : Bool) (F : Bool → St) (h1 : t = true → SO Z n ops k e (F true) K) (h0 : t = false → SO Z n ops k e (F false) K) : SO Z n ops k e (F t) K := by
  cases t with
  | true => exact h1 rfl
  | false => exact h0 rfl

/-- What one operation comes to, of which something is known beside. -/
def opR (tb : List TI) (cfg : Cfg) (gl : List (Nat × List AV)) (ops : Array Oper) (k : Nat) (S : St) : Option OpR :=
  match ops[k]? with
  | none => none
  | some o => evStep0 tb cfg gl noCall 0 ops S o
def stepR (n : Nat) (ops : Array Oper) (k : Nat) (S : St) (r : OpR) : Option St :=
  match ops[k]? with
  | none => none
  | some o =>
    if isCallV o.op then none else
    (setDst n o.dst r.v (if r.fresh then (match o.dst with | some d => if clear S d then S else purge d S | none => S) else S).A).map fun A => ⟨A, insAll (if r.fresh then (match o.dst with | some d => if clear S d then S else purge d S | none => S) else S).H r.ws⟩
theorem SO.op {ops : Array Oper} {k e : Nat} {S : St} {K : St → Prop} (cfg : Cfg) (r : OpR) (S1 : St) (hk : k < e) (h : opR Z.tb cfg Z.gl ops k S = some r) (hs : (stepR n ops k S r).bind (narrow S1) = some S1) (hn : SO Z n ops (k + 1) e S1 K) : SO Z n ops k e S K := by
  unfold opR at h
  split at h
  · cases h
  · rename_i o ho
    obtain ⟨S0, h1, h2⟩ := Option.bind_eq_some_iff.1 hs
    unfold stepR at h1
    rw [ho] at h1
    simp only at h1
    split at h1
    · cases h1
    · rename_i hnc
      have hnc : isCallV o.op = false := by simpa using hnc
      unfold evStep0 at h
      cases hw : evWanted ops S.A o with
      | none => rw [hw] at h; cases h
      | some b =>
        rw [hw] at h
        have : ∃ r', evStep Z.tb cfg Z.gl noCall 0 n ops S o = some (S0, r') := by
          unfold evStep
          rw [hw]
          cases b with
          | false =>
            simp only at h ⊢
            cases h
            simp only [Bool.false_eq_true, if_false] at h1
            cases hd : setDst n o.dst (.tuple []) S.A with
            | none => rw [hd] at h1; cases h1
            | some A => rw [hd] at h1; cases h1; exact ⟨_, rfl⟩
          | true =>
            simp only at h ⊢
            rw [h]
            simp only [hnc, Bool.and_false, Bool.false_and, Bool.false_eq_true, if_false]
            generalize hT : (if r.fresh then (match o.dst with | some d => if clear S d then S else purge d S | none => S) else S) = T at h1 ⊢
            cases hd : setDst n o.dst r.v T.A with
            | none => rw [hd] at h1; cases h1
            | some A => rw [hd] at h1; cases h1; exact ⟨_, rfl⟩
        obtain ⟨r', hst⟩ := this
        exact SO.step (noCall_ok Z) (noCall_ent Z) hk ho hst h2 hn

/-! ### calls -/
open Classical in
noncomputable def callL : List (FuncId × List AV × Heap × AV × Heap) → CallF
  | [] => noCall
  | (f, as, H, r, H') :: l => fun f' as' K => if f' = f ∧ as' = as ∧ K = H then some (r, H') else callL l f' as' K
def CallsOk (Z : Seat) : List (FuncId × List AV × Heap × AV × Heap) → Prop
  | [] => True
  | (f, as, H, r, H') :: l => SF Z f as H r H' ∧ CallsOk Z l
theorem callL_ok : ∀ {l : List (FuncId × List AV × Heap × AV × Heap)}, CallsOk Z l → CallOk Z.P Z.gl (callL l) ∧ Enters Z.P (callL l)
  | [], _ => ⟨noCall_ok Z, noCall_ent Z⟩
  | (f, as, H, r, H') :: l, h => by
    obtain ⟨i1, i2⟩ := callL_ok h.2
    refine ⟨fun f' as' K r' K' hc => ?_, fun f' as' K x hc => ?_⟩
    · simp only [callL] at hc
      split at hc
      · rename_i e
        obtain ⟨rfl, rfl, rfl⟩ := e
        cases hc
        exact h.1.2
      · exact i1 _ _ _ _ _ hc
    · simp only [callL] at hc
      split at hc
      · rename_i e
        obtain ⟨rfl, rfl, rfl⟩ := e
        exact h.1.1
      · exact i2 _ _ _ _ hc
theorem callL_hd {f : FuncId} {as : List AV} {H : Heap} {r : AV} {H' : Heap} {l : List (FuncId × List AV × Heap × AV × Heap)} : callL ((f, as, H, r, H') :: l) f as H = some (r, H') := by
  simp [callL]

structure Pre where
  f : FuncId
  args : List AV
  H : Heap
  ids : List Oid
  dst : Option Nat
def callPre (gl : List (Nat × List AV)) (ops : Array Oper) (k : Nat) (S : St) : Option Pre :=
  match ops[k]? with
  | none => none
  | some o => match evWanted ops S.A o with
    | some true => match o.op with
      | .call c => match c.callee with
        | .value x => match evalA gl S.A x with
          | .fn (.func f) first captured =>
            match reach S.H 64 (refsL (first ++ c.args.toList.map (evalA gl S.A) ++ captured)) [] with
            | none => none
            | some ids => if ids.any isCl then none else
              match renL (toExt ids) (first ++ c.args.toList.map (evalA gl S.A) ++ captured), renHeap (toExt ids) S.H with
              | some args', some H' => some ⟨f, cleanL args', H', ids, o.dst⟩
              | _, _ => none
          | _ => none
        | _ => none
      | _ => none
    | _ => none
def callPost (n : Nat) (S : St) (p : Pre) (r : AV) (H2 : Heap) : Option St :=
  match ren (ofExt p.ids) r, renHeap (ofExt p.ids) H2 with
  | some r', some ws => (setDst n p.dst (clean r') S.A).map fun A => ⟨A, insAll S.H ws⟩
  | _, _ => none
theorem adopt_none {ids : List Oid} {r : AV} {H2 ws : Heap} : adopt none ids r H2 ws = none := by
  unfold adopt
  split <;> first | rfl | contradiction
theorem SO.call {ops : Array Oper} {k e : Nat} {S : St} {K : St → Prop} (p : Pre) {r : AV} {H2 : Heap} (S1 : St) (hk : k < e) (hp : callPre Z.gl ops k S = some p) (hc : SF Z p.f p.args p.H r H2) (hs : (callPost n S p r H2).bind (narrow S1) = some S1) (hn : SO Z n ops (k + 1) e S1 K) : SO Z n ops k e S K := by
  unfold callPre at hp
  split at hp
  · cases hp
  rename_i o ho
  split at hp <;> try cases hp
  rename_i hw
  split at hp <;> try cases hp
  rename_i c hop
  split at hp <;> try cases hp
  rename_i x hcal
  split at hp <;> try cases hp
  rename_i f first captured hx
  split at hp <;> try cases hp
  rename_i ids hreach
  split at hp <;> try cases hp
  rename_i hcl
  split at hp <;> try cases hp
  rename_i args' H' ha hH
  obtain ⟨S0, h1, h2⟩ := Option.bind_eq_some_iff.1 hs
  unfold callPost at h1
  split at h1 <;> try cases h1
  rename_i r' ws hr hws
  simp only at hc hr hws h1
  obtain ⟨i1, i2⟩ := callL_ok (Z := Z) (l := [(f, cleanL args', H', r, H2)]) ⟨hc, trivial⟩
  cases hd : setDst n o.dst (clean r') S.A with
  | none => rw [hd] at h1; cases h1
  | some A =>
    rw [hd] at h1
    cases h1
    refine SO.step (cfg := c0) (f := 0) i1 i2 hk ho (S1 := ⟨A, insAll S.H ws⟩) (r := { v := clean r', ws := ws, rd := ids }) ?_ h2 hn
    unfold evStep
    rw [hw]
    simp only [evOp, hop, hcal, hx]
    unfold evCall
    rw [hreach]
    simp only
    rw [if_neg hcl]
    simp only [ha, hH, c0, Bool.false_eq_true, if_false, callL_hd, hr, hws]
    have : adoptAt { ro := fun _ => false, acc := fun _ _ => false, accCells := fun _ _ => [], kill := fun _ _ => none, adopt := fun _ _ => false, plainAp := fun _ _ => false } 0 o.dst = none := by
      unfold adoptAt; split <;> simp
    rw [this, adopt_none]
    simp only [Option.getD_none, Bool.false_eq_true, if_false, Bool.false_and, hd, Option.map_some]

/-! ### functions -/
def RetQ (tb : List TI) (rs : List ResultVar) (r : AV) (H' : Heap) : Ex → St → Prop
  | .exit _, _ => False
  | _, S => ∃ vs, evResults tb S rs = some vs ∧ Wk (oneOr vs) r ∧ hwk S.H H' ∧ persB S.H H' = true
theorem SF.intro {f : FuncId} {fn : Func} {c : Code} {args : List AV} {H : Heap} {r : AV} {H' : Heap} {m : Nat} {rs : List ResultVar} (hf : Z.P.funcs[f]? = some fn) (hb : fn.body = some c) (hm : fn.ntmps = m) (hrs : fn.results.toList = rs)
    (hn : args.length ≤ m) (hnm : fn.name ≠ "runtime.NumGoroutine") (h : SC Z m c ⟨argSlots 0 args, H⟩ (RetQ Z.tb rs r H')) : SF Z f args H r H' := by
  refine ⟨⟨fn, hf, hnm, by rw [hb]; rfl⟩, fun g vs w hw hv hgl => ?_⟩
  subst hm hrs
  refine calls_of_wp hf hb ?_
  have hlen : vs.size = args.length := by have := VL.length hv; simpa using this
  have hS : StOk Z.gl fn.ntmps g ⟨argSlots 0 args, H⟩ { tmps := vs ++ Array.replicate (fn.ntmps - vs.size) undef, defers := [] } w := by
    refine ⟨hw, fun t => ?_, by simp; omega, rfl, hgl⟩
    have := getA_args args vs.toList 0 t hv
    rw [Nat.zero_add] at this
    show V g (getA (argSlots 0 args) t) _
    rw [Array.getD_eq_getD_getElem?, Array.getElem?_append]
    split
    · rw [Array.getElem?_toList] at this; exact this
    · rename_i hge
      rw [Array.getElem?_toList, Array.getElem?_eq_none (by omega)] at this
      have e : ((Array.replicate (fn.ntmps - vs.size) undef)[t - vs.size]?).getD undef = undef := by
        rw [Array.getElem?_replicate]; split <;> rfl
      rw [e]; exact this
  refine wp_mono (h g _ w hS) ?_
  rintro e a' w' ⟨x, S, h1, h2⟩
  have fin : ∀ vs, evResults Z.tb S fn.results.toList = some vs → Wk (oneOr vs) r → hwk S.H H' → persB S.H H' = true → StepTo Z.gl fn.ntmps g ⟨argSlots 0 args, H⟩ w S a' w' →
      a'.defers = [] ∧ ∃ v, (results fn a'.tmps).run Z.P w' = .ok v w' ∧ RetPost g H w r H' (.returned v) w' := by
    rintro vs1 hr hwk hh hp ⟨g1, k1, k2, k3, k4⟩
    obtain ⟨v, q1, q2⟩ := results_good Z.hP k1 hr
    obtain ⟨l1, l2, l3⟩ := k1.wc.weak hh
    exact ⟨k1.defers, v, q1, v, _, rfl, ⟨hwk _ _ (l2.V (Off.none _) q2), l1, k3.trans (l2.wider fun _ h => h.elim), k2.trans l3, k4.trans (persB_pers hp)⟩⟩
  cases e with
  | normal => obtain ⟨rfl, st⟩ := h2; obtain ⟨vs, p1, p2, p3, p4⟩ := h1; exact fin vs p1 p2 p3 p4 st
  | exit id => obtain ⟨rfl, st⟩ := h2; exact h1.elim
  | ret => obtain ⟨rfl, st⟩ := h2; obtain ⟨vs, p1, p2, p3, p4⟩ := h1; exact fin vs p1 p2 p3 p4 st
  | goto _ => exact h2.elim
  | panic _ => exact h2.elim
  | outgrown => exact h2.elim
theorem SF.weak {f : FuncId} {args args' : List AV} {H H1 : Heap} {r : AV} {H' : Heap} (h : SF Z f args' H1 r H') (ha : WkL args args') (hh : hwk H H1) (hp : persB H H1 = true) : SF Z f args H r H' := by
  refine ⟨h.1, fun g vs w hw hv hgl => ?_⟩
  obtain ⟨l1, l2, l3⟩ := hw.weak hh
  refine (h.2 (g.heap H1) vs w l1 (l2.VL (OffL.none _) (ha.vl hv)) fun x hx => (hgl x hx).mono l2.gam).mono ?_
  rintro e w' ⟨v, g', rfl, ret⟩
  exact ⟨v, g', rfl, ⟨ret.val, ret.wc, (l2.wider fun _ h => h.elim).trans ret.keep, l3.trans ret.ctx, (persB_pers hp).trans ret.pers⟩⟩
end

end Go.Proofs.Ytbckfbohbjhffaa.AE
