/- The law ExprGoesOn holds of the printed functions: what stands behind the place of a fault is not looked at. No condition. -/
import Derived.Test.YtbhncegmohnfhaaDoorZPReads
set_option linter.unusedVariables false
set_option linter.unusedSimpArgs false
set_option maxRecDepth 100000
set_option maxHeartbeats 4000000
namespace Go.Proofs.YtbhncegmohnfhaaDoor.F
open Go

/-- The first answers with a place at or behind i; if that lies ahead of m, the second answers the same. -/
def S {α : Type} (π : α → Int) (i m : Int) (f f' : Option α) : Prop := ∀ r, f = some r → i ≤ π r ∧ (π r < m → f' = some r)
section
variable {α β σ ρ : Type} {i m : Int}
theorem S.bind {π : α → Int} {π2 : β → Int} {f f' : Option α} {g g' : α → Option β} (h : S π i m f f') (h2 : ∀ x, f = some x → i ≤ π x → S π2 (π x) m (g x) (g' x)) : S π2 i m (f.bind g) (f'.bind g') := by
  intro r hr
  obtain ⟨x, h3, h4⟩ := Opt.ex hr
  obtain ⟨a1, a2⟩ := h x h3
  obtain ⟨b1, b2⟩ := h2 x h3 a1 r h4
  refine ⟨by omega, fun hm => ?_⟩
  rw [a2 (by omega)]
  exact b2 hm
theorem S.ite {π : α → Int} {c : Bool} {A A' B B' : Option α} (h1 : c = true → S π i m A A') (h2 : c = false → S π i m B B') : S π i m (if c = true then A else B) (if c = true then A' else B') := by
  cases c with
  | true => exact h1 rfl
  | false => exact h2 rfl
theorem S.pure {π : α → Int} {x : α} (h : i ≤ π x) : S π i m (some x) (some x) := by
  intro r hr
  cases hr
  exact ⟨h, fun _ => rfl⟩
theorem S.none {π : α → Int} {f' : Option α} : S π i m none f' := fun r hr => by cases hr
theorem S.le {π : α → Int} {j : Int} {f f' : Option α} (h : S π j m f f') (hj : i ≤ j) : S π i m f f' := fun r hr => ⟨by have := (h r hr).1; omega, (h r hr).2⟩
theorem S.map {πs : σ → Int} {πr : ρ → Int} {f f' : Option ρ} (h : S πr i m f f') : S (Sum.elim πs πr) i m (f.map (Sum.inr (α := σ))) (f'.map Sum.inr) := by
  intro r hr
  obtain ⟨x, h3, rfl⟩ := Opt.inr hr
  obtain ⟨a1, a2⟩ := h x h3
  exact ⟨a1, fun hm => by rw [a2 hm]; rfl⟩
theorem S.loop {πs : σ → Int} {πr : ρ → Int} {body body' : σ → Option (σ ⊕ ρ)} (h : ∀ s, S (Sum.elim πs πr) (πs s) m (body s) (body' s)) : ∀ (k : Nat) (s : σ), S πr (πs s) m (loopM k body s) (loopM k body' s)
  | 0, s => by intro r hr; cases hr
  | k + 1, s => by
    intro r hr
    rw [loopM_step] at hr
    rw [loopM_step]
    cases hb : body s with
    | none => rw [hb] at hr; cases hr
    | some x =>
      rw [hb] at hr
      obtain ⟨a1, a2⟩ := h s x hb
      cases x with
      | inl s' =>
        obtain ⟨b1, b2⟩ := S.loop h k s' r hr
        simp only [Sum.elim_inl] at a1 a2
        exact ⟨by omega, fun hm => by rw [a2 (by omega)]; exact b2 hm⟩
      | inr r' =>
        cases hr
        simp only [Sum.elim_inr] at a1 a2
        exact ⟨a1, fun hm => by rw [a2 hm]⟩
theorem S.ofLoop {πs : σ → Int} {πr : ρ → Int} {body body' : σ → Option (σ ⊕ ρ)} {k : Nat} {s : σ} (h : ∀ s, S (Sum.elim πs πr) (πs s) m (body s) (body' s)) (hi : i ≤ πs s) : S πr i m (loopM k body s) (loopM k body' s) := (S.loop h k s).le hi
end
def p3 {α β : Type} (x : α × Int × β) : Int := x.2.1

section
variable {l l' : List TToken} {m : Int}
theorem s_look (ag : ∀ p, p < m → tk l' p = tk l p) (k : Nat) (i : Int) (b : Bool) : S (fun _ => i) i m (expr_reader_look k l i b) (expr_reader_look k l' i b) := by
  rw [look_eq, look_eq]
  intro r hr
  exact ⟨Int.le_refl _, fun hm => by rw [ag i hm]; exact hr⟩
theorem s_is (ag : ∀ p, p < m → tk l' p = tk l p) (k : Nat) (kd : Int) (s : List UInt8) (i : Int) (b : Bool) : S (fun _ => i) i m (expr_reader_is k kd s l i b) (expr_reader_is k kd s l' i b) := by
  rw [is_eq, is_eq]
  intro r hr
  exact ⟨Int.le_refl _, fun hm => by rw [ag i hm]; exact hr⟩
theorem s_sign (ag : ∀ p, p < m → tk l' p = tk l p) (k : Nat) (q i : Int) (b : Bool) : S (fun _ => i) i m (expr_reader_sign k q l i b) (expr_reader_sign k q l' i b) := by
  intro r hr
  refine ⟨Int.le_refl _, fun hm => ?_⟩
  unfold expr_reader_sign at hr ⊢
  rw [look_eq] at hr ⊢
  rw [ag i hm]
  exact hr
theorem s_takes (W : WF l) (ag : ∀ p, p < m → tk l' p = tk l p) (k : Nat) (s : List UInt8) (i : Int) (b : Bool) : S (fun x : Bool × Int => x.2) i m (expr_reader_takes k s l i b) (expr_reader_takes k s l' i b) := by
  cases b with
  | true => rw [takes_bad, takes_bad]; exact S.pure (by simp)
  | false =>
    rw [takes_eq, takes_eq]
    intro r hr
    refine ⟨?_, fun hm => ?_⟩
    · cases h : isT (tk l i) 4 s with
      | true =>
        rw [h] at hr; cases hr
        have := (W.next (i := i) (by rw [(isT_kind h).1]; omega)).2.2
        simp only [if_true]; omega
      | false => rw [h] at hr; cases hr; simp
    · have hle : i < m := by
        cases h : isT (tk l i) 4 s with
        | true =>
          rw [h] at hr; cases hr
          have := (W.next (i := i) (by rw [(isT_kind h).1]; omega)).2.2
          simp only [if_true] at hm; omega
        | false => rw [h] at hr; cases hr; simpa using hm
      rw [ag i hle]; exact hr
theorem s_wants (W : WF l) (ag : ∀ p, p < m → tk l' p = tk l p) (k : Nat) (s : List UInt8) (i : Int) (b : Bool) : S (fun x : Int × Bool => x.1) i m (expr_reader_wants k s l i b) (expr_reader_wants k s l' i b) := by
  unfold expr_reader_wants
  refine S.bind (s_takes W ag k s i b) fun x _ hx => ?_
  exact S.pure (Int.le_refl _)
theorem s_name (W : WF l) (ag : ∀ p, p < m → tk l' p = tk l p) (k : Nat) (i : Int) (b : Bool) : S p3 i m (expr_reader_name k l i b) (expr_reader_name k l' i b) := by
  unfold expr_reader_name
  refine S.bind (s_look ag k i b) fun t ht _ => ?_
  rw [look_eq] at ht; cases ht
  refine S.ite (fun _ => S.pure (Int.le_refl _)) (fun hc => S.pure ?_)
  have hk : (tk l i).Kind = 1 := by
    cases b <;> simp at hc
    exact hc
  have := (W.next (i := i) (by omega)).2.2
  show i ≤ IntKind.i64.wrap (i + 1)
  omega
theorem s_kind (W : WF l) (ag : ∀ p, p < m → tk l' p = tk l p) : ∀ (k : Nat) (i : Int) (b : Bool), S p3 i m (expr_reader_kind k l i b) (expr_reader_kind k l' i b)
  | 0, i, b => by rw [expr_reader_kind]; exact S.none
  | k + 1, i, b => by
    rw [expr_reader_kind, expr_reader_kind]
    refine S.bind (s_look ag k i b) fun t ht _ => ?_
    simp only [joinK]
    refine S.ite (fun _ => S.bind (s_name W ag k i b) fun x _ hx => S.pure (Int.le_refl _)) (fun _ => ?_)
    refine S.bind (s_takes W ag k _ i b) fun x hx hxi => ?_
    obtain ⟨x1, x2⟩ := x
    simp only at hxi ⊢
    refine S.ite (fun _ => ?_) (fun _ => ?_)
    · refine S.bind (s_wants W ag k _ x2 b) fun y _ hy => ?_
      obtain ⟨y1, y2⟩ := y
      simp only at hy ⊢
      refine S.ite (fun _ => S.pure (Int.le_refl _)) (fun _ => ?_)
      exact S.bind (s_kind W ag k y1 y2) fun z _ hz => S.pure (Int.le_refl _)
    · have fin : ∀ (kd : Int) (s : List UInt8), expr_reader_is k kd s l x2 b = some true → kd ≠ 0 → x2 ≤ IntKind.i64.wrap (x2 + 1) := by
        intro kd s h hk
        rw [is_eq] at h
        have h := Option.some.inj h
        have := (W.next (i := x2) (by rw [(isT_kind h).1]; exact hk)).2.2
        omega
      refine S.bind (s_is ag k _ _ x2 b) fun y hy _ => ?_
      refine S.ite (fun hc => S.pure (fin _ _ (by rw [hy, hc]) (by omega))) (fun _ => ?_)
      refine S.bind (s_is ag k _ _ x2 b) fun y hy _ => ?_
      refine S.ite (fun hc => S.pure (fin _ _ (by rw [hy, hc]) (by omega))) (fun _ => ?_)
      refine S.bind (s_is ag k _ _ x2 b) fun y hy _ => ?_
      refine S.ite (fun hc => S.pure (fin _ _ (by rw [hy, hc]) (by omega))) (fun _ => ?_)
      exact S.pure (Int.le_refl _)
theorem sign_kind {k : Nat} {q i : Int} {b : Bool} {s : Int} (h : expr_reader_sign k q l i b = some s) (hs : s ≠ 0) : (tk l i).Kind = 4 := by
  unfold expr_reader_sign at h
  rw [look_eq] at h
  simp only [Option.bind_some, joinK] at h
  obtain ⟨⟨y1, y2⟩, _, h⟩ := Opt.ex h
  simp only at h
  cases hc : (y2 && ((tk l i).Kind == 4)) with
  | true => simp at hc; exact hc.2
  | false => rw [hc] at h; simp at h; exact (hs h.symm).elim
/-- All readers at a depth. -/
structure SA (l l' : List TToken) (m : Int) (k : Nat) : Prop where
  args : ∀ (i : Int) (b : Bool), S p3 i m (expr_reader_args k l i b) (expr_reader_args k l' i b)
  word : ∀ (n : TNode) (s : List UInt8) (i : Int) (b : Bool), i ≤ IntKind.i64.wrap (i + 1) → S p3 i m (expr_reader_word k n s l i b) (expr_reader_word k n s l' i b)
  first : ∀ (i : Int) (b : Bool), S p3 i m (expr_reader_first k l i b) (expr_reader_first k l' i b)
  part : ∀ (i : Int) (b : Bool), S p3 i m (expr_reader_part k l i b) (expr_reader_part k l' i b)
  factor : ∀ (i : Int) (b : Bool), S p3 i m (expr_reader_factor k l i b) (expr_reader_factor k l' i b)
  level : ∀ (q i : Int) (b : Bool), S p3 i m (expr_reader_level k q l i b) (expr_reader_level k q l' i b)
theorem sa_args (W : WF l) (ag : ∀ p, p < m → tk l' p = tk l p) {k : Nat} (H : SA l l' m k) (i : Int) (b : Bool) : S p3 i m (expr_reader_args (k + 1) l i b) (expr_reader_args (k + 1) l' i b) := by
  rw [expr_reader_args, expr_reader_args]
  refine S.bind (s_wants W ag k _ i b) fun x _ hx => ?_
  obtain ⟨x1, x2⟩ := x
  simp only [joinK] at hx ⊢
  refine S.bind (s_takes W ag k _ x1 x2) fun y _ hy => ?_
  obtain ⟨y1, y2⟩ := y
  simp only at hy ⊢
  refine S.ite (fun _ => S.pure (Int.le_refl _)) (fun _ => ?_)
  refine S.ofLoop (πs := p3) (fun s => ?_) (Int.le_refl _)
  obtain ⟨s1, s2, s3⟩ := s
  simp only
  refine S.ite (fun _ => ?_) (fun _ => S.map (S.pure (Int.le_refl _)))
  refine S.bind (H.level 1 s2 s3) fun x _ hx => ?_
  obtain ⟨x1, x2, x3⟩ := x
  simp only
  refine S.ite (fun _ => ?_) (fun _ => S.none)
  refine S.bind (s_takes W ag k _ x2 x3) fun y _ hy => ?_
  obtain ⟨y1, y2⟩ := y
  simp only
  refine S.ite (fun _ => S.pure (Int.le_refl _)) (fun _ => ?_)
  exact S.bind (s_wants W ag k _ y2 x3) fun z _ hz => S.pure (Int.le_refl _)
theorem sa_word (W : WF l) (ag : ∀ p, p < m → tk l' p = tk l p) {k : Nat} (H : SA l l' m k) (n : TNode) (s : List UInt8) (i : Int) (b : Bool) (hi : i ≤ IntKind.i64.wrap (i + 1)) : S p3 i m (expr_reader_word (k + 1) n s l i b) (expr_reader_word (k + 1) n s l' i b) := by
  rw [expr_reader_word, expr_reader_word]
  simp only [joinK]
  have main : ∀ c : Bool, S p3 i m
      (if c then (if (s == [116, 114, 117, 101]) then some ((TNode.mk 11 n.At 1 n.Name n.Kids), (IntKind.i64.wrap (i + 1)), b) else some ((TNode.mk 11 n.At n.N n.Name n.Kids), (IntKind.i64.wrap (i + 1)), b)) else
       (if (s == [102, 111, 114, 107]) then
        (expr_reader_name k l (IntKind.i64.wrap (i + 1)) b).bind fun x => (expr_reader_args k l x.2.1 x.2.2).bind fun y => some ((TNode.mk 18 n.At n.N x.1 y.1), y.2.1, y.2.2)
        else if (s == [110, 101, 119]) then
        (expr_reader_kind k l (IntKind.i64.wrap (i + 1)) b).bind fun x => (expr_reader_args k l x.2.1 x.2.2).bind fun y => if (room 64 ([x.1].length + y.1.length)) then some ((TNode.mk 19 n.At n.N n.Name ([x.1] ++ y.1)), y.2.1, y.2.2) else none
        else some (n, i, true)))
      (if c then (if (s == [116, 114, 117, 101]) then some ((TNode.mk 11 n.At 1 n.Name n.Kids), (IntKind.i64.wrap (i + 1)), b) else some ((TNode.mk 11 n.At n.N n.Name n.Kids), (IntKind.i64.wrap (i + 1)), b)) else
       (if (s == [102, 111, 114, 107]) then
        (expr_reader_name k l' (IntKind.i64.wrap (i + 1)) b).bind fun x => (expr_reader_args k l' x.2.1 x.2.2).bind fun y => some ((TNode.mk 18 n.At n.N x.1 y.1), y.2.1, y.2.2)
        else if (s == [110, 101, 119]) then
        (expr_reader_kind k l' (IntKind.i64.wrap (i + 1)) b).bind fun x => (expr_reader_args k l' x.2.1 x.2.2).bind fun y => if (room 64 ([x.1].length + y.1.length)) then some ((TNode.mk 19 n.At n.N n.Name ([x.1] ++ y.1)), y.2.1, y.2.2) else none
        else some (n, i, true))) := by
    intro c
    refine S.ite (fun _ => S.ite (fun _ => S.pure hi) (fun _ => S.pure hi)) (fun _ => ?_)
    refine S.ite (fun _ => ?_) (fun _ => S.ite (fun _ => ?_) (fun _ => S.pure (Int.le_refl _)))
    · refine S.le (S.bind (s_name W ag k _ b) fun x _ hx => ?_) hi
      exact S.bind (H.args x.2.1 x.2.2) fun y _ hy => S.pure (Int.le_refl _)
    · refine S.le (S.bind (s_kind W ag k _ b) fun x _ hx => ?_) hi
      exact S.bind (H.args x.2.1 x.2.2) fun y _ hy => S.ite (fun _ => S.pure (Int.le_refl _)) (fun _ => S.none)
  exact S.ite (fun _ => main _) (fun _ => main _)
theorem sa_first (W : WF l) (ag : ∀ p, p < m → tk l' p = tk l p) {k : Nat} (H : SA l l' m k) (i : Int) (b : Bool) : S p3 i m (expr_reader_first (k + 1) l i b) (expr_reader_first (k + 1) l' i b) := by
  rw [expr_reader_first, expr_reader_first]
  refine S.bind (s_look ag k i b) fun t ht _ => ?_
  rw [look_eq] at ht; cases ht
  simp only [joinK]
  refine S.ite (fun hc => S.pure ?_) (fun _ => ?_)
  · have hk : (tk l i).Kind = 2 := by simpa using hc
    have := (W.next (i := i) (by omega)).2.2
    show i ≤ IntKind.i64.wrap (i + 1)
    omega
  refine S.ite (fun _ => ?_) (fun _ => ?_)
  · refine S.bind (s_name W ag k i b) fun x _ hx => ?_
    obtain ⟨x1, x2, x3⟩ := x
    simp only
    refine S.bind (s_is ag k _ _ x2 x3) fun y _ _ => ?_
    refine S.ite (fun _ => ?_) (fun _ => S.pure (Int.le_refl _))
    exact S.bind (H.args x2 x3) fun z _ hz => S.pure (Int.le_refl _)
  · refine S.bind (s_takes W ag k _ i b) fun x hx0 hx => ?_
    obtain ⟨x1, x2⟩ := x
    simp only at hx ⊢
    refine S.ite (fun _ => ?_) (fun hx1 => ?_)
    · refine S.bind (H.level 1 x2 b) fun y _ hy => ?_
      obtain ⟨y1, y2, y3⟩ := y
      simp only
      exact S.bind (s_wants W ag k _ y2 y3) fun z _ hz => S.pure (Int.le_refl _)
    · refine S.ite (fun hc => ?_) (fun _ => S.pure (Int.le_refl _))
      have hx2 : x2 = i := by
        subst hx1
        cases b with
        | true => rw [takes_bad] at hx0; cases hx0; rfl
        | false =>
          rw [takes_eq] at hx0
          cases h : isT (tk l i) 4 [40] with
          | true => rw [h] at hx0; cases hx0
          | false => rw [h] at hx0; cases hx0; rfl
      subst hx2
      have hk : (tk l x2).Kind = 3 := by simpa using hc
      have := (W.next (i := x2) (by omega)).2.2
      exact S.bind (H.word _ _ x2 b (by omega)) fun z _ hz => S.pure (Int.le_refl _)
theorem sa_part (W : WF l) (ag : ∀ p, p < m → tk l' p = tk l p) {k : Nat} (H : SA l l' m k) (i : Int) (b : Bool) : S p3 i m (expr_reader_part (k + 1) l i b) (expr_reader_part (k + 1) l' i b) := by
  rw [expr_reader_part, expr_reader_part]
  refine S.bind (H.first i b) fun x _ hx => ?_
  obtain ⟨x1, x2, x3⟩ := x
  simp only [joinK]
  refine S.ofLoop (πs := fun s : Int × Bool × TNode => s.1) (fun s => ?_) (Int.le_refl _)
  obtain ⟨s1, s2, s3⟩ := s
  simp only
  refine S.ite (fun _ => ?_) (fun _ => S.map (S.pure (Int.le_refl _)))
  refine S.bind (s_look ag k s1 s2) fun t _ _ => ?_
  refine S.bind (s_takes W ag k _ s1 s2) fun x _ hx => ?_
  obtain ⟨x1, x2⟩ := x
  simp only
  refine S.ite (fun _ => ?_) (fun _ => ?_)
  · refine S.bind (H.level 1 x2 s2) fun y _ hy => ?_
    obtain ⟨y1, y2, y3⟩ := y
    simp only
    exact S.bind (s_wants W ag k _ y2 y3) fun z _ hz => S.pure (Int.le_refl _)
  · refine S.bind (s_takes W ag k _ x2 s2) fun y _ hy => ?_
    obtain ⟨y1, y2⟩ := y
    simp only
    refine S.ite (fun _ => ?_) (fun _ => S.pure (Int.le_refl _))
    exact S.bind (s_name W ag k y2 s2) fun z _ hz => S.pure (Int.le_refl _)
theorem sa_factor (W : WF l) (ag : ∀ p, p < m → tk l' p = tk l p) {k : Nat} (H : SA l l' m k) (i : Int) (b : Bool) : S p3 i m (expr_reader_factor (k + 1) l i b) (expr_reader_factor (k + 1) l' i b) := by
  rw [expr_reader_factor, expr_reader_factor]
  refine S.bind (s_look ag k i b) fun t _ _ => ?_
  simp only [joinK]
  refine S.ofLoop (πs := fun s : Int × Int => s.2) (fun s => ?_) (Int.le_refl _)
  obtain ⟨s1, s2⟩ := s
  simp only
  refine S.ite (fun _ => ?_) (fun _ => S.map (S.bind (H.part s2 b) fun z _ hz => S.pure (Int.le_refl _)))
  refine S.bind (π := fun _ => s2) (fun r hr => ⟨Int.le_refl _, fun _ => hr⟩) fun x _ _ => ?_
  refine S.bind (π := fun _ => s2) (fun r hr => ⟨Int.le_refl _, fun _ => hr⟩) fun y _ _ => ?_
  refine S.bind (s_takes W ag k _ s2 b) fun z _ hz => ?_
  obtain ⟨z1, z2⟩ := z
  simp only
  refine S.ite (fun _ => ?_) (fun _ => S.pure (Int.le_refl _))
  exact S.bind (H.factor z2 b) fun u _ hu => S.pure (Int.le_refl _)
theorem sa_level (W : WF l) (ag : ∀ p, p < m → tk l' p = tk l p) {k : Nat} (H : SA l l' m k) (q i : Int) (b : Bool) : S p3 i m (expr_reader_level (k + 1) q l i b) (expr_reader_level (k + 1) q l' i b) := by
  rw [expr_reader_level, expr_reader_level]
  refine S.ite (fun _ => S.bind (H.factor i b) fun z _ hz => S.pure (Int.le_refl _)) (fun _ => ?_)
  refine S.bind (H.level _ i b) fun x _ hx => ?_
  obtain ⟨x1, x2, x3⟩ := x
  simp only [joinK]
  refine S.ofLoop (πs := fun s : Int × Bool × TNode => s.1) (fun s => ?_) (Int.le_refl _)
  obtain ⟨s1, s2, s3⟩ := s
  simp only
  refine S.ite (fun _ => ?_) (fun _ => S.map (S.pure (Int.le_refl _)))
  refine S.bind (s_sign ag k q s1 s2) fun y hy _ => ?_
  refine S.ite (fun _ => S.map (S.pure (Int.le_refl _))) (fun hc => ?_)
  have hk := sign_kind hy (by simpa using hc)
  have hw := (W.next (i := s1) (by omega)).2.2
  refine S.bind (s_look ag k s1 s2) fun t _ _ => ?_
  refine S.le (S.bind (H.level _ _ s2) fun z _ hz => ?_) (show s1 ≤ IntKind.i64.wrap (s1 + 1) by omega)
  obtain ⟨z1, z2, z3⟩ := z
  simp only
  exact S.ite (fun _ => S.map (S.pure (Int.le_refl _))) (fun _ => S.pure (Int.le_refl _))
theorem sa_all (W : WF l) (ag : ∀ p, p < m → tk l' p = tk l p) : ∀ k, SA l l' m k
  | 0 => by
    refine ⟨fun i b => ?_, fun n s i b _ => ?_, fun i b => ?_, fun i b => ?_, fun i b => ?_, fun q i b => ?_⟩
    · rw [expr_reader_args]; exact S.none
    · rw [expr_reader_word]; exact S.none
    · rw [expr_reader_first]; exact S.none
    · rw [expr_reader_part]; exact S.none
    · rw [expr_reader_factor]; exact S.none
    · rw [expr_reader_level]; exact S.none
  | k + 1 => by
    have H := sa_all W ag k
    exact ⟨sa_args W ag H, sa_word W ag H, sa_first W ag H, sa_part W ag H, sa_factor W ag H, sa_level W ag H⟩
end
theorem tk_app {l l1 : List TToken} {n : Nat} (hn : n ≤ l.length) {p : Int} (hp : p < n) : tk (l.take n ++ l1) p = tk l p := by
  unfold tk
  split
  · rename_i h0
    have h1 : p.toNat < n := by omega
    rw [List.getElem?_append_left (by simp; omega), List.getElem?_take, if_pos h1]
  · rfl
theorem goes_holds (s s1 : List UInt8) : Ev (fun k => law13_ExprGoesOn k s s1) true := by
  unfold law13_ExprGoesOn
  refine Ev.bind works_ev ?_
  cases hl : (decide (((s.length : Int)) > 300) || decide (((s1.length : Int)) > 100)) with
  | true =>
    refine Ev.ite_t (by simpa using hl) (Ev.bind works_ev ?_)
    exact Ev.pure
  | false =>
    refine Ev.ite_f (by simpa using hl) ?_
    obtain ⟨⟨l, a, e⟩, h1, h2⟩ := all_ex s
    obtain ⟨⟨l1, a1, e1⟩, g1, g2⟩ := all_ex s1
    refine Ev.bind h1 (Ev.bind g1 ?_)
    simp only
    cases hc : (((e != 0) || (e1 != 0)) || (((l.length : Int)) == 0)) with
    | true => exact Ev.ite_t rfl Ev.pure
    | false =>
      refine Ev.ite_f rfl ?_
      simp at hc
      obtain ⟨⟨rfl, rfl⟩, hc3⟩ := hc
      have W := h2 rfl
      have W1 := g2 rfl
      simp only at W W1
      have hlen := W.len
      have hlen1 := W1.len
      have hpos : 1 ≤ l.length := List.length_pos_iff.2 hc3
      obtain ⟨n, j, mm, ok, e1, e2, e3, e4⟩ := expr_all W 0
      have E : ∀ l2 : List TToken, Ev (eLevel l2 0 1) (n, j, !ok) → Ev (fun k => expr_Expr k l2 0) (if ok then n else zN, j, if ok then 0 else 1) := by
        intro l2 e1
        unfold expr_Expr
        refine Ev.bind e1 ?_
        cases ok
        · simp only [look_eq, Tok_eq, is_eq, takes_eq, takes_bad, wants_eq, wants_bad, name_eq, name_bad, Is_eq, Says_eq, Option.bind_some, Option.map_some, joinK, Bool.not_true, Bool.not_false, Bool.false_eq_true, Bool.or_true, Bool.true_or, Bool.false_or, Bool.or_false, Bool.and_true, Bool.and_false, Bool.true_and, Bool.false_and, ↓reduceIte, if_true, if_false, eq_self, Int.reduceBEq, Int.reduceBNe, bne_self_eq_false, beq_self_eq_true, end_bad]; exact Ev.pure
        · simp only [look_eq, Tok_eq, is_eq, takes_eq, takes_bad, wants_eq, wants_bad, name_eq, name_bad, Is_eq, Says_eq, Option.bind_some, Option.map_some, joinK, Bool.not_true, Bool.not_false, Bool.false_eq_true, Bool.or_true, Bool.true_or, Bool.false_or, Bool.or_false, Bool.and_true, Bool.and_false, Bool.true_and, Bool.false_and, ↓reduceIte, if_true, if_false, eq_self, Int.reduceBEq, Int.reduceBNe, bne_self_eq_false, beq_self_eq_true, end_ok]; exact Ev.pure
      refine Ev.bind (E l e1) ?_
      have hw : IntKind.i64.wrap ((l.length : Int) - 1) = ((l.length - 1 : Nat) : Int) := by rw [wrap64_id (by omega) (by omega)]; omega
      simp only [hw]
      cases ok with
      | true => exact Ev.ite_t rfl Ev.pure
      | false =>
        by_cases hj : j < ((l.length - 1 : Nat) : Int)
        · have hjb : decide (j ≥ ((l.length - 1 : Nat) : Int)) = false := by simpa using hj
          have E2 : Ev (eLevel (l.take (l.length - 1) ++ l1) 0 1) (n, j, !false) := by
            obtain ⟨k0, hk0⟩ := e1
            refine ⟨k0, fun k hk => ?_⟩
            have sa := (sa_all (l' := l.take (l.length - 1) ++ l1) (m := ((l.length - 1 : Nat) : Int)) W (fun p hp => tk_app (by omega) hp) k).level 1 0 false _ (hk0 k hk)
            exact sa.2 hj
          refine Ev.ite_f (by rw [hjb]; rfl) (Ev.bindS (x := l.take (l.length - 1)) (fun k => ?_) ?_)
          · unfold sub
            rw [if_pos ⟨by omega, by omega, by omega⟩]; simp
          · refine Ev.ite_t (room_of (by omega) (by simp; omega)) (Ev.ite_t (room_of (by omega) (by simp; omega)) ?_)
            rw [List.nil_append]
            refine Ev.bind (E _ E2) ?_
            simp only [look_eq, Tok_eq, is_eq, takes_eq, takes_bad, wants_eq, wants_bad, name_eq, name_bad, Is_eq, Says_eq, Option.bind_some, Option.map_some, joinK, Bool.not_true, Bool.not_false, Bool.false_eq_true, Bool.or_true, Bool.true_or, Bool.false_or, Bool.or_false, Bool.and_true, Bool.and_false, Bool.true_and, Bool.false_and, ↓reduceIte, if_true, if_false, eq_self, Int.reduceBEq, Int.reduceBNe, bne_self_eq_false, beq_self_eq_true]; exact Ev.pure
        · exact Ev.ite_t (by simp; omega) Ev.pure
end Go.Proofs.YtbhncegmohnfhaaDoor.F
