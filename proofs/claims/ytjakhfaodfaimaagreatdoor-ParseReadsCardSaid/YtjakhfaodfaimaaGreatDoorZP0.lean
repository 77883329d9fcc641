/- The plain law. No condition. -/
import Derived.Test.YtjakhfaodfaimaaGreatDoorZA1
import Derived.Test.YtjakhfaodfaimaaGreatDoorZF0
set_option linter.unusedVariables false
namespace Go.Proofs.YtjakhfaodfaimaaGreatDoor.F
open Go
def Ev {α : Type} (g : Nat → Option α) (x : α) : Prop := ∃ k0, ∀ k, k0 ≤ k → g k = some x
def EvL {σ ρ : Type} (body : Nat → σ → Option (σ ⊕ ρ)) (s : σ) (r : ρ) : Prop := ∃ k0, ∀ k j, k0 ≤ k → k0 ≤ j → loopM j (body k) s = some r
section
variable {α β σ ρ : Type}
theorem Ev.of {g : Nat → Option α} {x : α} (h : ∀ k, g k = some x) : Ev g x := ⟨0, fun k _ => h k⟩
theorem Ev.at {g : Nat → Option α} {x : α} (n : Nat) (h : ∀ k, g (k + n) = some x) : Ev g x := ⟨n, fun k hk => by have := h (k - n); rwa [show k - n + n = k by omega] at this⟩
theorem Ev.pure {x : α} : Ev (fun _ => some x) x := ⟨0, fun _ _ => rfl⟩
theorem Ev.bind {g : Nat → Option α} {f : Nat → α → Option β} {x : α} {y : β} (h : Ev g x) (h2 : Ev (fun k => f k x) y) : Ev (fun k => (g k).bind (f k)) y := by
  obtain ⟨k1, h1⟩ := h
  obtain ⟨k2, h2⟩ := h2
  exact ⟨max k1 k2, fun k hk => by show (g k).bind (f k) = _; rw [h1 k (by omega)]; exact h2 k (by omega)⟩
theorem Ev.bindS {g : Nat → Option α} {f : Nat → α → Option β} {x : α} {y : β} (h : ∀ k, g k = some x) (h2 : Ev (fun k => f k x) y) : Ev (fun k => (g k).bind (f k)) y := Ev.bind (Ev.of h) h2
theorem Ev.ite_t {c : Bool} {A B : Nat → Option α} {x : α} (hc : c = true) (h : Ev A x) : Ev (fun k => if c = true then A k else B k) x := by
  obtain ⟨k1, h1⟩ := h
  exact ⟨k1, fun k hk => by show (if c = true then A k else B k) = _; rw [if_pos hc]; exact h1 k hk⟩
theorem Ev.ite_f {c : Bool} {A B : Nat → Option α} {x : α} (hc : c = false) (h : Ev B x) : Ev (fun k => if c = true then A k else B k) x := by
  obtain ⟨k1, h1⟩ := h
  exact ⟨k1, fun k hk => by show (if c = true then A k else B k) = _; rw [if_neg (by rw [hc]; simp)]; exact h1 k hk⟩
theorem Ev.map {g : Nat → Option ρ} {r : ρ} (h : Ev g r) : Ev (fun k => (g k).map (Sum.inr (α := σ))) (.inr r) := by
  obtain ⟨k1, h1⟩ := h
  exact ⟨k1, fun k hk => by show (g k).map _ = _; rw [h1 k hk]; rfl⟩
theorem Ev.succ {g h : Nat → Option α} {x : α} (e : ∀ k, g (k + 1) = h k) (hh : Ev h x) : Ev g x := by
  obtain ⟨k1, h1⟩ := hh
  refine ⟨k1 + 1, fun k hk => ?_⟩
  obtain ⟨k, rfl⟩ : ∃ j, k = j + 1 := ⟨k - 1, by omega⟩
  rw [e]; exact h1 k (by omega)
theorem Ev.congr {g h : Nat → Option α} {x : α} (e : ∀ k, g k = h k) (hh : Ev h x) : Ev g x := by
  obtain ⟨k1, h1⟩ := hh
  exact ⟨k1, fun k hk => by rw [e]; exact h1 k hk⟩
theorem Ev.eq {g : Nat → Option α} {x y : α} (h : Ev g x) (e : x = y) : Ev g y := e ▸ h
theorem EvL.done {body : Nat → σ → Option (σ ⊕ ρ)} {s : σ} {r : ρ} (h : Ev (fun k => body k s) (.inr r)) : EvL body s r := by
  obtain ⟨k1, h1⟩ := h
  refine ⟨k1 + 1, fun k j hk hj => ?_⟩
  obtain ⟨j, rfl⟩ : ∃ i, j = i + 1 := ⟨j - 1, by omega⟩
  have := h1 k (by omega)
  simp only at this
  rw [loopM_step, this]
theorem EvL.step {body : Nat → σ → Option (σ ⊕ ρ)} {s s' : σ} {r : ρ} (h : Ev (fun k => body k s) (.inl s')) (h2 : EvL body s' r) : EvL body s r := by
  obtain ⟨k1, h1⟩ := h
  obtain ⟨k2, h2⟩ := h2
  refine ⟨k1 + k2 + 1, fun k j hk hj => ?_⟩
  obtain ⟨j, rfl⟩ : ∃ i, j = i + 1 := ⟨j - 1, by omega⟩
  have := h1 k (by omega)
  simp only at this
  rw [loopM_step, this]
  exact h2 k j (by omega) (by omega)
theorem Ev.loop {body : Nat → σ → Option (σ ⊕ ρ)} {s : σ} {r : ρ} (h : EvL body s r) : Ev (fun k => loopM k (body k) s) r := by
  obtain ⟨k1, h1⟩ := h
  exact ⟨k1, fun k hk => h1 k k hk hk⟩
theorem Ev.joinK {J : Nat → α → Option ρ} {B : Nat → (α → Option ρ) → Option ρ} {r : ρ} (h : Ev (fun k => B k (J k)) r) : Ev (fun k => F.joinK (J k) (B k)) r := h
theorem Ev.uniq {g : Nat → Option α} {x y : α} (h : Ev g x) (h2 : Ev g y) : x = y := by
  obtain ⟨k1, h1⟩ := h
  obtain ⟨k2, h2⟩ := h2
  have a := h1 (max k1 k2) (by omega)
  have b := h2 (max k1 k2) (by omega)
  rw [a] at b; exact Option.some.inj b
end
theorem Ev.succ1 {α : Type} {f : Nat → Option α} {x : α} (h : Ev (fun k => f (k + 1)) x) : Ev f x := Ev.succ (fun _ => rfl) h
theorem loop_ex {σ ρ : Type} {body : Nat → σ → Option (σ ⊕ ρ)} (Inv : σ → Prop) (m : σ → Nat) (Q : ρ → Prop)
    (h : ∀ s, Inv s → (∃ r, Ev (fun k => body k s) (.inr r) ∧ Q r) ∨ (∃ s', Ev (fun k => body k s) (.inl s') ∧ Inv s' ∧ m s' < m s)) :
    ∀ s, Inv s → ∃ r, EvL body s r ∧ Q r := by
  intro s
  induction hn : m s using Nat.strongRecOn generalizing s with
  | _ n ih =>
  intro hs
  rcases h s hs with ⟨r, h1, h2⟩ | ⟨s', h1, h2, h3⟩
  · exact ⟨r, EvL.done h1, h2⟩
  · obtain ⟨r, g1, g2⟩ := ih (m s') (by omega) s' rfl h2
    exact ⟨r, EvL.step h1 g1, g2⟩
theorem ix_of {α : Type} {l : List α} {i : Int} {x : α} (h0 : 0 ≤ i) (h : l[i.toNat]? = some x) : ix l i = some x := by unfold ix; rw [if_pos h0]; exact h
theorem ix_nat {α : Type} {l : List α} {i : Nat} (h : i < l.length) : ix l (i : Int) = some l[i] := by unfold ix; rw [if_pos (by omega)]; simp [h]
theorem room_of {b n : Nat} (h0 : 0 < b) (h : (2 * n + 1024) * b ≤ 140737488355328) : room b n = true := by unfold room; exact decide_eq_true ⟨h0, h⟩
theorem qb : ((!true) = false) ∧ ((!false) = true) ∧ ((false = true) = False) ∧ (∀ b : Bool, (b || true) = true) ∧ (∀ b : Bool, (true || b) = true) ∧ (∀ b : Bool, (false || b) = b) ∧ (∀ b : Bool, (b || false) = b) ∧
    (∀ b : Bool, (b && true) = b) ∧ (∀ b : Bool, (b && false) = false) ∧ (∀ b : Bool, (true && b) = b) ∧ (∀ b : Bool, (false && b) = false) ∧ (∀ a : Int, (a == a) = true) ∧ (∀ a : Int, (a != a) = false) ∧
    (∀ a : List UInt8, (a == a) = true) ∧ (∀ a : Bool, (a == a) = true) := by
  refine ⟨rfl, rfl, by simp, ?_, ?_, ?_, ?_, ?_, ?_, ?_, ?_, ?_, ?_, ?_, ?_⟩ <;> intro b <;> simp
end Go.Proofs.YtjakhfaodfaimaaGreatDoor.F
set_option linter.unusedSimpArgs false
namespace Go.Proofs.YtjakhfaodfaimaaGreatDoor.F
open Go
def tk (l : List TToken) (i : Int) : TToken := if 0 ≤ i then (l[i.toNat]?).getD ⟨0, 0, 0, []⟩ else ⟨0, 0, 0, []⟩
def isT (t : TToken) (kind : Int) (s : List UInt8) : Bool := (t.Kind == kind) && (t.Text == s)
theorem tk_in {l : List TToken} {i : Int} (h : (tk l i).Kind ≠ 0) : 0 ≤ i ∧ i < l.length := by
  unfold tk at h
  split at h
  · rename_i h0
    refine ⟨h0, ?_⟩
    cases hx : l[i.toNat]? with
    | none => rw [hx] at h; exact (h rfl).elim
    | some x => have := (List.getElem?_eq_some_iff.1 hx).1; omega
  · exact (h rfl).elim
theorem tok_body (l : List TToken) (i : Int) {k : Nat} : (if ((decide (i < 0)) || (decide (i ≥ ((l.length : Int))))) then some (TToken.mk 0 0 0 []) else (ix l i).bind fun x => some x) = some (tk l i) := by
  unfold tk
  by_cases h0 : 0 ≤ i
  · rw [if_pos h0]
    by_cases h1 : i < l.length
    · rw [if_neg (by simp; omega)]
      have : l[i.toNat]? = some l[i.toNat] := List.getElem?_eq_getElem (by omega)
      rw [ix_of h0 this, this]; rfl
    · rw [if_pos (by simp; omega), List.getElem?_eq_none (by omega)]; rfl
  · rw [if_neg h0, if_pos (by simp; omega)]
theorem Tok_eq (k : Nat) (l : List TToken) (i : Int) : ref13_Tok k l i = some (tk l i) := tok_body l i (k := k)
theorem look_eq (k : Nat) (l : List TToken) (i : Int) (b : Bool) : expr_reader_look k l i b = some (tk l i) := tok_body l i (k := k)
theorem Says_eq (k : Nat) (l : List TToken) (i : Int) (s : List UInt8) : ref13_Says k l i s = some (isT (tk l i) 3 s) := by unfold ref13_Says; rw [Tok_eq]; rfl
theorem Is_eq (k : Nat) (l : List TToken) (i : Int) (s : List UInt8) : ref13_Is k l i s = some (isT (tk l i) 4 s) := by unfold ref13_Is; rw [Tok_eq]; rfl
theorem is_eq (k : Nat) (kd : Int) (s : List UInt8) (l : List TToken) (i : Int) (b : Bool) : expr_reader_is k kd s l i b = some (isT (tk l i) kd s) := by unfold expr_reader_is; rw [look_eq]; rfl
theorem takes_bad (k : Nat) (s : List UInt8) (l : List TToken) (i : Int) : expr_reader_takes k s l i true = some (false, i) := rfl
theorem takes_eq (k : Nat) (s : List UInt8) (l : List TToken) (i : Int) : expr_reader_takes k s l i false = some (if isT (tk l i) 4 s then (true, IntKind.i64.wrap (i + 1)) else (false, i)) := by
  unfold expr_reader_takes joinK
  simp only [Bool.false_eq_true, if_false, is_eq, Option.bind_some]
  cases isT (tk l i) 4 s <;> rfl
theorem wants_bad (k : Nat) (s : List UInt8) (l : List TToken) (i : Int) : expr_reader_wants k s l i true = some (i, true) := rfl
theorem wants_eq (k : Nat) (s : List UInt8) (l : List TToken) (i : Int) : expr_reader_wants k s l i false = some (if isT (tk l i) 4 s then (IntKind.i64.wrap (i + 1), false) else (i, true)) := by
  unfold expr_reader_wants
  rw [takes_eq]
  cases isT (tk l i) 4 s <;> rfl
theorem name_bad (k : Nat) (l : List TToken) (i : Int) : expr_reader_name k l i true = some ([], i, true) := by unfold expr_reader_name; rw [look_eq]; rfl
theorem name_eq (k : Nat) (l : List TToken) (i : Int) : expr_reader_name k l i false = some (if (tk l i).Kind != 1 then ([], i, true) else ((tk l i).Text, IntKind.i64.wrap (i + 1), false)) := by
  unfold expr_reader_name
  rw [look_eq]
  simp only [Option.bind_some, Bool.false_or]
  cases h : (tk l i).Kind != 1 <;> simp [h]
theorem qe : (∀ k l i b, expr_reader_look k l i b = some (tk l i)) ∧ (∀ k l i, ref13_Tok k l i = some (tk l i)) ∧ (∀ k kd s l i b, expr_reader_is k kd s l i b = some (isT (tk l i) kd s)) ∧
    (∀ k s l i, expr_reader_takes k s l i false = some (if isT (tk l i) 4 s then (true, IntKind.i64.wrap (i + 1)) else (false, i))) ∧ (∀ k s l i, expr_reader_takes k s l i true = some (false, i)) ∧
    (∀ k s l i, expr_reader_wants k s l i false = some (if isT (tk l i) 4 s then (IntKind.i64.wrap (i + 1), false) else (i, true))) ∧ (∀ k s l i, expr_reader_wants k s l i true = some (i, true)) ∧
    (∀ k l i, expr_reader_name k l i false = some (if (tk l i).Kind != 1 then ([], i, true) else ((tk l i).Text, IntKind.i64.wrap (i + 1), false))) ∧ (∀ k l i, expr_reader_name k l i true = some ([], i, true)) ∧
    (∀ k l i s, ref13_Is k l i s = some (isT (tk l i) 4 s)) ∧ (∀ k l i s, ref13_Says k l i s = some (isT (tk l i) 3 s)) :=
  ⟨look_eq, Tok_eq, is_eq, takes_eq, takes_bad, wants_eq, wants_bad, name_eq, name_bad, Is_eq, Says_eq⟩
structure WF (l : List TToken) : Prop where
  len : l.length ≤ 100000
  last : ∀ p : Int, p + 1 = l.length → (tk l p).Kind = 0
  names : ∀ p : Int, (tk l p).Kind = 1 → Ev (fun k => ref11_Named k (tk l p).Text) true
  nums : ∀ p : Int, (tk l p).Kind = 2 → 0 ≤ (tk l p).N
theorem WF.next {l : List TToken} (h : WF l) {i : Int} (hk : (tk l i).Kind ≠ 0) : 0 ≤ i ∧ i + 1 < l.length ∧ IntKind.i64.wrap (i + 1) = i + 1 := by
  obtain ⟨h1, h2⟩ := tk_in hk
  have h3 : i + 1 ≠ l.length := fun e => hk (h.last i e)
  have := h.len
  exact ⟨h1, by omega, wrap64_id (by omega) (by omega)⟩
theorem isT_kind {t : TToken} {k : Int} {s : List UInt8} (h : isT t k s = true) : t.Kind = k ∧ t.Text = s := by unfold isT at h; simpa using h
theorem isT_ne {t : TToken} {k : Int} {s : List UInt8} (h : t.Kind ≠ k) : isT t k s = false := by unfold isT; simp [h]
theorem isT_txt {t : TToken} {k : Int} {s : List UInt8} (h : t.Text ≠ s) : isT t k s = false := by unfold isT; simp [h]
abbrev GE (n : TNode) : Prop := Ev (fun k => ref11_Expr k n) true
abbrev GT (n : TNode) : Prop := Ev (fun k => ref11_Type k n) true
theorem exprs_good : ∀ (l m : List TNode), (∀ n ∈ l, GE n) → m.length + l.length ≤ 1000000 → EvL (σ := Int) (ρ := Bool) (fun k (l1_3 : Int) =>
    if (decide (l1_3 < (((m ++ l).length : Int)))) then
    (ix (m ++ l) l1_3).bind fun x4_2 =>
    (ref11_Expr k x4_2).bind fun x4_4 =>
    if (!x4_4) then
    some (.inr false)
    else
    some (.inl (IntKind.i64.wrap (l1_3 + 1)))
    else
    (some true).map .inr) (m.length : Int) true
  | [], m, _, _ => EvL.done (Ev.ite_f (by simp) (Ev.of fun _ => rfl))
  | n :: l, m, h, hl => by
    have ih := exprs_good l (m ++ [n]) (fun x hx => h x (by simp [hx])) (by simp at hl ⊢; omega)
    refine EvL.step (Ev.ite_t (by simp; omega) ?_) (s' := ((m ++ [n]).length : Int)) ?_
    · refine Ev.bindS (x := n) (fun k => ix_of (by omega) (by simp)) ?_
      refine Ev.bind (h n (by simp)) (Ev.ite_f rfl (Ev.eq Ev.pure ?_))
      rw [wrap64_id (by omega) (by simp at hl; omega)]; simp
    · simpa using ih
theorem exprs_all {l : List TNode} (h : ∀ n ∈ l, GE n) (hl : l.length ≤ 1000000) : Ev (fun k => ref11_exprs k l) true := by
  refine Ev.succ (fun k => by rw [ref11_exprs]) ?_
  refine Ev.joinK (Ev.loop ?_)
  have := exprs_good l [] h (by simpa using hl)
  simpa using this
end Go.Proofs.YtjakhfaodfaimaaGreatDoor.F
namespace Go.Proofs.YtjakhfaodfaimaaGreatDoor.F
open Go
abbrev Nm (s : List UInt8) : Prop := Ev (fun k => ref11_Named k s) true
theorem Type_eq (k : Nat) (n : TNode) : ref11_Type (k + 1) n = (if (n.N != 0) then some false else if (n.Kind == 4) then (ref11_Named k n.Name).bind fun x4_2 => some (x4_2 && (((n.Kids.length : Int)) == 0)) else
    if (!(n.Name == [])) then some false else if (n.Kind == 5) then
    joinK (fun (g8_10_34 : Bool) => some g8_10_34) fun j_g8_10 => if (((n.Kids.length : Int)) == 1) then (ix n.Kids 0).bind fun x8_7 => (ref11_Type k x8_7).bind fun x8_9 => j_g8_10 x8_9 else j_g8_10 false
    else some (((decide (n.Kind ≥ 1)) && (decide (n.Kind ≤ 3))) && (((n.Kids.length : Int)) == 0))) := by rw [ref11_Type]
theorem gt_rec (a : Int) {s : List UInt8} (h : Nm s) : GT ⟨4, a, 0, s, []⟩ := by
  refine Ev.succ (fun k => Type_eq k _) ?_
  refine Ev.ite_f rfl (Ev.ite_t rfl (Ev.bind h (Ev.of fun _ => rfl)))
theorem gt_one (a : Int) {k : Int} (h : 1 ≤ k ∧ k ≤ 3) : GT ⟨k, a, 0, [], []⟩ := by
  refine Ev.succ (fun j => Type_eq j _) ?_
  refine Ev.ite_f rfl (Ev.ite_f (by simp; omega) (Ev.ite_f rfl (Ev.ite_f (by simp; omega) (Ev.of fun _ => ?_))))
  simp; omega
theorem gt_arr (a : Int) {n : TNode} (h : GT n) : GT ⟨5, a, 0, [], [n]⟩ := by
  refine Ev.succ (fun j => Type_eq j _) ?_
  refine Ev.ite_f rfl (Ev.ite_f rfl (Ev.ite_f rfl (Ev.ite_t rfl ?_)))
  exact Ev.joinK (Ev.ite_t rfl (Ev.bindS (x := n) (fun _ => rfl) (Ev.bind h (Ev.of fun _ => rfl))))
theorem Expr_eq (k : Nat) (a0 : TNode) : ref11_Expr (k + 1) a0 = (if (a0.Kind == 19) then
    (ref11_alone k a0).bind fun x3_1 =>
    joinK (fun (g3_12_22 : Bool) =>
    joinK (fun (g3_18_28 : Bool) =>
    some g3_18_28) fun j_g3_18 =>
    if g3_12_22 then
    (sub a0.Kids 1 (a0.Kids.length : Int)).bind fun x3_16 =>
    (ref11_exprs k x3_16).bind fun x3_17 =>
    j_g3_18 x3_17
    else
    j_g3_18 false) fun j_g3_12 =>
    if (x3_1 && (decide ((a0.Kids.length : Int) > 0))) then
    (ix a0.Kids 0).bind fun x3_9 =>
    (ref11_Type k x3_9).bind fun x3_11 =>
    j_g3_12 x3_11
    else
    j_g3_12 false
    else
    (ref11_exprs k a0.Kids).bind fun x4_2 =>
    if (!x4_2) then
    some false
    else
    if ((a0.Kind == 10) || (a0.Kind == 11)) then
    some (((((a0.Kids.length : Int) == 0) && (a0.Name == [])) && (decide (a0.N ≥ 0))) && ((a0.Kind == 10) || (decide (a0.N ≤ 1))))
    else
    if ((a0.Kind == 15) || (a0.Kind == 16)) then
    if (a0.Kind == 15) then
    some ((((a0.Kids.length : Int) == 1) && (a0.Name == [])) && ((a0.N == 2) || (a0.N == 14)))
    else
    joinK (fun (g11_12_103 : Bool) =>
    some g11_12_103) fun j_g11_12 =>
    if (((a0.Kids.length : Int) == 2) && (a0.Name == [])) then
    (ref09_Bind k a0.N).bind fun x11_10 =>
    j_g11_12 (decide (x11_10 > 0))
    else
    j_g11_12 false
    else
    if (a0.Kind == 13) then
    joinK (fun (g13_5_112 : Bool) =>
    some g13_5_112) fun j_g13_5 =>
    if ((a0.Kids.length : Int) == 2) then
    (ref11_alone k a0).bind fun x13_4 =>
    j_g13_5 x13_4
    else
    j_g13_5 false
    else
    joinK (fun (g14_8_121 : Bool) =>
    if g14_8_121 then
    some false
    else
    some (((((a0.Kind == 12) && ((a0.Kids.length : Int) == 0)) || ((a0.Kind == 14) && ((a0.Kids.length : Int) == 1))) || (a0.Kind == 17)) || (a0.Kind == 18))) fun j_g14_8 =>
    if (a0.N != 0) then
    j_g14_8 true
    else
    (ref11_Named k a0.Name).bind fun x14_6 =>
    j_g14_8 (!x14_6)) := by rw [ref11_Expr]
theorem exprs_nil : Ev (fun k => ref11_exprs k []) true := exprs_all (by simp) (by simp)
theorem exprs_one {a : TNode} (h : GE a) : Ev (fun k => ref11_exprs k [a]) true := exprs_all (by simpa using h) (by simp)
theorem exprs_two {a b : TNode} (h : GE a) (h2 : GE b) : Ev (fun k => ref11_exprs k [a, b]) true := exprs_all (by simp; exact ⟨h, h2⟩) (by simp)
theorem ge_num (a : Int) {n : Int} (h : 0 ≤ n) : GE ⟨10, a, n, [], []⟩ := by
  refine Ev.succ (fun k => Expr_eq k _) (Ev.ite_f rfl (Ev.bind exprs_nil (Ev.ite_f rfl (Ev.ite_t rfl (Ev.of fun _ => ?_)))))
  simp [h]
theorem ge_flag (a : Int) {n : Int} (h : n = 0 ∨ n = 1) : GE ⟨11, a, n, [], []⟩ := by
  refine Ev.succ (fun k => Expr_eq k _) (Ev.ite_f rfl (Ev.bind exprs_nil (Ev.ite_f rfl (Ev.ite_t rfl (Ev.of fun _ => ?_)))))
  rcases h with rfl | rfl <;> simp
theorem ge_un (a : Int) {s : Int} {n : TNode} (h : s = 2 ∨ s = 14) (hn : GE n) : GE ⟨15, a, s, [], [n]⟩ := by
  refine Ev.succ (fun k => Expr_eq k _) (Ev.ite_f rfl (Ev.bind (exprs_one hn) (Ev.ite_f rfl (Ev.ite_f rfl (Ev.ite_t rfl (Ev.ite_t rfl (Ev.of fun _ => ?_)))))))
  rcases h with rfl | rfl <;> simp
theorem ge_bin (a : Int) {s b : Int} {n m : TNode} (h : ∀ k, ref09_Bind k s = some b) (hb : 0 < b) (hn : GE n) (hm : GE m) : GE ⟨16, a, s, [], [n, m]⟩ := by
  refine Ev.succ (fun k => Expr_eq k _) (Ev.ite_f rfl (Ev.bind (exprs_two hn hm) (Ev.ite_f rfl (Ev.ite_f rfl (Ev.ite_t rfl (Ev.ite_f rfl ?_))))))
  refine Ev.joinK (Ev.ite_t rfl (Ev.bindS h (Ev.of fun _ => ?_)))
  simp [hb]
theorem ge_index (a : Int) {n m : TNode} (hn : GE n) (hm : GE m) : GE ⟨13, a, 0, [], [n, m]⟩ := by
  refine Ev.succ (fun k => Expr_eq k _) (Ev.ite_f rfl (Ev.bind (exprs_two hn hm) (Ev.ite_f rfl (Ev.ite_f rfl (Ev.ite_f rfl (Ev.ite_t rfl ?_))))))
  exact Ev.joinK (Ev.ite_t rfl (Ev.bindS (fun _ => rfl) (Ev.of fun _ => rfl)))
theorem ge_named (kd a : Int) {s : List UInt8} {l : List TNode} (hs : Nm s) (hl : ∀ n ∈ l, GE n) (hn : l.length ≤ 1000000) (hk : (kd = 12 ∧ l = []) ∨ (kd = 14 ∧ l.length = 1) ∨ kd = 17 ∨ kd = 18) : GE ⟨kd, a, 0, s, l⟩ := by
  have h1 : kd ≠ 19 ∧ kd ≠ 10 ∧ kd ≠ 11 ∧ kd ≠ 15 ∧ kd ≠ 16 ∧ kd ≠ 13 := by omega
  obtain ⟨h1, h2, h3, h4, h5, h6⟩ := h1
  refine Ev.succ (fun k => Expr_eq k _) (Ev.ite_f (by simpa using h1) (Ev.bind (exprs_all hl hn) (Ev.ite_f rfl (Ev.ite_f (by simp [h2, h3]) (Ev.ite_f (by simp [h4, h5]) (Ev.ite_f (by simpa using h6) ?_))))))
  refine Ev.joinK (Ev.ite_f rfl (Ev.bind hs (Ev.of fun _ => ?_)))
  rcases hk with ⟨rfl, rfl⟩ | ⟨rfl, hk⟩ | rfl | rfl <;> simp_all
theorem ge_new (a : Int) {t : TNode} {l : List TNode} (ht : GT t) (hl : ∀ n ∈ l, GE n) (hn : l.length ≤ 1000000) : GE ⟨19, a, 0, [], t :: l⟩ := by
  refine Ev.succ (fun k => Expr_eq k _) (Ev.ite_t rfl (Ev.bindS (fun _ => rfl) ?_))
  refine Ev.joinK (Ev.ite_t (by simp) (Ev.bindS (x := t) (fun _ => rfl) (Ev.bind ht ?_)))
  refine Ev.joinK (Ev.ite_t rfl (Ev.bindS (x := l) (fun _ => ?_) (Ev.bind (exprs_all hl hn) (Ev.of fun _ => rfl))))
  unfold sub
  rw [if_pos (by simp; omega)]
  simp
theorem Placed_eq (k : Nat) (a0 a1 : TNode) : ref13_Placed (k + 1) a0 a1 = (if (((((a0.Kind != a1.Kind) || (a0.At != a1.At)) || (a0.N != a1.N)) || (!(a0.Name == a1.Name))) || (((a0.Kids.length : Int)) != ((a1.Kids.length : Int)))) then
    some false
    else
    joinK (fun (_ : Unit) =>
    some true) fun j_j0 =>
    loopM k (fun (l1_5 : Int) =>
    if (decide (l1_5 < ((a0.Kids.length : Int)))) then
    (ix a0.Kids l1_5).bind fun x6_3 =>
    (ix a1.Kids l1_5).bind fun x6_8 =>
    (ref13_Placed k x6_3 x6_8).bind fun x6_10 =>
    if (!x6_10) then
    some (.inr false)
    else
    some (.inl (IntKind.i64.wrap (l1_5 + 1)))
    else
    (j_j0 ()).map .inr) 0) := by rw [ref13_Placed]
inductive Wide : TNode → Prop
  | mk {n : TNode} (h : ∀ x ∈ n.Kids, Wide x) (hl : n.Kids.length ≤ 1000000) : Wide n
theorem placed_self {n : TNode} (h : Wide n) : Ev (fun k => ref13_Placed k n n) true := by
  induction h with
  | @mk n h hl ih =>
    refine Ev.succ (fun k => Placed_eq k _ _) (Ev.ite_f (by simp) (Ev.joinK (Ev.loop ?_)))
    have key : ∀ (l m : List TNode), n.Kids = m ++ l → EvL (σ := Int) (ρ := Bool) (fun k (l1_5 : Int) =>
        if (decide (l1_5 < ((n.Kids.length : Int)))) then
        (ix n.Kids l1_5).bind fun x6_3 =>
        (ix n.Kids l1_5).bind fun x6_8 =>
        (ref13_Placed k x6_3 x6_8).bind fun x6_10 =>
        if (!x6_10) then
        some (.inr false)
        else
        some (.inl (IntKind.i64.wrap (l1_5 + 1)))
        else
        (some true).map .inr) (m.length : Int) true := by
      intro l
      induction l with
      | nil => intro m hm; exact EvL.done (Ev.ite_f (by rw [hm]; simp) (Ev.of fun _ => rfl))
      | cons x l ihl =>
        intro m hm
        have hx : x ∈ n.Kids := by rw [hm]; simp
        have hlen : n.Kids.length = m.length + (l.length + 1) := by rw [hm]; simp
        have hix : ix n.Kids (m.length : Int) = some x := ix_of (by omega) (by rw [hm]; simp)
        refine EvL.step (Ev.ite_t (by simp; omega) (Ev.bindS (fun _ => hix) (Ev.bindS (fun _ => hix) (Ev.bind (ih x hx) (Ev.ite_f rfl Ev.pure))))) ?_
        rw [wrap64_id (by omega) (by omega)]
        have := ihl (m ++ [x]) (by rw [hm]; simp)
        simpa using this
    exact key n.Kids [] rfl
end Go.Proofs.YtjakhfaodfaimaaGreatDoor.F
set_option maxRecDepth 100000
set_option maxHeartbeats 4000000
namespace Go.Proofs.YtjakhfaodfaimaaGreatDoor.F
open Go
theorem scan_to {ρ : Type} {body : Nat → Int → Option (Int ⊕ ρ)} {r : ρ} : ∀ (d i : Nat), (∀ p : Nat, i ≤ p → p < i + d → Ev (fun k => body k (p : Int)) (.inl ((p + 1 : Nat) : Int))) → Ev (fun k => body k ((i + d : Nat) : Int)) (.inr r) → EvL body (i : Int) r
  | 0, i, _, h2 => EvL.done h2
  | d + 1, i, h, h2 => EvL.step (h i (by omega) (by omega)) (scan_to d (i + 1) (fun p a b => h p (by omega) (by omega)) (by rw [show i + 1 + d = i + (d + 1) by omega]; exact h2))
theorem stretch (P : Nat → Bool) (n : Nat) : ∀ (e i : Nat), i + e = n → ∃ d, i + d ≤ n ∧ (∀ p, i ≤ p → p < i + d → P p = true) ∧ (i + d = n ∨ P (i + d) = false)
  | 0, i, h => ⟨0, by omega, fun p a b => by omega, .inl (by omega)⟩
  | e + 1, i, h => by
    cases hp : P i with
    | false => exact ⟨0, by omega, fun p a b => by omega, .inr hp⟩
    | true =>
      obtain ⟨d, h1, h2, h3⟩ := stretch P n e (i + 1) (by omega)
      refine ⟨d + 1, by omega, fun p a b => ?_, ?_⟩
      · by_cases hpi : p = i
        · rw [hpi]; exact hp
        · exact h2 p (by omega) (by omega)
      · rw [show i + (d + 1) = i + 1 + d by omega]; exact h3
def bt (s : List UInt8) (p : Nat) : UInt8 := (s[p]?).getD 0
theorem ix_bt {s : List UInt8} {p : Nat} (h : p < s.length) : ix s (p : Int) = some (bt s p) := by
  rw [ix_nat h]; unfold bt; simp [h]
def cls (a0 : Int) : Int :=
    if (((a0 == 95) || ((decide (a0 ≥ 97)) && (decide (a0 ≤ 122)))) || ((decide (a0 ≥ 65)) && (decide (a0 ≤ 90)))) then 1 else
    if ((decide (a0 ≥ 48)) && (decide (a0 ≤ 57))) then 2 else
    if ((((a0 == 32) || (a0 == 9)) || (a0 == 10)) || (a0 == 13)) then 3 else
    if (a0 == 35) then 4 else 0
theorem class_eq (k : Nat) (a : Int) : ref10_class k a = some (cls a) := by
  unfold ref10_class cls
  repeat' split
  all_goals first | rfl | simp_all
abbrev cl (s : List UInt8) (p : Nat) : Int := cls ((bt s p).toNat : Int)
def isW (s : List UInt8) (p : Nat) : Bool := (cl s p == 1) || (cl s p == 2)
def cut (s : List UInt8) (i d : Nat) : List UInt8 := (s.take (i + d)).drop i
theorem cut_len {s : List UInt8} {i d : Nat} (h : i + d ≤ s.length) : (cut s i d).length = d := by unfold cut; simp; omega
theorem sub_cut {s : List UInt8} {i d : Nat} (h : i + d ≤ s.length) : sub s (i : Int) ((i + d : Nat) : Int) = some (cut s i d) := by
  unfold sub cut
  rw [if_pos ⟨by omega, by omega, by omega⟩]
  rw [Int.toNat_natCast, Int.toNat_natCast]
theorem bt_cut {s : List UInt8} {i d p : Nat} (h : i + d ≤ s.length) (hp : p < d) : bt (cut s i d) p = bt s (i + p) := by
  unfold bt cut
  rw [List.getElem?_drop, List.getElem?_take]
  rw [if_pos (by omega)]
theorem cut_all (s : List UInt8) : cut s 0 s.length = s := by unfold cut; simp
def wordsL : List (List UInt8) := [[114, 101, 99], [105, 115, 111], [102, 117, 110], [109, 101, 114, 103, 101], [109, 97, 105, 110], [118, 97, 114], [105, 102], [101, 108, 115, 101], [119, 104, 105, 108, 101], [114, 101, 116, 117, 114, 110], [102, 111, 114, 107], [106, 111, 105, 110], [112, 114, 105, 110, 116], [110, 101, 119], [98, 121], [105, 110, 116], [98, 111, 111, 108], [114, 101, 118], [116, 114, 117, 101], [102, 97, 108, 115, 101]]
theorem wordsL_len : wordsL.length = 20 := rfl
theorem word_one {s : List UInt8} {i d : Nat} (hl : s.length ≤ 16384) (hd : 1 ≤ d) (h : i + d ≤ s.length) (hc : cl s i = 1) (hall : ∀ p, i ≤ p → p < i + d → isW s p = true) (hend : i + d = s.length ∨ isW s (i + d) = false) {b : Bool} (hb : Ev (fun k => ref09_Is k (cut s i d)) b) :
    Ev (fun k => ref10_one k s (i : Int)) (⟨if b then 3 else 1, i, 0, cut s i d⟩, if 32 < d then 3 else 0) := by
  unfold ref10_one
  simp only [class_eq]
  refine Ev.bindS (fun _ => ix_bt (by omega)) ?_
  simp only [qe, Option.bind_some, Option.map_some, joinK, qb, ↓reduceIte, if_true, if_false, eq_self, Int.reduceBEq, Int.reduceBNe, hc]
  refine Ev.loop (scan_to d i (fun p h1 h2 => ?_) ?_)
  · have hw := hall p h1 h2
    have hp : decide ((p : Int) < (s.length : Int)) = true := by simp; omega
    have hwr : IntKind.i64.wrap ((p : Int) + 1) = ((p + 1 : Nat) : Int) := by rw [wrap64_id (by omega) (by omega)]; simp
    unfold isW at hw
    by_cases h1 : cl s p = 1
    · have : (cl s p == 1) = true := by simpa using h1
      simp only [qe, Option.bind_some, Option.map_some, joinK, qb, ↓reduceIte, if_true, if_false, eq_self, Int.reduceBEq, Int.reduceBNe, hp, ix_bt (show p < s.length by omega), this, hwr]; exact Ev.pure
    · have h1b : (cl s p == 1) = false := by simpa using h1
      have h2b : (cl s p == 2) = true := by simpa [h1b] using hw
      simp only [qe, Option.bind_some, Option.map_some, joinK, qb, ↓reduceIte, if_true, if_false, eq_self, Int.reduceBEq, Int.reduceBNe, hp, ix_bt (show p < s.length by omega), h1b, h2b, hwr]; exact Ev.pure
  · have fin : ∀ {σ : Type}, Ev (fun k => Option.map (Sum.inr (α := σ)) ((sub s (i : Int) ((i + d : Nat) : Int)).bind fun x6_4 => (ref09_Is k x6_4).bind fun x7_2 => if x7_2 then (if (decide (((x6_4.length : Int)) > 32)) then some ((TToken.mk 3 i 0 x6_4), 3) else some ((TToken.mk 3 i 0 x6_4), (0 : Int))) else (if (decide (((x6_4.length : Int)) > 32)) then some ((TToken.mk 1 i 0 x6_4), 3) else some ((TToken.mk 1 i 0 x6_4), 0)))) (.inr (⟨if b then 3 else 1, i, 0, cut s i d⟩, if 32 < d then 3 else 0)) := by
      intro σ
      refine Ev.map (Ev.bindS (fun _ => sub_cut h) (Ev.bind hb ?_))
      rw [cut_len h]
      refine Ev.of fun _ => ?_
      cases b
      · by_cases h32 : 32 < d
        · rw [if_pos h32]; simp; omega
        · rw [if_neg h32]; simp; omega
      · by_cases h32 : 32 < d
        · rw [if_pos h32]; simp; omega
        · rw [if_neg h32]; simp; omega
    rcases hend with he | he
    · have hp : decide (((i + d : Nat) : Int) < (s.length : Int)) = false := by simp; omega
      simp only [qe, Option.bind_some, Option.map_some, joinK, qb, ↓reduceIte, if_true, if_false, eq_self, Int.reduceBEq, Int.reduceBNe, hp]; exact fin
    · by_cases he2 : i + d = s.length
      · have hp : decide (((i + d : Nat) : Int) < (s.length : Int)) = false := by simp; omega
        simp only [qe, Option.bind_some, Option.map_some, joinK, qb, ↓reduceIte, if_true, if_false, eq_self, Int.reduceBEq, Int.reduceBNe, hp]; exact fin
      · have hp : decide (((i + d : Nat) : Int) < (s.length : Int)) = true := by simp; omega
        unfold isW at he
        have h1b : (cl s (i + d) == 1) = false := by
          cases hx : (cl s (i + d) == 1) with
          | false => rfl
          | true => rw [hx] at he; cases he
        have h2b : (cl s (i + d) == 2) = false := by simpa [h1b] using he
        simp only [qe, Option.bind_some, Option.map_some, joinK, qb, ↓reduceIte, if_true, if_false, eq_self, Int.reduceBEq, Int.reduceBNe, hp, ix_bt (show i + d < s.length by omega), h1b, h2b]; exact fin
end Go.Proofs.YtjakhfaodfaimaaGreatDoor.F
namespace Go.Proofs.YtjakhfaodfaimaaGreatDoor.F
open Go
def allB (k : Nat) (s : List UInt8) (st : List TToken × Int) : Option ((List TToken × Int) ⊕ (List TToken × Int × Int)) :=
  match st with
  | (l1_5, l1_6) =>
    if (decide (l1_6 < ((s.length : Int)))) then
    (ix s l1_6).bind fun x6_2 =>
    (ref10_class k (x6_2.toNat : Int)).bind fun x6_3 =>
    if (x6_3 == 3) then
    some (.inl (l1_5, (IntKind.i64.wrap (l1_6 + 1))))
    else
    if (x6_3 == 4) then
    joinK (fun (j2_6 : Int) =>
    some (.inl (l1_5, j2_6))) fun j_j2 =>
    loopM k (fun (l3_6 : Int) =>
    joinK (fun (g10_9_36 : Bool) =>
    if g10_9_36 then
    some (.inl (IntKind.i64.wrap (l3_6 + 1)))
    else
    (j_j2 l3_6).map .inr) fun j_g10_9 =>
    if (decide (l3_6 < ((s.length : Int)))) then
    (ix s l3_6).bind fun x10_7 =>
    j_g10_9 ((x10_7.toNat : Int) != 10)
    else
    j_g10_9 false) l1_6
    else
    (ref10_one k s l1_6).bind fun (x12_2_0, x12_2_1) =>
    if (x12_2_1 != 0) then
    some (.inr ([], l1_6, x12_2_1))
    else
    if (room 40 (l1_5.length + [x12_2_0].length)) then
    some (.inl ((l1_5 ++ [x12_2_0]), (IntKind.i64.wrap (l1_6 + ((x12_2_0.Text.length : Int))))))
    else none
    else
    (if (room 40 (l1_5.length + [(TToken.mk 0 ((s.length : Int)) 0 [])].length)) then
    some ((l1_5 ++ [(TToken.mk 0 ((s.length : Int)) 0 [])]), (0 : Int), (0 : Int))
    else none).map .inr
theorem all_eq (k : Nat) (s : List UInt8) (h : s.length ≤ 16384) : ref10_All k s = loopM k (allB k s) ([], 0) := by
  unfold ref10_All
  rw [if_neg (by simp; omega)]
  rfl
theorem all_long (k : Nat) (s : List UInt8) (h : 16384 < s.length) : ref10_All k s = some ([], 16384, 3) := by
  unfold ref10_All
  rw [if_pos (by simp; omega)]
theorem allB_one {s : List UInt8} {i : Nat} {out : List TToken} {t : TToken} {e : Int} (hi : i < s.length) (h3 : cl s i ≠ 3) (h4 : cl s i ≠ 4) (h : Ev (fun k => ref10_one k s i) (t, e)) {x : (List TToken × Int) ⊕ (List TToken × Int × Int)}
    (hx : (if (e != 0) then some (.inr ([], (i : Int), e)) else if (room 40 (out.length + [t].length)) then some (.inl ((out ++ [t]), (IntKind.i64.wrap ((i : Int) + ((t.Text.length : Int)))))) else none) = some x) : Ev (fun k => allB k s (out, (i : Int))) x := by
  have hd : decide ((i : Int) < (s.length : Int)) = true := by simp; omega
  have h3b : (cl s i == 3) = false := by simpa using h3
  have h4b : (cl s i == 4) = false := by simpa using h4
  simp only [allB, class_eq]
  refine Ev.ite_t hd (Ev.bindS (fun _ => ix_bt hi) (Ev.bindS (fun _ => rfl) (Ev.ite_f h3b (Ev.ite_f h4b ?_))))
  refine Ev.bind h ?_
  exact Ev.of fun _ => hx
theorem allB_end {s : List UInt8} {out : List TToken} (h : out.length ≤ 100000) : Ev (fun k => allB k s (out, (s.length : Int))) (.inr (out ++ [⟨0, s.length, 0, []⟩], 0, 0)) := by
  have hd : decide ((s.length : Int) < (s.length : Int)) = false := by simp
  have hr : room 40 (out.length + [(TToken.mk 0 ((s.length : Int)) 0 [])].length) = true := room_of (by omega) (by simp; omega)
  simp only [allB]
  simp only [qe, Option.bind_some, Option.map_some, joinK, qb, ↓reduceIte, if_true, if_false, eq_self, Int.reduceBEq, Int.reduceBNe, hd, hr]; exact Ev.pure
theorem named_of {t : List UInt8} (h1 : 1 ≤ t.length) (h32 : t.length ≤ 32) (hc : cl t 0 = 1) (hall : ∀ p, p < t.length → isW t p = true) (hb : Ev (fun k => ref09_Is k t) false) : Nm t := by
  have ho : Ev (fun k => ref10_one k t (0 : Nat)) (⟨1, 0, 0, t⟩, 0) := by
    have := word_one (s := t) (i := 0) (d := t.length) (by omega) h1 (by omega) hc (fun p _ h => hall p (by omega)) (.inl (by omega)) (b := false) (by rw [cut_all]; exact hb)
    rw [cut_all, if_neg (c := 32 < t.length) (by omega)] at this
    simpa using this
  have ha : Ev (fun k => ref10_All k t) ([⟨1, 0, 0, t⟩, ⟨0, t.length, 0, []⟩], 0, 0) := by
    refine Ev.congr (fun k => all_eq k t (by omega)) (Ev.loop (EvL.step (s' := ([⟨1, 0, 0, t⟩], (t.length : Int))) ?_ (EvL.done (allB_end (by simp)))))
    refine allB_one (out := []) (i := 0) (by omega) (by omega) (by omega) ho ?_
    rw [if_neg (by simp), if_pos (room_of (by omega) (by simp)), wrap64_id (by simp <;> omega) (by simp <;> omega)]
    simp
  refine Ev.bind ha ?_
  simp only [qe, Option.bind_some, Option.map_some, joinK, qb, ↓reduceIte, if_true, if_false, eq_self, Int.reduceBEq, Int.reduceBNe, show decide (0 < 1) = true from rfl]
  refine Ev.ite_t rfl (Ev.bindS (fun _ => rfl) (Ev.ite_t rfl (Ev.bindS (fun _ => rfl) ?_)))
  simp only [qe, Option.bind_some, Option.map_some, joinK, qb, ↓reduceIte, if_true, if_false, eq_self, Int.reduceBEq, Int.reduceBNe]; exact Ev.pure
end Go.Proofs.YtjakhfaodfaimaaGreatDoor.F
namespace Go.Proofs.YtjakhfaodfaimaaGreatDoor.F
open Go
def spells : List (List UInt8) := [[43], [45], [42], [47], [37], [61, 61], [33, 61], [60], [60, 61], [62], [62, 61], [38, 38], [124, 124], [33]]
def sgR (t : TToken) (lev : Int) (k : Nat) (j_j0 : Unit → Option Int) (l1_8 : Int) : Option (Int ⊕ Int) :=
    if (decide (l1_8 ≤ 14)) then
    joinK (fun (g5_9_25 : Bool) =>
    joinK (fun (g5_15_31 : Bool) =>
    if g5_15_31 then
    some (.inr l1_8)
    else
    some (.inl (IntKind.i64.wrap (l1_8 + 1)))) fun j_g5_15 =>
    if g5_9_25 then
    (ref09_Bind k l1_8).bind fun x5_12 =>
    j_g5_15 (x5_12 == lev)
    else
    j_g5_15 false) fun j_g5_9 =>
    if (t.Kind == 4) then
    (ref09_Spell k l1_8).bind fun x5_5 =>
    j_g5_9 (x5_5 == t.Text)
    else
    j_g5_9 false
    else
    (j_j0 ()).map .inr
theorem refsign_eq (k : Nat) (l : List TToken) (i lev : Int) : ref13_sign k l i lev = loopM k (sgR (tk l i) lev k (fun _ => some 0)) 1 := by
  unfold ref13_sign
  rw [Tok_eq]
  rfl
theorem sg_none {t : TToken} {lev : Int} (h : t.Kind ≠ 4 ∨ ∀ s : Nat, 1 ≤ s → s ≤ 14 → (spells[s - 1]? ≠ some t.Text)) : ∀ (d s : Nat), s + d = 15 → 1 ≤ s → EvL (fun k => sgR t lev k (fun _ => some 0)) (s : Int) 0
  | 0, s, e, _ => EvL.done (Ev.ite_f (by simp; omega) (Ev.of fun _ => rfl))
  | d + 1, s, e, h1 => by
    have ih := sg_none (lev := lev) h d (s + 1) (by omega) (by omega)
    refine EvL.step (s' := ((s + 1 : Nat) : Int)) ?_ ih
    refine Ev.ite_t (by simp; omega) (Ev.joinK ?_)
    have hw : IntKind.i64.wrap ((s : Int) + 1) = ((s + 1 : Nat) : Int) := by rw [wrap64_id (by omega) (by omega)]; simp
    rcases h with h | h
    · refine Ev.ite_f (by simpa using h) (Ev.joinK (Ev.ite_f rfl (Ev.ite_f rfl (Ev.of fun _ => by rw [hw]))))
    · by_cases hk : t.Kind = 4
      · have hs := h s h1 (by omega)
        obtain ⟨x, hx⟩ : ∃ x, spells[s - 1]? = some x := ⟨_, List.getElem?_eq_getElem (by simp [spells]; omega)⟩
        have hsp : ∀ k, ref09_Spell k (s : Int) = some x := by
          intro k
          unfold ref09_Spell
          rw [if_neg (by simp; omega)]
          rw [ix_of (x := x) (by rw [wrap64_id (by omega) (by omega)]; omega) (by rw [wrap64_id (by omega) (by omega)]; rw [show ((s : Int) - 1).toNat = s - 1 by omega]; exact hx)]
          rfl
        refine Ev.ite_t (by simpa using hk) (Ev.bindS hsp (Ev.joinK (Ev.ite_f ?_ (Ev.ite_f rfl (Ev.of fun _ => by rw [hw])))))
        have : x ≠ t.Text := fun e => hs (by rw [hx, e])
        simpa using this
      · exact Ev.ite_f (by simpa using hk) (Ev.joinK (Ev.ite_f rfl (Ev.ite_f rfl (Ev.of fun _ => by rw [hw]))))
def bindOf : Nat → Int
  | 1 => 4 | 2 => 4 | 3 => 5 | 4 => 5 | 5 => 5 | 6 => 3 | 7 => 3 | 8 => 3 | 9 => 3 | 10 => 3 | 11 => 3 | 12 => 2 | 13 => 1 | _ => 0
theorem binds : ∀ s : Nat, 1 ≤ s → s ≤ 14 → ∀ k, ref09_Bind k (s : Int) = some (bindOf s) ∧ word_Bind k (s : Int) = some (bindOf s) := by
  intro s h1 h2 k
  match s, h1, h2 with
  | 1, _, _ => exact ⟨rfl, rfl⟩
  | 2, _, _ => exact ⟨rfl, rfl⟩
  | 3, _, _ => exact ⟨rfl, rfl⟩
  | 4, _, _ => exact ⟨rfl, rfl⟩
  | 5, _, _ => exact ⟨rfl, rfl⟩
  | 6, _, _ => exact ⟨rfl, rfl⟩
  | 7, _, _ => exact ⟨rfl, rfl⟩
  | 8, _, _ => exact ⟨rfl, rfl⟩
  | 9, _, _ => exact ⟨rfl, rfl⟩
  | 10, _, _ => exact ⟨rfl, rfl⟩
  | 11, _, _ => exact ⟨rfl, rfl⟩
  | 12, _, _ => exact ⟨rfl, rfl⟩
  | 13, _, _ => exact ⟨rfl, rfl⟩
  | 14, _, _ => exact ⟨rfl, rfl⟩
theorem spell_at (s : Nat) (h1 : 1 ≤ s) (h2 : s ≤ 14) {x : List UInt8} (hx : spells[s - 1]? = some x) (k : Nat) : ref09_Spell k (s : Int) = some x := by
  unfold ref09_Spell
  rw [if_neg (by simp; omega)]
  rw [ix_of (x := x) (by rw [wrap64_id (by omega) (by omega)]; omega) (by rw [wrap64_id (by omega) (by omega)]; rw [show ((s : Int) - 1).toNat = s - 1 by omega]; exact hx)]
  rfl
theorem spells_inj {a b : Nat} (ha : a < 14) (hb : b < 14) {x : List UInt8} (h1 : spells[a]? = some x) (h2 : spells[b]? = some x) : a = b := by
  have : ∀ a, a < 14 → ∀ b, b < 14 → spells[a]? = spells[b]? → a = b := by decide
  exact this a ha b hb (by rw [h1, h2])
theorem sg_to {t : TToken} {lev : Int} (hk : t.Kind = 4) {n : Nat} (hn1 : 1 ≤ n) (hn2 : n ≤ 14) (hx : spells[n - 1]? = some t.Text) : ∀ (d s : Nat), s + d = n → 1 ≤ s → EvL (fun k => sgR t lev k (fun _ => some 0)) (s : Int) (if bindOf n = lev then (n : Int) else 0)
  | 0, s, e, h1 => by
    have e : s = n := by omega
    subst e
    by_cases hb : bindOf s = lev
    · rw [if_pos hb]
      refine EvL.done (Ev.ite_t (by simp; omega) (Ev.joinK (Ev.ite_t (by simpa using hk) (Ev.bindS (spell_at s h1 hn2 hx) (Ev.joinK (Ev.ite_t (by simp) ?_))))))
      exact Ev.bindS (fun k => (binds s h1 hn2 k).1) (Ev.ite_t (by simpa using hb) Ev.pure)
    · rw [if_neg hb]
      have hw : IntKind.i64.wrap ((s : Int) + 1) = ((s + 1 : Nat) : Int) := by rw [wrap64_id (by omega) (by omega)]; simp
      have rest : EvL (fun k => sgR t lev k (fun _ => some 0)) ((s + 1 : Nat) : Int) 0 := by
        -- no other text fits
        have : ∀ (d q : Nat), q + d = 15 → s < q → EvL (fun k => sgR t lev k (fun _ => some 0)) (q : Int) 0 := by
          intro d
          induction d with
          | zero => intro q e h; exact EvL.done (Ev.ite_f (by simp; omega) (Ev.of fun _ => rfl))
          | succ d ih =>
            intro q e h
            have hwq : IntKind.i64.wrap ((q : Int) + 1) = ((q + 1 : Nat) : Int) := by rw [wrap64_id (by omega) (by omega)]; simp
            obtain ⟨x, hxq⟩ : ∃ x, spells[q - 1]? = some x := ⟨_, List.getElem?_eq_getElem (by simp [spells]; omega)⟩
            refine EvL.step (s' := ((q + 1 : Nat) : Int)) ?_ (ih (q + 1) (by omega) (by omega))
            refine Ev.ite_t (by simp; omega) (Ev.joinK (Ev.ite_t (by simpa using hk) (Ev.bindS (spell_at q (by omega) (by omega) hxq) (Ev.joinK (Ev.ite_f ?_ (Ev.ite_f rfl (Ev.of fun _ => by rw [hwq])))))))
            have : x ≠ t.Text := fun e' => by
              have := spells_inj (a := s - 1) (b := q - 1) (by omega) (by omega) hx (by rw [hxq, e'])
              omega
            simpa using this
        exact this (14 - s) (s + 1) (by omega) (by omega)
      refine EvL.step (s' := ((s + 1 : Nat) : Int)) ?_ rest
      refine Ev.ite_t (by simp; omega) (Ev.joinK (Ev.ite_t (by simpa using hk) (Ev.bindS (spell_at s h1 hn2 hx) (Ev.joinK (Ev.ite_t (by simp) ?_)))))
      exact Ev.bindS (fun k => (binds s h1 hn2 k).1) (Ev.ite_f (by simpa using hb) (Ev.of fun _ => by rw [hw]))
  | d + 1, s, e, h1 => by
    have hw : IntKind.i64.wrap ((s : Int) + 1) = ((s + 1 : Nat) : Int) := by rw [wrap64_id (by omega) (by omega)]; simp
    obtain ⟨x, hxq⟩ : ∃ x, spells[s - 1]? = some x := ⟨_, List.getElem?_eq_getElem (by simp [spells]; omega)⟩
    refine EvL.step (s' := ((s + 1 : Nat) : Int)) ?_ (sg_to hk hn1 hn2 hx d (s + 1) (by omega) (by omega))
    refine Ev.ite_t (by simp; omega) (Ev.joinK (Ev.ite_t (by simpa using hk) (Ev.bindS (spell_at s (by omega) (by omega) hxq) (Ev.joinK (Ev.ite_f ?_ (Ev.ite_f rfl (Ev.of fun _ => by rw [hw])))))))
    have : x ≠ t.Text := fun e' => by
      have := spells_inj (a := n - 1) (b := s - 1) (by omega) (by omega) hx (by rw [hxq, e'])
      omega
    simpa using this
def wsR (x : List UInt8) (k : Nat) (j_j0 : Unit → Option (Int × Bool)) (l1_7 : Int) : Option (Int ⊕ (Int × Bool)) :=
    if (decide (l1_7 < 15)) then
    (ix g_word_spellings l1_7).bind fun x3_1 =>
    if ((decide (l1_7 > 0)) && (x3_1 == x)) then
    some (.inr (l1_7, true))
    else
    some (.inl (IntKind.i64.wrap (l1_7 + 1)))
    else
    (j_j0 ()).map .inr
theorem wordsign_eq (k : Nat) (x : List UInt8) : word_Sign k x = loopM k (wsR x k (fun _ => some (0, false))) 0 := rfl
theorem gsp (s : Nat) (h1 : 1 ≤ s) (h2 : s ≤ 14) : ix g_word_spellings (s : Int) = spells[s - 1]? := by
  have : ∀ s, s < 15 → 1 ≤ s → g_word_spellings[s]? = spells[s - 1]? := by decide
  unfold ix
  rw [if_pos (by omega)]
  have := this s (by omega) h1
  simpa using this
theorem ws_from {x : List UInt8} (n : Nat) (hn : n ≤ 15) (hx : n < 15 → 1 ≤ n ∧ spells[n - 1]? = some x) (hno : ∀ s, 1 ≤ s → s < n → spells[s - 1]? ≠ some x) : ∀ (d s : Nat), s + d = n → EvL (fun k => wsR x k (fun _ => some (0, false))) (s : Int) (if n < 15 then ((n : Int), true) else (0, false))
  | 0, s, e => by
    have e : s = n := by omega
    subst e
    by_cases h : s < 15
    · rw [if_pos h]
      obtain ⟨h1, h2⟩ := hx h
      exact EvL.done (Ev.ite_t (by simp; omega) (Ev.bindS (x := x) (fun _ => by rw [gsp s h1 (by omega)]; exact h2) (Ev.ite_t (by simp; omega) Ev.pure)))
    · rw [if_neg h]
      exact EvL.done (Ev.ite_f (by simp; omega) (Ev.of fun _ => rfl))
  | d + 1, s, e => by
    have hw : IntKind.i64.wrap ((s : Int) + 1) = ((s + 1 : Nat) : Int) := by rw [wrap64_id (by omega) (by omega)]; simp
    refine EvL.step (s' := ((s + 1 : Nat) : Int)) ?_ (ws_from n hn hx hno d (s + 1) (by omega))
    refine Ev.ite_t (by simp; omega) ?_
    by_cases h0 : s = 0
    · subst h0
      exact Ev.bindS (x := []) (fun _ => rfl) (Ev.ite_f rfl (Ev.of fun _ => by rw [hw]))
    · obtain ⟨y, hy⟩ : ∃ y, spells[s - 1]? = some y := ⟨_, List.getElem?_eq_getElem (by simp [spells]; omega)⟩
      refine Ev.bindS (x := y) (fun _ => by rw [gsp s (by omega) (by omega)]; exact hy) (Ev.ite_f ?_ (Ev.of fun _ => by rw [hw]))
      have : y ≠ x := fun e' => hno s (by omega) (by omega) (by rw [hy, e'])
      simp [this]
theorem find_spell (x : List UInt8) : (∃ n, 1 ≤ n ∧ n ≤ 14 ∧ spells[n - 1]? = some x) ∨ ∀ s, 1 ≤ s → s ≤ 14 → spells[s - 1]? ≠ some x := by
  by_cases h : x ∈ spells
  · left
    obtain ⟨i, hi⟩ := List.mem_iff_getElem?.1 h
    have := (List.getElem?_eq_some_iff.1 hi).1
    exact ⟨i + 1, by omega, by simp [spells] at this; omega, by simpa using hi⟩
  · right
    intro s _ _ hs
    exact h (List.mem_of_getElem? hs)
theorem sign_both (l : List TToken) (i lev : Int) : ∃ s : Int, Ev (fun k => expr_reader_sign k lev l i false) s ∧ Ev (fun k => ref13_sign k l i lev) s ∧ (s ≠ 0 → (tk l i).Kind = 4 ∧ ∀ k, ref09_Bind k s = some lev) := by
  have hd : ∀ s, Ev (fun k => loopM k (sgR (tk l i) lev k (fun _ => some 0)) 1) s → Ev (fun k => ref13_sign k l i lev) s := fun s h => Ev.congr (fun k => refsign_eq k l i lev) h
  have he : ∀ s (p : Int × Bool), Ev (fun k => word_Sign k (tk l i).Text) p → Ev (fun k => joinK (fun (g3_11_27 : Bool) => if g3_11_27 then some p.1 else some 0) fun j => if (p.2 && ((tk l i).Kind == 4)) then (word_Bind k p.1).bind fun x3_8 => j (x3_8 == lev) else j false) s → Ev (fun k => expr_reader_sign k lev l i false) s := by
    intro s p h1 h2
    refine Ev.bindS (x := tk l i) (fun k => look_eq k l i false) (Ev.bind h1 ?_)
    exact h2
  rcases find_spell (tk l i).Text with ⟨n, h1, h2, h3⟩ | hno
  · have hw : Ev (fun k => word_Sign k (tk l i).Text) ((n : Int), true) := by
      have := Ev.loop (ws_from (x := (tk l i).Text) n (by omega) (fun _ => ⟨h1, h3⟩) (fun s q1 q2 q3 => by have := spells_inj (a := s - 1) (b := n - 1) (by omega) (by omega) q3 h3; omega) n 0 (by omega))
      rw [if_pos (by omega)] at this
      exact Ev.congr (fun k => wordsign_eq k _) this
    by_cases hk : (tk l i).Kind = 4
    · refine ⟨if bindOf n = lev then (n : Int) else 0, he _ _ hw ?_, hd _ ?_, fun h => ⟨hk, fun k => ?_⟩⟩
      · refine Ev.joinK (Ev.ite_t (by simpa using hk) (Ev.bindS (fun k => (binds n h1 h2 k).2) ?_))
        by_cases hb : bindOf n = lev
        · rw [if_pos hb]; exact Ev.ite_t (by simpa using hb) Ev.pure
        · rw [if_neg hb]; exact Ev.ite_f (by simpa using hb) Ev.pure
      · exact Ev.loop (sg_to hk h1 h2 h3 (n - 1) 1 (by omega) (by omega))
      · by_cases hb : bindOf n = lev
        · rw [if_pos hb, ← hb]; exact (binds n h1 h2 k).1
        · rw [if_neg hb] at h; exact (h rfl).elim
    · refine ⟨0, he _ _ hw ?_, hd _ ?_, fun h => (h rfl).elim⟩
      · exact Ev.joinK (Ev.ite_f (by simpa using hk) (Ev.ite_f rfl Ev.pure))
      · exact Ev.loop (sg_none (.inl hk) 14 1 (by omega) (by omega))
  · have hw : Ev (fun k => word_Sign k (tk l i).Text) ((0 : Int), false) := by
      have := Ev.loop (ws_from (x := (tk l i).Text) 15 (by omega) (fun h => by omega) (fun s q1 q2 => hno s q1 (by omega)) 15 0 (by omega))
      rw [if_neg (by omega)] at this
      exact Ev.congr (fun k => wordsign_eq k _) this
    refine ⟨0, he _ _ hw ?_, hd _ ?_, fun h => (h rfl).elim⟩
    · exact Ev.joinK (Ev.ite_f rfl (Ev.ite_f rfl Ev.pure))
    · exact Ev.loop (sg_none (.inr fun s q1 q2 => hno s q1 q2) 14 1 (by omega) (by omega))
end Go.Proofs.YtjakhfaodfaimaaGreatDoor.F
namespace Go.Proofs.YtjakhfaodfaimaaGreatDoor.F
open Go
def markB (t : List UInt8) (L : List (List UInt8)) (k : Nat) (s : List UInt8 × Int) : Option ((List UInt8 × Int) ⊕ List UInt8) :=
  match s with
  | (l3_5, l3_6) =>
    if (decide (l3_6 < ((L.length : Int)))) then
    joinK (fun (j4_5 : List UInt8) =>
    some (.inl (j4_5, (IntKind.i64.wrap (l3_6 + 1))))) fun j_j4 =>
    (ix L l3_6).bind fun x10_2 =>
    joinK (fun (g10_21_44 : Bool) =>
    joinK (fun (g10_31_54 : Bool) =>
    if g10_31_54 then
    (ix L l3_6).bind fun x11_2 =>
    j_j4 x11_2
    else
    j_j4 l3_5) fun j_g10_31 =>
    if g10_21_44 then
    (ix L l3_6).bind fun x10_25 =>
    j_g10_31 (decide (((x10_25.length : Int)) > ((l3_5.length : Int))))
    else
    j_g10_31 false) fun j_g10_21 =>
    if (decide (((x10_2.length : Int)) ≤ ((t.length : Int)))) then
    (ix L l3_6).bind fun x10_12 =>
    (sub t 0 (x10_12.length : Int)).bind fun x10_15 =>
    (ix L l3_6).bind fun x10_18 =>
    j_g10_21 (x10_15 == x10_18)
    else
    j_g10_21 false
    else
    (some l3_5).map .inr
def marks0 : List (List UInt8) := [[40], [41], [123], [125], [91], [93], [44], [59], [46], [61]]
def markA (t : List UInt8) (k : Nat) (s : List (List UInt8) × Int) : Option ((List (List UInt8) × Int) ⊕ List UInt8) :=
  match s with
  | (l1_3, l1_4) =>
    if (decide (l1_4 ≤ 14)) then
    (ref09_Spell k l1_4).bind fun x5_2 =>
    if (room 16 (l1_3.length + [x5_2].length)) then
    some (.inl ((l1_3 ++ [x5_2]), (IntKind.i64.wrap (l1_4 + 1))))
    else none
    else
    (loopM k (markB t l1_3 k) ([], 0)).map .inr
theorem mark_eq (k : Nat) (t : List UInt8) : ref09_Mark k t = loopM k (markA t k) (marks0, 1) := rfl
theorem marks_add (t : List UInt8) : ∀ (d n : Nat) (L : List (List UInt8)), n + d = 15 → 1 ≤ n → L.length = n + 9 → ∀ {r : List UInt8}, EvL (markB t (L ++ spells.drop (n - 1))) ([], 0) r → EvL (markA t) (L, (n : Int)) r
  | 0, n, L, e, h1, hl, r, h => by
    have e : n = 15 := by omega
    subst e
    refine EvL.done ?_
    simp only [markA]
    refine Ev.ite_f (by simp) (Ev.map (Ev.loop ?_))
    simpa [spells] using h
  | d + 1, n, L, e, h1, hl, r, h => by
    obtain ⟨x, hx⟩ : ∃ x, spells[n - 1]? = some x := ⟨_, List.getElem?_eq_getElem (by simp [spells]; omega)⟩
    have hdr : spells.drop (n - 1) = x :: spells.drop n := by
      have h2 := (List.getElem?_eq_some_iff.1 hx)
      rw [List.drop_eq_getElem_cons h2.1, h2.2, show n - 1 + 1 = n by omega]
    refine EvL.step (s' := (L ++ [x], ((n + 1 : Nat) : Int))) ?_ (marks_add t d (n + 1) (L ++ [x]) (by omega) (by omega) (by simp; omega) ?_)
    · have hr : room 16 (L.length + [x].length) = true := room_of (by omega) (by simp; omega)
      have hw : IntKind.i64.wrap ((n : Int) + 1) = ((n + 1 : Nat) : Int) := by rw [wrap64_id (by omega) (by omega)]; simp
      simp only [markA]
      refine Ev.ite_t (by simp; omega) (Ev.bindS (spell_at n h1 (by omega) hx) ?_)
      simp only [qe, Option.bind_some, Option.map_some, joinK, qb, ↓reduceIte, if_true, if_false, eq_self, Int.reduceBEq, Int.reduceBNe, hr, hw]; exact Ev.pure
    · rw [show n + 1 - 1 = n by omega]
      rw [hdr] at h
      simpa using h
def marksL : List (List UInt8) := marks0 ++ spells
structure TokG (t : TToken) : Prop where
  name : t.Kind = 1 → Nm t.Text
  num : t.Kind = 2 → 0 ≤ t.N
theorem tk_get {l : List TToken} {p : Nat} {t : TToken} (h : l[p]? = some t) : tk l (p : Int) = t := by
  unfold tk
  rw [if_pos (by omega), Int.toNat_natCast, h]; rfl
theorem tk_cases (l : List TToken) (p : Int) : tk l p = ⟨0, 0, 0, []⟩ ∨ ∃ n : Nat, p = n ∧ l[n]? = some (tk l p) := by
  unfold tk
  split
  · rename_i h0
    cases hx : l[p.toNat]? with
    | none => left; rfl
    | some x => right; exact ⟨p.toNat, by omega, by rw [hx]; rfl⟩
  · left; rfl
theorem wf_of {out : List TToken} {n : Int} (hl : out.length ≤ 20000) (hg : ∀ t ∈ out, TokG t) : WF (out ++ [⟨0, n, 0, []⟩]) := by
  have key : ∀ p, TokG (tk (out ++ [⟨0, n, 0, []⟩]) p) := by
    intro p
    rcases tk_cases (out ++ [⟨0, n, 0, []⟩]) p with h | ⟨q, rfl, h⟩
    · rw [h]; exact ⟨fun hk => by simp at hk, fun hk => by simp at hk⟩
    · have := List.mem_of_getElem? h
      rcases List.mem_append.1 this with hx | hx
      · exact hg _ hx
      · simp at hx; rw [hx]; exact ⟨fun hk => by simp at hk, fun hk => by simp at hk⟩
  refine ⟨by simp; omega, fun p hp => ?_, fun p hk => (key p).name hk, fun p hk => (key p).num hk⟩
  have : p = (out.length : Int) := by simp at hp; omega
  rw [this, tk_get (t := ⟨0, n, 0, []⟩) (by simp)]
end Go.Proofs.YtjakhfaodfaimaaGreatDoor.F
namespace Go.Proofs.YtjakhfaodfaimaaGreatDoor.F
open Go
theorem letter_tab : ∀ n : Fin 256, (((n.1 : Int) == 95) || ((decide ((ior .u8 (n.1 : Int) 32) ≥ 97)) && (decide ((ior .u8 (n.1 : Int) 32) ≤ 122)))) = (cls (n.1 : Int) == 1) := by decide +kernel
theorem digit_tab : ∀ n : Fin 256, ((decide ((n.1 : Int) ≥ 48)) && (decide ((n.1 : Int) ≤ 57))) = (cls (n.1 : Int) == 2) := by decide +kernel
theorem blank_tab : ∀ n : Fin 256, ((((n.1 : Int) == 32) || ((n.1 : Int) == 9)) || ((n.1 : Int) == 10) || ((n.1 : Int) == 13)) = (cls (n.1 : Int) == 3) := by decide +kernel
theorem hash_tab : ∀ n : Fin 256, ((n.1 : Int) == 35) = (cls (n.1 : Int) == 4) := by decide +kernel
theorem letter_eq (k : Nat) (b : UInt8) : lex_letter k (b.toNat : Int) = some (cls (b.toNat : Int) == 1) := congrArg some (letter_tab ⟨b.toNat, b.toNat_lt⟩)
theorem digit_eq (k : Nat) (b : UInt8) : lex_digit k (b.toNat : Int) = some (cls (b.toNat : Int) == 2) := congrArg some (digit_tab ⟨b.toNat, b.toNat_lt⟩)
theorem blank_eq (b : UInt8) : ((((b.toNat : Int) == 32) || ((b.toNat : Int) == 9)) || ((b.toNat : Int) == 10) || ((b.toNat : Int) == 13)) = (cls (b.toNat : Int) == 3) := blank_tab ⟨b.toNat, b.toNat_lt⟩
theorem hash_eq (b : UInt8) : ((b.toNat : Int) == 35) = (cls (b.toNat : Int) == 4) := hash_tab ⟨b.toNat, b.toNat_lt⟩
theorem wordc_eq (k : Nat) (b : UInt8) : lex_lexer_next_1 k (b.toNat : Int) = some ((cls (b.toNat : Int) == 1) || (cls (b.toNat : Int) == 2)) := by
  unfold lex_lexer_next_1
  rw [letter_eq, digit_eq]
  simp only [Option.bind_some, joinK]
  cases cls (b.toNat : Int) == 1 <;> rfl
def runB (P : Nat → Int → Option Bool) (s : List UInt8) (i : Int) (k : Nat) (l : Int) : Option (Int ⊕ Int) :=
    joinK (fun (g2_26_32 : Bool) =>
    if g2_26_32 then
    some (.inl (IntKind.i64.wrap (l + 1)))
    else
    (some l).map .inr) fun j_g2_26 =>
    if (decide ((IntKind.i64.wrap (i + l)) < (s.length : Int))) then
    (ix s (IntKind.i64.wrap (i + l))).bind fun x2_24 =>
    (P k (x2_24.toNat : Int)).bind fun x2_25 =>
    j_g2_26 x2_25
    else
    j_g2_26 false
theorem run_to {P : Nat → Int → Option Bool} {Q : Nat → Bool} {s : List UInt8} (hl : s.length ≤ 16384) (hP : ∀ k p, P k ((bt s p).toNat : Int) = some (Q p)) {i d : Nat} (h : i + d ≤ s.length) (hall : ∀ p, i ≤ p → p < i + d → Q p = true) (hend : i + d = s.length ∨ Q (i + d) = false) :
    Ev (fun k => loopM k (runB P s (i : Int) k) 0) (d : Int) := by
  have hw : ∀ p : Nat, p ≤ 16384 → IntKind.i64.wrap ((i : Int) + (p : Int)) = ((i + p : Nat) : Int) := fun p hp => by rw [wrap64_id (by omega) (by omega)]; omega
  have key := scan_to (body := fun k => runB P s (i : Int) k) (r := (d : Int)) d 0 (fun p _ h2 => ?_) ?_
  · exact Ev.loop key
  · have hd : decide (((i + p : Nat) : Int) < (s.length : Int)) = true := by simp; omega
    have hwr : IntKind.i64.wrap ((p : Int) + 1) = ((p + 1 : Nat) : Int) := by rw [wrap64_id (by omega) (by omega)]; simp
    refine Ev.of fun k => ?_
    simp only [runB, joinK]
    rw [hw p (by omega), hd, if_pos rfl, ix_bt (by omega), Option.bind_some, hP, Option.bind_some, hall (i + p) (by omega) (by omega), if_pos rfl, hwr]
  · refine Ev.of fun k => ?_
    simp only [runB, joinK, Nat.zero_add]
    rw [hw d (by omega)]
    by_cases he : i + d = s.length
    · have hd : decide (((i + d : Nat) : Int) < (s.length : Int)) = false := by simp; omega
      rw [hd]; rfl
    · have hd : decide (((i + d : Nat) : Int) < (s.length : Int)) = true := by simp; omega
      have hq : Q (i + d) = false := hend.resolve_left he
      rw [hd, if_pos rfl, ix_bt (by omega), Option.bind_some, hP, Option.bind_some, hq]; rfl
theorem words_all (k : Nat) : word_All k = some wordsL := by kernel_rfl
theorem is_both (t : List UInt8) : ∃ b, Ev (fun k => word_Is k t) b ∧ Ev (fun k => ref09_Is k t) b := by
  obtain ⟨d, d1, d2, d3⟩ := stretch (fun p => !((wordsL[p]?).getD [] == t)) 20 20 0 rfl
  have hix : ∀ p : Nat, p < 20 → ix wordsL (p : Int) = some ((wordsL[p]?).getD []) := fun p hp => by
    rw [ix_nat (by rw [wordsL_len]; exact hp), List.getElem?_eq_getElem (by rw [wordsL_len]; exact hp)]; rfl
  have hlt : ∀ p : Nat, decide ((p : Int) < (wordsL.length : Int)) = decide (p < 20) := fun p => by
    rw [wordsL_len]
    by_cases h : p < 20
    · rw [decide_eq_true h]; exact decide_eq_true (by omega)
    · rw [decide_eq_false h]; exact decide_eq_false (by omega)
  have hsy : ∀ a : List UInt8, (a == t) = (t == a) := fun a => by
    by_cases h : a = t
    · subst h; rfl
    · have h2 : ¬ t = a := fun e => h e.symm
      rw [beq_eq_false_iff_ne.2 h, beq_eq_false_iff_ne.2 h2]
  refine ⟨decide (d < 20), ?_, ?_⟩
  · unfold word_Is
    refine Ev.bindS words_all ?_
    have hI : Ev (fun k => slices_Index_string k wordsL t) (if d < 20 then (d : Int) else -1) := by
      unfold slices_Index_string
      refine Ev.joinK (Ev.loop (scan_to d 0 (fun p _ h2 => ?_) ?_))
      · have hx := d2 p (by omega) (by omega)
        have hd : decide ((p : Int) < (wordsL.length : Int)) = true := by rw [hlt]; simp; omega
        have hne : (t == (wordsL[p]?).getD []) = false := by rw [← hsy]; simpa using hx
        refine Ev.ite_t hd (Ev.bindS (fun _ => hix p (by omega)) (Ev.ite_f hne (Ev.of fun _ => ?_)))
        rw [wrap64_id (by omega) (by omega)]; simp
      · rw [Nat.zero_add] at d1 d3 ⊢
        by_cases hd : d < 20
        · have hdd : decide ((d : Int) < (wordsL.length : Int)) = true := by rw [hlt]; simp; omega
          have heq : (t == (wordsL[d]?).getD []) = true := by
            rcases d3 with h | h
            · omega
            · rw [← hsy]; simpa using h
          rw [if_pos hd]
          exact Ev.ite_t hdd (Ev.bindS (fun _ => hix d hd) (Ev.ite_t heq Ev.pure))
        · have hdd : decide ((d : Int) < (wordsL.length : Int)) = false := by rw [hlt]; simp; omega
          rw [if_neg hd]
          exact Ev.ite_f hdd (Ev.of fun _ => rfl)
    unfold slices_Contains_string
    refine Ev.bind (Ev.bind hI Ev.pure) (Ev.of fun _ => ?_)
    by_cases hd : d < 20
    · simp [hd]
    · simp [hd]
  · refine Ev.bindS (x := wordsL) (fun _ => rfl) (Ev.joinK (Ev.loop (scan_to d 0 (fun p _ h2 => ?_) ?_)))
    · have hx := d2 p (by omega) (by omega)
      have hd : decide ((p : Int) < (wordsL.length : Int)) = true := by rw [hlt]; simp; omega
      refine Ev.ite_t hd (Ev.bindS (fun _ => hix p (by omega)) (Ev.ite_f (by simpa using hx) (Ev.of fun _ => ?_)))
      rw [wrap64_id (by omega) (by omega)]; simp
    · rw [Nat.zero_add] at d1 d3 ⊢
      by_cases hd : d < 20
      · have hdd : decide ((d : Int) < (wordsL.length : Int)) = true := by rw [hlt]; simp; omega
        have heq : ((wordsL[d]?).getD [] == t) = true := by
          rcases d3 with h | h
          · omega
          · simpa using h
        rw [decide_eq_true hd]
        exact Ev.ite_t hdd (Ev.bindS (fun _ => hix d hd) (Ev.ite_t heq Ev.pure))
      · have hdd : decide ((d : Int) < (wordsL.length : Int)) = false := by rw [hlt]; simp; omega
        rw [decide_eq_false hd]
        exact Ev.ite_f hdd (Ev.of fun _ => rfl)
end Go.Proofs.YtjakhfaodfaimaaGreatDoor.F
namespace Go.Proofs.YtjakhfaodfaimaaGreatDoor.F
open Go
def readB (t : List UInt8) (s : Int × Bool × Int) : Option ((Int × Bool × Int) ⊕ (Int × Int)) :=
  match s with
  | (l1_4, l1_5, l1_15) =>
    if (decide (l1_15 < ((t.map fun b => (b.toNat : Int)).length : Int))) then
    joinK (fun ((j2_4, j2_5) : Int × Bool) =>
    some (.inl (j2_4, j2_5, (IntKind.i64.wrap (l1_15 + 1))))) fun j_j2 =>
    (ix (t.map fun b => (b.toNat : Int)) l1_15).bind fun x6_0 =>
    if ((decide (x6_0 < 48)) || (decide (x6_0 > 57))) then
    some (.inr (0, 1))
    else
    if (!(l1_5 || (decide (l1_4 > (IntKind.i64.wrap (Int.tdiv (IntKind.i64.wrap (9223372036854775807 - (IntKind.i64.wrap (IntKind.u8.wrap (x6_0 - 48))))) 10)))))) then
    j_j2 ((IntKind.i64.wrap ((IntKind.i64.wrap (10 * l1_4)) + (IntKind.i64.wrap (IntKind.u8.wrap (x6_0 - 48))))), (l1_5 || (decide (l1_4 > (IntKind.i64.wrap (Int.tdiv (IntKind.i64.wrap (9223372036854775807 - (IntKind.i64.wrap (IntKind.u8.wrap (x6_0 - 48))))) 10))))))
    else
    j_j2 (l1_4, (l1_5 || (decide (l1_4 > (IntKind.i64.wrap (Int.tdiv (IntKind.i64.wrap (9223372036854775807 - (IntKind.i64.wrap (IntKind.u8.wrap (x6_0 - 48))))) 10))))))
    else
    (if l1_5 then
    some (0, 2)
    else
    some (l1_4, 0)).map .inr
theorem whole_eq (k : Nat) (t : List UInt8) : whole_Read k t = (if (t == []) then some (0, 1) else loopM k (readB t) (0, t == [], 0)) := rfl
theorem dig_wrap {x : Int} (h1 : 48 ≤ x) (h2 : x ≤ 57) : IntKind.i64.wrap (IntKind.u8.wrap (x - 48)) = x - 48 := by
  have : IntKind.u8.wrap (x - 48) = x - 48 := by
    simp only [IntKind.wrap, IntKind.bits, IntKind.signed]
    simp
    omega
  rw [this]; exact wrap64_id (by omega) (by omega)
structure Next (s : List UInt8) (i : Nat) (t : TToken) (e q : Int) : Prop where
  at_ : t.At = i
  err : e = 0 ∨ e = 1 ∨ e = 2 ∨ e = 3
  ok : e = 0 → t.Kind ≠ 0 ∧ TokG t ∧ ∃ n : Nat, q = ((i + n : Nat) : Int) ∧ 1 ≤ n ∧ i + n ≤ s.length
theorem next_end (k : Nat) (s : List UInt8) : lex_lexer_next k s (s.length : Int) = some (TToken.mk 0 (s.length : Int) 0 [], 0, (s.length : Int)) := by
  unfold lex_lexer_next
  rw [if_pos (by simp)]
def lexB (s : List UInt8) (k : Nat) (st : List TToken × Int) : Option ((List TToken × Int) ⊕ (List TToken × Int × Int)) :=
  match st with
  | (l0_6, l0_oloc5_1) =>
    (lex_lexer_skip k s l0_oloc5_1).bind fun x5_0 =>
    (lex_lexer_next k s x5_0).bind fun (x6_0_0, x6_0_1, x6_0_2) =>
    if (x6_0_1 != 0) then
    some (.inr ([], x6_0_0.At, x6_0_1))
    else
    if (room 40 (l0_6.length + [x6_0_0].length)) then
    if (x6_0_0.Kind == 0) then
    some (.inr ((l0_6 ++ [x6_0_0]), 0, 0))
    else
    some (.inl ((l0_6 ++ [x6_0_0]), x6_0_2))
    else none
theorem lexAll_eq (k : Nat) (s : List UInt8) : lex_All k s = (if decide ((s.length : Int) > 16384) then some ([], 16384, 3) else loopM k (lexB s k) ([], 0)) := rfl
structure LexG (s : List UInt8) (r : List TToken × Int × Int) : Prop where
  ok : r.2.2 = 0 → WF r.1 ∧ 0 < r.1.length ∧ ∀ t ∈ r.1, 0 ≤ t.At ∧ t.At ≤ s.length
  bad : r.2.2 ≠ 0 → 0 ≤ r.2.1 ∧ r.2.1 ≤ s.length ∧ (r.2.2 = 1 ∨ r.2.2 = 2 ∨ r.2.2 = 3)
end Go.Proofs.YtjakhfaodfaimaaGreatDoor.F
namespace Go.Proofs.YtjakhfaodfaimaaGreatDoor.F
open Go
theorem loop_both {σ τ ρ : Type} {b1 : Nat → σ → Option (σ ⊕ ρ)} {b2 : Nat → τ → Option (τ ⊕ ρ)} (Inv : σ → τ → Prop) (m : σ → Nat) (Q : ρ → Prop)
    (h : ∀ s t, Inv s t → (∃ r, Ev (fun k => b1 k s) (.inr r) ∧ Ev (fun k => b2 k t) (.inr r) ∧ Q r) ∨ (∃ s' t', Ev (fun k => b1 k s) (.inl s') ∧ Ev (fun k => b2 k t) (.inl t') ∧ Inv s' t' ∧ m s' < m s)) :
    ∀ s t, Inv s t → ∃ r, EvL b1 s r ∧ EvL b2 t r ∧ Q r := by
  intro s
  induction hn : m s using Nat.strongRecOn generalizing s with
  | ind n ih =>
    intro t hi
    rcases h s t hi with ⟨r, h1, h2, q⟩ | ⟨s', t', h1, h2, hi', hlt⟩
    · exact ⟨r, EvL.done h1, EvL.done h2, q⟩
    · obtain ⟨r, e1, e2, q⟩ := ih (m s') (hn ▸ hlt) s' rfl t' hi'
      exact ⟨r, EvL.step h1 e1, EvL.step h2 e2, q⟩
def readR (t : List UInt8) (s : Int × Bool × Int) : Option ((Int × Bool × Int) ⊕ (Int × Int)) :=
  match s with
  | (l1_4, l1_5, l1_6) =>
    if (decide (l1_6 < (t.length : Int))) then
    joinK (fun ((j2_4, j2_5) : Int × Bool) =>
    some (.inl (j2_4, j2_5, (IntKind.i64.wrap (l1_6 + 1))))) fun j_j2 =>
    (ix t l1_6).bind fun x8_2 =>
    joinK (fun (g8_9_24 : Bool) =>
    if g8_9_24 then
    some (.inr (0, 1))
    else
    joinK (fun (j3_5 : Bool) =>
    if (!j3_5) then
    (ix t l1_6).bind fun x13_4 =>
    j_j2 ((IntKind.u64.wrap ((IntKind.u64.wrap (10 * l1_4)) + (IntKind.u64.wrap (IntKind.u8.wrap ((x13_4.toNat : Int) - 48))))), j3_5)
    else
    j_j2 (l1_4, j3_5)) fun j_j3 =>
    if (decide (l1_4 > 1000000000000000000)) then
    j_j3 true
    else
    j_j3 l1_5) fun j_g8_9 =>
    if (decide ((x8_2.toNat : Int) < 48)) then
    j_g8_9 true
    else
    (ix t l1_6).bind fun x8_7 =>
    j_g8_9 (decide ((x8_7.toNat : Int) > 57))
    else
    (if (l1_5 || (decide (l1_4 ≥ 9223372036854775808))) then
    some (0, 2)
    else
    some ((IntKind.i64.wrap l1_4), 0)).map .inr
theorem ref01_eq (k : Nat) (t : List UInt8) : ref01_Read k t = (if (t == []) then some (0, 1) else loopM k (readR t) (0, false, 0)) := rfl
theorem readR_at {t : List UInt8} {p : Nat} (hp : p < t.length) (v : Int) (big : Bool) : readR t (v, big, (p : Int)) =
    if (decide (((bt t p).toNat : Int) < 48) || decide (((bt t p).toNat : Int) > 57)) then some (.inr (0, 1))
    else if (decide (v > 1000000000000000000) || big) then some (.inl (v, true, IntKind.i64.wrap ((p : Int) + 1)))
    else some (.inl (IntKind.u64.wrap ((IntKind.u64.wrap (10 * v)) + (IntKind.u64.wrap (IntKind.u8.wrap (((bt t p).toNat : Int) - 48)))), false, IntKind.i64.wrap ((p : Int) + 1))) := by
  have hd : decide ((p : Int) < (t.length : Int)) = true := by simpa using hp
  simp only [readR, joinK]
  rw [hd, if_pos rfl, ix_bt hp]
  simp only [Option.bind_some]
  cases decide (((bt t p).toNat : Int) < 48)
  · cases decide (((bt t p).toNat : Int) > 57)
    · cases decide (v > 1000000000000000000)
      · cases big <;> rfl
      · rfl
    · rfl
  · rfl
theorem wrapu_id {x : Int} (h : 0 ≤ x) (h2 : x < 18446744073709551616) : IntKind.u64.wrap x = x := by
  simp only [IntKind.wrap, IntKind.bits, IntKind.signed]
  simp
  omega
theorem dig_wrapu {x : Int} (h1 : 48 ≤ x) (h2 : x ≤ 57) : IntKind.u64.wrap (IntKind.u8.wrap (x - 48)) = x - 48 := by
  have : IntKind.u8.wrap (x - 48) = x - 48 := by
    simp only [IntKind.wrap, IntKind.bits, IntKind.signed]
    simp
    omega
  rw [this]; exact wrapu_id (by omega) (by omega)
def RelN (n : Int) (big : Bool) (v : Int) (big' : Bool) : Prop :=
  0 ≤ n ∧ 0 ≤ v ∧ v ≤ 10000000000000000009 ∧ ((big = false ∧ big' = false ∧ v = n ∧ n ≤ 9223372036854775807) ∨ (big = true ∧ (big' = true ∨ 9223372036854775807 < v)))
theorem read_both (t : List UInt8) (hl : t.length ≤ 16384) : ∃ r : Int × Int, Ev (fun k => whole_Read k t) r ∧ Ev (fun k => ref01_Read k t) r ∧ 0 ≤ r.1 := by
  by_cases h0 : (t == []) = true
  · exact ⟨(0, 1), Ev.congr (fun k => whole_eq k t) (Ev.ite_t h0 Ev.pure), Ev.congr (fun k => ref01_eq k t) (Ev.ite_t h0 Ev.pure), by simp⟩
  have h0 : (t == []) = false := by simpa using h0
  obtain ⟨r, e1, e2, e3⟩ := loop_both (b1 := fun _ => readB t) (b2 := fun _ => readR t) (fun s u : Int × Bool × Int => RelN s.1 s.2.1 u.1 u.2.1 ∧ u.2.2 = s.2.2 ∧ 0 ≤ s.2.2 ∧ s.2.2 ≤ t.length) (fun s => (t.length - s.2.2).toNat) (fun r => 0 ≤ r.1) (by
    rintro ⟨n, big, p⟩ ⟨v, big', p'⟩ ⟨hr, i1, i2, i3⟩
    simp only at hr i1 i2 i3
    subst i1
    obtain ⟨p, rfl⟩ : ∃ q : Nat, p' = q := ⟨p'.toNat, by omega⟩
    obtain ⟨r1, r2, r3, r4⟩ := hr
    by_cases hp : p < t.length
    · have hd : decide ((p : Int) < ((t.map fun b => (b.toNat : Int)).length : Int)) = true := by simp; omega
      have hx : ix (t.map fun b => (b.toNat : Int)) (p : Int) = some ((bt t p).toNat : Int) := by
        rw [ix_nat (by simpa using hp)]; simp [bt, hp]
      have hR := readR_at hp v big'
      have hwr : IntKind.i64.wrap ((p : Int) + 1) = ((p + 1 : Nat) : Int) := by rw [wrap64_id (by omega) (by omega)]; simp
      generalize ((bt t p).toNat : Int) = x at hx hR
      rw [hwr] at hR
      cases hc : (decide (x < 48) || decide (x > 57)) with
      | true =>
        left
        refine ⟨(0, 1), Ev.of fun _ => ?_, Ev.of fun _ => ?_, by simp⟩
        · simp only [readB, joinK]
          rw [hd, if_pos rfl, hx, Option.bind_some, hc]; rfl
        · show readR t (v, big', (p : Int)) = _
          rw [hR, hc]; rfl
      | false =>
        right
        simp only [hc] at hR
        simp only [Bool.or_eq_false_iff, decide_eq_false_iff_not] at hc
        have hw := dig_wrap (x := x) (by omega) (by omega)
        have hwu := dig_wrapu (x := x) (by omega) (by omega)
        have hc' : (decide (x < 48) || decide (x > 57)) = false := by simp; omega
        have hq : IntKind.i64.wrap (9223372036854775807 - (x - 48)) = 9223372036854775807 - (x - 48) := wrap64_id (by omega) (by omega)
        have ht : Int.tdiv (9223372036854775807 - (x - 48)) 10 = (9223372036854775807 - (x - 48)) / 10 := Int.tdiv_eq_ediv_of_nonneg (by omega)
        have hq2 : IntKind.i64.wrap ((9223372036854775807 - (x - 48)) / 10) = (9223372036854775807 - (x - 48)) / 10 := wrap64_id (by omega) (by omega)
        rw [hwu] at hR
        -- the document's step
        obtain ⟨v2, b2, hR2, s1, s2, s3⟩ : ∃ v2 b2, readR t (v, big', (p : Int)) = some (.inl (v2, b2, ((p + 1 : Nat) : Int))) ∧ 0 ≤ v2 ∧ v2 ≤ 10000000000000000009 ∧ ((b2 = true ∧ v2 = v ∧ (v > 1000000000000000000 ∨ big' = true)) ∨ (b2 = false ∧ v ≤ 1000000000000000000 ∧ big' = false ∧ v2 = 10 * v + (x - 48))) := by
          cases hb : (decide (v > 1000000000000000000) || big') with
          | true =>
            rw [hb] at hR
            refine ⟨v, true, hR, r2, r3, .inl ⟨rfl, rfl, ?_⟩⟩
            simpa using hb
          | false =>
            rw [hb] at hR
            simp only [Bool.or_eq_false_iff, decide_eq_false_iff_not] at hb
            rw [wrapu_id (x := 10 * v) (by omega) (by omega), wrapu_id (x := 10 * v + (x - 48)) (by omega) (by omega)] at hR
            exact ⟨_, false, hR, by omega, by omega, .inr ⟨rfl, by omega, hb.2, rfl⟩⟩
        cases hb : (big || decide (n > (9223372036854775807 - (x - 48)) / 10)) with
        | true =>
          refine ⟨(n, true, ((p + 1 : Nat) : Int)), (v2, b2, ((p + 1 : Nat) : Int)), Ev.of fun _ => ?_, Ev.of fun _ => hR2, ⟨⟨r1, s1, s2, .inr ⟨rfl, ?_⟩⟩, rfl, by simp; omega, by simp; omega⟩, by simp; omega⟩
          · simp only [readB, joinK]
            rw [hd, if_pos rfl, hx, Option.bind_some, hc', hw, hq, ht, hq2, hb, hwr]; rfl
          · rcases s3 with ⟨q1, q2, q3⟩ | ⟨q1, q2, q3, q4⟩
            · exact .inl q1
            · right
              show 9223372036854775807 < v2
              rcases r4 with ⟨z1, z2, z3, z4⟩ | ⟨z1, z2 | z2⟩
              · subst z1 z3
                have hb2 : v > (9223372036854775807 - (x - 48)) / 10 := by simpa using hb
                omega
              · rw [q3] at z2; cases z2
              · omega
        | false =>
          simp only [Bool.or_eq_false_iff, decide_eq_false_iff_not] at hb
          have hb' : (big || decide (n > (9223372036854775807 - (x - 48)) / 10)) = false := by rw [hb.1]; simp; omega
          have hn1 : IntKind.i64.wrap (10 * n) = 10 * n := wrap64_id (by omega) (by omega)
          have hn2 : IntKind.i64.wrap (10 * n + (x - 48)) = 10 * n + (x - 48) := wrap64_id (by omega) (by omega)
          obtain ⟨z1, z2, z3, z4⟩ := r4.resolve_right (fun h => by rw [hb.1] at h; cases h.1)
          obtain ⟨q1, q2, q3, q4⟩ := s3.resolve_left (fun h => by
            rcases h.2.2 with h | h
            · omega
            · rw [z2] at h; cases h)
          refine ⟨(10 * n + (x - 48), false, ((p + 1 : Nat) : Int)), (v2, b2, ((p + 1 : Nat) : Int)), Ev.of fun _ => ?_, Ev.of fun _ => hR2, ⟨⟨by simp; omega, s1, s2, .inl ⟨rfl, q1, by rw [q4, z3], by simp; omega⟩⟩, rfl, by simp; omega, by simp; omega⟩, by simp; omega⟩
          simp only [readB, joinK]
          rw [hd, if_pos rfl, hx, Option.bind_some, hc', hw, hq, ht, hq2, hb', hwr, hn1, hn2]; rfl
    · left
      have hd : decide ((p : Int) < ((t.map fun b => (b.toNat : Int)).length : Int)) = false := by simp; omega
      have hd2 : decide ((p : Int) < (t.length : Int)) = false := by simp; omega
      refine ⟨if big then (0, 2) else (n, 0), Ev.of fun _ => ?_, Ev.of fun _ => ?_, by cases big <;> simp [r1]⟩
      · simp only [readB]
        rw [hd]
        cases big <;> rfl
      · simp only [readR]
        rw [hd2]
        rcases r4 with ⟨z1, z2, z3, z4⟩ | ⟨z1, z2⟩
        · subst z1 z2 z3
          rw [show decide (v ≥ 9223372036854775808) = false by simp; omega, wrap64_id (x := v) (by omega) (by omega)]; rfl
        · subst z1
          have : (big' || decide (v ≥ 9223372036854775808)) = true := by
            rcases z2 with h | h
            · rw [h]; rfl
            · rw [show decide (v ≥ 9223372036854775808) = true by simp; omega]; simp
          rw [this]; rfl) (0, t == [], 0) (0, false, 0) ⟨⟨by simp, by simp, by simp, .inl ⟨by simpa using h0, rfl, rfl, by simp⟩⟩, rfl, by simp, by simp⟩
  exact ⟨r, Ev.congr (fun k => whole_eq k t) (Ev.ite_f h0 (Ev.loop e1)), Ev.congr (fun k => ref01_eq k t) (Ev.ite_f h0 (Ev.loop e2)), e3⟩
structure MaxM (u r : List UInt8) : Prop where
  or : r = [] ∨ (r ∈ marksL ∧ r.length ≤ u.length ∧ u.take r.length = r)
  mx : ∀ m ∈ marksL, m.length ≤ u.length → u.take m.length = m → m.length ≤ r.length
theorem marks_pos : ∀ m ∈ marksL, 1 ≤ m.length ∧ m.length ≤ 2 := by decide
theorem MaxM.uniq {u r r' : List UInt8} (h : MaxM u r) (h' : MaxM u r') : r = r' := by
  rcases h.or with rfl | ⟨a1, a2, a3⟩
  · rcases h'.or with rfl | ⟨b1, b2, b3⟩
    · rfl
    · have x := h.mx r' b1 b2 b3
      have y := (marks_pos r' b1).1
      simp at x
      subst x
      simp at y
  · rcases h'.or with rfl | ⟨b1, b2, b3⟩
    · have x := h'.mx r a1 a2 a3
      have y := (marks_pos r a1).1
      simp at x
      subst x
      simp at y
    · have x := h.mx r' b1 b2 b3
      have y := h'.mx r a1 a2 a3
      have e : r.length = r'.length := by omega
      exact a3.symm.trans ((by rw [e] : u.take r.length = u.take r'.length).trans b3)
theorem mark_max (t : List UInt8) : ∃ r, Ev (fun k => ref09_Mark k t) r ∧ MaxM t r := by
  have hlen : marksL.length = 24 := rfl
  obtain ⟨r, h1, h2⟩ := loop_ex (body := markB t marksL) (fun s : List UInt8 × Int => 0 ≤ s.2 ∧ s.2 ≤ marksL.length ∧ (s.1 = [] ∨ (s.1 ∈ marksL ∧ s.1.length ≤ t.length ∧ t.take s.1.length = s.1)) ∧ ∀ q m, (q : Nat) < s.2.toNat → marksL[q]? = some m → m.length ≤ t.length → t.take m.length = m → m.length ≤ s.1.length)
      (fun s => (marksL.length - s.2).toNat) (fun r => MaxM t r) (by
    rintro ⟨best, i⟩ ⟨hi0, hil, hb, hall⟩
    simp only at hi0 hil hb hall
    by_cases hd : i < marksL.length
    · right
      have hdb : decide (i < (marksL.length : Int)) = true := by simpa using hd
      have hlt : i.toNat < marksL.length := by omega
      have hg : marksL[i.toNat]? = some (marksL[i.toNat]'hlt) := List.getElem?_eq_getElem hlt
      obtain ⟨m, hm, hmm, hmem⟩ : ∃ m, ix marksL i = some m ∧ marksL[i.toNat]? = some m ∧ m ∈ marksL := by
        refine ⟨marksL[i.toNat]'hlt, ?_, hg, List.getElem_mem hlt⟩
        unfold ix; rw [if_pos hi0]; exact hg
      have hw : IntKind.i64.wrap (i + 1) = i + 1 := wrap64_id (by omega) (by omega)
      have next : ∀ best' : List UInt8, best.length ≤ best'.length → (m.length ≤ t.length → t.take m.length = m → m.length ≤ best'.length) → ∀ q m', (q : Nat) < (i + 1).toNat → marksL[q]? = some m' → m'.length ≤ t.length → t.take m'.length = m' → m'.length ≤ best'.length := by
        intro best' h1 h2 q m' hq hx hy hz
        by_cases hqi : q < i.toNat
        · exact Nat.le_trans (hall q m' hqi hx hy hz) h1
        · have : q = i.toNat := by omega
          subst this
          rw [hmm] at hx; cases hx
          exact h2 hy hz
      cases hle : decide ((m.length : Int) ≤ (t.length : Int)) with
      | false =>
        have hle' : ¬ m.length ≤ t.length := by simpa using hle
        refine ⟨(best, i + 1), ?_, ⟨by simp; omega, by simp; omega, hb, next best (Nat.le_refl _) (fun h => (hle' h).elim)⟩, by simp; omega⟩
        simp only [markB]; simp only [qe, Option.bind_some, Option.map_some, joinK, qb, ↓reduceIte, if_true, if_false, eq_self, Int.reduceBEq, Int.reduceBNe, hdb, hm, hle, hw]; exact Ev.pure
      | true =>
        have hle' : m.length ≤ t.length := by simpa using hle
        have hs : sub t 0 (m.length : Int) = some (t.take m.length) := by
          unfold sub
          rw [if_pos ⟨by omega, by omega, by omega⟩]; simp
        cases heq : (t.take m.length == m) with
        | false =>
          have heq' : ¬ t.take m.length = m := by simpa using heq
          refine ⟨(best, i + 1), ?_, ⟨by simp; omega, by simp; omega, hb, next best (Nat.le_refl _) (fun _ h => (heq' h).elim)⟩, by simp; omega⟩
          simp only [markB]; simp only [qe, Option.bind_some, Option.map_some, joinK, qb, ↓reduceIte, if_true, if_false, eq_self, Int.reduceBEq, Int.reduceBNe, hdb, hm, hle, hs, heq, hw]; exact Ev.pure
        | true =>
          have heq' : t.take m.length = m := by simpa using heq
          cases hgt : decide ((m.length : Int) > (best.length : Int)) with
          | false =>
            have hgt' : m.length ≤ best.length := by simpa using hgt
            refine ⟨(best, i + 1), ?_, ⟨by simp; omega, by simp; omega, hb, next best (Nat.le_refl _) (fun _ _ => hgt')⟩, by simp; omega⟩
            simp only [markB]; simp only [qe, Option.bind_some, Option.map_some, joinK, qb, ↓reduceIte, if_true, if_false, eq_self, Int.reduceBEq, Int.reduceBNe, hdb, hm, hle, hs, heq, hgt, hw]; exact Ev.pure
          | true =>
            have hgt' : best.length < m.length := by simpa using hgt
            refine ⟨(m, i + 1), ?_, ⟨by simp; omega, by simp; omega, .inr ⟨hmem, hle', heq'⟩, next m (by omega) (fun _ _ => Nat.le_refl _)⟩, by simp; omega⟩
            simp only [markB]; simp only [qe, Option.bind_some, Option.map_some, joinK, qb, ↓reduceIte, if_true, if_false, eq_self, Int.reduceBEq, Int.reduceBNe, hdb, hm, hle, hs, heq, hgt, hw]; exact Ev.pure
    · have hdb : decide (i < (marksL.length : Int)) = false := by simpa using hd
      left
      refine ⟨best, ?_, ⟨hb, fun m hm h1 h2 => ?_⟩⟩
      · simp only [markB]; simp only [qe, Option.bind_some, Option.map_some, joinK, qb, ↓reduceIte, if_true, if_false, eq_self, Int.reduceBEq, Int.reduceBNe, hdb]; exact Ev.pure
      · obtain ⟨q, hq, hx⟩ := List.getElem_of_mem hm
        exact hall q m (by omega) (by rw [List.getElem?_eq_getElem hq, hx]) h1 h2) ([], 0) ⟨by simp, by simp, .inl rfl, fun q m hq => by simp at hq⟩
  refine ⟨r, Ev.congr (fun k => mark_eq k t) (Ev.loop (marks_add t 14 1 marks0 (by omega) (by omega) rfl ?_)), h2⟩
  exact h1
theorem spellings_eq : ∀ p : Fin 15, 0 < p.1 → g_word_spellings[p.1]? = spells[p.1 - 1]? := by decide
theorem sign_is (t : List UInt8) : ∃ r : Int × Bool, Ev (fun k => word_Sign k t) r ∧ (r.2 = true → t ∈ spells) ∧ (r.2 = false → t ∉ spells) := by
  have hg : g_word_spellings.length = 15 := rfl
  have hs : spells.length = 14 := rfl
  obtain ⟨r, h1, h2⟩ := loop_ex (σ := Int) (ρ := Int × Bool) (body := fun k (l1_7 : Int) =>
    if (decide (l1_7 < 15)) then
    (ix g_word_spellings l1_7).bind fun x3_1 =>
    if ((decide (l1_7 > 0)) && (x3_1 == t)) then
    some (.inr (l1_7, true))
    else
    some (.inl (IntKind.i64.wrap (l1_7 + 1)))
    else
    (some (0, false)).map .inr) (fun p => 0 ≤ p ∧ p ≤ 15 ∧ ∀ q, (q : Nat) + 1 < p.toNat → spells[q]? ≠ some t) (fun p => (15 - p).toNat) (fun r => (r.2 = true → t ∈ spells) ∧ (r.2 = false → t ∉ spells)) (by
      rintro p ⟨p1, p2, p3⟩
      obtain ⟨p, rfl⟩ : ∃ q : Nat, p = q := ⟨p.toNat, by omega⟩
      by_cases hp : p < 15
      · have hd : decide ((p : Int) < 15) = true := by simp; omega
        have hx : ix g_word_spellings (p : Int) = some (g_word_spellings[p]'(by rw [hg]; exact hp)) := ix_nat _
        have hge : g_word_spellings[p]? = some (g_word_spellings[p]'(by rw [hg]; exact hp)) := List.getElem?_eq_getElem _
        cases hc : ((decide ((p : Int) > 0)) && ((g_word_spellings[p]'(by rw [hg]; exact hp)) == t)) with
        | true =>
          refine .inl ⟨_, Ev.ite_t hd (Ev.bindS (fun _ => hx) (Ev.ite_t hc Ev.pure)), fun _ => ?_, fun h => by cases h⟩
          simp only [Bool.and_eq_true, decide_eq_true_eq, beq_iff_eq] at hc
          have := spellings_eq ⟨p, hp⟩ (by show 0 < p; omega)
          simp only at this
          rw [hge, hc.2] at this
          exact List.mem_of_getElem? this.symm
        | false =>
          refine .inr ⟨(p : Int) + 1, Ev.ite_t hd (Ev.bindS (fun _ => hx) (Ev.ite_f hc (Ev.of fun _ => by rw [wrap64_id (by omega) (by omega)]))), ⟨by omega, by omega, fun q hq he => ?_⟩, by omega⟩
          by_cases hqp : q + 1 < p
          · exact p3 q (by omega) he
          · have e1 : p = q + 1 := by omega
            have := spellings_eq ⟨p, hp⟩ (by show 0 < p; omega)
            simp only at this
            rw [show p - 1 = q by omega, he, hge] at this
            simp only [Option.some.injEq] at this
            rw [this] at hc
            simp at hc; omega
      · refine .inl ⟨_, Ev.ite_f (by simp; omega) (Ev.of fun _ => rfl), fun h => (by cases h), fun _ hm => ?_⟩
        obtain ⟨q, hq, hx⟩ := List.getElem_of_mem hm
        exact p3 q (by omega) (by rw [List.getElem?_eq_getElem hq, hx])) 0 ⟨by omega, by omega, fun q hq => by simp at hq⟩
  exact ⟨r, Ev.joinK (Ev.loop h1), h2⟩
theorem single_tab : ∀ n : Fin 256, decide (Lib.indexByte [40, 41, 123, 125, 91, 93, 44, 59, 46, 61, 60, 62, 43, 45, 42, 47, 37, 33] ((n.1 : Int)).toNat.toUInt8 ≥ 0) = marksL.contains [UInt8.ofNat n.1] := by decide +kernel
theorem two_tab : ∀ m ∈ marksL, m.length = 2 → m ∈ spells := by decide
theorem pmark_max (t : List UInt8) (h0 : t ≠ []) : ∃ m, Ev (fun k => word_Mark k t) m ∧ MaxM (t.take 2) m := by
  have hpos : 0 < t.length := List.length_pos_iff.2 h0
  have hne : (t == []) = false := by simpa using h0
  have hx : ix t 0 = some (bt t 0) := ix_bt (p := 0) hpos
  have ht1 : t.take 1 = [bt t 0] := by
    cases t with
    | nil => exact (h0 rfl).elim
    | cons a r => rfl
  have one : ∃ m, Ev (fun k => (joinK (fun (g5_7_24 : Bool) =>
    if g5_7_24 then
    (sub t 0 1).bind fun x6_1 =>
    some x6_1
    else
    some []) fun j_g5_7 =>
    if (!(t == [])) then
    (ix t 0).bind fun x5_4 =>
    (strings_IndexByte k [40, 41, 123, 125, 91, 93, 44, 59, 46, 61, 60, 62, 43, 45, 42, 47, 37, 33] (x5_4.toNat : Int)).bind fun x5_5 =>
    j_g5_7 (decide (x5_5 ≥ 0))
    else
    j_g5_7 false)) m ∧ ((1 < t.length → t.take 2 ∉ spells) → MaxM (t.take 2) m) := by
    have hs : sub t 0 1 = some (t.take 1) := by unfold sub; rw [if_pos ⟨by omega, by omega, by omega⟩]; rfl
    have htab := single_tab ⟨(bt t 0).toNat, (bt t 0).toNat_lt⟩
    simp only [UInt8.ofNat_toNat] at htab
    have small : (1 < t.length → t.take 2 ∉ spells) → ∀ m ∈ marksL, m.length ≤ (t.take 2).length → (t.take 2).take m.length = m → m = [bt t 0] := by
      intro hsp m hm h1 h2
      obtain ⟨a, b⟩ := marks_pos m hm
      have : m.length = 1 ∨ m.length = 2 := by omega
      rcases this with h | h
      · rw [h, List.take_take] at h2
        rw [← h2]; exact ht1
      · rw [h, List.take_take] at h2
        have hl : 1 < t.length := by rw [h, List.length_take] at h1; omega
        have h2 : t.take 2 = m := h2
        exact (hsp hl (h2 ▸ two_tab m hm h)).elim
    cases hc : decide (Lib.indexByte [40, 41, 123, 125, 91, 93, 44, 59, 46, 61, 60, 62, 43, 45, 42, 47, 37, 33] ((bt t 0).toNat : Int).toNat.toUInt8 ≥ 0) with
    | true =>
      refine ⟨t.take 1, Ev.joinK (Ev.ite_t (by rw [hne]; rfl) (Ev.bindS (fun _ => hx) (Ev.bindS (fun _ => rfl) (Ev.of fun _ => ?_)))), fun hsp => ⟨.inr ⟨?_, ?_, ?_⟩, fun m hm h1 h2 => ?_⟩⟩
      · simp only [hc, hs, if_true, Option.bind_some]
      · rw [hc] at htab
        rw [ht1]; exact List.contains_iff_mem.1 htab.symm
      · rw [ht1, List.length_take]; simp; omega
      · rw [ht1, List.take_take]; exact ht1
      · rw [small hsp m hm h1 h2, ht1]; exact Nat.le_refl _
    | false =>
      refine ⟨[], Ev.joinK (Ev.ite_t (by rw [hne]; rfl) (Ev.bindS (fun _ => hx) (Ev.bindS (fun _ => rfl) (Ev.of fun _ => ?_)))), fun hsp => ⟨.inl rfl, fun m hm h1 h2 => ?_⟩⟩
      · simp only [hc, Bool.false_eq_true, if_false]
      · exfalso
        have e := small hsp m hm h1 h2
        rw [e] at hm
        rw [hc, List.contains_iff_mem.2 hm] at htab
        cases htab
  obtain ⟨m1, e1, l1⟩ := one
  by_cases h2 : 1 < t.length
  · have hd : decide ((t.length : Int) > 1) = true := by simp; omega
    have hs : sub t 0 2 = some (t.take 2) := by unfold sub; rw [if_pos ⟨by omega, by omega, by omega⟩]; rfl
    obtain ⟨⟨n, b⟩, hb, s1, s2⟩ := sign_is (t.take 2)
    have hl2 : (t.take 2).length = 2 := by rw [List.length_take]; omega
    cases b with
    | true =>
      have hsp := s1 rfl
      refine ⟨t.take 2, Ev.joinK (Ev.ite_t hd (Ev.bindS (fun _ => hs) (Ev.bind hb (Ev.ite_t rfl (Ev.bindS (fun _ => hs) Ev.pure))))), ⟨.inr ⟨List.mem_append_right _ hsp, Nat.le_refl _, List.take_length⟩, fun m hm _ _ => ?_⟩⟩
      rw [hl2]; exact (marks_pos m hm).2
    | false => exact ⟨m1, Ev.joinK (Ev.ite_t hd (Ev.bindS (fun _ => hs) (Ev.bind hb (Ev.ite_f rfl e1)))), l1 fun _ => s2 rfl⟩
  · exact ⟨m1, Ev.joinK (Ev.ite_f (by simp; omega) e1), l1 fun h => (h2 h).elim⟩
theorem mark_both (t : List UInt8) (h0 : t ≠ []) : ∃ m, Ev (fun k => word_Mark k t) m ∧ Ev (fun k => ref09_Mark k (t.take 2)) m ∧ m.length ≤ t.length ∧ t.take m.length = m := by
  obtain ⟨m, h1, h2⟩ := pmark_max t h0
  obtain ⟨m', g1, g2⟩ := mark_max (t.take 2)
  obtain rfl := h2.uniq g2
  refine ⟨m, h1, g1, ?_⟩
  rcases h2.or with rfl | ⟨a, b, c⟩
  · simp
  · have h2 := (marks_pos m a).2
    rw [List.length_take] at b
    rw [List.take_take, Nat.min_eq_left h2] at c
    exact ⟨by omega, c⟩
end Go.Proofs.YtjakhfaodfaimaaGreatDoor.F
namespace Go.Proofs.YtjakhfaodfaimaaGreatDoor.F
open Go
def skB (s : List UInt8) (k : Nat) (l0_oext0_1 : Int) : Option (Int ⊕ Int) :=
    if (decide (l0_oext0_1 < (s.length : Int))) then
    (ix s l0_oext0_1).bind fun x1_8 =>
    joinK (fun (j1_21 : Bool) =>
    if j1_21 then
    some (.inl (IntKind.i64.wrap (l0_oext0_1 + 1)))
    else
    if ((x1_8.toNat : Int) == 35) then
    (lex_lexer_run k s l0_oext0_1).bind fun x8_5 =>
    some (.inl (IntKind.i64.wrap (l0_oext0_1 + x8_5)))
    else
    some (.inr l0_oext0_1)) fun j_j1 =>
    if ((x1_8.toNat : Int) == 32) then
    j_j1 ((x1_8.toNat : Int) == 32)
    else
    if ((x1_8.toNat : Int) == 9) then
    j_j1 ((x1_8.toNat : Int) == 9)
    else
    if ((x1_8.toNat : Int) == 10) then
    j_j1 ((x1_8.toNat : Int) == 10)
    else
    j_j1 ((x1_8.toNat : Int) == 13)
    else
    some (.inr l0_oext0_1)
theorem skB_at {s : List UInt8} {p : Nat} (hp : p < s.length) (k : Nat) : skB s k (p : Int) = if (cl s p == 3) = true then some (.inl (IntKind.i64.wrap ((p : Int) + 1))) else if (cl s p == 4) = true then (lex_lexer_run k s (p : Int)).bind fun x8_5 => some (.inl (IntKind.i64.wrap ((p : Int) + x8_5))) else some (.inr (p : Int)) := by
  unfold skB
  rw [if_pos (show decide ((p : Int) < (s.length : Int)) = true by simpa using hp), ix_bt hp]
  unfold cl
  rw [← blank_eq, ← hash_eq]
  simp only [Option.bind_some, joinK]
  cases h1 : ((bt s p).toNat : Int) == 32
  · cases h2 : ((bt s p).toNat : Int) == 9
    · cases h3 : ((bt s p).toNat : Int) == 10
      · simp
      · simp
    · simp
  · simp
theorem skip_both {s : List UInt8} (hl : s.length ≤ 16384) : ∀ (n i : Nat), s.length - i ≤ n → i ≤ s.length → ∃ j : Nat, EvL (fun k => skB s k) (i : Int) (j : Int) ∧ i ≤ j ∧ j ≤ s.length ∧ (j = s.length ∨ (cl s j ≠ 3 ∧ cl s j ≠ 4)) ∧
    ∀ (out : List TToken) (r : List TToken × Int × Int), EvL (allB · s) (out, (j : Int)) r → EvL (allB · s) (out, (i : Int)) r
  | n, i, hn, hi => by
    by_cases hp : i < s.length
    · have hdb : decide ((i : Int) < (s.length : Int)) = true := by simpa using hp
      have hw : IntKind.i64.wrap ((i : Int) + 1) = ((i + 1 : Nat) : Int) := by rw [wrap64_id (by omega) (by omega)]; simp
      by_cases h3 : cl s i = 3
      · match n, hn with
        | 0, hn => exact absurd hn (by omega)
        | n + 1, hn =>
          obtain ⟨j, e1, e2, e3, e4, e5⟩ := skip_both hl n (i + 1) (by omega) (by omega)
          have h3b : (cl s i == 3) = true := by simpa using h3
          refine ⟨j, EvL.step (Ev.of fun k => ?_) e1, by omega, e3, e4, fun out r h => EvL.step ?_ (e5 out r h)⟩
          · rw [skB_at hp, if_pos (by simpa using h3), hw]
          · simp only [allB, class_eq]; simp only [qe, Option.bind_some, Option.map_some, joinK, qb, ↓reduceIte, if_true, if_false, eq_self, Int.reduceBEq, Int.reduceBNe, hdb, ix_bt hp, h3b, hw]; exact Ev.pure
      · have h3b : (cl s i == 3) = false := by simpa using h3
        by_cases h4 : cl s i = 4
        · have h4b : (cl s i == 4) = true := by simpa using h4
          obtain ⟨d, d1, d2, d3⟩ := stretch (fun p => ((bt s p).toNat : Int) != 10) s.length (s.length - i) i (by omega)
          have hd' : 1 ≤ d := by
            rcases Nat.eq_zero_or_pos d with h | h
            · subst h
              rcases d3 with h | h
              · omega
              · simp only [Nat.add_zero] at h
                have : ((bt s i).toNat : Int) = 10 := by simpa using h
                unfold cl at h4; rw [this] at h4; exact absurd h4 (by decide)
            · exact h
          have hr : Ev (fun k => lex_lexer_run k s (i : Int)) (d : Int) := run_to hl (P := lex_lexer_skip_1) (Q := fun p => ((bt s p).toNat : Int) != 10) (fun k q => rfl) d1 d2 d3
          match n, hn with
          | 0, hn => exact absurd hn (by omega)
          | n + 1, hn =>
            obtain ⟨j, e1, e2, e3, e4, e5⟩ := skip_both hl n (i + d) (by omega) (by omega)
            have hwd : IntKind.i64.wrap ((i : Int) + (d : Int)) = ((i + d : Nat) : Int) := by rw [wrap64_id (by omega) (by omega)]; simp
            refine ⟨j, EvL.step (Ev.congr (fun k => skB_at hp k) (Ev.ite_f h3b (Ev.ite_t h4b (Ev.bind hr (Ev.of fun k => by rw [hwd]))))) e1, by omega, e3, e4, fun out r h => EvL.step ?_ (e5 out r h)⟩
            simp only [allB, class_eq]; simp only [qe, Option.bind_some, Option.map_some, joinK, qb, ↓reduceIte, if_true, if_false, eq_self, Int.reduceBEq, Int.reduceBNe, hdb, ix_bt hp, h3b, h4b]
            refine Ev.loop (scan_to d i (fun p q1 q2 => ?_) ?_)
            · have hp : decide ((p : Int) < (s.length : Int)) = true := by simp; omega
              have hwr : IntKind.i64.wrap ((p : Int) + 1) = ((p + 1 : Nat) : Int) := by rw [wrap64_id (by omega) (by omega)]; simp
              have hx := d2 p q1 q2
              simp only [qe, Option.bind_some, Option.map_some, joinK, qb, ↓reduceIte, if_true, if_false, eq_self, Int.reduceBEq, Int.reduceBNe, hp, ix_bt (show p < s.length by omega), hx, hwr]; exact Ev.pure
            · by_cases he2 : i + d = s.length
              · have hp : decide (((i + d : Nat) : Int) < (s.length : Int)) = false := by simp; omega
                simp only [qe, Option.bind_some, Option.map_some, joinK, qb, ↓reduceIte, if_true, if_false, eq_self, Int.reduceBEq, Int.reduceBNe, hp]; exact Ev.pure
              · have hp : decide (((i + d : Nat) : Int) < (s.length : Int)) = true := by simp; omega
                have he : (((bt s (i + d)).toNat : Int) != 10) = false := by
                  rcases d3 with h | h
                  · exact (he2 h).elim
                  · exact h
                simp only [qe, Option.bind_some, Option.map_some, joinK, qb, ↓reduceIte, if_true, if_false, eq_self, Int.reduceBEq, Int.reduceBNe, hp, ix_bt (show i + d < s.length by omega), he]; exact Ev.pure
        · exact ⟨i, EvL.done (Ev.of fun k => by rw [skB_at hp, if_neg (by simpa using h3), if_neg (by simpa using h4)]), Nat.le_refl _, hi, .inr ⟨h3, h4⟩, fun out r h => h⟩
    · have : i = s.length := by omega
      subst this
      refine ⟨s.length, EvL.done (Ev.of fun k => ?_), Nat.le_refl _, hi, .inl rfl, fun out r h => h⟩
      unfold skB
      rw [if_neg (by simp)]
theorem cut_take {s : List UInt8} {i n d : Nat} (h : i + n ≤ s.length) (hd : d ≤ n) : (cut s i n).take d = cut s i d := by
  unfold cut
  apply List.ext_getElem?
  intro q
  by_cases hq : q < d
  · rw [List.getElem?_take_of_lt hq, List.getElem?_drop, List.getElem?_drop, List.getElem?_take_of_lt (by omega), List.getElem?_take_of_lt (by omega)]
  · rw [List.getElem?_eq_none (by rw [List.length_take]; omega), List.getElem?_eq_none (by simp; omega)]
theorem tok_both {s : List UInt8} (hl : s.length ≤ 16384) {i : Nat} (hi : i < s.length) : ∃ t t' e q, Ev (fun k => lex_lexer_next k s (i : Int)) (t, e, q) ∧ Ev (fun k => ref10_one k s (i : Int)) (t', e) ∧ t.At = i ∧
    (e = 0 → t' = t ∧ t.Kind ≠ 0 ∧ q = ((i + t.Text.length : Nat) : Int) ∧ 1 ≤ t.Text.length ∧ i + t.Text.length ≤ s.length ∧ TokG t) := by
  have hne : ((i : Int) == (s.length : Int)) = false := by simp; omega
  have hw : ∀ d : Nat, d ≤ 16384 → IntKind.i64.wrap ((i : Int) + (d : Int)) = ((i + d : Nat) : Int) := fun d hd => by rw [wrap64_id (by omega) (by omega)]; omega
  have fin : ∀ (k : Nat) (e kd n : Int) (d : Nat), i + d ≤ s.length → ((sub s (i : Int) (IntKind.i64.wrap ((i : Int) + (d : Int)))).bind fun x21_14 => some ((TToken.mk kd (i : Int) n x21_14), e, (IntKind.i64.wrap ((i : Int) + (d : Int))))) = some (⟨kd, i, n, cut s i d⟩, e, ((i + d : Nat) : Int)) := by
    intro k e kd n d hd
    rw [hw d (by omega), sub_cut hd]; rfl
  unfold lex_lexer_next
  by_cases h1 : cl s i = 1
  · obtain ⟨d, d1, d2, d3⟩ := stretch (isW s) s.length (s.length - i) i (by omega)
    have hd' : 1 ≤ d := by
      rcases Nat.eq_zero_or_pos d with h | h
      · subst h
        rcases d3 with h | h
        · omega
        · simp [isW, h1] at h
      · exact h
    have hr : Ev (fun k => lex_lexer_run_v2 k s (i : Int)) (d : Int) := run_to hl (P := lex_lexer_next_1) (Q := isW s) (fun k p => wordc_eq k _) d1 d2 d3
    obtain ⟨b, b1, b2⟩ := is_both (cut s i d)
    have hlen := cut_len d1
    refine ⟨⟨if b then 3 else 1, i, 0, cut s i d⟩, _, if 32 < d then 3 else 0, ((i + d : Nat) : Int), ?_, word_one hl hd' d1 h1 d2 d3 b2, rfl, fun he => ⟨by simp, by cases b <;> simp, by simp only [hlen], by simp only [hlen]; omega, by simp only [hlen]; omega, fun hk => ?_, fun hk => by cases b <;> simp at hk⟩⟩
    rotate_left
    · have h32 : ¬ 32 < d := fun h => by rw [if_pos h] at he; cases he
      have hb : b = false := by cases b; rfl; simp at hk
      subst hb
      refine named_of (by simp only; omega) (by simp only; omega) ?_ (fun p hp => ?_) b2
      · simp only [cl]; rw [bt_cut d1 (by omega)]; exact h1
      · simp only at hp
        rw [hlen] at hp
        have := d2 (i + p) (by omega) (by omega)
        simp only [isW, cl] at this ⊢
        rw [bt_cut d1 hp]; exact this
    refine Ev.ite_f hne (Ev.joinK (Ev.bindS (fun _ => ix_bt hi) (Ev.bindS (fun k => letter_eq k _) (Ev.ite_t (by simpa using h1) (Ev.bind hr (Ev.joinK ?_))))))
    rw [hw d (by omega)]
    refine Ev.bindS (fun _ => sub_cut d1) (Ev.bind b1 (Ev.of fun k => ?_))
    by_cases h32 : 32 < d
    · have hdd : decide ((d : Int) > 32) = true := by simp; omega
      rw [if_pos h32]
      cases b <;> simp only [hdd, if_true, Bool.false_eq_true, if_false] <;> exact fin k _ _ _ d d1
    · have hdd : decide ((d : Int) > 32) = false := by simp; omega
      rw [if_neg h32]
      cases b <;> simp only [hdd, if_true, Bool.false_eq_true, if_false] <;> exact fin k _ _ _ d d1
  have h1b : (cl s i == 1) = false := by simpa using h1
  by_cases h2 : cl s i = 2
  · have h2b : (cl s i == 2) = true := by simpa using h2
    obtain ⟨d, d1, d2, d3⟩ := stretch (fun p => cl s p == 2) s.length (s.length - i) i (by omega)
    have hd' : 1 ≤ d := by
      rcases Nat.eq_zero_or_pos d with h | h
      · subst h
        rcases d3 with h | h
        · omega
        · simp [h2] at h
      · exact h
    have hlen := cut_len d1
    have hr : Ev (fun k => lex_lexer_run_v3 k s (i : Int)) (d : Int) := run_to hl (P := lex_digit) (Q := fun p => cl s p == 2) (fun k p => digit_eq k _) d1 d2 d3
    obtain ⟨⟨n, e⟩, hn, hn2, hn3⟩ := read_both (cut s i d) (by rw [cut_len d1]; omega)
    refine ⟨⟨2, i, n, cut s i d⟩, ⟨2, i, n, cut s i d⟩, e, ((i + d : Nat) : Int), ?_, ?_, rfl, fun he => ⟨rfl, by simp, by simp only [hlen], by simp only [hlen]; omega, by simp only [hlen]; omega, fun hk => by simp at hk, fun _ => hn3⟩⟩
    · refine Ev.ite_f hne (Ev.joinK (Ev.bindS (fun _ => ix_bt hi) (Ev.bindS (fun k => letter_eq k _) (Ev.ite_f (by simpa using h1) (Ev.bindS (fun k => digit_eq k _) (Ev.ite_t (by simpa using h2) (Ev.bind hr ?_)))))))
      rw [hw d (by omega)]
      refine Ev.bindS (fun _ => sub_cut d1) (Ev.bind hn (Ev.of fun k => ?_))
      exact fin k e 2 n d d1
    · unfold ref10_one
      simp only [class_eq]
      refine Ev.bindS (fun _ => ix_bt (by omega)) ?_
      simp only [qe, Option.bind_some, Option.map_some, joinK, qb, ↓reduceIte, if_true, if_false, eq_self, Int.reduceBEq, Int.reduceBNe, h1b, h2b]
      refine Ev.loop (scan_to d i (fun p q1 q2 => ?_) ?_)
      · have hw := d2 p q1 q2
        have hp : decide ((p : Int) < (s.length : Int)) = true := by simp; omega
        have hwr : IntKind.i64.wrap ((p : Int) + 1) = ((p + 1 : Nat) : Int) := by rw [wrap64_id (by omega) (by omega)]; simp
        simp only [qe, Option.bind_some, Option.map_some, joinK, qb, ↓reduceIte, if_true, if_false, eq_self, Int.reduceBEq, Int.reduceBNe, hp, ix_bt (show p < s.length by omega), hw, hwr]; exact Ev.pure
      · have fin : ∀ {σ : Type}, Ev (fun k => Option.map (Sum.inr (α := σ)) ((sub s (i : Int) ((i + d : Nat) : Int)).bind fun x => (ref01_Read k x).bind fun y => (sub s (i : Int) ((i + d : Nat) : Int)).bind fun z => some (TToken.mk 2 i y.1 z, y.2))) (.inr (⟨2, i, n, cut s i d⟩, e)) := by
          intro σ
          exact Ev.map (Ev.bindS (fun _ => sub_cut d1) (Ev.bind hn2 (Ev.bindS (fun _ => sub_cut d1) Ev.pure)))
        by_cases he2 : i + d = s.length
        · have hp : decide (((i + d : Nat) : Int) < (s.length : Int)) = false := by simp; omega
          simp only [qe, Option.bind_some, Option.map_some, joinK, qb, ↓reduceIte, if_true, if_false, eq_self, Int.reduceBEq, Int.reduceBNe, hp]; exact fin
        · have hp : decide (((i + d : Nat) : Int) < (s.length : Int)) = true := by simp; omega
          have he : (cl s (i + d) == 2) = false := by
            rcases d3 with h | h
            · exact (he2 h).elim
            · exact h
          simp only [qe, Option.bind_some, Option.map_some, joinK, qb, ↓reduceIte, if_true, if_false, eq_self, Int.reduceBEq, Int.reduceBNe, hp, ix_bt (show i + d < s.length by omega), he]; exact fin
  have h2b : (cl s i == 2) = false := by simpa using h2
  have hrest : i + (s.length - i) = s.length := by omega
  have hsub : sub s (i : Int) (s.length : Int) = some (cut s i (s.length - i)) := by
    have := sub_cut (s := s) (i := i) (d := s.length - i) (by omega)
    rwa [hrest] at this
  have hcl := cut_len (s := s) (i := i) (d := s.length - i) (by omega)
  obtain ⟨m, hm, hm2, hml, hmt⟩ := mark_both (cut s i (s.length - i)) (fun h => by rw [h] at hcl; simp at hcl; omega)
  rw [hcl] at hml
  have hmc : cut s i m.length = m := by rw [← cut_take (n := s.length - i) (by omega) hml]; exact hmt
  have hwr : IntKind.i64.wrap ((i : Int) + 2) = (i : Int) + 2 := wrap64_id (by omega) (by omega)
  obtain ⟨d, hd1, hd2, hmn, hcut⟩ : ∃ d, 1 ≤ d ∧ i + d ≤ s.length ∧ mn ((i : Int) + 2) (s.length : Int) = ((i + d : Nat) : Int) ∧ (cut s i (s.length - i)).take 2 = cut s i d := by
    by_cases h : 2 ≤ s.length - i
    · exact ⟨2, by omega, by omega, by rw [mn_eq]; omega, cut_take (by omega) h⟩
    · refine ⟨s.length - i, by omega, by omega, by rw [mn_eq]; omega, ?_⟩
      rw [List.take_of_length_le (by rw [hcl]; omega)]
  rw [hcut] at hm2
  have code : Ev (fun k => lex_lexer_next k s (i : Int)) (⟨4, i, 0, cut s i m.length⟩, if m.length = 0 then 1 else 0, ((i + m.length : Nat) : Int)) := by
    unfold lex_lexer_next
    refine Ev.ite_f hne (Ev.joinK (Ev.bindS (fun _ => ix_bt hi) (Ev.bindS (fun k => letter_eq k _) (Ev.ite_f (by simpa using h1) (Ev.bindS (fun k => digit_eq k _) (Ev.ite_f (by simpa using h2) (Ev.bindS (fun _ => hsub) (Ev.bind hm (Ev.of fun k => ?_)))))))))
    by_cases h : m.length = 0
    · have hz : ((m.length : Int) == 0) = true := by simp [h]
      rw [if_pos h]
      simp only [hz, if_true]
      exact fin k 1 4 0 m.length (by omega)
    · have hz : ((m.length : Int) == 0) = false := by simpa using h
      rw [if_neg h]
      simp only [hz, Bool.false_eq_true, if_false]
      exact fin k 0 4 0 m.length (by omega)
  have doc : Ev (fun k => ref10_one k s (i : Int)) (if m.length = 0 then ⟨0, i, 0, []⟩ else ⟨4, i, 0, m⟩, if m.length = 0 then 1 else 0) := by
    unfold ref10_one
    simp only [class_eq]
    refine Ev.bindS (fun _ => ix_bt (by omega)) ?_
    simp only [qe, Option.bind_some, Option.map_some, joinK, qb, ↓reduceIte, if_true, if_false, eq_self, Int.reduceBEq, Int.reduceBNe, h1b, h2b, hwr, hmn]
    refine Ev.bindS (fun _ => sub_cut hd2) (Ev.bind hm2 ?_)
    by_cases h : m.length = 0
    · have hr : (m == []) = true := by rw [List.length_eq_zero_iff.1 h]; rfl
      rw [if_pos h, if_pos h]
      simp only [qe, Option.bind_some, Option.map_some, joinK, qb, ↓reduceIte, if_true, if_false, eq_self, Int.reduceBEq, Int.reduceBNe, hr]; exact Ev.pure
    · have hr : (m == []) = false := by
        have : m ≠ [] := fun e => h (by rw [e]; rfl)
        simpa using this
      rw [if_neg h, if_neg h]
      simp only [qe, Option.bind_some, Option.map_some, joinK, qb, ↓reduceIte, if_true, if_false, eq_self, Int.reduceBEq, Int.reduceBNe, hr]; exact Ev.pure
  refine ⟨_, _, _, _, code, doc, rfl, fun he => ?_⟩
  have h : m.length ≠ 0 := fun h => by rw [if_pos h] at he; cases he
  rw [if_neg h, hmc]
  exact ⟨rfl, by simp, rfl, by simp only; omega, by simp only; omega, fun hk => by simp at hk, fun hk => by simp at hk⟩
structure LexH (s : List UInt8) (r : List TToken × Int × Int) : Prop where
  ok : r.2.2 = 0 → WF r.1 ∧ 0 < r.1.length ∧ ∀ t ∈ r.1, 0 ≤ t.At ∧ t.At ≤ s.length
  bad : r.2.2 ≠ 0 → 0 ≤ r.2.1 ∧ r.2.1 ≤ s.length
theorem lex_from {s : List UInt8} (hl : s.length ≤ 16384) : ∀ (n i : Nat) (out : List TToken), s.length - i ≤ n → i ≤ s.length → out.length ≤ i → (∀ t ∈ out, TokG t ∧ 0 ≤ t.At ∧ t.At ≤ s.length) → ∃ r, EvL (lexB s) (out, (i : Int)) r ∧ EvL (allB · s) (out, (i : Int)) r ∧ LexH s r
  | n, i, out, hn, hi, ho, hg => by
    obtain ⟨j, e1, e2, e3, e4, e5⟩ := skip_both hl (s.length - i) i (Nat.le_refl _) hi
    have hs : Ev (fun k => lex_lexer_skip k s (i : Int)) (j : Int) := Ev.loop e1
    by_cases hj : j = s.length
    · subst hj
      have hroom : room 40 (out.length + [(TToken.mk 0 (s.length : Int) 0 [])].length) = true := room_of (by omega) (by simp; omega)
      refine ⟨(out ++ [⟨0, s.length, 0, []⟩], 0, 0), EvL.done (Ev.bind hs (Ev.bindS (fun k => next_end k s) (Ev.ite_f rfl (Ev.ite_t hroom (Ev.ite_t rfl Ev.pure))))), e5 _ _ (EvL.done (allB_end (by omega))), fun _ => ⟨wf_of (by omega) (fun t h => (hg t h).1), by simp, fun t ht => ?_⟩, fun h => (h rfl).elim⟩
      rcases List.mem_append.1 ht with h | h
      · exact (hg t h).2
      · simp at h; subst h; simp
    · obtain ⟨h3, h4⟩ := e4.resolve_left hj
      obtain ⟨t, t', e, q, n1, n2, n3, n4⟩ := tok_both hl (i := j) (by omega)
      by_cases he : e = 0
      · subst he
        obtain ⟨rfl, g1, rfl, g2, g3, g4⟩ := n4 rfl
        have hr : room 40 (out.length + [t'].length) = true := room_of (by omega) (by simp; omega)
        match n, hn with
        | n + 1, hn =>
          obtain ⟨r, r1, r2, r3⟩ := lex_from hl n (j + t'.Text.length) (out ++ [t']) (by omega) g3 (by simp; omega) (fun x hx => by
            rcases List.mem_append.1 hx with hx | hx
            · exact hg x hx
            · simp at hx; subst hx; rw [n3]; exact ⟨g4, by omega, by omega⟩)
          refine ⟨r, EvL.step (Ev.bind hs (Ev.bind n1 (Ev.ite_f rfl (Ev.ite_t hr (Ev.ite_f (by simpa using g1) Ev.pure))))) r1, e5 _ _ (EvL.step (allB_one (by omega) h3 h4 n2 ?_) r2), r3⟩
          rw [if_neg (by simp), if_pos hr, wrap64_id (by omega) (by omega)]; rfl
        | 0, hn => omega
      · refine ⟨([], (j : Int), e), EvL.done (Ev.bind hs (Ev.bind n1 (Ev.ite_t (by simpa using he) (Ev.of fun _ => by rw [n3])))), e5 _ _ (EvL.done (allB_one (by omega) h3 h4 n2 ?_)), fun h => (he h).elim, fun _ => by simp only; omega⟩
        rw [if_pos (by simpa using he)]
theorem lex_both (s : List UInt8) : ∃ r, Ev (fun k => lex_All k s) r ∧ Ev (fun k => ref10_All k s) r ∧ LexH s r := by
  by_cases hl : s.length ≤ 16384
  · obtain ⟨r, h1, h2, h3⟩ := lex_from hl s.length 0 [] (by omega) (by omega) (by simp) (fun _ h => by cases h)
    exact ⟨r, Ev.congr (fun k => lexAll_eq k s) (Ev.ite_f (by simp; omega) (Ev.loop h1)), Ev.congr (fun k => all_eq k s hl) (Ev.loop h2), h3⟩
  · exact ⟨([], 16384, 3), Ev.congr (fun k => lexAll_eq k s) (Ev.ite_t (by simp; omega) Ev.pure), Ev.of (fun k => all_long k s (by omega)), fun h => by simp at h, fun _ => by simp; omega⟩
end Go.Proofs.YtjakhfaodfaimaaGreatDoor.F
namespace Go.Proofs.YtjakhfaodfaimaaGreatDoor.F
open Go
abbrev zN : TNode := ⟨0, 0, 0, [], []⟩
def R (G : TNode → Prop) (l : List TToken) (i : Int) (e r : Nat → Option (TNode × Int × Bool)) : Prop :=
  ∃ n j m ok, Ev e (n, j, !ok) ∧ Ev r (m, j, ok) ∧ (ok = true → n = m ∧ i < j ∧ j < l.length ∧ G m) ∧ (ok = false → m = zN)
theorem R.bad {G : TNode → Prop} {l : List TToken} {i : Int} {e r : Nat → Option (TNode × Int × Bool)} {n : TNode} {j : Int} (h1 : Ev e (n, j, true)) (h2 : Ev r (zN, j, false)) : R G l i e r := ⟨n, j, zN, false, h1, h2, (fun h => by cases h), fun _ => rfl⟩
theorem R.good {G : TNode → Prop} {l : List TToken} {i : Int} {e r : Nat → Option (TNode × Int × Bool)} {n : TNode} {j : Int} (h1 : Ev e (n, j, false)) (h2 : Ev r (n, j, true)) (hj : i < j ∧ j < l.length) (hg : G n) : R G l i e r := ⟨n, j, n, true, h1, h2, (fun _ => ⟨rfl, hj.1, hj.2, hg⟩), fun h => by cases h⟩
structure GEx (n : TNode) : Prop where
  ge : GE n
  wide : Wide n
structure GTy (n : TNode) : Prop where
  gt : GT n
  wide : Wide n
structure GAr (l : List TNode) : Prop where
  all : ∀ n ∈ l, GEx n
  len : l.length ≤ 100000
theorem wide0 {k a n : Int} {s : List UInt8} : Wide ⟨k, a, n, s, []⟩ := ⟨by simp, by simp⟩
theorem wide1 {k a n : Int} {s : List UInt8} {x : TNode} (h : Wide x) : Wide ⟨k, a, n, s, [x]⟩ := ⟨by simpa using h, by simp⟩
theorem wide2 {k a n : Int} {s : List UInt8} {x y : TNode} (h : Wide x) (h2 : Wide y) : Wide ⟨k, a, n, s, [x, y]⟩ := ⟨by simp; exact ⟨h, h2⟩, by simp⟩
theorem wideL {k a n : Int} {s : List UInt8} {l : List TNode} (h : ∀ x ∈ l, Wide x) (h2 : l.length ≤ 1000000) : Wide ⟨k, a, n, s, l⟩ := ⟨h, h2⟩
abbrev eKind (l : List TToken) (i : Int) (k : Nat) := expr_reader_kind k l i false
abbrev rType (l : List TToken) (i : Int) (k : Nat) := ref13_Type k l i
theorem kind_step (k : Nat) (l : List TToken) (i : Int) : expr_reader_kind (k + 1) l i false = (
    joinK (fun ((j0_oext0_1, j0_oloc4_0) : Int × Int) =>
    some ((TNode.mk j0_oloc4_0 (tk l i).At 0 [] []), (IntKind.i64.wrap (j0_oext0_1 + 1)), false)) fun j_j0 =>
    if ((tk l i).Kind == 1) then
    (expr_reader_name k l i false).bind fun (x6_1_0, x6_1_1, x6_1_2) =>
    some ((TNode.mk 4 (tk l i).At 0 x6_1_0 []), x6_1_1, x6_1_2)
    else
    if isT (tk l i) 4 [91] then
    (expr_reader_wants k [93] l (IntKind.i64.wrap (i + 1)) false).bind fun (x9_1_0, x9_1_1) =>
    if x9_1_1 then
    some ((TNode.mk 0 (tk l i).At 0 [] []), x9_1_0, x9_1_1)
    else
    (expr_reader_kind k l x9_1_0 x9_1_1).bind fun (x12_1_0, x12_1_1, x12_1_2) =>
    some ((TNode.mk 5 (tk l i).At 0 [] [x12_1_0]), x12_1_1, x12_1_2)
    else
    if isT (tk l i) 3 [105, 110, 116] then
    j_j0 (i, 1)
    else
    if isT (tk l i) 3 [98, 111, 111, 108] then
    j_j0 (i, 2)
    else
    if isT (tk l i) 3 [114, 101, 118] then
    j_j0 (i, 3)
    else
    some ((TNode.mk 0 (tk l i).At 0 [] []), i, true)) := by
  rw [expr_reader_kind, look_eq]
  simp only [Option.bind_some, takes_eq, is_eq, joinK]
  cases isT (tk l i) 4 [91] <;> simp
theorem type_step (k : Nat) (l : List TToken) (i : Int) : ref13_Type (k + 1) l i = (
    if ((tk l i).Kind == 1) then
    some ((TNode.mk 4 (tk l i).At 0 (tk l i).Text []), (IntKind.i64.wrap (i + 1)), true)
    else
    if isT (tk l i) 3 [105, 110, 116] then
    some ((TNode.mk 1 (tk l i).At 0 [] []), (IntKind.i64.wrap (i + 1)), true)
    else
    if isT (tk l i) 3 [98, 111, 111, 108] then
    some ((TNode.mk 2 (tk l i).At 0 [] []), (IntKind.i64.wrap (i + 1)), true)
    else
    if isT (tk l i) 3 [114, 101, 118] then
    some ((TNode.mk 3 (tk l i).At 0 [] []), (IntKind.i64.wrap (i + 1)), true)
    else
    if (!isT (tk l i) 4 [91]) then
    some ((TNode.mk 0 0 0 [] []), i, false)
    else
    if (!isT (tk l (IntKind.i64.wrap (i + 1))) 4 [93]) then
    some ((TNode.mk 0 0 0 [] []), (IntKind.i64.wrap (i + 1)), false)
    else
    (ref13_Type k l (IntKind.i64.wrap (i + 2))).bind fun (x14_3_0, x14_3_1, x14_3_2) =>
    if (!x14_3_2) then
    some ((TNode.mk 0 0 0 [] []), x14_3_1, false)
    else
    some ((TNode.mk 5 (tk l i).At 0 [] [x14_3_0]), x14_3_1, true)) := by
  rw [ref13_Type, Tok_eq]
  simp only [Option.bind_some, Says_eq, Is_eq]
theorem type_R {l : List TToken} (W : WF l) : ∀ (n : Nat) (i : Int), (l.length : Int) - i ≤ n → R GTy l i (eKind l i) (rType l i) := by
  intro n
  induction n using Nat.strongRecOn with
  | _ n ih =>
  intro i hi
  by_cases h1 : (tk l i).Kind = 1
  · obtain ⟨n1, n2, n3⟩ := W.next (i := i) (by omega)
    refine R.good (Ev.succ (fun k => kind_step k l i) (Ev.joinK (Ev.ite_t (by simpa using h1) (Ev.bindS (fun k => name_eq k l i) (Ev.of fun _ => ?_))))) (Ev.succ (fun k => type_step k l i) (Ev.ite_t (by simpa using h1) (Ev.of fun _ => rfl))) ⟨by rw [n3]; omega, by rw [n3]; omega⟩ ⟨gt_rec _ (W.names i h1), wide0⟩
    simp [h1]
  · by_cases h2 : isT (tk l i) 4 [91] = true
    · have hk := (isT_kind h2).1
      obtain ⟨n1, n2, n3⟩ := W.next (i := i) (by omega)
      have s1 : ∀ s, isT (tk l i) 3 s = false := fun s => isT_ne (by omega)
      by_cases h3 : isT (tk l (i + 1)) 4 [93] = true
      · have hk2 := (isT_kind h3).1
        obtain ⟨m1, m2, m3⟩ := W.next (i := i + 1) (by omega)
        obtain ⟨a, j, b, ok, e1, e2, e3, e4⟩ := ih (n - 2) (by omega) (i + 2) (by omega)
        have hw2 : IntKind.i64.wrap (i + 2) = i + 2 := by rw [show i + 2 = i + 1 + 1 by omega]; exact m3
        have E : Ev (eKind l i) ((TNode.mk 5 (tk l i).At 0 [] [a]), j, !ok) := by
          refine Ev.succ (fun k => kind_step k l i) (Ev.joinK (Ev.ite_f (by simpa using h1) (Ev.ite_t h2 (Ev.bindS (x := (i + 2, false)) (fun k => by rw [n3, wants_eq, if_pos h3, m3, show i + 1 + 1 = i + 2 by omega]) (Ev.ite_f rfl (Ev.bind e1 Ev.pure))))))
        have Rr : Ev (rType l i) (if (!ok) = true then ((TNode.mk 0 0 0 [] []), j, false) else ((TNode.mk 5 (tk l i).At 0 [] [b]), j, true)) := by
          refine Ev.succ (fun k => type_step k l i) (Ev.ite_f (by simpa using h1) (Ev.ite_f (s1 _) (Ev.ite_f (s1 _) (Ev.ite_f (s1 _) (Ev.ite_f (by simp [h2]) (Ev.ite_f (by rw [n3]; simp [h3]) ?_))))))
          rw [hw2]
          refine Ev.bind e2 ?_
          cases ok
          · exact Ev.ite_t rfl Ev.pure
          · exact Ev.ite_f rfl Ev.pure
        cases ok with
        | false => exact R.bad E Rr
        | true =>
          obtain ⟨rfl, q2, q3, q4⟩ := e3 rfl
          exact R.good E Rr ⟨by omega, q3⟩ ⟨gt_arr _ q4.gt, wide1 q4.wide⟩
      · have h3 : isT (tk l (i + 1)) 4 [93] = false := by simpa using h3
        refine R.bad (Ev.succ (fun k => kind_step k l i) (Ev.joinK (Ev.ite_f (by simpa using h1) (Ev.ite_t h2 (Ev.bindS (x := (i + 1, true)) (fun k => by rw [n3, wants_eq, h3]; rfl) (Ev.ite_t rfl Ev.pure))))))
          (Ev.succ (fun k => type_step k l i) (Ev.ite_f (by simpa using h1) (Ev.ite_f (s1 _) (Ev.ite_f (s1 _) (Ev.ite_f (s1 _) (Ev.ite_f (by simp [h2]) (Ev.ite_t (by rw [n3]; simp [h3]) (Ev.of fun _ => by rw [n3]))))))))
    · have h2 : isT (tk l i) 4 [91] = false := by simpa using h2
      have fin : ∀ (kd : Int), (tk l i).Kind = 3 → 1 ≤ kd ∧ kd ≤ 3 → Ev (eKind l i) ((TNode.mk kd (tk l i).At 0 [] []), i + 1, false) → Ev (rType l i) ((TNode.mk kd (tk l i).At 0 [] []), i + 1, true) → R GTy l i (eKind l i) (rType l i) := by
        intro kd hk hb e1 e2
        obtain ⟨n1, n2, n3⟩ := W.next (i := i) (by omega)
        exact R.good e1 e2 ⟨by omega, n2⟩ ⟨gt_one _ hb, wide0⟩
      have hw : (tk l i).Kind = 3 → IntKind.i64.wrap (i + 1) = i + 1 := fun hk => (W.next (i := i) (by omega)).2.2
      by_cases h3 : isT (tk l i) 3 [105, 110, 116] = true
      · have hk := (isT_kind h3).1
        exact fin 1 hk (by omega) (Ev.succ (fun k => kind_step k l i) (Ev.joinK (Ev.ite_f (by simpa using h1) (Ev.ite_f h2 (Ev.ite_t h3 (Ev.of fun _ => by simp only [hw hk]))))))
          (Ev.succ (fun k => type_step k l i) (Ev.ite_f (by simpa using h1) (Ev.ite_t h3 (Ev.of fun _ => by simp only [hw hk]))))
      have h3 : isT (tk l i) 3 [105, 110, 116] = false := by simpa using h3
      by_cases h4 : isT (tk l i) 3 [98, 111, 111, 108] = true
      · have hk := (isT_kind h4).1
        exact fin 2 hk (by omega) (Ev.succ (fun k => kind_step k l i) (Ev.joinK (Ev.ite_f (by simpa using h1) (Ev.ite_f h2 (Ev.ite_f h3 (Ev.ite_t h4 (Ev.of fun _ => by simp only [hw hk])))))))
          (Ev.succ (fun k => type_step k l i) (Ev.ite_f (by simpa using h1) (Ev.ite_f h3 (Ev.ite_t h4 (Ev.of fun _ => by simp only [hw hk])))))
      have h4 : isT (tk l i) 3 [98, 111, 111, 108] = false := by simpa using h4
      by_cases h5 : isT (tk l i) 3 [114, 101, 118] = true
      · have hk := (isT_kind h5).1
        exact fin 3 hk (by omega) (Ev.succ (fun k => kind_step k l i) (Ev.joinK (Ev.ite_f (by simpa using h1) (Ev.ite_f h2 (Ev.ite_f h3 (Ev.ite_f h4 (Ev.ite_t h5 (Ev.of fun _ => by simp only [hw hk]))))))))
          (Ev.succ (fun k => type_step k l i) (Ev.ite_f (by simpa using h1) (Ev.ite_f h3 (Ev.ite_f h4 (Ev.ite_t h5 (Ev.of fun _ => by simp only [hw hk]))))))
      have h5 : isT (tk l i) 3 [114, 101, 118] = false := by simpa using h5
      exact R.bad (Ev.succ (fun k => kind_step k l i) (Ev.joinK (Ev.ite_f (by simpa using h1) (Ev.ite_f h2 (Ev.ite_f h3 (Ev.ite_f h4 (Ev.ite_f h5 Ev.pure)))))))
        (Ev.succ (fun k => type_step k l i) (Ev.ite_f (by simpa using h1) (Ev.ite_f h3 (Ev.ite_f h4 (Ev.ite_f h5 (Ev.ite_t (by simp [h2]) Ev.pure))))))
theorem type_all {l : List TToken} (W : WF l) (i : Int) : R GTy l i (eKind l i) (rType l i) := type_R W ((l.length : Int) - i).toNat i (by omega)
end Go.Proofs.YtjakhfaodfaimaaGreatDoor.F
set_option maxHeartbeats 1000000
namespace Go.Proofs.YtjakhfaodfaimaaGreatDoor.F
open Go
def ofB (s : List UInt8) (st : List Int × Int) : Option ((List Int × Int) ⊕ Option Tplace_Lines) :=
  match st with
  | (l1_bclloc81, l1_11) =>
    if (decide (l1_11 < (s.length : Int))) then
    joinK (fun (j2_bclloc81 : List Int) =>
    some (.inl (j2_bclloc81, (IntKind.i64.wrap (l1_11 + 1))))) fun j_j2 =>
    (ix s l1_11).bind fun x5_2 =>
    if ((x5_2.toNat : Int) == 10) then
    if (room 8 (l1_bclloc81.length + [(IntKind.i64.wrap (l1_11 + 1))].length)) then
    j_j2 (l1_bclloc81 ++ [(IntKind.i64.wrap (l1_11 + 1))])
    else none
    else
    j_j2 l1_bclloc81
    else
    (some (some (Tplace_Lines.mk s l1_bclloc81))).map .inr
theorem of_eq (k : Nat) (s : List UInt8) : place_Of k s = loopM k (ofB s) ([0], 0) := rfl
theorem half {a b : Int} (h0 : 0 ≤ a) (h1 : a < b) (h2 : b ≤ 100000) : IntKind.i64.wrap (Int.fdiv (IntKind.u64.wrap (IntKind.i64.wrap (a + b))) (2 ^ (Int.toNat 1))) = (a + b) / 2 := by
  have e1 : IntKind.i64.wrap (a + b) = a + b := wrap64_id (by omega) (by omega)
  have e2 : IntKind.u64.wrap (a + b) = a + b := by
    simp only [IntKind.wrap, IntKind.bits, IntKind.signed]
    simp
    omega
  rw [e1, e2, show ((2 : Int) ^ (Int.toNat 1)) = 2 from rfl, Int.fdiv_eq_ediv_of_nonneg _ (by omega)]
  exact wrap64_id (by omega) (by omega)
def bd (d : Tnest_depth) (m : List UInt8) : Tnest_depth :=
  if (m == [45]) || (m == [33]) then ⟨d.open_, IntKind.i64.wrap (d.row + 1)⟩
  else if (m == [40]) || (m == [91]) || (m == [123]) then ⟨IntKind.i64.wrap (d.open_ + 1), 0⟩
  else if (m == [41]) || (m == [93]) || (m == [125]) then ⟨mx 0 (IntKind.i64.wrap (d.open_ - 1)), 0⟩
  else ⟨d.open_, 0⟩
theorem behind_eq (k : Nat) (d : Tnest_depth) (t : TToken) : nest_depth_behind k d t = some (bd d (if t.Kind != 4 then [] else t.Text)) := by
  have key : ∀ m : List UInt8, (joinK (fun (j1_12 : Bool) =>
    if j1_12 then
    some (Tnest_depth.mk d.open_ (IntKind.i64.wrap (d.row + 1)))
    else
    joinK (fun (j2_21 : Bool) =>
    if j2_21 then
    some (Tnest_depth.mk (IntKind.i64.wrap (d.open_ + 1)) 0)
    else
    joinK (fun (j3_29 : Bool) =>
    if j3_29 then
    some (Tnest_depth.mk (mx 0 (IntKind.i64.wrap (d.open_ - 1))) 0)
    else
    some (Tnest_depth.mk d.open_ 0)) fun j_j3 =>
    if (m == [41]) then
    j_j3 (m == [41])
    else
    if (m == [93]) then
    j_j3 (m == [93])
    else
    j_j3 (m == [125])) fun j_j2 =>
    if (m == [40]) then
    j_j2 (m == [40])
    else
    if (m == [91]) then
    j_j2 (m == [91])
    else
    j_j2 (m == [123])) fun j_j1 =>
    if (m == [45]) then
    j_j1 (m == [45])
    else
    j_j1 (m == [33])) = some (bd d m) := by
    intro m
    unfold bd
    simp only [joinK]
    generalize (m == [45]) = a1
    generalize (m == [33]) = a2
    generalize (m == [40]) = b1
    generalize (m == [91]) = b2
    generalize (m == [123]) = b3
    generalize (m == [41]) = c1
    generalize (m == [93]) = c2
    generalize (m == [125]) = c3
    cases a1
    · cases a2
      · cases b1
        · cases b2
          · cases b3
            · cases c1
              · cases c2
                · cases c3 <;> rfl
                · rfl
              · rfl
            · rfl
          · rfl
        · rfl
      · rfl
    · rfl
  unfold nest_depth_behind
  cases h : t.Kind != 4 with
  | true => exact key []
  | false => exact key t.Text
def nestB (l : List TToken) (k : Nat) (st : Int × Tnest_depth) : Option ((Int × Tnest_depth) ⊕ (Int × Int)) :=
  match st with
  | (l1_9, l1_oloc4) =>
    if (decide (l1_9 < (l.length : Int))) then
    (ix l l1_9).bind fun x4_0 =>
    (nest_depth_behind k l1_oloc4 x4_0).bind fun x5_2 =>
    if ((decide (x5_2.open_ > 60)) || (decide (x5_2.row > 60))) then
    some (.inr (x4_0.At, 4))
    else
    some (.inl ((IntKind.i64.wrap (l1_9 + 1)), x5_2))
    else
    (some (0, 0)).map .inr
theorem nest_eq (k : Nat) (l : List TToken) : nest_Check k l = loopM k (nestB l k) (0, ⟨0, 0⟩) := rfl
end Go.Proofs.YtjakhfaodfaimaaGreatDoor.F
set_option maxHeartbeats 2000000
namespace Go.Proofs.YtjakhfaodfaimaaGreatDoor.F
open Go
def mkt (t : TToken) : List UInt8 := if t.Kind != 4 then [] else t.Text
def mki (m : List UInt8) : Int :=
  if (((m == [40]) || (m == [91])) || (m == [123])) then 1
  else if (((m == [41]) || (m == [93])) || (m == [125])) then 2
  else if ((m == [45]) || (m == [33])) then 3 else 0
theorem mark12_eq (k : Nat) (t : TToken) : ref12_mark k t = some (mki (mkt t)) := by
  unfold ref12_mark mkt
  cases h : t.Kind != 4 with
  | true => rfl
  | false =>
    simp only [Bool.false_eq_true, if_false, mki]
    split
    · rfl
    · split
      · rfl
      · split <;> rfl
theorem bd_mki (d : Tnest_depth) (m : List UInt8) : bd d m = ⟨if mki m == 1 then IntKind.i64.wrap (d.open_ + 1) else if mki m == 2 then mx 0 (IntKind.i64.wrap (d.open_ - 1)) else d.open_, if mki m == 3 then IntKind.i64.wrap (d.row + 1) else 0⟩ := by
  by_cases h1 : m = [45]
  · subst h1; rfl
  by_cases h2 : m = [33]
  · subst h2; rfl
  by_cases h3 : m = [40]
  · subst h3; rfl
  by_cases h4 : m = [91]
  · subst h4; rfl
  by_cases h5 : m = [123]
  · subst h5; rfl
  by_cases h6 : m = [41]
  · subst h6; rfl
  by_cases h7 : m = [93]
  · subst h7; rfl
  by_cases h8 : m = [125]
  · subst h8; rfl
  have e : ∀ x : List UInt8, ¬ m = x → (m == x) = false := fun x h => by simpa using h
  unfold bd mki
  rw [e _ h1, e _ h2, e _ h3, e _ h4, e _ h5, e _ h6, e _ h7, e _ h8]
  rfl
def dp (l : List TToken) : Nat → Tnest_depth
  | 0 => ⟨0, 0⟩
  | i + 1 => bd (dp l i) (mkt ((l[i]?).getD ⟨0, 0, 0, []⟩))
theorem dp_le (l : List TToken) : ∀ i : Nat, i ≤ 200000 → 0 ≤ (dp l i).open_ ∧ (dp l i).open_ ≤ i ∧ 0 ≤ (dp l i).row ∧ (dp l i).row ≤ i
  | 0, _ => by simp [dp]
  | i + 1, h => by
    obtain ⟨a, b, c, d⟩ := dp_le l i (by omega)
    simp only [dp, bd_mki]
    rw [wrap64_id (x := (dp l i).open_ + 1) (by omega) (by omega), wrap64_id (x := (dp l i).open_ - 1) (by omega) (by omega), wrap64_id (x := (dp l i).row + 1) (by omega) (by omega), mx_eq]
    split <;> split <;> (try split) <;> omega
def DL (l : List TToken) (n : Nat) : List (Int × Int) := (List.range n).map fun q => ((dp l (q + 1)).open_, (dp l (q + 1)).row)
theorem DL_len (l : List TToken) (n : Nat) : (DL l n).length = n := by simp [DL]
theorem DL_succ (l : List TToken) (n : Nat) : DL l (n + 1) = DL l n ++ [((dp l (n + 1)).open_, (dp l (n + 1)).row)] := by simp [DL, List.range_succ]
theorem DL_ix (l : List TToken) {n q : Nat} (h : q < n) : ix (DL l n) (q : Int) = some ((dp l (q + 1)).open_, (dp l (q + 1)).row) :=
  ix_of (by omega) (by simp [DL, h])
def atB (l : List TToken) (k : Nat) (st : List (Int × Int) × Int × Int × Int) : Option ((List (Int × Int) × Int × Int × Int) ⊕ List (Int × Int)) :=
  match st with
  | (l1_3, l1_4, l1_5, l1_6) =>
    if (decide (l1_6 < (l.length : Int))) then
    (ix l l1_6).bind fun x6_2 =>
    (ref12_mark k x6_2).bind fun x6_4 =>
    joinK (fun (j2_4 : Int) =>
    joinK (fun (j3_4 : Int) =>
    joinK (fun (j4_5 : Int) =>
    if (room 16 (l1_3.length + [(j3_4, j4_5)].length)) then
    some (.inl ((l1_3 ++ [(j3_4, j4_5)]), j3_4, j4_5, (IntKind.i64.wrap (l1_6 + 1))))
    else none) fun j_j4 =>
    if (x6_4 == 3) then
    j_j4 (IntKind.i64.wrap (l1_5 + 1))
    else
    j_j4 0) fun j_j3 =>
    if ((x6_4 == 2) && (decide (j2_4 > 0))) then
    j_j3 (IntKind.i64.wrap (j2_4 - 1))
    else
    j_j3 j2_4) fun j_j2 =>
    if (x6_4 == 1) then
    j_j2 (IntKind.i64.wrap (l1_4 + 1))
    else
    j_j2 l1_4
    else
    (some l1_3).map .inr
theorem at12_eq (k : Nat) (l : List TToken) : ref12_At k l = loopM k (atB l k) ([], 0, 0, 0) := rfl
theorem at12_step {l : List TToken} (hl : l.length ≤ 100000) {i : Nat} (hi : i < l.length) (k : Nat) : atB l k (DL l i, (dp l i).open_, (dp l i).row, (i : Int)) = some (.inl (DL l (i + 1), (dp l (i + 1)).open_, (dp l (i + 1)).row, ((i + 1 : Nat) : Int))) := by
  obtain ⟨a, b, c, d⟩ := dp_le l i (by omega)
  have hd : decide ((i : Int) < (l.length : Int)) = true := by simpa using hi
  have hx : ix l (i : Int) = some ((l[i]?).getD ⟨0, 0, 0, []⟩) := by rw [ix_nat hi]; simp [hi]
  have hwr : IntKind.i64.wrap ((i : Int) + 1) = ((i + 1 : Nat) : Int) := by rw [wrap64_id (by omega) (by omega)]; simp
  have hroom : room 16 ((DL l i).length + 1) = true := room_of (by omega) (by rw [DL_len]; omega)
  rw [DL_succ]
  simp only [dp, bd_mki]
  simp only [atB]
  rw [hd, if_pos rfl, hx]
  simp only [Option.bind_some, mark12_eq, joinK, hwr]
  generalize mki (mkt ((l[i]?).getD ⟨0, 0, 0, []⟩)) = m
  rw [wrap64_id (x := (dp l i).open_ + 1) (by omega) (by omega), wrap64_id (x := (dp l i).open_ - 1) (by omega) (by omega), mx_eq]
  by_cases h1 : m = 1
  · subst h1; simp [hroom]
  · by_cases h2 : m = 2
    · subst h2
      by_cases h0 : (dp l i).open_ > 0
      · have e : max 0 ((dp l i).open_ - 1) = (dp l i).open_ - 1 := by omega
        simp [hroom, h0, e]
      · have e : max 0 ((dp l i).open_ - 1) = (dp l i).open_ := by omega
        simp [hroom, h0, e]
    · by_cases h3 : m = 3
      · subst h3; simp [hroom]
      · have e1 : (m == 1) = false := by simpa using h1
        have e2 : (m == 2) = false := by simpa using h2
        have e3 : (m == 3) = false := by simpa using h3
        simp [hroom, e1, e2, e3]
theorem at12_ev {l : List TToken} (hl : l.length ≤ 100000) : Ev (fun k => ref12_At k l) (DL l l.length) := by
  have key : ∀ d i, i + d = l.length → EvL (atB l) (DL l i, (dp l i).open_, (dp l i).row, (i : Int)) (DL l l.length) := by
    intro d
    induction d with
    | zero =>
      intro i hi
      have : i = l.length := by omega
      subst this
      refine EvL.done (Ev.of fun k => ?_)
      simp only [atB]
      rw [if_neg (by simp)]; rfl
    | succ d ih => exact fun i hi => EvL.step (Ev.of fun k => at12_step hl (by omega) k) (ih (i + 1) (by omega))
  exact Ev.congr (fun k => at12_eq k l) (Ev.loop (key l.length 0 (by omega)))
def ckB (l : List TToken) (D : List (Int × Int)) (l1_5 : Int) : Option (Int ⊕ (Int × Int)) :=
    if (decide (l1_5 < (l.length : Int))) then
    (ix D l1_5).bind fun x5_2 =>
    joinK (fun (g5_13_27 : Bool) =>
    if g5_13_27 then
    (ix l l1_5).bind fun x6_2 =>
    some (.inr (x6_2.At, 4))
    else
    some (.inl (IntKind.i64.wrap (l1_5 + 1)))) fun j_g5_13 =>
    if (decide (x5_2.1 > 60)) then
    j_g5_13 true
    else
    (ix D l1_5).bind fun x5_9 =>
    j_g5_13 (decide (x5_9.2 > 60))
    else
    (some (0, 0)).map .inr
theorem check12_eq (k : Nat) (l : List TToken) : ref12_Check k l = (ref12_At k l).bind fun D => loopM k (ckB l D) 0 := rfl
theorem nest_both {l : List TToken} (hl : l.length ≤ 100000) : ∃ r : Int × Int, Ev (fun k => nest_Check k l) r ∧ Ev (fun k => ref12_Check k l) r ∧ (r.2 = 0 ∨ ∃ t ∈ l, r.1 = t.At) := by
  obtain ⟨r, e1, e2, e3⟩ := loop_both (b1 := nestB l) (b2 := fun _ => ckB l (DL l l.length)) (fun (s : Int × Tnest_depth) (u : Int) => u = s.1 ∧ 0 ≤ s.1 ∧ s.1 ≤ l.length ∧ s.2 = dp l s.1.toNat) (fun s => (l.length - s.1).toNat) (fun r => r.2 = 0 ∨ ∃ t ∈ l, r.1 = t.At) (by
    rintro ⟨i, d⟩ u ⟨rfl, i1, i2, i3⟩
    simp only at i1 i2 i3
    obtain ⟨i, rfl⟩ : ∃ q : Nat, u = q := ⟨u.toNat, by omega⟩
    simp only [Int.toNat_natCast] at i3
    subst i3
    by_cases hi : i < l.length
    · have hd : decide ((i : Int) < (l.length : Int)) = true := by simpa using hi
      have hx : ix l (i : Int) = some ((l[i]?).getD ⟨0, 0, 0, []⟩) := by rw [ix_nat hi]; simp [hi]
      have hwr : IntKind.i64.wrap ((i : Int) + 1) = ((i + 1 : Nat) : Int) := by rw [wrap64_id (by omega) (by omega)]; simp
      have hb : ∀ k, nest_depth_behind k (dp l i) ((l[i]?).getD ⟨0, 0, 0, []⟩) = some (dp l (i + 1)) := fun k => behind_eq k _ _
      cases hc : (decide ((dp l (i + 1)).open_ > 60) || decide ((dp l (i + 1)).row > 60)) with
      | true =>
        left
        refine ⟨(((l[i]?).getD ⟨0, 0, 0, []⟩).At, 4), Ev.of fun k => ?_, Ev.of fun k => ?_, .inr ⟨l[i], List.getElem_mem hi, by simp [hi]⟩⟩
        · simp only [nestB]
          rw [hd, if_pos rfl, hx, Option.bind_some, hb, Option.bind_some, hc]; rfl
        · simp only [ckB, joinK]
          rw [hd, if_pos rfl, DL_ix l hi, Option.bind_some]
          cases ho : decide ((dp l (i + 1)).open_ > 60) with
          | true => simp only [hx, Option.bind_some, if_true]
          | false =>
            rw [ho, Bool.false_or] at hc
            simp only [Option.bind_some, hc, hx, if_true, Bool.false_eq_true, if_false]
      | false =>
        right
        refine ⟨(((i + 1 : Nat) : Int), dp l (i + 1)), ((i + 1 : Nat) : Int), Ev.of fun k => ?_, Ev.of fun k => ?_, ⟨rfl, by simp only; omega, by simp only; omega, rfl⟩, by simp only; omega⟩
        · simp only [nestB]
          rw [hd, if_pos rfl, hx, Option.bind_some, hb, Option.bind_some, hc, hwr]; rfl
        · simp only [ckB, joinK]
          rw [Bool.or_eq_false_iff] at hc
          rw [hd, if_pos rfl, DL_ix l hi, Option.bind_some, hc.1]
          simp only [Option.bind_some, hc.2, hwr, Bool.false_eq_true, if_false]
    · left
      have hd : decide ((i : Int) < (l.length : Int)) = false := by simp; omega
      refine ⟨(0, 0), Ev.of fun k => ?_, Ev.of fun k => ?_, .inl rfl⟩
      · simp only [nestB]
        rw [hd]; rfl
      · simp only [ckB]
        rw [hd]; rfl) (0, ⟨0, 0⟩) 0 ⟨rfl, by simp, by simp, rfl⟩
  exact ⟨r, Ev.congr (fun k => nest_eq k l) (Ev.loop e1), Ev.congr (fun k => check12_eq k l) (Ev.bind (at12_ev hl) (Ev.loop e2)), e3⟩
def nl (s : List UInt8) : Nat → List Int
  | 0 => []
  | p + 1 => nl s p ++ (if ((bt s p).toNat : Int) == 10 then [((p + 1 : Nat) : Int)] else [])
theorem nl_len (s : List UInt8) : ∀ p, (nl s p).length ≤ p
  | 0 => by simp [nl]
  | p + 1 => by
    have := nl_len s p
    simp only [nl]
    split <;> simp <;> omega
theorem nl_le (s : List UInt8) : ∀ p, ∀ x ∈ nl s p, 1 ≤ x ∧ x ≤ p
  | 0, x, h => by simp [nl] at h
  | p + 1, x, h => by
    simp only [nl] at h
    rcases List.mem_append.1 h with h | h
    · have := nl_le s p x h; omega
    · split at h
      · simp at h; omega
      · simp at h
theorem nl_split (s : List UInt8) (p : Nat) : ∀ d, ∃ r, nl s (p + d) = nl s p ++ r ∧ ∀ x ∈ r, (p : Int) < x
  | 0 => ⟨[], by simp, by simp⟩
  | d + 1 => by
    obtain ⟨r, h1, h2⟩ := nl_split s p d
    refine ⟨r ++ (if ((bt s (p + d)).toNat : Int) == 10 then [((p + d + 1 : Nat) : Int)] else []), ?_, fun x hx => ?_⟩
    · rw [show p + (d + 1) = (p + d) + 1 from rfl]
      simp only [nl]
      rw [h1, List.append_assoc]
    · rcases List.mem_append.1 hx with h | h
      · exact h2 x h
      · split at h
        · simp at h; omega
        · simp at h
theorem of_nl (s : List UInt8) (hl : s.length ≤ 20000) : Ev (fun k => place_Of k s) (some ⟨s, 0 :: nl s s.length⟩) := by
  have key : ∀ d p, p + d = s.length → EvL (fun _ => ofB s) (0 :: nl s p, (p : Int)) (some ⟨s, 0 :: nl s s.length⟩) := by
    intro d
    induction d with
    | zero =>
      intro p hp
      have : p = s.length := by omega
      subst this
      refine EvL.done (Ev.of fun _ => ?_)
      simp only [ofB]
      rw [if_neg (by simp)]; rfl
    | succ d ih =>
      intro p hp
      have hp' : p < s.length := by omega
      have hd : decide ((p : Int) < (s.length : Int)) = true := by simpa using hp'
      have hwr : IntKind.i64.wrap ((p : Int) + 1) = ((p + 1 : Nat) : Int) := by rw [wrap64_id (by omega) (by omega)]; simp
      have hn := nl_len s p
      refine EvL.step (s' := (0 :: nl s (p + 1), ((p + 1 : Nat) : Int))) (Ev.of fun _ => ?_) (ih (p + 1) (by omega))
      simp only [ofB, joinK, nl]
      cases hc : ((bt s p).toNat : Int) == 10 with
      | true =>
        have hr : room 8 ((0 :: nl s p).length + [((p + 1 : Nat) : Int)].length) = true := room_of (by omega) (by simp; omega)
        rw [hd, if_pos rfl, ix_bt hp', Option.bind_some, hc, if_pos rfl, hwr, hr]; rfl
      | false =>
        rw [hd, if_pos rfl, ix_bt hp', Option.bind_some, hc, hwr]; simp
  exact Ev.congr (fun k => of_eq k s) (Ev.loop (key s.length 0 (by omega)))
theorem search2 (s : List UInt8) (r : List Int) (off : Int) (hr : r.length ≤ 20000) (h0 : 0 ≤ off) : ∃ n : Nat, Ev (fun k => sort_Search k (((0 :: r).length : Nat) : Int) (some ⟨s, 0 :: r⟩) off) ((n + 1 : Nat) : Int) ∧ (∃ b, (0 :: r)[n]? = some b ∧ b ≤ off) ∧ (n + 1 = (0 :: r).length ∨ ∃ b, (0 :: r)[n + 1]? = some b ∧ off < b) := by
  have hat : ∀ (k : Nat) (p : Nat) (h : p < (0 :: r).length), place_Lines_At_1 k (p : Int) (some ⟨s, 0 :: r⟩) off = some (decide ((0 :: r)[p] > off)) := by
    intro k p h
    unfold place_Lines_At_1
    simp only [Option.bind_some]
    rw [ix_nat h]; rfl
  obtain ⟨x, h1, n, rfl, h2⟩ := loop_ex (σ := Int × Int) (ρ := Int) (body := fun k (st : Int × Int) => 
    match st with
    | (l1_5, l1_6) =>
    (if (decide (l1_5 < l1_6)) then
    (place_Lines_At_1 k (IntKind.i64.wrap (Int.fdiv (IntKind.u64.wrap (IntKind.i64.wrap (l1_5 + l1_6))) (2 ^ (Int.toNat 1)))) (some ⟨s, 0 :: r⟩) off).bind fun x4_2 =>
    if (!x4_2) then
    some (.inl ((IntKind.i64.wrap ((IntKind.i64.wrap (Int.fdiv (IntKind.u64.wrap (IntKind.i64.wrap (l1_5 + l1_6))) (2 ^ (Int.toNat 1)))) + 1)), l1_6))
    else
    some (.inl (l1_5, (IntKind.i64.wrap (Int.fdiv (IntKind.u64.wrap (IntKind.i64.wrap (l1_5 + l1_6))) (2 ^ (Int.toNat 1))))))
    else
    (some l1_5).map .inr))
    (fun st => 0 ≤ st.1 ∧ st.1 ≤ st.2 ∧ st.2 ≤ (0 :: r).length ∧ (∀ p : Nat, st.1 = ((p + 1 : Nat) : Int) → ∃ b, (0 :: r)[p]? = some b ∧ b ≤ off) ∧ 1 ≤ st.2 ∧ (∀ p : Nat, st.2 = (p : Int) → p = (0 :: r).length ∨ ∃ b, (0 :: r)[p]? = some b ∧ off < b)) (fun st => (st.2 - st.1).toNat) (fun x => ∃ n : Nat, x = ((n + 1 : Nat) : Int) ∧ (∃ b, (0 :: r)[n]? = some b ∧ b ≤ off) ∧ (n + 1 = (0 :: r).length ∨ ∃ b, (0 :: r)[n + 1]? = some b ∧ off < b)) (by
    rintro ⟨a, b⟩ ⟨i1, i2, i3, i4, i5, i6⟩
    simp only at i1 i2 i3 i4 i5 i6
    have hlen : (0 :: r).length = r.length + 1 := rfl
    by_cases hab : a < b
    · right
      have hd : decide (a < b) = true := by simpa using hab
      have hh := half i1 hab (by omega)
      obtain ⟨m, hm⟩ : ∃ m : Nat, (a + b) / 2 = m := ⟨((a + b) / 2).toNat, by omega⟩
      rw [hm] at hh
      have hml : m < (0 :: r).length := by omega
      cases hc : decide ((0 :: r)[m] > off) with
      | false =>
        refine ⟨((m : Int) + 1, b), Ev.of fun k => ?_, ⟨by simp only; omega, by simp only; omega, i3, ?_, i5, i6⟩, by simp only; omega⟩
        · simp only
          rw [hd, if_pos rfl, hh, hat k m hml, hc, wrap64_id (x := (m : Int) + 1) (by omega) (by omega)]; rfl
        · intro p hp
          simp only at hp
          have : p = m := by omega
          subst this
          exact ⟨_, List.getElem?_eq_getElem hml, by simpa using hc⟩
      | true =>
        have hm0 : m ≠ 0 := by
          intro e
          subst e
          have : ((0 :: r)[0] > off) := by simpa using hc
          simp at this; omega
        refine ⟨(a, (m : Int)), Ev.of fun k => ?_, ⟨i1, by simp only; omega, by simp only; omega, i4, by simp only; omega, fun p hp => ?_⟩, by simp only; omega⟩
        · simp only
          rw [hd, if_pos rfl, hh, hat k m hml, hc]; rfl
        · simp only at hp
          have : p = m := by omega
          subst this
          exact .inr ⟨_, List.getElem?_eq_getElem hml, by simpa using hc⟩
    · left
      have hd : decide (a < b) = false := by simpa using hab
      refine ⟨a, Ev.of fun k => ?_, (a - 1).toNat, by omega, i4 _ (by omega), ?_⟩
      · simp only
        rw [hd]; rfl
      · have := i6 ((a - 1).toNat + 1) (by omega)
        exact this) (0, (((0 :: r).length : Nat) : Int)) ⟨by omega, by simp only [List.length_cons]; omega, by omega, fun p hp => by simp only at hp; omega, by simp only [List.length_cons]; omega, fun p hp => .inl (by simp only at hp; omega)⟩
  exact ⟨n, Ev.joinK (Ev.loop h1), h2⟩
def lst (s : List UInt8) (p : Nat) : Int := ((0 :: nl s p)[(nl s p).length]?).getD 0
theorem lst_ix (s : List UInt8) (p : Nat) : (0 :: nl s p)[(nl s p).length]? = some (lst s p) := by
  unfold lst
  rw [List.getElem?_eq_getElem (by simp)]; rfl
theorem lst_le (s : List UInt8) (p : Nat) : 0 ≤ lst s p ∧ lst s p ≤ p := by
  have := List.mem_of_getElem? (lst_ix s p)
  rcases List.mem_cons.1 this with h | h
  · rw [h]; omega
  · have := nl_le s p _ h; omega
theorem lst_succ (s : List UInt8) (p : Nat) : lst s (p + 1) = if ((bt s p).toNat : Int) == 10 then ((p + 1 : Nat) : Int) else lst s p := by
  unfold lst
  simp only [nl]
  cases h : ((bt s p).toNat : Int) == 10 with
  | true => simp
  | false => simp
def rfB (s : List UInt8) (off : Int) (st : Int × Int × Int) : Option ((Int × Int × Int) ⊕ (Int × Int)) :=
  match st with
  | (l3_6, l3_7, l3_8) =>
    if (decide (l3_8 < off)) then
    joinK (fun ((j4_6, j4_7) : Int × Int) =>
    some (.inl (j4_6, j4_7, (IntKind.i64.wrap (l3_8 + 1))))) fun j_j4 =>
    (ix s l3_8).bind fun x10_2 =>
    if ((x10_2.toNat : Int) == 10) then
    j_j4 ((IntKind.i64.wrap (l3_6 + 1)), 1)
    else
    j_j4 (l3_6, (IntKind.i64.wrap (l3_7 + 1)))
    else
    (some (l3_6, l3_7)).map .inr
theorem at02_eq (k : Nat) (s : List UInt8) {a : Int} (h0 : 0 ≤ a) (h1 : a ≤ s.length) : ref02_At k s a = loopM k (rfB s a) (1, 1, 0) := by
  unfold ref02_At
  simp only [joinK]
  rw [show decide (a < 0) = false by simp; omega, show decide (a > (s.length : Int)) = false by simp; omega]
  rfl
theorem at02 (s : List UInt8) (hl : s.length ≤ 20000) {a : Nat} (h1 : a ≤ s.length) : Ev (fun k => ref02_At k s (a : Int)) (((nl s a).length + 1 : Nat), (a : Int) - lst s a + 1) := by
  have key : ∀ d p, p + d = a → EvL (fun _ => rfB s (a : Int)) (((((nl s p).length + 1 : Nat) : Int)), (p : Int) - lst s p + 1, (p : Int)) ((((nl s a).length + 1 : Nat) : Int), (a : Int) - lst s a + 1) := by
    intro d
    induction d with
    | zero =>
      intro p hp
      have : p = a := by omega
      subst this
      refine EvL.done (Ev.of fun _ => ?_)
      simp only [rfB]
      rw [if_neg (by simp)]; rfl
    | succ d ih =>
      intro p hp
      have hp' : p < s.length := by omega
      have hd : decide ((p : Int) < (a : Int)) = true := by simp; omega
      have hwr : IntKind.i64.wrap ((p : Int) + 1) = ((p + 1 : Nat) : Int) := by rw [wrap64_id (by omega) (by omega)]; simp
      have hn := nl_len s p
      have hb := lst_le s p
      refine EvL.step (s' := ((((nl s (p + 1)).length + 1 : Nat) : Int), ((p + 1 : Nat) : Int) - lst s (p + 1) + 1, ((p + 1 : Nat) : Int))) (Ev.of fun _ => ?_) (ih (p + 1) (by omega))
      rw [lst_succ]
      simp only [rfB, joinK, nl]
      rw [hd, if_pos rfl, ix_bt hp', Option.bind_some, hwr]
      cases hc : ((bt s p).toNat : Int) == 10 with
      | true =>
        simp only [if_true, List.length_append, List.length_cons, List.length_nil]
        rw [wrap64_id (by omega) (by omega), show ((p + 1 : Nat) : Int) - ((p + 1 : Nat) : Int) + 1 = 1 by omega]
        rfl
      | false =>
        simp only [Bool.false_eq_true, if_false, List.append_nil]
        rw [wrap64_id (by omega) (by omega), show (p : Int) - lst s p + 1 + 1 = ((p + 1 : Nat) : Int) - lst s p + 1 by omega]
  refine Ev.congr (fun k => at02_eq k s (by omega) (by omega)) (Ev.loop ?_)
  exact key a 0 (by omega)
theorem fault_both (s : List UInt8) (hl : s.length ≤ 20000) {a : Int} (h0 : 0 ≤ a) (h1 : a ≤ s.length) (e : Int) : ∃ li co : Int, Ev (fun k => parse_fault k s a e) (zN, ⟨a, li, co, e⟩) ∧ Ev (fun k => ref15_at k s a e) ⟨zN, a, li, co, e⟩ := by
  obtain ⟨a, rfl⟩ : ∃ q : Nat, a = q := ⟨a.toNat, by omega⟩
  have ha : a ≤ s.length := by omega
  have h2 := at02 s hl ha
  have h3 := of_nl s hl
  have hoff : mx 0 (mn (a : Int) (s.length : Int)) = a := by rw [mx_eq, mn_eq]; omega
  have hn := nl_len s s.length
  obtain ⟨n, g1, ⟨b, g2, g3⟩, g4⟩ := search2 s (nl s s.length) (a : Int) (by omega) (by omega)
  obtain ⟨r, r1, r2⟩ := nl_split s a (s.length - a)
  rw [show a + (s.length - a) = s.length by omega] at r1
  have hlst := lst_ix s a
  have hle := lst_le s a
  have hc : n = (nl s a).length := by
    have hlen : (0 :: nl s s.length).length = (nl s a).length + 1 + r.length := by rw [r1]; simp; omega
    rcases Nat.lt_trichotomy n (nl s a).length with h | h | h
    · exfalso
      rcases g4 with g4 | ⟨b', q1, q2⟩
      · omega
      · rw [r1, ← List.cons_append, List.getElem?_append_left (by simp; omega)] at q1
        have := List.mem_of_getElem? q1
        rcases List.mem_cons.1 this with h | h
        · omega
        · have := nl_le s a _ h; omega
    · exact h
    · exfalso
      rw [r1, ← List.cons_append, List.getElem?_append_right (by simp; omega)] at g2
      have := r2 _ (List.mem_of_getElem? g2)
      omega
  subst hc
  have hbl : b = lst s a := by
    rw [r1, ← List.cons_append, List.getElem?_append_left (by simp), hlst] at g2
    exact (Option.some.inj g2).symm
  subst hbl
  have hnl := nl_len s a
  have hw : IntKind.i64.wrap ((((nl s a).length + 1 : Nat) : Int) - 1) = ((nl s a).length : Int) := by rw [wrap64_id (by omega) (by omega)]; omega
  have hix : ix (0 :: nl s s.length) ((nl s a).length : Int) = some (lst s a) := ix_of (by omega) (by rw [Int.toNat_natCast]; exact g2)
  have hcw : IntKind.i64.wrap (IntKind.i64.wrap ((a : Int) - lst s a) + 1) = (a : Int) - lst s a + 1 := by
    rw [wrap64_id (x := (a : Int) - lst s a) (by omega) (by omega), wrap64_id (by omega) (by omega)]
  have hA : Ev (fun k => place_Lines_At k (some ⟨s, 0 :: nl s s.length⟩) (a : Int)) ((((nl s a).length + 1 : Nat) : Int), (a : Int) - lst s a + 1) := by
    refine Ev.ite_f rfl (Ev.bindS (x := ⟨s, 0 :: nl s s.length⟩) (fun _ => rfl) (Ev.bindS (x := ⟨s, 0 :: nl s s.length⟩) (fun _ => rfl) (Ev.bind (by rw [hoff]; exact g1) (Ev.bindS (x := ⟨s, 0 :: nl s s.length⟩) (fun _ => rfl) (Ev.bindS (x := lst s a) (fun _ => by rw [hw]; exact hix) (Ev.of fun _ => ?_))))))
    rw [hoff, hcw]
  exact ⟨_, _, Ev.bind h3 (Ev.bind hA Ev.pure), Ev.bind h2 Ev.pure⟩
end Go.Proofs.YtjakhfaodfaimaaGreatDoor.F
namespace Go.Proofs.YtjakhfaodfaimaaGreatDoor.F
open Go
abbrev eArgs (l : List TToken) (i : Int) (k : Nat) := expr_reader_args k l i false
abbrev rArgs (l : List TToken) (i : Int) (k : Nat) := ref13_Args k l i
abbrev eFirst (l : List TToken) (i : Int) (k : Nat) := expr_reader_first k l i false
abbrev rFirst (l : List TToken) (i : Int) (k : Nat) := ref13_first k l i
abbrev ePart (l : List TToken) (i : Int) (k : Nat) := expr_reader_part k l i false
abbrev rPart (l : List TToken) (i : Int) (k : Nat) := ref13_part k l i
abbrev eFactor (l : List TToken) (i : Int) (k : Nat) := expr_reader_factor k l i false
abbrev rFactor (l : List TToken) (i : Int) (k : Nat) := ref13_factor k l i
abbrev eLevel (l : List TToken) (i lev : Int) (k : Nat) := expr_reader_level k lev l i false
abbrev rLevel (l : List TToken) (i lev : Int) (k : Nat) := ref13_level k l i lev
abbrev rExpr (l : List TToken) (i : Int) (k : Nat) := ref13_Expr k l i
theorem expr_of {l : List TToken} {i : Int} {p : TNode × Int × Bool} (h : Ev (rLevel l i 1) p) : Ev (rExpr l i) p := by
  refine Ev.succ1 ?_
  simp only [rExpr, ref13_Expr]
  exact Ev.bind h Ev.pure
theorem args_bad (l : List TToken) (i : Int) : Ev (fun k => expr_reader_args k l i true) ([], i, true) := by
  refine Ev.succ1 ?_
  simp only [expr_reader_args]
  simp only [qe, Option.bind_some, Option.map_some, joinK, qb, ↓reduceIte, if_true, if_false, eq_self, Int.reduceBEq, Int.reduceBNe]
  refine Ev.loop (EvL.done (Ev.of fun _ => ?_))
  simp only [qe, Option.bind_some, Option.map_some, joinK, qb, ↓reduceIte, if_true, if_false, eq_self, Int.reduceBEq, Int.reduceBNe]
structure IH (l : List TToken) (i : Int) : Prop where
  lev : ∀ q, 1 ≤ q → q ≤ 6 → ∀ j, i < j → j ≤ l.length → R GEx l j (eLevel l j q) (rLevel l j q)
  fac : ∀ j, i < j → j ≤ l.length → R GEx l j (eFactor l j) (rFactor l j)
theorem IH.mono {l : List TToken} {i j : Int} (H : IH l i) (h : i ≤ j) : IH l j := ⟨fun q a b p h1 => H.lev q a b p (by omega), fun p h1 => H.fac p (by omega)⟩
def eArgsB (l : List TToken) (k : Nat) (s : List TNode × Int × Bool) : Option ((List TNode × Int × Bool) ⊕ (List TNode × Int × Bool)) :=
  match s with
  | (l1_3, l1_oext0_1, l1_oext0_2) =>
    if (!l1_oext0_2) then
    (expr_reader_level k 1 l l1_oext0_1 l1_oext0_2).bind fun (x6_2_0, x6_2_1, x6_2_2) =>
    if (room 64 (l1_3.length + [x6_2_0].length)) then
    (expr_reader_takes k [41] l x6_2_1 x6_2_2).bind fun (x7_1_0, x7_1_1) =>
    if x7_1_0 then
    some (.inr ((l1_3 ++ [x6_2_0]), x7_1_1, x6_2_2))
    else
    (expr_reader_wants k [44] l x7_1_1 x6_2_2).bind fun (x9_1_0, x9_1_1) =>
    some (.inl ((l1_3 ++ [x6_2_0]), x9_1_0, x9_1_1))
    else none
    else
    (some (([] : List TNode), l1_oext0_1, l1_oext0_2)).map .inr
def rArgsB (l : List TToken) (k : Nat) (s : List TNode × Int) : Option ((List TNode × Int) ⊕ (List TNode × Int × Bool)) :=
  match s with
  | (l0_7, l0_1) =>
    (ref13_Expr k l l0_1).bind fun (x7_2_0, x7_2_1, x7_2_2) =>
    if (!x7_2_2) then
    some (.inr ([], x7_2_1, false))
    else
    if (room 64 (l0_7.length + [x7_2_0].length)) then
    (ref13_Is k l x7_2_1 [41]).bind fun x11_2 =>
    if x11_2 then
    some (.inr ((l0_7 ++ [x7_2_0]), (IntKind.i64.wrap (x7_2_1 + 1)), true))
    else
    (ref13_Is k l x7_2_1 [44]).bind fun x13_2 =>
    if (!x13_2) then
    some (.inr ([], x7_2_1, false))
    else
    some (.inl ((l0_7 ++ [x7_2_0]), (IntKind.i64.wrap (x7_2_1 + 1))))
    else none
theorem eArgs_eq (k : Nat) (l : List TToken) (i : Int) : expr_reader_args (k + 1) l i false = (
    if isT (tk l i) 4 [40] then
    if isT (tk l (IntKind.i64.wrap (i + 1))) 4 [41] then some ([], IntKind.i64.wrap (IntKind.i64.wrap (i + 1) + 1), false)
    else loopM k (eArgsB l k) ([], IntKind.i64.wrap (i + 1), false)
    else loopM k (eArgsB l k) ([], i, true)) := by
  rw [expr_reader_args]
  cases h1 : isT (tk l i) 4 [40]
  · simp only [qe, Option.bind_some, Option.map_some, joinK, qb, ↓reduceIte, if_true, if_false, eq_self, Int.reduceBEq, Int.reduceBNe, h1]; rfl
  · simp only [qe, Option.bind_some, Option.map_some, joinK, qb, ↓reduceIte, if_true, if_false, eq_self, Int.reduceBEq, Int.reduceBNe, h1]
    cases h2 : isT (tk l (IntKind.i64.wrap (i + 1))) 4 [41]
    · simp only [qe, Option.bind_some, Option.map_some, joinK, qb, ↓reduceIte, if_true, if_false, eq_self, Int.reduceBEq, Int.reduceBNe, h2]; rfl
    · simp only [qe, Option.bind_some, Option.map_some, joinK, qb, ↓reduceIte, if_true, if_false, eq_self, Int.reduceBEq, Int.reduceBNe, h2]
theorem rArgs_eq (k : Nat) (l : List TToken) (i : Int) : ref13_Args (k + 1) l i = (
    if isT (tk l i) 4 [40] then
    if isT (tk l (IntKind.i64.wrap (i + 1))) 4 [41] then some ([], IntKind.i64.wrap (IntKind.i64.wrap (i + 1) + 1), true)
    else loopM k (rArgsB l k) ([], IntKind.i64.wrap (i + 1))
    else some ([], i, false)) := by
  rw [ref13_Args]
  cases h1 : isT (tk l i) 4 [40]
  · simp only [qe, Option.bind_some, Option.map_some, joinK, qb, ↓reduceIte, if_true, if_false, eq_self, Int.reduceBEq, Int.reduceBNe, h1]
  · simp only [qe, Option.bind_some, Option.map_some, joinK, qb, ↓reduceIte, if_true, if_false, eq_self, Int.reduceBEq, Int.reduceBNe, h1]
    cases h2 : isT (tk l (IntKind.i64.wrap (i + 1))) 4 [41]
    · simp only [qe, Option.bind_some, Option.map_some, joinK, qb, ↓reduceIte, if_true, if_false, eq_self, Int.reduceBEq, Int.reduceBNe, h2]
      congr 1; funext s; simp only [rArgsB]; simp only [qe, Option.bind_some, Option.map_some, joinK, qb, ↓reduceIte, if_true, if_false, eq_self, Int.reduceBEq, Int.reduceBNe]
    · simp only [qe, Option.bind_some, Option.map_some, joinK, qb, ↓reduceIte, if_true, if_false, eq_self, Int.reduceBEq, Int.reduceBNe, h2]
theorem args_loop {l : List TToken} (W : WF l) {i : Int} (hi0 : 0 ≤ i) (H : IH l i) : ∀ (n : Nat) (p : Int) (out : List TNode), (l.length : Int) - p ≤ n → i < p → p ≤ l.length → (out.length : Int) ≤ p → (∀ x ∈ out, GEx x) →
    ∃ a j b ok, EvL (eArgsB l) (out, p, false) (a, j, !ok) ∧ EvL (rArgsB l) (out, p) (b, j, ok) ∧ (ok = true → a = b ∧ p < j ∧ j < l.length ∧ GAr b) ∧ (ok = false → a = [] ∧ b = []) := by
  intro n
  induction n using Nat.strongRecOn with
  | _ n ih =>
  intro p out hn hp hpl ho hg
  obtain ⟨a, j, b, ok, e1, e2, e3, e4⟩ := H.lev 1 (by omega) (by omega) p hp hpl
  have e2 := expr_of e2
  have hlen := W.len
  have hroom : ∀ x : TNode, room 64 (out.length + [x].length) = true := fun x => room_of (by omega) (by simp; omega)
  cases ok with
  | false =>
    refine ⟨[], j, [], false, EvL.step (s' := (out ++ [a], j, true)) ?_ (EvL.done ?_), EvL.done ?_, (fun h => by cases h), fun _ => ⟨rfl, rfl⟩⟩
    · simp only [eArgsB]; simp only [qe, Option.bind_some, Option.map_some, joinK, qb, ↓reduceIte, if_true, if_false, eq_self, Int.reduceBEq, Int.reduceBNe]
      refine Ev.bind e1 ?_
      simp only [qe, Option.bind_some, Option.map_some, joinK, qb, ↓reduceIte, if_true, if_false, eq_self, Int.reduceBEq, Int.reduceBNe, hroom]; exact Ev.pure
    · simp only [eArgsB]; simp only [qe, Option.bind_some, Option.map_some, joinK, qb, ↓reduceIte, if_true, if_false, eq_self, Int.reduceBEq, Int.reduceBNe]; exact Ev.pure
    · simp only [rArgsB]; simp only [qe, Option.bind_some, Option.map_some, joinK, qb, ↓reduceIte, if_true, if_false, eq_self, Int.reduceBEq, Int.reduceBNe]
      refine Ev.bind e2 ?_
      simp only [qe, Option.bind_some, Option.map_some, joinK, qb, ↓reduceIte, if_true, if_false, eq_self, Int.reduceBEq, Int.reduceBNe]; exact Ev.pure
  | true =>
    obtain ⟨rfl, q2, q3, q4⟩ := e3 rfl
    have hg' : ∀ x ∈ out ++ [a], GEx x := by
      intro x hx
      rcases List.mem_append.1 hx with hx | hx
      · exact hg x hx
      · simp at hx; subst hx; exact q4
    by_cases h1 : isT (tk l j) 4 [41] = true
    · have hk := (isT_kind h1).1
      obtain ⟨m1, m2, m3⟩ := W.next (i := j) (by omega)
      refine ⟨out ++ [a], j + 1, out ++ [a], true, EvL.done ?_, EvL.done ?_, fun _ => ⟨rfl, by omega, m2, ⟨hg', by simp; omega⟩⟩, fun h => by cases h⟩
      · simp only [eArgsB]; simp only [qe, Option.bind_some, Option.map_some, joinK, qb, ↓reduceIte, if_true, if_false, eq_self, Int.reduceBEq, Int.reduceBNe]
        refine Ev.bind e1 ?_
        simp only [qe, Option.bind_some, Option.map_some, joinK, qb, ↓reduceIte, if_true, if_false, eq_self, Int.reduceBEq, Int.reduceBNe, hroom, h1, m3]; exact Ev.pure
      · simp only [rArgsB]; simp only [qe, Option.bind_some, Option.map_some, joinK, qb, ↓reduceIte, if_true, if_false, eq_self, Int.reduceBEq, Int.reduceBNe]
        refine Ev.bind e2 ?_
        simp only [qe, Option.bind_some, Option.map_some, joinK, qb, ↓reduceIte, if_true, if_false, eq_self, Int.reduceBEq, Int.reduceBNe, hroom, h1, m3]; exact Ev.pure
    · have h1 : isT (tk l j) 4 [41] = false := by simpa using h1
      by_cases h2 : isT (tk l j) 4 [44] = true
      · have hk := (isT_kind h2).1
        obtain ⟨m1, m2, m3⟩ := W.next (i := j) (by omega)
        obtain ⟨a', j', b', ok', f1, f2, f3, f4⟩ := ih (n - 1) (by omega) (j + 1) (out ++ [a]) (by omega) (by omega) (by omega) (by simp; omega) hg'
        refine ⟨a', j', b', ok', EvL.step (s' := (out ++ [a], j + 1, false)) ?_ f1, EvL.step (s' := (out ++ [a], j + 1)) ?_ f2, fun h => ?_, f4⟩
        · simp only [eArgsB]; simp only [qe, Option.bind_some, Option.map_some, joinK, qb, ↓reduceIte, if_true, if_false, eq_self, Int.reduceBEq, Int.reduceBNe]
          refine Ev.bind e1 ?_
          simp only [qe, Option.bind_some, Option.map_some, joinK, qb, ↓reduceIte, if_true, if_false, eq_self, Int.reduceBEq, Int.reduceBNe, hroom, h1, h2, m3]; exact Ev.pure
        · simp only [rArgsB]; simp only [qe, Option.bind_some, Option.map_some, joinK, qb, ↓reduceIte, if_true, if_false, eq_self, Int.reduceBEq, Int.reduceBNe]
          refine Ev.bind e2 ?_
          simp only [qe, Option.bind_some, Option.map_some, joinK, qb, ↓reduceIte, if_true, if_false, eq_self, Int.reduceBEq, Int.reduceBNe, hroom, h1, h2, m3]; exact Ev.pure
        · obtain ⟨g1, g2, g3, g4⟩ := f3 h
          exact ⟨g1, by omega, g3, g4⟩
      · have h2 : isT (tk l j) 4 [44] = false := by simpa using h2
        refine ⟨[], j, [], false, EvL.step (s' := (out ++ [a], j, true)) ?_ (EvL.done ?_), EvL.done ?_, (fun h => by cases h), fun _ => ⟨rfl, rfl⟩⟩
        · simp only [eArgsB]; simp only [qe, Option.bind_some, Option.map_some, joinK, qb, ↓reduceIte, if_true, if_false, eq_self, Int.reduceBEq, Int.reduceBNe]
          refine Ev.bind e1 ?_
          simp only [qe, Option.bind_some, Option.map_some, joinK, qb, ↓reduceIte, if_true, if_false, eq_self, Int.reduceBEq, Int.reduceBNe, hroom, h1, h2]; exact Ev.pure
        · simp only [eArgsB]; simp only [qe, Option.bind_some, Option.map_some, joinK, qb, ↓reduceIte, if_true, if_false, eq_self, Int.reduceBEq, Int.reduceBNe]; exact Ev.pure
        · simp only [rArgsB]; simp only [qe, Option.bind_some, Option.map_some, joinK, qb, ↓reduceIte, if_true, if_false, eq_self, Int.reduceBEq, Int.reduceBNe]
          refine Ev.bind e2 ?_
          simp only [qe, Option.bind_some, Option.map_some, joinK, qb, ↓reduceIte, if_true, if_false, eq_self, Int.reduceBEq, Int.reduceBNe, hroom, h1, h2]; exact Ev.pure
def RA (l : List TToken) (i : Int) : Prop :=
  ∃ a j b ok, Ev (eArgs l i) (a, j, !ok) ∧ Ev (rArgs l i) (b, j, ok) ∧ (ok = true → a = b ∧ i < j ∧ j < l.length ∧ GAr b) ∧ (ok = false → a = [] ∧ b = [])
theorem args_R {l : List TToken} (W : WF l) {i : Int} (H : IH l i) : RA l i := by
  by_cases h1 : isT (tk l i) 4 [40] = true
  · have hk := (isT_kind h1).1
    obtain ⟨n1, n2, n3⟩ := W.next (i := i) (by omega)
    by_cases h2 : isT (tk l (i + 1)) 4 [41] = true
    · have hk := (isT_kind h2).1
      obtain ⟨m1, m2, m3⟩ := W.next (i := i + 1) (by omega)
      refine ⟨[], i + 1 + 1, [], true, Ev.succ1 ?_, Ev.succ1 ?_, fun _ => ⟨rfl, by omega, m2, ⟨by simp, by simp⟩⟩, fun h => by cases h⟩
      · simp only [eArgs, eArgs_eq]; simp only [qe, Option.bind_some, Option.map_some, joinK, qb, ↓reduceIte, if_true, if_false, eq_self, Int.reduceBEq, Int.reduceBNe, h1, n3, h2, m3]; exact Ev.pure
      · simp only [rArgs, rArgs_eq]; simp only [qe, Option.bind_some, Option.map_some, joinK, qb, ↓reduceIte, if_true, if_false, eq_self, Int.reduceBEq, Int.reduceBNe, h1, n3, h2, m3]; exact Ev.pure
    · have h2 : isT (tk l (i + 1)) 4 [41] = false := by simpa using h2
      obtain ⟨a, j, b, ok, f1, f2, f3, f4⟩ := args_loop W n1 H (l.length) (i + 1) [] (by omega) (by omega) (by omega) (by simp; omega) (by simp)
      refine ⟨a, j, b, ok, Ev.succ1 ?_, Ev.succ1 ?_, fun h => ?_, f4⟩
      · simp only [eArgs, eArgs_eq]; simp only [qe, Option.bind_some, Option.map_some, joinK, qb, ↓reduceIte, if_true, if_false, eq_self, Int.reduceBEq, Int.reduceBNe, h1, n3, h2]; exact Ev.loop f1
      · simp only [rArgs, rArgs_eq]; simp only [qe, Option.bind_some, Option.map_some, joinK, qb, ↓reduceIte, if_true, if_false, eq_self, Int.reduceBEq, Int.reduceBNe, h1, n3, h2]; exact Ev.loop f2
      · obtain ⟨g1, g2, g3, g4⟩ := f3 h
        exact ⟨g1, by omega, g3, g4⟩
  · have h1 : isT (tk l i) 4 [40] = false := by simpa using h1
    refine ⟨[], i, [], false, Ev.succ1 ?_, Ev.succ1 ?_, (fun h => by cases h), fun _ => ⟨rfl, rfl⟩⟩
    · simp only [eArgs, eArgs_eq]; simp only [qe, Option.bind_some, Option.map_some, joinK, qb, ↓reduceIte, if_true, if_false, eq_self, Int.reduceBEq, Int.reduceBNe, h1]
      refine Ev.loop (EvL.done ?_)
      simp only [eArgsB]; simp only [qe, Option.bind_some, Option.map_some, joinK, qb, ↓reduceIte, if_true, if_false, eq_self, Int.reduceBEq, Int.reduceBNe]; exact Ev.pure
    · simp only [rArgs, rArgs_eq]; simp only [qe, Option.bind_some, Option.map_some, joinK, qb, ↓reduceIte, if_true, if_false, eq_self, Int.reduceBEq, Int.reduceBNe, h1]; exact Ev.pure
end Go.Proofs.YtjakhfaodfaimaaGreatDoor.F
namespace Go.Proofs.YtjakhfaodfaimaaGreatDoor.F
open Go
theorem wideA {k a n : Int} {s : List UInt8} {l : List TNode} (h : GAr l) : Wide ⟨k, a, n, s, l⟩ := wideL (fun x hx => (h.all x hx).wide) (by have := h.len; omega)
theorem named_R {l : List TToken} (W : WF l) {i : Int} (H : IH l i) {p : Int} (hp : i ≤ p) (kd a : Int) (hk : (tk l p).Kind = 1) :
    ∃ n j m ok, Ev (fun k => expr_reader_args k l (p + 1) false) (n, j, !ok) ∧ Ev (fun k => ref13_named k l p kd a) (if ok then ⟨kd, a, 0, (tk l p).Text, n⟩ else zN, j, ok) ∧ (ok = true → p < j ∧ j < l.length ∧ GAr n) ∧ (ok = false → m = zN) := by
  obtain ⟨n1, n2, n3⟩ := W.next (i := p) (by omega)
  obtain ⟨x, j, y, ok, f1, f2, f3, f4⟩ := args_R W (H.mono (j := p + 1) (by omega))
  refine ⟨x, j, zN, ok, f1, Ev.succ1 ?_, fun h => ?_, fun _ => rfl⟩
  · simp only [ref13_named]; simp only [qe, Option.bind_some, Option.map_some, joinK, qb, ↓reduceIte, if_true, if_false, eq_self, Int.reduceBEq, Int.reduceBNe, hk, n3]
    refine Ev.bind f2 ?_
    cases ok
    · simp only [qe, Option.bind_some, Option.map_some, joinK, qb, ↓reduceIte, if_true, if_false, eq_self, Int.reduceBEq, Int.reduceBNe]; exact Ev.pure
    · obtain ⟨rfl, _⟩ := f3 rfl
      simp only [qe, Option.bind_some, Option.map_some, joinK, qb, ↓reduceIte, if_true, if_false, eq_self, Int.reduceBEq, Int.reduceBNe]; exact Ev.pure
  · obtain ⟨rfl, g2, g3, g4⟩ := f3 h
    exact ⟨by omega, g3, g4⟩
theorem first_R {l : List TToken} (W : WF l) {i : Int} (H : IH l i) : R GEx l i (eFirst l i) (rFirst l i) := by
  by_cases k2 : (tk l i).Kind = 2
  · obtain ⟨n1, n2, n3⟩ := W.next (i := i) (by omega)
    refine R.good (j := i + 1) (n := ⟨10, (tk l i).At, (tk l i).N, [], []⟩) (Ev.succ1 ?_) (Ev.succ1 ?_) ⟨by omega, n2⟩ ⟨ge_num _ (W.nums i k2), wide0⟩
    · simp only [eFirst, expr_reader_first]; simp only [qe, Option.bind_some, Option.map_some, joinK, qb, ↓reduceIte, if_true, if_false, eq_self, Int.reduceBEq, Int.reduceBNe, k2, n3]; exact Ev.pure
    · simp only [rFirst, ref13_first]; simp only [qe, Option.bind_some, Option.map_some, joinK, qb, ↓reduceIte, if_true, if_false, eq_self, Int.reduceBEq, Int.reduceBNe, k2, n3]; exact Ev.pure
  by_cases k1 : (tk l i).Kind = 1
  · obtain ⟨n1, n2, n3⟩ := W.next (i := i) (by omega)
    have sn : ∀ s, isT (tk l i) 3 s = false := fun s => isT_ne (by omega)
    by_cases h1 : isT (tk l (i + 1)) 4 [40] = true
    · obtain ⟨x, j, y, ok, f1, f2, f3, f4⟩ := named_R W H (p := i) (by omega) 17 (tk l i).At k1
      have E : Ev (eFirst l i) (⟨17, (tk l i).At, 0, (tk l i).Text, x⟩, j, !ok) := by
        refine Ev.succ1 ?_
        simp only [eFirst, expr_reader_first]; simp only [qe, Option.bind_some, Option.map_some, joinK, qb, ↓reduceIte, if_true, if_false, eq_self, Int.reduceBEq, Int.reduceBNe, k1, n3, h1]
        refine Ev.bind f1 ?_
        simp only [qe, Option.bind_some, Option.map_some, joinK, qb, ↓reduceIte, if_true, if_false, eq_self, Int.reduceBEq, Int.reduceBNe]; exact Ev.pure
      have Rr : Ev (rFirst l i) (if ok then ⟨17, (tk l i).At, 0, (tk l i).Text, x⟩ else zN, j, ok) := by
        refine Ev.succ1 ?_
        simp only [rFirst, ref13_first]; simp only [qe, Option.bind_some, Option.map_some, joinK, qb, ↓reduceIte, if_true, if_false, eq_self, Int.reduceBEq, Int.reduceBNe, k1, n3, h1, sn]
        refine Ev.bind f2 ?_
        simp only [qe, Option.bind_some, Option.map_some, joinK, qb, ↓reduceIte, if_true, if_false, eq_self, Int.reduceBEq, Int.reduceBNe]; exact Ev.pure
      cases ok with
      | false => exact R.bad E Rr
      | true =>
        obtain ⟨g1, g2, g3⟩ := f3 rfl
        exact R.good E Rr ⟨g1, g2⟩ ⟨ge_named _ _ (W.names i k1) (fun n hn => (g3.all n hn).ge) (by have := g3.len; omega) (by omega), wideA g3⟩
    · have h1 : isT (tk l (i + 1)) 4 [40] = false := by simpa using h1
      refine R.good (j := i + 1) (n := ⟨12, (tk l i).At, 0, (tk l i).Text, []⟩) (Ev.succ1 ?_) (Ev.succ1 ?_) ⟨by omega, n2⟩ ⟨ge_named _ _ (W.names i k1) (by simp) (by simp) (.inl ⟨rfl, rfl⟩), wide0⟩
      · simp only [eFirst, expr_reader_first]; simp only [qe, Option.bind_some, Option.map_some, joinK, qb, ↓reduceIte, if_true, if_false, eq_self, Int.reduceBEq, Int.reduceBNe, k1, n3, h1]; exact Ev.pure
      · simp only [rFirst, ref13_first]; simp only [qe, Option.bind_some, Option.map_some, joinK, qb, ↓reduceIte, if_true, if_false, eq_self, Int.reduceBEq, Int.reduceBNe, k1, n3, h1, sn]; exact Ev.pure
  have b2 : ((tk l i).Kind == 2) = false := by simpa using k2
  have b1 : ((tk l i).Kind == 1) = false := by simpa using k1
  by_cases k3 : (tk l i).Kind = 3
  · obtain ⟨n1, n2, n3⟩ := W.next (i := i) (by omega)
    have mn : ∀ s, isT (tk l i) 4 s = false := fun s => isT_ne (by omega)
    have b3 : ((tk l i).Kind == 3) = true := by simpa using k3
    have sy : ∀ s, isT (tk l i) 3 s = ((tk l i).Text == s) := fun s => by unfold isT; rw [b3]; rfl
    have E : ∀ {x : TNode} {j : Int} {b : Bool}, Ev (fun k => expr_reader_word k ⟨0, (tk l i).At, 0, [], []⟩ (tk l i).Text l i false) (x, j, b) → Ev (eFirst l i) (x, j, b) := by
      intro x j b h
      refine Ev.succ1 ?_
      simp only [eFirst, expr_reader_first]; simp only [qe, Option.bind_some, Option.map_some, joinK, qb, ↓reduceIte, if_true, if_false, eq_self, Int.reduceBEq, Int.reduceBNe, b1, b2, mn, b3]
      refine Ev.bind h ?_
      simp only [qe, Option.bind_some, Option.map_some, joinK, qb, ↓reduceIte, if_true, if_false, eq_self, Int.reduceBEq, Int.reduceBNe]; exact Ev.pure
    by_cases w1 : (tk l i).Text = [116, 114, 117, 101]
    · refine R.good (j := i + 1) (n := ⟨11, (tk l i).At, 1, [], []⟩) (E (Ev.succ1 ?_)) (Ev.succ1 ?_) ⟨by omega, n2⟩ ⟨ge_flag _ (.inr rfl), wide0⟩
      · simp only [expr_reader_word]; simp only [qe, Option.bind_some, Option.map_some, joinK, qb, ↓reduceIte, if_true, if_false, eq_self, Int.reduceBEq, Int.reduceBNe, w1, n3]; exact Ev.pure
      · simp only [rFirst, ref13_first]; simp only [qe, Option.bind_some, Option.map_some, joinK, qb, ↓reduceIte, if_true, if_false, eq_self, Int.reduceBEq, Int.reduceBNe, b1, b2, sy, w1, n3]; exact Ev.pure
    have w1b : ((tk l i).Text == [116, 114, 117, 101]) = false := by simpa using w1
    by_cases w2 : (tk l i).Text = [102, 97, 108, 115, 101]
    · refine R.good (j := i + 1) (n := ⟨11, (tk l i).At, 0, [], []⟩) (E (Ev.succ1 ?_)) (Ev.succ1 ?_) ⟨by omega, n2⟩ ⟨ge_flag _ (.inl rfl), wide0⟩
      · simp only [expr_reader_word]; simp only [qe, Option.bind_some, Option.map_some, joinK, qb, ↓reduceIte, if_true, if_false, eq_self, Int.reduceBEq, Int.reduceBNe, w2, n3, show (([102, 97, 108, 115, 101] : List UInt8) == [116, 114, 117, 101]) = false from rfl]; exact Ev.pure
      · simp only [rFirst, ref13_first]; simp only [qe, Option.bind_some, Option.map_some, joinK, qb, ↓reduceIte, if_true, if_false, eq_self, Int.reduceBEq, Int.reduceBNe, b1, b2, sy, w2, n3, show (([102, 97, 108, 115, 101] : List UInt8) == [116, 114, 117, 101]) = false from rfl]; exact Ev.pure
    have w2b : ((tk l i).Text == [102, 97, 108, 115, 101]) = false := by simpa using w2
    by_cases w3 : (tk l i).Text = [102, 111, 114, 107]
    · have w3b : ((tk l i).Text == [102, 111, 114, 107]) = true := by rw [w3]; rfl
      by_cases kn : (tk l (i + 1)).Kind = 1
      · obtain ⟨x, j, y, ok, f1, f2, f3, f4⟩ := named_R W H (p := i + 1) (by omega) 18 (tk l i).At kn
        obtain ⟨m1, m2, m3⟩ := W.next (i := i + 1) (by omega)
        have E1 : Ev (eFirst l i) (⟨18, (tk l i).At, 0, (tk l (i + 1)).Text, x⟩, j, !ok) := by
          refine E (Ev.succ1 ?_)
          simp only [expr_reader_word]; simp only [qe, Option.bind_some, Option.map_some, joinK, qb, ↓reduceIte, if_true, if_false, eq_self, Int.reduceBEq, Int.reduceBNe, w1b, w2b, w3b, n3, kn, m3]
          refine Ev.bind f1 ?_
          simp only [qe, Option.bind_some, Option.map_some, joinK, qb, ↓reduceIte, if_true, if_false, eq_self, Int.reduceBEq, Int.reduceBNe]; exact Ev.pure
        have Rr : Ev (rFirst l i) (if ok then ⟨18, (tk l i).At, 0, (tk l (i + 1)).Text, x⟩ else zN, j, ok) := by
          refine Ev.succ1 ?_
          simp only [rFirst, ref13_first]; simp only [qe, Option.bind_some, Option.map_some, joinK, qb, ↓reduceIte, if_true, if_false, eq_self, Int.reduceBEq, Int.reduceBNe, b1, b2, sy, w1b, w2b, w3b, n3]
          refine Ev.bind f2 ?_
          simp only [qe, Option.bind_some, Option.map_some, joinK, qb, ↓reduceIte, if_true, if_false, eq_self, Int.reduceBEq, Int.reduceBNe]; exact Ev.pure
        cases ok with
        | false => exact R.bad E1 Rr
        | true =>
          obtain ⟨g1, g2, g3⟩ := f3 rfl
          exact R.good E1 Rr ⟨by omega, g2⟩ ⟨ge_named _ _ (W.names (i + 1) kn) (fun n hn => (g3.all n hn).ge) (by have := g3.len; omega) (by omega), wideA g3⟩
      · have knb : ((tk l (i + 1)).Kind != 1) = true := by simpa using kn
        refine R.bad (j := i + 1) (n := ⟨18, (tk l i).At, 0, [], []⟩) (E (Ev.succ1 ?_)) (Ev.succ1 ?_)
        · simp only [expr_reader_word]; simp only [qe, Option.bind_some, Option.map_some, joinK, qb, ↓reduceIte, if_true, if_false, eq_self, Int.reduceBEq, Int.reduceBNe, w1b, w2b, w3b, n3, knb]
          refine Ev.bind (args_bad l (i + 1)) ?_
          simp only [qe, Option.bind_some, Option.map_some, joinK, qb, ↓reduceIte, if_true, if_false, eq_self, Int.reduceBEq, Int.reduceBNe]; exact Ev.pure
        · simp only [rFirst, ref13_first]; simp only [qe, Option.bind_some, Option.map_some, joinK, qb, ↓reduceIte, if_true, if_false, eq_self, Int.reduceBEq, Int.reduceBNe, b1, b2, sy, w1b, w2b, w3b, n3]
          refine Ev.bind (x := (zN, i + 1, false)) (Ev.succ1 ?_) ?_
          · simp only [ref13_named]; simp only [qe, Option.bind_some, Option.map_some, joinK, qb, ↓reduceIte, if_true, if_false, eq_self, Int.reduceBEq, Int.reduceBNe, knb]; exact Ev.pure
          · simp only [qe, Option.bind_some, Option.map_some, joinK, qb, ↓reduceIte, if_true, if_false, eq_self, Int.reduceBEq, Int.reduceBNe]; exact Ev.pure
    have w3b : ((tk l i).Text == [102, 111, 114, 107]) = false := by simpa using w3
    by_cases w4 : (tk l i).Text = [110, 101, 119]
    · have w4b : ((tk l i).Text == [110, 101, 119]) = true := by rw [w4]; rfl
      obtain ⟨t, j, u, ok, e1, e2, e3, e4⟩ := type_all W (i + 1)
      cases ok with
      | false =>
        refine R.bad (j := j) (n := ⟨19, (tk l i).At, 0, [], [t] ++ []⟩) (E (Ev.succ1 ?_)) (Ev.succ1 ?_)
        · simp only [expr_reader_word]; simp only [qe, Option.bind_some, Option.map_some, joinK, qb, ↓reduceIte, if_true, if_false, eq_self, Int.reduceBEq, Int.reduceBNe, w1b, w2b, w3b, w4b, n3]
          refine Ev.bind e1 ?_
          simp only [qe, Option.bind_some, Option.map_some, joinK, qb, ↓reduceIte, if_true, if_false, eq_self, Int.reduceBEq, Int.reduceBNe]
          refine Ev.bind (args_bad l j) ?_
          simp only [qe, Option.bind_some, Option.map_some, joinK, qb, ↓reduceIte, if_true, if_false, eq_self, Int.reduceBEq, Int.reduceBNe, show room 64 ([t].length + ([] : List TNode).length) = true from rfl]; exact Ev.pure
        · simp only [rFirst, ref13_first]; simp only [qe, Option.bind_some, Option.map_some, joinK, qb, ↓reduceIte, if_true, if_false, eq_self, Int.reduceBEq, Int.reduceBNe, b1, b2, sy, w1b, w2b, w3b, w4b, n3]
          refine Ev.bind e2 ?_
          simp only [qe, Option.bind_some, Option.map_some, joinK, qb, ↓reduceIte, if_true, if_false, eq_self, Int.reduceBEq, Int.reduceBNe]; exact Ev.pure
      | true =>
        obtain ⟨rfl, q2, q3, q4⟩ := e3 rfl
        obtain ⟨x, j', y, ok', f1, f2, f3, f4⟩ := args_R W (H.mono (j := j) (by omega))
        have hx : x.length ≤ 100000 := by
          cases ok' with
          | false => rw [(f4 rfl).1]; simp
          | true => rw [(f3 rfl).1]; exact (f3 rfl).2.2.2.len
        have hr : room 64 ([t].length + x.length) = true := room_of (by omega) (by simp; omega)
        have E1 : Ev (eFirst l i) (⟨19, (tk l i).At, 0, [], [t] ++ x⟩, j', !ok') := by
          refine E (Ev.succ1 ?_)
          simp only [expr_reader_word]; simp only [qe, Option.bind_some, Option.map_some, joinK, qb, ↓reduceIte, if_true, if_false, eq_self, Int.reduceBEq, Int.reduceBNe, w1b, w2b, w3b, w4b, n3]
          refine Ev.bind e1 ?_
          simp only [qe, Option.bind_some, Option.map_some, joinK, qb, ↓reduceIte, if_true, if_false, eq_self, Int.reduceBEq, Int.reduceBNe]
          refine Ev.bind f1 ?_
          simp only [qe, Option.bind_some, Option.map_some, joinK, qb, ↓reduceIte, if_true, if_false, eq_self, Int.reduceBEq, Int.reduceBNe, hr]; exact Ev.pure
        have Rr : Ev (rFirst l i) (if ok' then ⟨19, (tk l i).At, 0, [], [t] ++ x⟩ else zN, j', ok') := by
          refine Ev.succ1 ?_
          simp only [rFirst, ref13_first]; simp only [qe, Option.bind_some, Option.map_some, joinK, qb, ↓reduceIte, if_true, if_false, eq_self, Int.reduceBEq, Int.reduceBNe, b1, b2, sy, w1b, w2b, w3b, w4b, n3]
          refine Ev.bind e2 ?_
          simp only [qe, Option.bind_some, Option.map_some, joinK, qb, ↓reduceIte, if_true, if_false, eq_self, Int.reduceBEq, Int.reduceBNe]
          refine Ev.bind f2 ?_
          cases ok'
          · simp only [qe, Option.bind_some, Option.map_some, joinK, qb, ↓reduceIte, if_true, if_false, eq_self, Int.reduceBEq, Int.reduceBNe]; exact Ev.pure
          · obtain ⟨rfl, _⟩ := f3 rfl
            simp only [qe, Option.bind_some, Option.map_some, joinK, qb, ↓reduceIte, if_true, if_false, eq_self, Int.reduceBEq, Int.reduceBNe, hr]; exact Ev.pure
        cases ok' with
        | false => exact R.bad E1 Rr
        | true =>
          obtain ⟨rfl, g2, g3, g4⟩ := f3 rfl
          exact R.good E1 Rr ⟨by omega, g3⟩ ⟨ge_new (t := t) (l := x) _ q4.gt (fun n hn => (g4.all n hn).ge) (by omega), wideL (by
            intro z hz
            rcases List.mem_cons.1 hz with rfl | hz
            · exact q4.wide
            · exact (g4.all z hz).wide) (by simp; omega)⟩
    have w4b : ((tk l i).Text == [110, 101, 119]) = false := by simpa using w4
    refine R.bad (j := i) (n := ⟨0, (tk l i).At, 0, [], []⟩) (E (Ev.succ1 ?_)) (Ev.succ1 ?_)
    · simp only [expr_reader_word]; simp only [qe, Option.bind_some, Option.map_some, joinK, qb, ↓reduceIte, if_true, if_false, eq_self, Int.reduceBEq, Int.reduceBNe, w1b, w2b, w3b, w4b]; exact Ev.pure
    · simp only [rFirst, ref13_first]; simp only [qe, Option.bind_some, Option.map_some, joinK, qb, ↓reduceIte, if_true, if_false, eq_self, Int.reduceBEq, Int.reduceBNe, b1, b2, sy, w1b, w2b, w3b, w4b, mn]; exact Ev.pure
  have b3 : ((tk l i).Kind == 3) = false := by simpa using k3
  have sn : ∀ s, isT (tk l i) 3 s = false := fun s => isT_ne k3
  by_cases h1 : isT (tk l i) 4 [40] = true
  · have hk := (isT_kind h1).1
    obtain ⟨n1, n2, n3⟩ := W.next (i := i) (by omega)
    obtain ⟨a, j, b, ok, e1, e2, e3, e4⟩ := H.lev 1 (by omega) (by omega) (i + 1) (by omega) (by omega)
    have e2 := expr_of e2
    cases ok with
    | false =>
      refine R.bad (j := j) (n := a) (Ev.succ1 ?_) (Ev.succ1 ?_)
      · simp only [eFirst, expr_reader_first]; simp only [qe, Option.bind_some, Option.map_some, joinK, qb, ↓reduceIte, if_true, if_false, eq_self, Int.reduceBEq, Int.reduceBNe, b1, b2, h1, n3]
        refine Ev.bind e1 ?_
        simp only [qe, Option.bind_some, Option.map_some, joinK, qb, ↓reduceIte, if_true, if_false, eq_self, Int.reduceBEq, Int.reduceBNe]; exact Ev.pure
      · simp only [rFirst, ref13_first]; simp only [qe, Option.bind_some, Option.map_some, joinK, qb, ↓reduceIte, if_true, if_false, eq_self, Int.reduceBEq, Int.reduceBNe, b1, b2, sn, h1, n3]
        refine Ev.bind e2 ?_
        simp only [qe, Option.bind_some, Option.map_some, joinK, qb, ↓reduceIte, if_true, if_false, eq_self, Int.reduceBEq, Int.reduceBNe]; exact Ev.pure
    | true =>
      obtain ⟨rfl, q2, q3, q4⟩ := e3 rfl
      by_cases h2 : isT (tk l j) 4 [41] = true
      · have hk2 := (isT_kind h2).1
        obtain ⟨m1, m2, m3⟩ := W.next (i := j) (by omega)
        refine R.good (j := j + 1) (n := a) (Ev.succ1 ?_) (Ev.succ1 ?_) ⟨by omega, m2⟩ q4
        · simp only [eFirst, expr_reader_first]; simp only [qe, Option.bind_some, Option.map_some, joinK, qb, ↓reduceIte, if_true, if_false, eq_self, Int.reduceBEq, Int.reduceBNe, b1, b2, h1, n3]
          refine Ev.bind e1 ?_
          simp only [qe, Option.bind_some, Option.map_some, joinK, qb, ↓reduceIte, if_true, if_false, eq_self, Int.reduceBEq, Int.reduceBNe, h2, m3]; exact Ev.pure
        · simp only [rFirst, ref13_first]; simp only [qe, Option.bind_some, Option.map_some, joinK, qb, ↓reduceIte, if_true, if_false, eq_self, Int.reduceBEq, Int.reduceBNe, b1, b2, sn, h1, n3]
          refine Ev.bind e2 ?_
          simp only [qe, Option.bind_some, Option.map_some, joinK, qb, ↓reduceIte, if_true, if_false, eq_self, Int.reduceBEq, Int.reduceBNe, h2, m3]; exact Ev.pure
      · have h2 : isT (tk l j) 4 [41] = false := by simpa using h2
        refine R.bad (j := j) (n := a) (Ev.succ1 ?_) (Ev.succ1 ?_)
        · simp only [eFirst, expr_reader_first]; simp only [qe, Option.bind_some, Option.map_some, joinK, qb, ↓reduceIte, if_true, if_false, eq_self, Int.reduceBEq, Int.reduceBNe, b1, b2, h1, n3]
          refine Ev.bind e1 ?_
          simp only [qe, Option.bind_some, Option.map_some, joinK, qb, ↓reduceIte, if_true, if_false, eq_self, Int.reduceBEq, Int.reduceBNe, h2]; exact Ev.pure
        · simp only [rFirst, ref13_first]; simp only [qe, Option.bind_some, Option.map_some, joinK, qb, ↓reduceIte, if_true, if_false, eq_self, Int.reduceBEq, Int.reduceBNe, b1, b2, sn, h1, n3]
          refine Ev.bind e2 ?_
          simp only [qe, Option.bind_some, Option.map_some, joinK, qb, ↓reduceIte, if_true, if_false, eq_self, Int.reduceBEq, Int.reduceBNe, h2]; exact Ev.pure
  · have h1 : isT (tk l i) 4 [40] = false := by simpa using h1
    refine R.bad (j := i) (n := ⟨0, (tk l i).At, 0, [], []⟩) (Ev.succ1 ?_) (Ev.succ1 ?_)
    · simp only [eFirst, expr_reader_first]; simp only [qe, Option.bind_some, Option.map_some, joinK, qb, ↓reduceIte, if_true, if_false, eq_self, Int.reduceBEq, Int.reduceBNe, b1, b2, b3, h1]; exact Ev.pure
    · simp only [rFirst, ref13_first]; simp only [qe, Option.bind_some, Option.map_some, joinK, qb, ↓reduceIte, if_true, if_false, eq_self, Int.reduceBEq, Int.reduceBNe, b1, b2, sn, h1]; exact Ev.pure
end Go.Proofs.YtjakhfaodfaimaaGreatDoor.F
namespace Go.Proofs.YtjakhfaodfaimaaGreatDoor.F
open Go
def ePartB (l : List TToken) (k : Nat) (s : Int × Bool × TNode) : Option ((Int × Bool × TNode) ⊕ (TNode × Int × Bool)) :=
  match s with
  | (l1_oext0_1, l1_oext0_2, l1_oloc3) =>
    if (!l1_oext0_2) then
    (expr_reader_look k l l1_oext0_1 l1_oext0_2).bind fun x3_1 =>
    (expr_reader_takes k [91] l l1_oext0_1 l1_oext0_2).bind fun (x5_1_0, x5_1_1) =>
    if x5_1_0 then
    (expr_reader_level k 1 l x5_1_1 l1_oext0_2).bind fun (x6_3_0, x6_3_1, x6_3_2) =>
    (expr_reader_wants k [93] l x6_3_1 x6_3_2).bind fun (x7_1_0, x7_1_1) =>
    some (.inl (x7_1_0, x7_1_1, (TNode.mk 13 x3_1.At 0 [] [l1_oloc3, x6_3_0])))
    else
    (expr_reader_takes k [46] l x5_1_1 l1_oext0_2).bind fun (x8_1_0, x8_1_1) =>
    if x8_1_0 then
    (expr_reader_name k l x8_1_1 l1_oext0_2).bind fun (x9_2_0, x9_2_1, x9_2_2) =>
    some (.inl (x9_2_1, x9_2_2, (TNode.mk 14 x3_1.At 0 x9_2_0 [l1_oloc3])))
    else
    some (.inr (l1_oloc3, x8_1_1, l1_oext0_2))
    else
    (some (l1_oloc3, l1_oext0_1, l1_oext0_2)).map .inr
def rPartB (l : List TToken) (k : Nat) (s : Int × TNode) : Option ((Int × TNode) ⊕ (TNode × Int × Bool)) :=
  match s with
  | (l0_8, l0_oloc7) =>
    (ref13_Tok k l l0_8).bind fun x4_2 =>
    (ref13_Is k l l0_8 [46]).bind fun x5_2 =>
    if x5_2 then
    (ref13_Tok k l (IntKind.i64.wrap (l0_8 + 1))).bind fun x6_3 =>
    if (x6_3.Kind != 1) then
    some (.inr ((TNode.mk 0 0 0 [] []), (IntKind.i64.wrap (l0_8 + 1)), false))
    else
    some (.inl ((IntKind.i64.wrap (l0_8 + 2)), (TNode.mk 14 x4_2.At 0 x6_3.Text [l0_oloc7])))
    else
    (ref13_Is k l l0_8 [91]).bind fun x11_2 =>
    if (!x11_2) then
    some (.inr (l0_oloc7, l0_8, true))
    else
    (ref13_Expr k l (IntKind.i64.wrap (l0_8 + 1))).bind fun (x13_3_0, x13_3_1, x13_3_2) =>
    joinK (fun (g14_7_72 : Bool) =>
    if g14_7_72 then
    some (.inr ((TNode.mk 0 0 0 [] []), x13_3_1, false))
    else
    some (.inl ((IntKind.i64.wrap (x13_3_1 + 1)), (TNode.mk 13 x4_2.At 0 [] [l0_oloc7, x13_3_0])))) fun j_g14_7 =>
    if (!x13_3_2) then
    j_g14_7 true
    else
    (ref13_Is k l x13_3_1 [93]).bind fun x14_5 =>
    j_g14_7 (!x14_5)
theorem ePart_eq (k : Nat) (l : List TToken) (i : Int) : expr_reader_part (k + 1) l i false = (expr_reader_first k l i false).bind fun (a, b, c) => loopM k (ePartB l k) (b, c, a) := by
  rw [expr_reader_part]; rfl
theorem rPart_eq (k : Nat) (l : List TToken) (i : Int) : ref13_part (k + 1) l i = (ref13_first k l i).bind fun (a, b, c) => if (!c) then some (zN, b, false) else loopM k (rPartB l k) (b, a) := by
  rw [ref13_part]; rfl
theorem ePart_end (l : List TToken) (p : Int) (n : TNode) : EvL (ePartB l) (p, true, n) (n, p, true) := EvL.done (by simp only [ePartB]; simp only [qe, Option.bind_some, Option.map_some, joinK, qb, ↓reduceIte, if_true, if_false, eq_self, Int.reduceBEq, Int.reduceBNe]; exact Ev.pure)
theorem part_loop {l : List TToken} (W : WF l) {i : Int} (H : IH l i) : ∀ (n : Nat) (p : Int) (x : TNode), (l.length : Int) - p ≤ n → i < p → p < l.length → GEx x →
    ∃ a j b ok, EvL (ePartB l) (p, false, x) (a, j, !ok) ∧ EvL (rPartB l) (p, x) (b, j, ok) ∧ (ok = true → a = b ∧ p ≤ j ∧ j < l.length ∧ GEx b) ∧ (ok = false → b = zN) := by
  intro n
  induction n using Nat.strongRecOn with
  | _ n ih =>
  intro p x hn hp hpl hg
  by_cases h1 : isT (tk l p) 4 [91] = true
  · have hk := (isT_kind h1).1
    have h46 : isT (tk l p) 4 [46] = false := isT_txt (by rw [(isT_kind h1).2]; decide)
    obtain ⟨n1, n2, n3⟩ := W.next (i := p) (by omega)
    obtain ⟨a, j, b, ok, e1, e2, e3, e4⟩ := H.lev 1 (by omega) (by omega) (p + 1) (by omega) (by omega)
    have e2 := expr_of e2
    cases ok with
    | false =>
      refine ⟨_, j, zN, false, EvL.step (s' := (j, true, ⟨13, (tk l p).At, 0, [], [x, a]⟩)) ?_ (ePart_end _ _ _), EvL.done ?_, (fun h => by cases h), fun _ => rfl⟩
      · simp only [ePartB]; simp only [qe, Option.bind_some, Option.map_some, joinK, qb, ↓reduceIte, if_true, if_false, eq_self, Int.reduceBEq, Int.reduceBNe, h1, n3]
        refine Ev.bind e1 ?_
        simp only [qe, Option.bind_some, Option.map_some, joinK, qb, ↓reduceIte, if_true, if_false, eq_self, Int.reduceBEq, Int.reduceBNe]; exact Ev.pure
      · simp only [rPartB]; simp only [qe, Option.bind_some, Option.map_some, joinK, qb, ↓reduceIte, if_true, if_false, eq_self, Int.reduceBEq, Int.reduceBNe, h1, h46, n3]
        refine Ev.bind e2 ?_
        simp only [qe, Option.bind_some, Option.map_some, joinK, qb, ↓reduceIte, if_true, if_false, eq_self, Int.reduceBEq, Int.reduceBNe]; exact Ev.pure
    | true =>
      obtain ⟨rfl, q2, q3, q4⟩ := e3 rfl
      by_cases h2 : isT (tk l j) 4 [93] = true
      · have hk2 := (isT_kind h2).1
        obtain ⟨m1, m2, m3⟩ := W.next (i := j) (by omega)
        obtain ⟨a', j', b', ok', f1, f2, f3, f4⟩ := ih (n - 1) (by omega) (j + 1) ⟨13, (tk l p).At, 0, [], [x, a]⟩ (by omega) (by omega) (by omega) ⟨ge_index _ hg.ge q4.ge, wide2 hg.wide q4.wide⟩
        refine ⟨a', j', b', ok', EvL.step (s' := (j + 1, false, ⟨13, (tk l p).At, 0, [], [x, a]⟩)) ?_ f1, EvL.step (s' := (j + 1, ⟨13, (tk l p).At, 0, [], [x, a]⟩)) ?_ f2, fun h => ?_, f4⟩
        · simp only [ePartB]; simp only [qe, Option.bind_some, Option.map_some, joinK, qb, ↓reduceIte, if_true, if_false, eq_self, Int.reduceBEq, Int.reduceBNe, h1, n3]
          refine Ev.bind e1 ?_
          simp only [qe, Option.bind_some, Option.map_some, joinK, qb, ↓reduceIte, if_true, if_false, eq_self, Int.reduceBEq, Int.reduceBNe, h2, m3]; exact Ev.pure
        · simp only [rPartB]; simp only [qe, Option.bind_some, Option.map_some, joinK, qb, ↓reduceIte, if_true, if_false, eq_self, Int.reduceBEq, Int.reduceBNe, h1, h46, n3]
          refine Ev.bind e2 ?_
          simp only [qe, Option.bind_some, Option.map_some, joinK, qb, ↓reduceIte, if_true, if_false, eq_self, Int.reduceBEq, Int.reduceBNe, h2, m3]; exact Ev.pure
        · obtain ⟨g1, g2, g3, g4⟩ := f3 h
          exact ⟨g1, by omega, g3, g4⟩
      · have h2 : isT (tk l j) 4 [93] = false := by simpa using h2
        refine ⟨_, j, zN, false, EvL.step (s' := (j, true, ⟨13, (tk l p).At, 0, [], [x, a]⟩)) ?_ (ePart_end _ _ _), EvL.done ?_, (fun h => by cases h), fun _ => rfl⟩
        · simp only [ePartB]; simp only [qe, Option.bind_some, Option.map_some, joinK, qb, ↓reduceIte, if_true, if_false, eq_self, Int.reduceBEq, Int.reduceBNe, h1, n3]
          refine Ev.bind e1 ?_
          simp only [qe, Option.bind_some, Option.map_some, joinK, qb, ↓reduceIte, if_true, if_false, eq_self, Int.reduceBEq, Int.reduceBNe, h2]; exact Ev.pure
        · simp only [rPartB]; simp only [qe, Option.bind_some, Option.map_some, joinK, qb, ↓reduceIte, if_true, if_false, eq_self, Int.reduceBEq, Int.reduceBNe, h1, h46, n3]
          refine Ev.bind e2 ?_
          simp only [qe, Option.bind_some, Option.map_some, joinK, qb, ↓reduceIte, if_true, if_false, eq_self, Int.reduceBEq, Int.reduceBNe, h2]; exact Ev.pure
  · have h1 : isT (tk l p) 4 [91] = false := by simpa using h1
    by_cases h2 : isT (tk l p) 4 [46] = true
    · have hk := (isT_kind h2).1
      obtain ⟨n1, n2, n3⟩ := W.next (i := p) (by omega)
      by_cases kn : (tk l (p + 1)).Kind = 1
      · obtain ⟨m1, m2, m3⟩ := W.next (i := p + 1) (by omega)
        have m4 : IntKind.i64.wrap (p + 2) = p + 1 + 1 := by rw [show p + 2 = p + 1 + 1 by omega]; exact m3
        obtain ⟨a', j', b', ok', f1, f2, f3, f4⟩ := ih (n - 1) (by omega) (p + 1 + 1) ⟨14, (tk l p).At, 0, (tk l (p + 1)).Text, [x]⟩ (by omega) (by omega) (by omega) ⟨ge_named _ _ (W.names _ kn) (by simpa using hg.ge) (by simp) (by simp), wide1 hg.wide⟩
        refine ⟨a', j', b', ok', EvL.step (s' := (p + 1 + 1, false, ⟨14, (tk l p).At, 0, (tk l (p + 1)).Text, [x]⟩)) ?_ f1, EvL.step (s' := (p + 1 + 1, ⟨14, (tk l p).At, 0, (tk l (p + 1)).Text, [x]⟩)) ?_ f2, fun h => ?_, f4⟩
        · simp only [ePartB]; simp only [qe, Option.bind_some, Option.map_some, joinK, qb, ↓reduceIte, if_true, if_false, eq_self, Int.reduceBEq, Int.reduceBNe, h1, h2, n3, kn, m3]; exact Ev.pure
        · simp only [rPartB]; simp only [qe, Option.bind_some, Option.map_some, joinK, qb, ↓reduceIte, if_true, if_false, eq_self, Int.reduceBEq, Int.reduceBNe, h1, h2, n3, kn, m4]; exact Ev.pure
        · obtain ⟨g1, g2, g3, g4⟩ := f3 h
          exact ⟨g1, by omega, g3, g4⟩
      · have knb : ((tk l (p + 1)).Kind != 1) = true := by simpa using kn
        refine ⟨_, p + 1, zN, false, EvL.step (s' := (p + 1, true, ⟨14, (tk l p).At, 0, [], [x]⟩)) ?_ (ePart_end _ _ _), EvL.done ?_, (fun h => by cases h), fun _ => rfl⟩
        · simp only [ePartB]; simp only [qe, Option.bind_some, Option.map_some, joinK, qb, ↓reduceIte, if_true, if_false, eq_self, Int.reduceBEq, Int.reduceBNe, h1, h2, n3, knb]; exact Ev.pure
        · simp only [rPartB]; simp only [qe, Option.bind_some, Option.map_some, joinK, qb, ↓reduceIte, if_true, if_false, eq_self, Int.reduceBEq, Int.reduceBNe, h1, h2, n3, knb]; exact Ev.pure
    · have h2 : isT (tk l p) 4 [46] = false := by simpa using h2
      refine ⟨x, p, x, true, EvL.done ?_, EvL.done ?_, fun _ => ⟨rfl, by omega, hpl, hg⟩, fun h => by cases h⟩
      · simp only [ePartB]; simp only [qe, Option.bind_some, Option.map_some, joinK, qb, ↓reduceIte, if_true, if_false, eq_self, Int.reduceBEq, Int.reduceBNe, h1, h2]; exact Ev.pure
      · simp only [rPartB]; simp only [qe, Option.bind_some, Option.map_some, joinK, qb, ↓reduceIte, if_true, if_false, eq_self, Int.reduceBEq, Int.reduceBNe, h1, h2]; exact Ev.pure
theorem part_R {l : List TToken} (W : WF l) {i : Int} (H : IH l i) : R GEx l i (ePart l i) (rPart l i) := by
  obtain ⟨a, j, b, ok, e1, e2, e3, e4⟩ := first_R W H
  cases ok with
  | false =>
    refine R.bad (j := j) (n := a) (Ev.succ1 ?_) (Ev.succ1 ?_)
    · simp only [ePart, ePart_eq]
      exact Ev.bind e1 (Ev.loop (ePart_end _ _ _))
    · simp only [rPart, rPart_eq]
      exact Ev.bind e2 Ev.pure
  | true =>
    obtain ⟨rfl, q2, q3, q4⟩ := e3 rfl
    obtain ⟨a', j', b', ok', f1, f2, f3, f4⟩ := part_loop W H (l.length - j).toNat j a (by omega) q2 q3 q4
    refine ⟨a', j', b', ok', Ev.succ1 ?_, Ev.succ1 ?_, fun h => ?_, f4⟩
    · simp only [ePart, ePart_eq]
      exact Ev.bind e1 (Ev.loop f1)
    · simp only [rPart, rPart_eq]
      exact Ev.bind e2 (Ev.loop f2)
    · obtain ⟨g1, g2, g3, g4⟩ := f3 h
      exact ⟨g1, by omega, g3, g4⟩
def eFacB (l : List TToken) (i : Int) (k : Nat) (s : Int × Int) : Option ((Int × Int) ⊕ (TNode × Int × Bool)) :=
  match s with
  | (l1_11, l1_oext0_1) =>
    if (decide (l1_11 < (([2, 14] : List Int).length : Int))) then
    (ix [2, 14] l1_11).bind fun x4_0 =>
    (word_Spell k x4_0).bind fun x5_2 =>
    (expr_reader_takes k x5_2 l l1_oext0_1 false).bind fun (x5_3_0, x5_3_1) =>
    if x5_3_0 then
    (expr_reader_factor k l x5_3_1 false).bind fun (x6_3_0, x6_3_1, x6_3_2) =>
    some (.inr ((TNode.mk 15 (tk l i).At x4_0 [] [x6_3_0]), x6_3_1, x6_3_2))
    else
    some (.inl ((IntKind.i64.wrap (l1_11 + 1)), x5_3_1))
    else
    (expr_reader_part k l l1_oext0_1 false).map .inr
theorem bind_same {α β γ : Type} (o : Option (α × β × γ)) : (o.bind fun (a, b, c) => some (a, b, c)) = o := by cases o <;> rfl
theorem eFac_eq (k : Nat) (l : List TToken) (i : Int) : expr_reader_factor (k + 1) l i false = loopM k (eFacB l i k) (0, i) := by
  rw [expr_reader_factor, look_eq, Option.bind_some]
  simp only [joinK, bind_same]
  rfl
theorem factor_R {l : List TToken} (W : WF l) {i : Int} (H : IH l i) : R GEx l i (eFactor l i) (rFactor l i) := by
  have s1 : ∀ k, word_Spell k 2 = some [45] := fun _ => rfl
  have s2 : ∀ k, word_Spell k 14 = some [33] := fun _ => rfl
  have i0 : ix [(2 : Int), 14] 0 = some 2 := rfl
  have i1 : ix [(2 : Int), 14] 1 = some 14 := rfl
  have d0 : decide ((0 : Int) < (([2, 14] : List Int).length : Int)) = true := rfl
  have d1 : decide ((1 : Int) < (([2, 14] : List Int).length : Int)) = true := rfl
  have d2 : decide ((2 : Int) < (([2, 14] : List Int).length : Int)) = false := rfl
  have w1 : IntKind.i64.wrap (0 + 1) = 1 := rfl
  have w2 : IntKind.i64.wrap (1 + 1) = 2 := rfl
  by_cases h1 : isT (tk l i) 4 [45] = true
  · have hk := (isT_kind h1).1
    have h33 : isT (tk l i) 4 [33] = false := isT_txt (by rw [(isT_kind h1).2]; decide)
    obtain ⟨n1, n2, n3⟩ := W.next (i := i) (by omega)
    obtain ⟨a, j, b, ok, e1, e2, e3, e4⟩ := H.fac (i + 1) (by omega) (by omega)
    have E : Ev (eFactor l i) (⟨15, (tk l i).At, 2, [], [a]⟩, j, !ok) := by
      refine Ev.succ1 ?_
      simp only [eFactor, eFac_eq]
      refine Ev.loop (EvL.done ?_)
      simp only [eFacB]; simp only [qe, Option.bind_some, Option.map_some, joinK, qb, ↓reduceIte, if_true, if_false, eq_self, Int.reduceBEq, Int.reduceBNe, d0, i0, s1, h1, n3]
      refine Ev.bind e1 ?_
      simp only [qe, Option.bind_some, Option.map_some, joinK, qb, ↓reduceIte, if_true, if_false, eq_self, Int.reduceBEq, Int.reduceBNe]; exact Ev.pure
    have Rr : Ev (rFactor l i) (if ok then ⟨15, (tk l i).At, 2, [], [b]⟩ else zN, j, ok) := by
      refine Ev.succ1 ?_
      simp only [rFactor, ref13_factor]; simp only [qe, Option.bind_some, Option.map_some, joinK, qb, ↓reduceIte, if_true, if_false, eq_self, Int.reduceBEq, Int.reduceBNe, h1, h33, n3]
      refine Ev.bind e2 ?_
      cases ok
      · simp only [qe, Option.bind_some, Option.map_some, joinK, qb, ↓reduceIte, if_true, if_false, eq_self, Int.reduceBEq, Int.reduceBNe]; exact Ev.pure
      · simp only [qe, Option.bind_some, Option.map_some, joinK, qb, ↓reduceIte, if_true, if_false, eq_self, Int.reduceBEq, Int.reduceBNe]; exact Ev.pure
    cases ok with
    | false => exact R.bad E Rr
    | true =>
      obtain ⟨rfl, q2, q3, q4⟩ := e3 rfl
      exact R.good E Rr ⟨by omega, q3⟩ ⟨ge_un _ (.inl rfl) q4.ge, wide1 q4.wide⟩
  have h1 : isT (tk l i) 4 [45] = false := by simpa using h1
  by_cases h2 : isT (tk l i) 4 [33] = true
  · have hk := (isT_kind h2).1
    obtain ⟨n1, n2, n3⟩ := W.next (i := i) (by omega)
    obtain ⟨a, j, b, ok, e1, e2, e3, e4⟩ := H.fac (i + 1) (by omega) (by omega)
    have E : Ev (eFactor l i) (⟨15, (tk l i).At, 14, [], [a]⟩, j, !ok) := by
      refine Ev.succ1 ?_
      simp only [eFactor, eFac_eq]
      refine Ev.loop (EvL.step (s' := (1, i)) ?_ (EvL.done ?_))
      · simp only [eFacB]; simp only [qe, Option.bind_some, Option.map_some, joinK, qb, ↓reduceIte, if_true, if_false, eq_self, Int.reduceBEq, Int.reduceBNe, d0, i0, s1, h1, w1]; exact Ev.pure
      · simp only [eFacB]; simp only [qe, Option.bind_some, Option.map_some, joinK, qb, ↓reduceIte, if_true, if_false, eq_self, Int.reduceBEq, Int.reduceBNe, d1, i1, s2, h2, n3]
        refine Ev.bind e1 ?_
        simp only [qe, Option.bind_some, Option.map_some, joinK, qb, ↓reduceIte, if_true, if_false, eq_self, Int.reduceBEq, Int.reduceBNe]; exact Ev.pure
    have Rr : Ev (rFactor l i) (if ok then ⟨15, (tk l i).At, 14, [], [b]⟩ else zN, j, ok) := by
      refine Ev.succ1 ?_
      simp only [rFactor, ref13_factor]; simp only [qe, Option.bind_some, Option.map_some, joinK, qb, ↓reduceIte, if_true, if_false, eq_self, Int.reduceBEq, Int.reduceBNe, h1, h2, n3]
      refine Ev.bind e2 ?_
      cases ok
      · simp only [qe, Option.bind_some, Option.map_some, joinK, qb, ↓reduceIte, if_true, if_false, eq_self, Int.reduceBEq, Int.reduceBNe]; exact Ev.pure
      · simp only [qe, Option.bind_some, Option.map_some, joinK, qb, ↓reduceIte, if_true, if_false, eq_self, Int.reduceBEq, Int.reduceBNe]; exact Ev.pure
    cases ok with
    | false => exact R.bad E Rr
    | true =>
      obtain ⟨rfl, q2, q3, q4⟩ := e3 rfl
      exact R.good E Rr ⟨by omega, q3⟩ ⟨ge_un _ (.inr rfl) q4.ge, wide1 q4.wide⟩
  have h2 : isT (tk l i) 4 [33] = false := by simpa using h2
  obtain ⟨a, j, b, ok, e1, e2, e3, e4⟩ := part_R W H
  refine ⟨a, j, b, ok, Ev.succ1 ?_, Ev.succ1 ?_, e3, e4⟩
  · simp only [eFactor, eFac_eq]
    refine Ev.loop (EvL.step (s' := (1, i)) ?_ (EvL.step (s' := (2, i)) ?_ (EvL.done ?_)))
    · simp only [eFacB]; simp only [qe, Option.bind_some, Option.map_some, joinK, qb, ↓reduceIte, if_true, if_false, eq_self, Int.reduceBEq, Int.reduceBNe, d0, i0, s1, h1, w1]; exact Ev.pure
    · simp only [eFacB]; simp only [qe, Option.bind_some, Option.map_some, joinK, qb, ↓reduceIte, if_true, if_false, eq_self, Int.reduceBEq, Int.reduceBNe, d1, i1, s2, h2, w2]; exact Ev.pure
    · simp only [eFacB]; simp only [qe, Option.bind_some, Option.map_some, joinK, qb, ↓reduceIte, if_true, if_false, eq_self, Int.reduceBEq, Int.reduceBNe, d2]; exact Ev.map e1
  · simp only [rFactor, ref13_factor]; simp only [qe, Option.bind_some, Option.map_some, joinK, qb, ↓reduceIte, if_true, if_false, eq_self, Int.reduceBEq, Int.reduceBNe, h1, h2]
    refine Ev.bind e2 ?_
    simp only [qe, Option.bind_some, Option.map_some, joinK, qb, ↓reduceIte, if_true, if_false, eq_self, Int.reduceBEq, Int.reduceBNe]; exact Ev.pure
end Go.Proofs.YtjakhfaodfaimaaGreatDoor.F
namespace Go.Proofs.YtjakhfaodfaimaaGreatDoor.F
open Go
def eLevB (l : List TToken) (q : Int) (k : Nat) (s : Int × Bool × TNode) : Option ((Int × Bool × TNode) ⊕ (TNode × Int × Bool)) :=
  match s with
  | (l1_oext0_1, l1_oext0_2, l1_oloc5) =>
    if (!l1_oext0_2) then
    (expr_reader_sign k q l l1_oext0_1 l1_oext0_2).bind fun x5_2 =>
    if (x5_2 == 0) then
    (some (l1_oloc5, l1_oext0_1, l1_oext0_2)).map .inr
    else
    (expr_reader_look k l l1_oext0_1 l1_oext0_2).bind fun x7_1 =>
    (expr_reader_level k (IntKind.i64.wrap (q + 1)) l (IntKind.i64.wrap (l1_oext0_1 + 1)) l1_oext0_2).bind fun (x9_4_0, x9_4_1, x9_4_2) =>
    if (q == 3) then
    (some ((TNode.mk 16 x7_1.At x5_2 [] [l1_oloc5, x9_4_0]), x9_4_1, x9_4_2)).map .inr
    else
    some (.inl (x9_4_1, x9_4_2, (TNode.mk 16 x7_1.At x5_2 [] [l1_oloc5, x9_4_0])))
    else
    (some (l1_oloc5, l1_oext0_1, l1_oext0_2)).map .inr
def rLevB (l : List TToken) (q : Int) (k : Nat) (s : Int × TNode) : Option ((Int × TNode) ⊕ (TNode × Int × Bool)) :=
  match s with
  | (l0_10, l0_oloc9) =>
    (ref13_sign k l l0_10 q).bind fun x6_3 =>
    if (x6_3 == 0) then
    some (.inr (l0_oloc9, l0_10, true))
    else
    (ref13_level k l (IntKind.i64.wrap (l0_10 + 1)) (IntKind.i64.wrap (q + 1))).bind fun (x9_5_0, x9_5_1, x9_5_2) =>
    if (!x9_5_2) then
    some (.inr ((TNode.mk 0 0 0 [] []), x9_5_1, false))
    else
    (ref13_Tok k l l0_10).bind fun x12_2 =>
    if (q == 3) then
    some (.inr ((TNode.mk 16 x12_2.At x6_3 [] [l0_oloc9, x9_5_0]), x9_5_1, true))
    else
    some (.inl (x9_5_1, (TNode.mk 16 x12_2.At x6_3 [] [l0_oloc9, x9_5_0])))
theorem eLev_eq (k : Nat) (l : List TToken) (i q : Int) : expr_reader_level (k + 1) q l i false = (if (q == 6) then (expr_reader_factor k l i false) else (expr_reader_level k (IntKind.i64.wrap (q + 1)) l i false).bind fun (a, b, c) => loopM k (eLevB l q k) (b, c, a)) := by
  rw [expr_reader_level]
  simp only [joinK, bind_same]
  rfl
theorem rLev_eq (k : Nat) (l : List TToken) (i q : Int) : ref13_level (k + 1) l i q = (if (decide (q > 5)) then (ref13_factor k l i) else (ref13_level k l i (IntKind.i64.wrap (q + 1))).bind fun (a, b, c) => if (!c) then some (zN, b, false) else loopM k (rLevB l q k) (b, a)) := by
  rw [ref13_level]
  simp only [joinK, bind_same]
  rfl
theorem eLev_end (l : List TToken) (q p : Int) (n : TNode) : EvL (eLevB l q) (p, true, n) (n, p, true) := EvL.done (by simp only [eLevB]; simp only [qe, Option.bind_some, Option.map_some, joinK, qb, ↓reduceIte, if_true, if_false, eq_self, Int.reduceBEq, Int.reduceBNe]; exact Ev.pure)
theorem lev_loop {l : List TToken} (W : WF l) {i : Int} (H : IH l i) (q : Int) (hq1 : 1 ≤ q) (hq5 : q ≤ 5) : ∀ (n : Nat) (p : Int) (x : TNode), (l.length : Int) - p ≤ n → i < p → p < l.length → GEx x →
    ∃ a j b ok, EvL (eLevB l q) (p, false, x) (a, j, !ok) ∧ EvL (rLevB l q) (p, x) (b, j, ok) ∧ (ok = true → a = b ∧ p ≤ j ∧ j < l.length ∧ GEx b) ∧ (ok = false → b = zN) := by
  have hw : IntKind.i64.wrap (q + 1) = q + 1 := wrap64_id (by omega) (by omega)
  intro n
  induction n using Nat.strongRecOn with
  | _ n ih =>
  intro p x hn hp hpl hg
  obtain ⟨s, s1, s2, s3⟩ := sign_both l p q
  by_cases h0 : s = 0
  · subst h0
    refine ⟨x, p, x, true, EvL.done ?_, EvL.done ?_, fun _ => ⟨rfl, by omega, hpl, hg⟩, fun h => by cases h⟩
    · simp only [eLevB]; simp only [qe, Option.bind_some, Option.map_some, joinK, qb, ↓reduceIte, if_true, if_false, eq_self, Int.reduceBEq, Int.reduceBNe]
      refine Ev.bind s1 ?_
      simp only [qe, Option.bind_some, Option.map_some, joinK, qb, ↓reduceIte, if_true, if_false, eq_self, Int.reduceBEq, Int.reduceBNe]; exact Ev.pure
    · simp only [rLevB]
      refine Ev.bind s2 ?_
      simp only [qe, Option.bind_some, Option.map_some, joinK, qb, ↓reduceIte, if_true, if_false, eq_self, Int.reduceBEq, Int.reduceBNe]; exact Ev.pure
  · have h0b : (s == 0) = false := by simpa using h0
    obtain ⟨hk, hb⟩ := s3 h0
    obtain ⟨n1, n2, n3⟩ := W.next (i := p) (by omega)
    obtain ⟨a, j, b, ok, e1, e2, e3, e4⟩ := H.lev (q + 1) (by omega) (by omega) (p + 1) (by omega) (by omega)
    by_cases h3 : q = 3
    · have h3b : (q == 3) = true := by simpa using h3
      have E : EvL (eLevB l q) (p, false, x) (⟨16, (tk l p).At, s, [], [x, a]⟩, j, !ok) := by
        refine EvL.done ?_
        simp only [eLevB]; simp only [qe, Option.bind_some, Option.map_some, joinK, qb, ↓reduceIte, if_true, if_false, eq_self, Int.reduceBEq, Int.reduceBNe]
        refine Ev.bind s1 ?_
        simp only [qe, Option.bind_some, Option.map_some, joinK, qb, ↓reduceIte, if_true, if_false, eq_self, Int.reduceBEq, Int.reduceBNe, h0b, hw, n3]
        refine Ev.bind e1 ?_
        simp only [qe, Option.bind_some, Option.map_some, joinK, qb, ↓reduceIte, if_true, if_false, eq_self, Int.reduceBEq, Int.reduceBNe, h3b]; exact Ev.pure
      have Rr : EvL (rLevB l q) (p, x) (if ok then ⟨16, (tk l p).At, s, [], [x, b]⟩ else zN, j, ok) := by
        refine EvL.done ?_
        simp only [rLevB]
        refine Ev.bind s2 ?_
        simp only [qe, Option.bind_some, Option.map_some, joinK, qb, ↓reduceIte, if_true, if_false, eq_self, Int.reduceBEq, Int.reduceBNe, h0b, hw, n3]
        refine Ev.bind e2 ?_
        cases ok
        · simp only [qe, Option.bind_some, Option.map_some, joinK, qb, ↓reduceIte, if_true, if_false, eq_self, Int.reduceBEq, Int.reduceBNe]; exact Ev.pure
        · simp only [qe, Option.bind_some, Option.map_some, joinK, qb, ↓reduceIte, if_true, if_false, eq_self, Int.reduceBEq, Int.reduceBNe, h3b]; exact Ev.pure
      refine ⟨_, j, _, ok, E, Rr, fun h => ?_, fun h => by subst h; rfl⟩
      subst h
      obtain ⟨rfl, q2, q3, q4⟩ := e3 rfl
      exact ⟨rfl, by omega, q3, ⟨ge_bin _ hb (by omega) hg.ge q4.ge, wide2 hg.wide q4.wide⟩⟩
    · have h3b : (q == 3) = false := by simpa using h3
      have E : Ev (fun k => eLevB l q k (p, false, x)) (.inl (j, !ok, ⟨16, (tk l p).At, s, [], [x, a]⟩)) := by
        simp only [eLevB]; simp only [qe, Option.bind_some, Option.map_some, joinK, qb, ↓reduceIte, if_true, if_false, eq_self, Int.reduceBEq, Int.reduceBNe]
        refine Ev.bind s1 ?_
        simp only [qe, Option.bind_some, Option.map_some, joinK, qb, ↓reduceIte, if_true, if_false, eq_self, Int.reduceBEq, Int.reduceBNe, h0b, hw, n3]
        refine Ev.bind e1 ?_
        simp only [qe, Option.bind_some, Option.map_some, joinK, qb, ↓reduceIte, if_true, if_false, eq_self, Int.reduceBEq, Int.reduceBNe, h3b]; exact Ev.pure
      cases ok with
      | false =>
        refine ⟨_, j, zN, false, EvL.step E (eLev_end _ _ _ _), EvL.done ?_, (fun h => by cases h), fun _ => rfl⟩
        simp only [rLevB]
        refine Ev.bind s2 ?_
        simp only [qe, Option.bind_some, Option.map_some, joinK, qb, ↓reduceIte, if_true, if_false, eq_self, Int.reduceBEq, Int.reduceBNe, h0b, hw, n3]
        refine Ev.bind e2 ?_
        simp only [qe, Option.bind_some, Option.map_some, joinK, qb, ↓reduceIte, if_true, if_false, eq_self, Int.reduceBEq, Int.reduceBNe]; exact Ev.pure
      | true =>
        obtain ⟨rfl, q2, q3, q4⟩ := e3 rfl
        obtain ⟨a', j', b', ok', f1, f2, f3, f4⟩ := ih (n - 1) (by omega) j ⟨16, (tk l p).At, s, [], [x, a]⟩ (by omega) (by omega) (by omega) ⟨ge_bin _ hb (by omega) hg.ge q4.ge, wide2 hg.wide q4.wide⟩
        refine ⟨a', j', b', ok', EvL.step E f1, EvL.step (s' := (j, ⟨16, (tk l p).At, s, [], [x, a]⟩)) ?_ f2, fun h => ?_, f4⟩
        · simp only [rLevB]
          refine Ev.bind s2 ?_
          simp only [qe, Option.bind_some, Option.map_some, joinK, qb, ↓reduceIte, if_true, if_false, eq_self, Int.reduceBEq, Int.reduceBNe, h0b, hw, n3]
          refine Ev.bind e2 ?_
          simp only [qe, Option.bind_some, Option.map_some, joinK, qb, ↓reduceIte, if_true, if_false, eq_self, Int.reduceBEq, Int.reduceBNe, h3b]; exact Ev.pure
        · obtain ⟨g1, g2, g3, g4⟩ := f3 h
          exact ⟨g1, by omega, g3, g4⟩
theorem level_R {l : List TToken} (W : WF l) {i : Int} (H : IH l i) : ∀ (d : Nat) (q : Int), q + d = 6 → 1 ≤ q → R GEx l i (eLevel l i q) (rLevel l i q)
  | 0, q, e, h => by
    have e : q = 6 := by omega
    subst e
    obtain ⟨a, j, b, ok, e1, e2, e3, e4⟩ := factor_R W H
    refine ⟨a, j, b, ok, Ev.succ1 ?_, Ev.succ1 ?_, e3, e4⟩
    · simp only [eLevel, eLev_eq]; simp only [qe, Option.bind_some, Option.map_some, joinK, qb, ↓reduceIte, if_true, if_false, eq_self, Int.reduceBEq, Int.reduceBNe]; exact e1
    · simp only [rLevel, rLev_eq]; simp only [qe, Option.bind_some, Option.map_some, joinK, qb, ↓reduceIte, if_true, if_false, eq_self, Int.reduceBEq, Int.reduceBNe, show decide ((6 : Int) > 5) = true from rfl]; exact e2
  | d + 1, q, e, h => by
    have h6 : (q == 6) = false := by simp; omega
    have h5 : decide (q > 5) = false := by simp; omega
    have hw : IntKind.i64.wrap (q + 1) = q + 1 := wrap64_id (by omega) (by omega)
    obtain ⟨a, j, b, ok, e1, e2, e3, e4⟩ := level_R W H d (q + 1) (by omega) (by omega)
    cases ok with
    | false =>
      refine R.bad (j := j) (n := a) (Ev.succ1 ?_) (Ev.succ1 ?_)
      · simp only [eLevel, eLev_eq]; simp only [qe, Option.bind_some, Option.map_some, joinK, qb, ↓reduceIte, if_true, if_false, eq_self, Int.reduceBEq, Int.reduceBNe, h6, hw]
        refine Ev.bind e1 ?_
        exact Ev.loop (eLev_end _ _ _ _)
      · simp only [rLevel, rLev_eq]; simp only [qe, Option.bind_some, Option.map_some, joinK, qb, ↓reduceIte, if_true, if_false, eq_self, Int.reduceBEq, Int.reduceBNe, h5, hw]
        refine Ev.bind e2 ?_
        simp only [qe, Option.bind_some, Option.map_some, joinK, qb, ↓reduceIte, if_true, if_false, eq_self, Int.reduceBEq, Int.reduceBNe]; exact Ev.pure
    | true =>
      obtain ⟨rfl, q2, q3, q4⟩ := e3 rfl
      obtain ⟨a', j', b', ok', f1, f2, f3, f4⟩ := lev_loop W H q h (by omega) (l.length - j).toNat j a (by omega) q2 q3 q4
      refine ⟨a', j', b', ok', Ev.succ1 ?_, Ev.succ1 ?_, fun h => ?_, f4⟩
      · simp only [eLevel, eLev_eq]; simp only [qe, Option.bind_some, Option.map_some, joinK, qb, ↓reduceIte, if_true, if_false, eq_self, Int.reduceBEq, Int.reduceBNe, h6, hw]
        refine Ev.bind e1 ?_
        exact Ev.loop f1
      · simp only [rLevel, rLev_eq]; simp only [qe, Option.bind_some, Option.map_some, joinK, qb, ↓reduceIte, if_true, if_false, eq_self, Int.reduceBEq, Int.reduceBNe, h5, hw]
        refine Ev.bind e2 ?_
        simp only [qe, Option.bind_some, Option.map_some, joinK, qb, ↓reduceIte, if_true, if_false, eq_self, Int.reduceBEq, Int.reduceBNe]; exact Ev.loop f2
      · obtain ⟨g1, g2, g3, g4⟩ := f3 h
        exact ⟨g1, by omega, g3, g4⟩
theorem ih_all {l : List TToken} (W : WF l) : ∀ (n : Nat) (i : Int), (l.length : Int) - i ≤ n → IH l i := by
  intro n
  induction n with
  | zero =>
    intro i hi
    exact ⟨fun q a b j hj hl => by omega, fun j hj hl => by omega⟩
  | succ n ih =>
    intro i hi
    refine ⟨fun q a b j hj hl => ?_, fun j hj hl => ?_⟩
    · exact level_R W (ih j (by omega)) (6 - q).toNat q (by omega) a
    · exact factor_R W (ih j (by omega))
theorem ih_at {l : List TToken} (W : WF l) (i : Int) : IH l i := ih_all W (l.length - i).toNat i (by omega)
theorem expr_all {l : List TToken} (W : WF l) (i : Int) : R GEx l i (eLevel l i 1) (rExpr l i) := by
  obtain ⟨a, j, b, ok, e1, e2, e3, e4⟩ := level_R W (ih_at W i) 5 1 (by omega) (by omega)
  exact ⟨a, j, b, ok, e1, expr_of e2, e3, e4⟩
theorem args_all {l : List TToken} (W : WF l) (i : Int) : RA l i := args_R W (ih_at W i)
end Go.Proofs.YtjakhfaodfaimaaGreatDoor.F
namespace Go.Proofs.YtjakhfaodfaimaaGreatDoor.F
open Go
theorem Ev.sh {α : Type} (n : Nat) {f : Nat → Option α} {x : α} (h : Ev (fun k => f (k + n)) x) : Ev f x := by
  obtain ⟨k0, h⟩ := h
  refine ⟨k0 + n, fun k hk => ?_⟩
  have h2 : f (k - n + n) = some x := h (k - n) (by omega)
  rwa [show k - n + n = k by omega] at h2
theorem Ev.up {α : Type} {n : Nat} {f : Nat → Option α} {x : α} (h : Ev f x) : Ev (fun k => f (k + n)) x := by
  obtain ⟨k0, h⟩ := h
  exact ⟨k0, fun k hk => h (k + n) (by omega)⟩
theorem node_eta (n : TNode) : TNode.mk n.Kind n.At n.N n.Name n.Kids = n := by cases n; rfl
theorem slook_eq (k : Nat) (l : List TToken) (i : Int) (b : Bool) : stmt_cursor_look k l i b = some (tk l i) := tok_body l i (k := k)
theorem sis_eq (k : Nat) (kd : Int) (s : List UInt8) (l : List TToken) (i : Int) : stmt_cursor_is k kd s l i false = some (isT (tk l i) kd s) := by unfold stmt_cursor_is; rw [slook_eq]; rfl
theorem sis_bad (k : Nat) (kd : Int) (s : List UInt8) (l : List TToken) (i : Int) : stmt_cursor_is k kd s l i true = some false := by unfold stmt_cursor_is; rw [slook_eq]; rfl
theorem stakes_eq (k : Nat) (kd : Int) (s : List UInt8) (l : List TToken) (i : Int) : stmt_cursor_takes k kd s l i false = some (if isT (tk l i) kd s then (true, IntKind.i64.wrap (i + 1)) else (false, i)) := by
  unfold stmt_cursor_takes
  rw [sis_eq]
  cases isT (tk l i) kd s <;> rfl
theorem stakes_bad (k : Nat) (kd : Int) (s : List UInt8) (l : List TToken) (i : Int) : stmt_cursor_takes k kd s l i true = some (false, i) := by
  unfold stmt_cursor_takes
  rw [sis_bad]; rfl
theorem sname_eq (k : Nat) (l : List TToken) (i : Int) : stmt_cursor_name k l i false = some (if (tk l i).Kind != 1 then ([], 0, i, true) else ((tk l i).Text, (tk l i).At, IntKind.i64.wrap (i + 1), false)) := by
  unfold stmt_cursor_name
  rw [slook_eq]
  simp only [Option.bind_some, Bool.false_or]
  cases h : (tk l i).Kind != 1 <;> simp [h]
theorem sname_bad (k : Nat) (l : List TToken) (i : Int) : stmt_cursor_name k l i true = some ([], 0, i, true) := by unfold stmt_cursor_name; rw [slook_eq]; rfl
theorem sexpr_bad (k : Nat) (l : List TToken) (i : Int) : stmt_cursor_expr k l i true = some (zN, i, true) := rfl
theorem spart_bad (k : Nat) (l : List TToken) (i : Int) : stmt_cursor_part k l i true = some (zN, i, true) := rfl
theorem sparam_bad (k : Nat) (l : List TToken) (i : Int) : stmt_cursor_param k l i true = some (⟨50, 0, 0, [], [zN]⟩, i, true) := by
  unfold stmt_cursor_param; rw [sname_bad]; rfl
theorem sempty_eq (k : Nat) (l : List TToken) (i : Int) (b : Bool) : stmt_cursor_empty k l i b = some (isT (tk l (IntKind.i64.wrap (i + 1))) 4 [93]) := by
  unfold stmt_cursor_empty; rw [sis_eq]; rfl
theorem send_ok (k : Nat) (n : TNode) (l : List TToken) (i : Int) : stmt_cursor_end k n l i false = some (n, i, 0) := rfl
theorem send_bad (k : Nat) (n : TNode) (l : List TToken) (i : Int) : stmt_cursor_end k n l i true = some (zN, i, 1) := rfl
theorem fail_eq (k : Nat) (i : Int) : ref14_fail k i = some ⟨zN, i, false⟩ := rfl
theorem closed_eq (k : Nat) (l : List TToken) (g : Tref14_Got) (n : TNode) (m : List UInt8) : ref14_closed k l g n m = some (if g.Ok then (if isT (tk l g.At) 4 m then ⟨n, IntKind.i64.wrap (g.At + 1), true⟩ else ⟨zN, g.At, false⟩) else ⟨zN, g.At, false⟩) := by
  unfold ref14_closed joinK
  simp only [Is_eq, fail_eq, Option.bind_some]
  cases g.Ok
  · rfl
  · cases isT (tk l g.At) 4 m <;> rfl
theorem wants_no (k : Nat) (m : List UInt8) (l : List TToken) (i : Int) : stmt_cursor_wants (k + 2) [m] l i true = some (i, true) := by
  unfold stmt_cursor_wants
  rw [show k + 2 = k + 1 + 1 from rfl, loopM_step]
  simp only [show decide ((0 : Int) < (([m] : List (List UInt8)).length : Int)) = true from rfl, if_true, show ix [m] 0 = some m from rfl, Option.bind_some, stakes_bad, Bool.or_true]
  rw [show IntKind.i64.wrap (0 + 1) = 1 from rfl, loopM_step]
  rfl
theorem wants_ok (k : Nat) (m : List UInt8) (l : List TToken) (i : Int) : stmt_cursor_wants (k + 2) [m] l i false = some (if isT (tk l i) 4 m then (IntKind.i64.wrap (i + 1), false) else (i, true)) := by
  unfold stmt_cursor_wants
  rw [show k + 2 = k + 1 + 1 from rfl, loopM_step]
  simp only [show decide ((0 : Int) < (([m] : List (List UInt8)).length : Int)) = true from rfl, if_true, show ix [m] 0 = some m from rfl, Option.bind_some, stakes_eq]
  cases isT (tk l i) 4 m
  · simp only [Bool.false_eq_true, if_false, Bool.not_false, Bool.true_or]
    rw [show IntKind.i64.wrap (0 + 1) = 1 from rfl, loopM_step]
    rfl
  · simp only [if_true, Bool.not_true, Bool.false_or]
    rw [show IntKind.i64.wrap (0 + 1) = 1 from rfl, loopM_step]
    rfl
theorem qs : (∀ n : TNode, TNode.mk n.Kind n.At n.N n.Name n.Kids = n) ∧ (∀ k l i b, stmt_cursor_look k l i b = some (tk l i)) ∧ (∀ k kd s l i, stmt_cursor_is k kd s l i false = some (isT (tk l i) kd s)) ∧ (∀ k kd s l i, stmt_cursor_is k kd s l i true = some false) ∧
    (∀ k kd s l i, stmt_cursor_takes k kd s l i false = some (if isT (tk l i) kd s then (true, IntKind.i64.wrap (i + 1)) else (false, i))) ∧ (∀ k kd s l i, stmt_cursor_takes k kd s l i true = some (false, i)) ∧
    (∀ k l i, stmt_cursor_name k l i false = some (if (tk l i).Kind != 1 then ([], 0, i, true) else ((tk l i).Text, (tk l i).At, IntKind.i64.wrap (i + 1), false))) ∧ (∀ k l i, stmt_cursor_name k l i true = some ([], 0, i, true)) ∧
    (∀ k l i, stmt_cursor_expr k l i true = some (zN, i, true)) ∧ (∀ k l i, stmt_cursor_part k l i true = some (zN, i, true)) ∧ (∀ k l i, stmt_cursor_param k l i true = some (⟨50, 0, 0, [], [zN]⟩, i, true)) ∧
    (∀ k l i b, stmt_cursor_empty k l i b = some (isT (tk l (IntKind.i64.wrap (i + 1))) 4 [93])) ∧ (∀ k n l i, stmt_cursor_end k n l i false = some (n, i, 0)) ∧ (∀ k n l i, stmt_cursor_end k n l i true = some (zN, i, 1)) ∧
    (∀ k i, ref14_fail k i = some ⟨zN, i, false⟩) ∧ (∀ k l g n m, ref14_closed k l g n m = some (if g.Ok then (if isT (tk l g.At) 4 m then ⟨n, IntKind.i64.wrap (g.At + 1), true⟩ else ⟨zN, g.At, false⟩) else ⟨zN, g.At, false⟩)) ∧
    (∀ k m l i, stmt_cursor_wants (k + 2) [m] l i false = some (if isT (tk l i) 4 m then (IntKind.i64.wrap (i + 1), false) else (i, true))) ∧ (∀ k m l i, stmt_cursor_wants (k + 2) [m] l i true = some (i, true)) ∧
    (∀ k l i, ref13_Tok k l i = some (tk l i)) ∧ (∀ k l i s, ref13_Is k l i s = some (isT (tk l i) 4 s)) ∧ (∀ k l i s, ref13_Says k l i s = some (isT (tk l i) 3 s)) :=
  ⟨node_eta, slook_eq, sis_eq, sis_bad, stakes_eq, stakes_bad, sname_eq, sname_bad, sexpr_bad, spart_bad, sparam_bad, sempty_eq, send_ok, send_bad, fail_eq, closed_eq, wants_ok, wants_no, Tok_eq, Is_eq, Says_eq⟩
def RG (G : TNode → Prop) (l : List TToken) (i : Int) (e : Nat → Option (TNode × Int × Bool)) (r : Nat → Option Tref14_Got) : Prop :=
  ∃ n j m ok, Ev e (n, j, !ok) ∧ Ev r ⟨m, j, ok⟩ ∧ (ok = true → n = m ∧ i < j ∧ j < l.length ∧ G m) ∧ (ok = false → m = zN)
theorem RG.bad {G : TNode → Prop} {l : List TToken} {i : Int} {e : Nat → Option (TNode × Int × Bool)} {r : Nat → Option Tref14_Got} {n : TNode} {j : Int} (h1 : Ev e (n, j, true)) (h2 : Ev r ⟨zN, j, false⟩) : RG G l i e r := ⟨n, j, zN, false, h1, h2, (fun h => by cases h), fun _ => rfl⟩
theorem RG.good {G : TNode → Prop} {l : List TToken} {i : Int} {e : Nat → Option (TNode × Int × Bool)} {r : Nat → Option Tref14_Got} {n : TNode} {j : Int} (h1 : Ev e (n, j, false)) (h2 : Ev r ⟨n, j, true⟩) (hj : i < j ∧ j < l.length) (hg : G n) : RG G l i e r := ⟨n, j, n, true, h1, h2, (fun _ => ⟨rfl, hj.1, hj.2, hg⟩), fun h => by cases h⟩
theorem sexpr_of {l : List TToken} {i : Int} {n : TNode} {j : Int} {ok : Bool} (h : Ev (eLevel l i 1) (n, j, !ok)) : Ev (fun k => stmt_cursor_expr k l i false) (if ok then n else zN, j, !ok) := by
  unfold stmt_cursor_expr stmt_cursor_part_v2
  simp only [Bool.false_eq_true, if_false]
  refine Ev.bind (x := (if ok then n else zN, j, !ok)) (Ev.bind (x := (if ok then n else zN, j, if ok then 0 else 1)) ?_ ?_) Ev.pure
  · unfold expr_Expr
    refine Ev.bind h ?_
    cases ok <;> exact Ev.pure
  · cases ok <;> exact Ev.pure
theorem rexpr_of {l : List TToken} {i : Int} {m : TNode} {j : Int} {ok : Bool} (h : Ev (rExpr l i) (m, j, ok)) : Ev (fun k => ref14_expr k l i) ⟨m, j, ok⟩ := by
  unfold ref14_expr
  exact Ev.bind h Ev.pure
theorem sexpr_all {l : List TToken} (W : WF l) (i : Int) : RG GEx l i (fun k => stmt_cursor_expr k l i false) (fun k => ref14_expr k l i) := by
  obtain ⟨n, j, m, ok, e1, e2, e3, e4⟩ := expr_all W i
  refine ⟨_, j, m, ok, sexpr_of e1, rexpr_of e2, fun h => ?_, e4⟩
  subst h; exact e3 rfl
theorem spart_all {l : List TToken} (W : WF l) (i : Int) : R GTy l i (fun k => stmt_cursor_part k l i false) (fun k => ref13_Type k l i) := by
  obtain ⟨n, j, m, ok, e1, e2, e3, e4⟩ := type_all W i
  refine ⟨if ok then n else zN, j, m, ok, ?_, e2, fun h => ?_, e4⟩
  · unfold stmt_cursor_part
    simp only [Bool.false_eq_true, if_false]
    refine Ev.bind (x := (if ok then n else zN, j, if ok then 0 else 1)) ?_ ?_
    · unfold expr_Type
      refine Ev.bind e1 ?_
      cases ok <;> exact Ev.pure
    · cases ok <;> exact Ev.pure
  · subst h; exact e3 rfl
theorem sargs_of {l : List TToken} {i : Int} {n : List TNode} {j : Int} {ok : Bool} (h : Ev (eArgs l i) (n, j, !ok)) : Ev (fun k => expr_Args k l i) (if ok then n else [], j, if ok then 0 else 1) := by
  unfold expr_Args
  refine Ev.bind h ?_
  cases ok
  · simp only [qe, Option.bind_some, Option.map_some, joinK, qb, ↓reduceIte, if_true, if_false, eq_self, Int.reduceBEq, Int.reduceBNe]; exact Ev.pure
  · simp only [qe, Option.bind_some, Option.map_some, joinK, qb, ↓reduceIte, if_true, if_false, eq_self, Int.reduceBEq, Int.reduceBNe]; exact Ev.pure
end Go.Proofs.YtjakhfaodfaimaaGreatDoor.F
namespace Go.Proofs.YtjakhfaodfaimaaGreatDoor.F
open Go
abbrev SGood (n : TNode) : Prop := Ev (fun k => ref11_Stmt k n) true
structure GS (n : TNode) : Prop where
  gs : SGood n
  wide : Wide n
structure GP (n : TNode) : Prop where
  gp : Ev (fun k => ref11_place k n) true
  ge : GE n
  wide : Wide n
structure GB (n : TNode) : Prop where
  gs : GS n
  kd : n.Kind = 30
structure GI (n : TNode) : Prop where
  gs : GS n
  kd : n.Kind = 33
theorem alone_eq (k : Nat) (n : TNode) : ref11_alone k n = some ((n.N == 0) && (n.Name == [])) := rfl
theorem gp_name (a : Int) {s : List UInt8} (h : Nm s) : GP ⟨12, a, 0, s, []⟩ := by
  have hg : GE ⟨12, a, 0, s, []⟩ := ge_named 12 a h (by simp) (by simp) (Or.inl ⟨rfl, rfl⟩)
  refine ⟨Ev.succ1 ?_, hg, wide0⟩
  simp only [ref11_place]
  refine Ev.bind hg ?_
  simp only [qs, Option.bind_some, Option.map_some, joinK, qb, ↓reduceIte, if_true, if_false, eq_self, Int.reduceBEq, Int.reduceBNe]; exact Ev.pure
theorem gp_field (a : Int) {s : List UInt8} {n : TNode} (h : Nm s) (hn : GP n) : GP ⟨14, a, 0, s, [n]⟩ := by
  have hg : GE ⟨14, a, 0, s, [n]⟩ := ge_named 14 a h (by simpa using hn.ge) (by simp) (Or.inr (Or.inl ⟨rfl, rfl⟩))
  refine ⟨Ev.succ1 ?_, hg, wide1 hn.wide⟩
  simp only [ref11_place]
  refine Ev.bind hg ?_
  simp only [qs, Option.bind_some, Option.map_some, joinK, qb, ↓reduceIte, if_true, if_false, eq_self, Int.reduceBEq, Int.reduceBNe]
  refine Ev.bindS (x := n) (fun _ => rfl) (Ev.bind hn.gp Ev.pure)
theorem gp_index (a : Int) {n m : TNode} (hn : GP n) (hm : GEx m) : GP ⟨13, a, 0, [], [n, m]⟩ := by
  have hg : GE ⟨13, a, 0, [], [n, m]⟩ := ge_index a hn.ge hm.ge
  refine ⟨Ev.succ1 ?_, hg, wide2 hn.wide hm.wide⟩
  simp only [ref11_place]
  refine Ev.bind hg ?_
  simp only [qs, Option.bind_some, Option.map_some, joinK, qb, ↓reduceIte, if_true, if_false, eq_self, Int.reduceBEq, Int.reduceBNe]
  refine Ev.bindS (x := n) (fun _ => rfl) (Ev.bind hn.gp Ev.pure)
theorem gs_join (a : Int) {s : List UInt8} (h : Nm s) : GS ⟨36, a, 0, s, []⟩ := by
  refine ⟨Ev.succ1 ?_, wide0⟩
  simp only [ref11_Stmt]
  simp only [qs, Option.bind_some, Option.map_some, joinK, qb, ↓reduceIte, if_true, if_false, eq_self, Int.reduceBEq, Int.reduceBNe]
  refine Ev.bind h ?_
  simp only [qs, Option.bind_some, Option.map_some, joinK, qb, ↓reduceIte, if_true, if_false, eq_self, Int.reduceBEq, Int.reduceBNe, List.length_nil, Int.ofNat_zero, show ((0 : Nat) : Int) = 0 from rfl]; exact Ev.pure
theorem gs_var (a : Int) {s : List UInt8} {n : TNode} (h : Nm s) (hn : GEx n) : GS ⟨31, a, 0, s, [n]⟩ := by
  refine ⟨Ev.succ1 ?_, wide1 hn.wide⟩
  simp only [ref11_Stmt]
  simp only [qs, Option.bind_some, Option.map_some, joinK, qb, ↓reduceIte, if_true, if_false, eq_self, Int.reduceBEq, Int.reduceBNe]
  refine Ev.bind h ?_
  simp only [qs, Option.bind_some, Option.map_some, joinK, qb, ↓reduceIte, if_true, if_false, eq_self, Int.reduceBEq, Int.reduceBNe, List.length_cons, List.length_nil, show ((0 + 1 : Nat) : Int) = 1 from rfl]
  exact Ev.bindS (x := n) (fun _ => rfl) (Ev.bind hn.ge Ev.pure)
theorem gs_ret0 (a : Int) : GS ⟨35, a, 0, [], []⟩ := by
  refine ⟨Ev.succ1 ?_, wide0⟩
  simp only [ref11_Stmt]
  simp only [qs, Option.bind_some, Option.map_some, joinK, qb, ↓reduceIte, if_true, if_false, eq_self, Int.reduceBEq, Int.reduceBNe, alone_eq, List.length_nil, show ((0 : Nat) : Int) = 0 from rfl]; exact Ev.pure
theorem gs_ret1 (a : Int) {n : TNode} (hn : GEx n) : GS ⟨35, a, 0, [], [n]⟩ := by
  refine ⟨Ev.succ1 ?_, wide1 hn.wide⟩
  simp only [ref11_Stmt]
  simp only [qs, Option.bind_some, Option.map_some, joinK, qb, ↓reduceIte, if_true, if_false, eq_self, Int.reduceBEq, Int.reduceBNe, alone_eq, List.length_cons, List.length_nil, show ((0 + 1 : Nat) : Int) = 1 from rfl]
  exact Ev.bindS (x := n) (fun _ => rfl) (Ev.bind hn.ge Ev.pure)
theorem gs_print (a : Int) {n : TNode} (hn : GEx n) : GS ⟨37, a, 0, [], [n]⟩ := by
  refine ⟨Ev.succ1 ?_, wide1 hn.wide⟩
  simp only [ref11_Stmt]
  simp only [qs, Option.bind_some, Option.map_some, joinK, qb, ↓reduceIte, if_true, if_false, eq_self, Int.reduceBEq, Int.reduceBNe, alone_eq, List.length_cons, List.length_nil, show ((0 + 1 : Nat) : Int) = 1 from rfl]
  exact Ev.bindS (x := n) (fun _ => rfl) (Ev.bind hn.ge Ev.pure)
theorem gs_do (a b : Int) {s : List UInt8} {l : List TNode} (h : Nm s) (hl : GAr l) : GS ⟨38, a, 0, [], [⟨17, b, 0, s, l⟩]⟩ := by
  have hc : GE ⟨17, b, 0, s, l⟩ := ge_named 17 b h (fun n hn => (hl.all n hn).ge) (by have := hl.len; omega) (Or.inr (Or.inr (Or.inl rfl)))
  refine ⟨Ev.succ1 ?_, wide1 (wideL (fun x hx => (hl.all x hx).wide) (by have := hl.len; omega))⟩
  simp only [ref11_Stmt]
  simp only [qs, Option.bind_some, Option.map_some, joinK, qb, ↓reduceIte, if_true, if_false, eq_self, Int.reduceBEq, Int.reduceBNe, alone_eq, List.length_cons, List.length_nil, show ((0 + 1 : Nat) : Int) = 1 from rfl]
  refine Ev.bindS (x := ⟨17, b, 0, s, l⟩) (fun _ => rfl) ?_
  simp only [qs, Option.bind_some, Option.map_some, joinK, qb, ↓reduceIte, if_true, if_false, eq_self, Int.reduceBEq, Int.reduceBNe]
  exact Ev.bindS (x := ⟨17, b, 0, s, l⟩) (fun _ => rfl) (Ev.bind hc Ev.pure)
theorem gs_set (a : Int) {n m : TNode} (hn : GP n) (hm : GEx m) : GS ⟨32, a, 0, [], [n, m]⟩ := by
  refine ⟨Ev.succ1 ?_, wide2 hn.wide hm.wide⟩
  simp only [ref11_Stmt]
  simp only [qs, Option.bind_some, Option.map_some, joinK, qb, ↓reduceIte, if_true, if_false, eq_self, Int.reduceBEq, Int.reduceBNe, alone_eq, List.length_cons, List.length_nil, show ((0 + 1 + 1 : Nat) : Int) = 2 from rfl]
  refine Ev.bindS (x := n) (fun _ => rfl) (Ev.bind hn.gp ?_)
  simp only [qs, Option.bind_some, Option.map_some, joinK, qb, ↓reduceIte, if_true, if_false, eq_self, Int.reduceBEq, Int.reduceBNe]
  exact Ev.bindS (x := m) (fun _ => rfl) (Ev.bind hm.ge Ev.pure)
theorem kind_of {n : TNode} {q : Int} (h : GS n) (hk : n.Kind = q) : Ev (fun k => ref11_kind k n q) true := by
  refine Ev.succ1 ?_
  simp only [ref11_kind]
  simp only [qs, Option.bind_some, Option.map_some, joinK, qb, ↓reduceIte, if_true, if_false, eq_self, Int.reduceBEq, Int.reduceBNe, hk]
  exact Ev.bind h.gs Ev.pure
theorem kind_no {n : TNode} {q : Int} (hk : n.Kind ≠ q) : Ev (fun k => ref11_kind k n q) false := by
  refine Ev.succ1 ?_
  simp only [ref11_kind]
  simp only [qs, Option.bind_some, Option.map_some, joinK, qb, ↓reduceIte, if_true, if_false, eq_self, Int.reduceBEq, Int.reduceBNe, show (n.Kind == q) = false by simpa using hk]
  exact Ev.pure
theorem gs_two (a q : Int) (hq : q = 33 ∨ q = 34) {n b : TNode} (hn : GEx n) (hb : GB b) : GS ⟨q, a, 0, [], [n, b]⟩ := by
  refine ⟨Ev.succ1 ?_, wide2 hn.wide hb.gs.wide⟩
  simp only [ref11_Stmt]
  have c2 : decide ((2 : Int) < 2) = false := rfl
  rcases hq with rfl | rfl
  all_goals
    simp only [qs, Option.bind_some, Option.map_some, joinK, qb, ↓reduceIte, if_true, if_false, eq_self, Int.reduceBEq, Int.reduceBNe, alone_eq, c2, List.length_cons, List.length_nil, show ((0 + 1 + 1 : Nat) : Int) = 2 from rfl]
    refine Ev.bindS (x := n) (fun _ => rfl) (Ev.bind hn.ge ?_)
    simp only [qs, Option.bind_some, Option.map_some, joinK, qb, ↓reduceIte, if_true, if_false, eq_self, Int.reduceBEq, Int.reduceBNe]
    refine Ev.bindS (x := b) (fun _ => rfl) (Ev.bind (kind_of hb.gs hb.kd) ?_)
    simp only [qs, Option.bind_some, Option.map_some, joinK, qb, ↓reduceIte, if_true, if_false, eq_self, Int.reduceBEq, Int.reduceBNe]
    exact Ev.pure
theorem gs_three (a : Int) {n b c : TNode} (hn : GEx n) (hb : GB b) (hc : GS c) (hk : c.Kind = 30 ∨ c.Kind = 33) : GS ⟨33, a, 0, [], [n, b, c]⟩ := by
  refine ⟨Ev.succ1 ?_, wideL (by simp; exact ⟨hn.wide, hb.gs.wide, hc.wide⟩) (by simp)⟩
  simp only [ref11_Stmt]
  have c2 : decide ((3 : Int) < 2) = false := rfl
  simp only [qs, Option.bind_some, Option.map_some, joinK, qb, ↓reduceIte, if_true, if_false, eq_self, Int.reduceBEq, Int.reduceBNe, alone_eq, c2, List.length_cons, List.length_nil, show ((0 + 1 + 1 + 1 : Nat) : Int) = 3 from rfl]
  refine Ev.bindS (x := n) (fun _ => rfl) (Ev.bind hn.ge ?_)
  simp only [qs, Option.bind_some, Option.map_some, joinK, qb, ↓reduceIte, if_true, if_false, eq_self, Int.reduceBEq, Int.reduceBNe]
  refine Ev.bindS (x := b) (fun _ => rfl) (Ev.bind (kind_of hb.gs hb.kd) ?_)
  simp only [qs, Option.bind_some, Option.map_some, joinK, qb, ↓reduceIte, if_true, if_false, eq_self, Int.reduceBEq, Int.reduceBNe]
  refine Ev.bindS (x := c) (fun _ => rfl) ?_
  by_cases h : c.Kind = 30
  · refine Ev.bind (kind_of hc h) ?_
    simp only [qs, Option.bind_some, Option.map_some, joinK, qb, ↓reduceIte, if_true, if_false, eq_self, Int.reduceBEq, Int.reduceBNe]; exact Ev.pure
  · refine Ev.bind (kind_no h) ?_
    simp only [qs, Option.bind_some, Option.map_some, joinK, qb, ↓reduceIte, if_true, if_false, eq_self, Int.reduceBEq, Int.reduceBNe]
    refine Ev.bindS (x := c) (fun _ => rfl) (Ev.bind (kind_of hc (by omega)) Ev.pure)
theorem gs_block (a : Int) {l : List TNode} (hl : ∀ n ∈ l, GS n) (hn : l.length ≤ 1000000) : GB ⟨30, a, 0, [], l⟩ := by
  refine ⟨⟨Ev.succ1 ?_, wideL (fun x hx => (hl x hx).wide) hn⟩, rfl⟩
  simp only [ref11_Stmt]
  simp only [qs, Option.bind_some, Option.map_some, joinK, qb, ↓reduceIte, if_true, if_false, eq_self, Int.reduceBEq, Int.reduceBNe, alone_eq]
  refine Ev.loop ?_
  have key : ∀ (r m : List TNode), l = m ++ r → EvL (σ := Int) (ρ := Bool) (fun k (l1_4 : Int) =>
      if decide (l1_4 < (l.length : Int)) = true then
        (ix l l1_4).bind fun x12_3 => (ref11_Stmt k x12_3).bind fun x12_5 =>
          if (!x12_5) = true then some (.inr false) else some (.inl (IntKind.i64.wrap (l1_4 + 1)))
      else some (.inr true)) (m.length : Int) true := by
    intro r
    induction r with
    | nil => intro m hm; exact EvL.done (Ev.ite_f (by rw [hm]; simp) (Ev.of fun _ => rfl))
    | cons x r ih =>
      intro m hm
      have hx : x ∈ l := by rw [hm]; simp
      have hlen : l.length = m.length + (r.length + 1) := by rw [hm]; simp
      have hix : ix l (m.length : Int) = some x := ix_of (by omega) (by rw [hm]; simp)
      refine EvL.step (Ev.ite_t (by simp; omega) (Ev.bindS (fun _ => hix) (Ev.bind (hl x hx).gs (Ev.ite_f rfl Ev.pure)))) ?_
      rw [wrap64_id (by omega) (by omega)]
      have := ih (m ++ [x]) (by rw [hm]; simp)
      simpa using this
  exact key l [] rfl
end Go.Proofs.YtjakhfaodfaimaaGreatDoor.F
namespace Go.Proofs.YtjakhfaodfaimaaGreatDoor.F
open Go
theorem ix_tk {l : List TToken} {i : Int} (h0 : 0 ≤ i) (h : i < l.length) : ix l i = some (tk l i) := by
  have e : l[i.toNat]? = some l[i.toNat] := List.getElem?_eq_getElem (by omega)
  rw [ix_of h0 e]; unfold tk; rw [if_pos h0, e]; rfl
def ePlB (l : List TToken) (k : Nat) (s : Int × Bool × TNode) : Option ((Int × Bool × TNode) ⊕ (TNode × Int × Bool)) :=
  match s with
  | (p, b, n) =>
    if (!b) then
    (stmt_cursor_look k l p b).bind fun x4_1 =>
    (stmt_cursor_takes k 4 [91] l p b).bind fun (x6_1_0, x6_1_1) =>
    if x6_1_0 then
    (stmt_cursor_expr k l x6_1_1 b).bind fun (x7_3_0, x7_3_1, x7_3_2) =>
    (stmt_cursor_wants k [[93]] l x7_3_1 x7_3_2).bind fun (x8_2_0, x8_2_1) =>
    some (.inl (x8_2_0, x8_2_1, (TNode.mk 13 x4_1.At 0 [] [n, x7_3_0])))
    else
    (stmt_cursor_takes k 4 [46] l x6_1_1 b).bind fun (x9_1_0, x9_1_1) =>
    if x9_1_0 then
    (stmt_cursor_name k l x9_1_1 b).bind fun (x11_1_0, x11_1_1, x11_1_2, x11_1_3) =>
    some (.inl (x11_1_2, x11_1_3, (TNode.mk 14 x4_1.At 0 x11_1_0 [n])))
    else
    some (.inr (n, x9_1_1, b))
    else
    (some (n, p, b)).map .inr
theorem sPlace_eq (k : Nat) (l : List TToken) (i : Int) (h : (tk l i).Kind = 1) : stmt_cursor_place k l i false = loopM k (ePlB l k) (IntKind.i64.wrap (i + 1), false, ⟨12, (tk l i).At, 0, (tk l i).Text, []⟩) := by
  unfold stmt_cursor_place
  rw [sname_eq, h]
  rfl
def rSetT (l : List TToken) (k : Nat) (q : Int) (n : TNode) : Option Tref14_Got :=
    (ref13_Is k l q [61]).bind fun x22_2 =>
    if (!x22_2) then
    (ref14_fail k q).bind fun x23_1 =>
    some x23_1
    else
    (ref14_expr k l (IntKind.i64.wrap (q + 1))).bind fun x24_3 =>
    (ref13_Tok k l q).bind fun x25_4 =>
    (ref14_closed k l x24_3 (TNode.mk 32 x25_4.At 0 [] [n, (TNode.mk x24_3.N.Kind x24_3.N.At x24_3.N.N x24_3.N.Name x24_3.N.Kids)]) [59]).bind fun x25_11 =>
    some x25_11
def rPlB (l : List TToken) (k : Nat) (s : Int × TNode) : Option ((Int × TNode) ⊕ Tref14_Got) :=
  match s with
  | (l1_1, l1_oloc10) =>
    (ref13_Is k l l1_1 [91]).bind fun x8_2 =>
    joinK (fun (g8_7_62 : Bool) =>
    if g8_7_62 then
    (ref13_Tok k l l1_1).bind fun x9_2 =>
    (ref13_Is k l l1_1 [46]).bind fun x10_2 =>
    if x10_2 then
    (ref13_Tok k l (IntKind.i64.wrap (l1_1 + 1))).bind fun x11_3 =>
    if (x11_3.Kind != 1) then
    (ref14_fail k (IntKind.i64.wrap (l1_1 + 1))).bind fun x13_2 =>
    some (.inr x13_2)
    else
    some (.inl ((IntKind.i64.wrap (l1_1 + 2)), (TNode.mk 14 x9_2.At 0 x11_3.Text [l1_oloc10])))
    else
    (ref14_expr k l (IntKind.i64.wrap (l1_1 + 1))).bind fun x16_3 =>
    (ref14_closed k l x16_3 (TNode.mk 13 x9_2.At 0 [] [l1_oloc10, (TNode.mk x16_3.N.Kind x16_3.N.At x16_3.N.N x16_3.N.Name x16_3.N.Kids)]) [93]).bind fun x17_8 =>
    if (!x17_8.Ok) then
    some (.inr x17_8)
    else
    some (.inl (x17_8.At, x17_8.N))
    else
    (rSetT l k l1_1 l1_oloc10).map .inr) fun j_g8_7 =>
    if x8_2 then
    j_g8_7 true
    else
    (ref13_Is k l l1_1 [46]).bind fun x8_6 =>
    j_g8_7 x8_6
def eCallT (l : List TToken) (i : Int) (k : Nat) : Option (TNode × Int × Bool) :=
    (expr_Args k l (IntKind.i64.wrap (i + 1))).bind fun (x3_9_0, x3_9_1, x3_9_2) =>
    (stmt_cursor_wants k [[59]] l x3_9_1 (x3_9_2 != 0)).bind fun (x5_2_0, x5_2_1) =>
    some ((TNode.mk 38 (tk l i).At 0 [] [(TNode.mk 17 (tk l i).At 0 (tk l i).Text x3_9_0)]), x5_2_0, x5_2_1)
def eSetT (l : List TToken) (k : Nat) (x : TNode) (q : Int) (b : Bool) : Option (TNode × Int × Bool) :=
    (stmt_cursor_look k l q b).bind fun x8_1 =>
    (stmt_cursor_wants k [[61]] l q b).bind fun (x9_2_0, x9_2_1) =>
    (stmt_cursor_expr k l x9_2_0 x9_2_1).bind fun (x10_1_0, x10_1_1, x10_1_2) =>
    (stmt_cursor_wants k [[59]] l x10_1_1 x10_1_2).bind fun (x11_2_0, x11_2_1) =>
    some ((TNode.mk 32 x8_1.At 0 [] [x, x10_1_0]), x11_2_0, x11_2_1)
theorem sNamed_eq {l : List TToken} (W : WF l) (k : Nat) (i : Int) (h : (tk l i).Kind = 1) : stmt_cursor_named k l i false =
    (if isT (tk l (i + 1)) 4 [40] then eCallT l i k else (loopM k (ePlB l k) (i + 1, false, ⟨12, (tk l i).At, 0, (tk l i).Text, []⟩)).bind fun (x, q, b) => eSetT l k x q b) := by
  obtain ⟨n1, n2, n3⟩ := W.next (i := i) (by omega)
  unfold stmt_cursor_named eCallT eSetT
  rw [sPlace_eq _ _ _ h]
  simp only [n3, joinK, slook_eq, Option.bind_some, ix_tk (show 0 ≤ i + 1 by omega) n2, show decide (i + 1 < (l.length : Int)) = true by simpa using n2, if_true]
  cases hk : (tk l (i + 1)).Kind == 4
  · simp only [isT, hk, Bool.false_and, Bool.false_eq_true, if_false]
  · cases ht : (tk l (i + 1)).Text == [40]
    · simp only [isT, hk, ht, Bool.and_false, Bool.false_eq_true, if_false, if_true]
    · simp only [isT, hk, ht, Bool.and_true, if_true]
theorem rNamed_eq {l : List TToken} (W : WF l) (k : Nat) (i : Int) (h : (tk l i).Kind = 1) : ref14_named k l i =
    (if isT (tk l (i + 1)) 4 [40] then (ref13_Args k l (i + 1)).bind fun (a, j, ok) => ref14_closed k l ⟨⟨17, (tk l i).At, 0, (tk l i).Text, a⟩, j, ok⟩ ⟨38, (tk l i).At, 0, [], [⟨17, (tk l i).At, 0, (tk l i).Text, a⟩]⟩ [59]
     else loopM k (rPlB l k) (i + 1, ⟨12, (tk l i).At, 0, (tk l i).Text, []⟩)) := by
  obtain ⟨n1, n2, n3⟩ := W.next (i := i) (by omega)
  unfold ref14_named
  rw [n3, Tok_eq, Is_eq]
  simp only [Option.bind_some]
  cases isT (tk l (i + 1)) 4 [40]
  · simp only [Bool.false_eq_true, if_false]; rfl
  · simp only [if_true, closed_eq, Option.bind_some]
theorem ePl_end (l : List TToken) (p : Int) (n : TNode) : EvL (ePlB l) (p, true, n) (n, p, true) := EvL.done (by simp only [ePlB]; simp only [qs, Option.bind_some, Option.map_some, joinK, qb, ↓reduceIte, if_true, if_false, eq_self, Int.reduceBEq, Int.reduceBNe]; exact Ev.pure)
theorem eSet_bad (l : List TToken) (x : TNode) (q : Int) : ∃ n, Ev (fun k => eSetT l k x q true) (n, q, true) := by
  refine ⟨⟨32, (tk l q).At, 0, [], [x, zN]⟩, Ev.sh 2 ?_⟩
  simp only [eSetT]
  simp only [qs, Option.bind_some, Option.map_some, joinK, qb, ↓reduceIte, if_true, if_false, eq_self, Int.reduceBEq, Int.reduceBNe, slook_eq]; exact Ev.pure
theorem place_loop {l : List TToken} (W : WF l) : ∀ (n : Nat) (p : Int) (x : TNode), (l.length : Int) - p ≤ n → 0 < p → p < l.length → GP x →
    (∃ y j, EvL (ePlB l) (p, false, x) (y, j, true) ∧ EvL (rPlB l) (p, x) ⟨zN, j, false⟩) ∨
    (∃ y q, EvL (ePlB l) (p, false, x) (y, q, false) ∧ p ≤ q ∧ q < l.length ∧ GP y ∧ ∀ res, Ev (fun k => rSetT l k q y) res → EvL (rPlB l) (p, x) res) := by
  intro n
  induction n using Nat.strongRecOn with
  | _ n ih =>
  intro p x hn hp hpl hg
  by_cases h1 : isT (tk l p) 4 [91] = true
  · have hk := (isT_kind h1).1
    have h2 : isT (tk l p) 4 [46] = false := isT_txt (by rw [(isT_kind h1).2]; decide)
    obtain ⟨n1, n2, n3⟩ := W.next (i := p) (by omega)
    obtain ⟨a, j, b, ok, e1, e2, e3, e4⟩ := sexpr_all W (p + 1)
    have E : Ev (fun k => ePlB l k (p, false, x)) (.inl (if ok && isT (tk l j) 4 [93] then (IntKind.i64.wrap (j + 1), false, ⟨13, (tk l p).At, 0, [], [x, a]⟩) else (j, true, ⟨13, (tk l p).At, 0, [], [x, a]⟩))) := by
      refine Ev.sh 2 ?_
      simp only [ePlB]
      simp only [qs, Option.bind_some, Option.map_some, joinK, qb, ↓reduceIte, if_true, if_false, eq_self, Int.reduceBEq, Int.reduceBNe, slook_eq, h1, n3]
      refine Ev.bind e1.up ?_
      cases ok
      · simp only [qs, Option.bind_some, Option.map_some, joinK, qb, ↓reduceIte, if_true, if_false, eq_self, Int.reduceBEq, Int.reduceBNe]; exact Ev.pure
      · simp only [qs, Option.bind_some, Option.map_some, joinK, qb, ↓reduceIte, if_true, if_false, eq_self, Int.reduceBEq, Int.reduceBNe]
        cases isT (tk l j) 4 [93]
        · simp only [qs, Option.bind_some, Option.map_some, joinK, qb, ↓reduceIte, if_true, if_false, eq_self, Int.reduceBEq, Int.reduceBNe]; exact Ev.pure
        · simp only [qs, Option.bind_some, Option.map_some, joinK, qb, ↓reduceIte, if_true, if_false, eq_self, Int.reduceBEq, Int.reduceBNe]; exact Ev.pure
    have Rr : Ev (fun k => rPlB l k (p, x)) (if ok && isT (tk l j) 4 [93] then .inl (IntKind.i64.wrap (j + 1), ⟨13, (tk l p).At, 0, [], [x, b]⟩) else .inr ⟨zN, j, false⟩) := by
      simp only [rPlB]
      simp only [qs, Option.bind_some, Option.map_some, joinK, qb, ↓reduceIte, if_true, if_false, eq_self, Int.reduceBEq, Int.reduceBNe, h1, h2, n3]
      refine Ev.bind e2 ?_
      cases ok
      · simp only [qs, Option.bind_some, Option.map_some, joinK, qb, ↓reduceIte, if_true, if_false, eq_self, Int.reduceBEq, Int.reduceBNe]; exact Ev.pure
      · simp only [qs, Option.bind_some, Option.map_some, joinK, qb, ↓reduceIte, if_true, if_false, eq_self, Int.reduceBEq, Int.reduceBNe]
        cases isT (tk l j) 4 [93]
        · simp only [qs, Option.bind_some, Option.map_some, joinK, qb, ↓reduceIte, if_true, if_false, eq_self, Int.reduceBEq, Int.reduceBNe]; exact Ev.pure
        · simp only [qs, Option.bind_some, Option.map_some, joinK, qb, ↓reduceIte, if_true, if_false, eq_self, Int.reduceBEq, Int.reduceBNe]; exact Ev.pure
    cases ok with
    | false =>
      simp only [Bool.false_and, Bool.false_eq_true, if_false] at E Rr
      exact Or.inl ⟨_, j, EvL.step E (ePl_end _ _ _), EvL.done Rr⟩
    | true =>
      obtain ⟨rfl, q2, q3, q4⟩ := e3 rfl
      by_cases h3 : isT (tk l j) 4 [93] = true
      · obtain ⟨m1, m2, m3⟩ := W.next (i := j) (by rw [(isT_kind h3).1]; decide)
        simp only [h3, Bool.and_true, if_true, m3] at E Rr
        rcases ih (n - 1) (by omega) (j + 1) ⟨13, (tk l p).At, 0, [], [x, a]⟩ (by omega) (by omega) m2 (gp_index _ hg q4) with ⟨y, j', f1, f2⟩ | ⟨y, q, f1, f2, f3, f4, f5⟩
        · exact Or.inl ⟨y, j', EvL.step E f1, EvL.step Rr f2⟩
        · exact Or.inr ⟨y, q, EvL.step E f1, by omega, f3, f4, fun res hres => EvL.step Rr (f5 res hres)⟩
      · simp only [show isT (tk l j) 4 [93] = false by simpa using h3, Bool.and_false, Bool.false_eq_true, if_false] at E Rr
        exact Or.inl ⟨_, j, EvL.step E (ePl_end _ _ _), EvL.done Rr⟩
  · have h1 : isT (tk l p) 4 [91] = false := by simpa using h1
    by_cases h2 : isT (tk l p) 4 [46] = true
    · have hk := (isT_kind h2).1
      obtain ⟨n1, n2, n3⟩ := W.next (i := p) (by omega)
      by_cases h3 : (tk l (p + 1)).Kind = 1
      · obtain ⟨m1, m2, m3⟩ := W.next (i := p + 1) (by omega)
        have hw2 : IntKind.i64.wrap (p + 2) = p + 2 := by rw [show p + 2 = p + 1 + 1 by omega]; exact m3
        have E : Ev (fun k => ePlB l k (p, false, x)) (.inl (p + 2, false, ⟨14, (tk l p).At, 0, (tk l (p + 1)).Text, [x]⟩)) := by
          refine Ev.sh 2 ?_
          simp only [ePlB]
          simp only [qs, Option.bind_some, Option.map_some, joinK, qb, ↓reduceIte, if_true, if_false, eq_self, Int.reduceBEq, Int.reduceBNe, slook_eq, h1, h2, n3, h3, m3]
          rw [show p + 1 + 1 = p + 2 by omega]; exact Ev.pure
        have Rr : Ev (fun k => rPlB l k (p, x)) (.inl (p + 2, ⟨14, (tk l p).At, 0, (tk l (p + 1)).Text, [x]⟩)) := by
          simp only [rPlB]
          simp only [qs, Option.bind_some, Option.map_some, joinK, qb, ↓reduceIte, if_true, if_false, eq_self, Int.reduceBEq, Int.reduceBNe, h1, h2, n3, h3, hw2]; exact Ev.pure
        rcases ih (n - 1) (by omega) (p + 2) ⟨14, (tk l p).At, 0, (tk l (p + 1)).Text, [x]⟩ (by omega) (by omega) (by omega) (gp_field _ (W.names _ h3) hg) with ⟨y, j', f1, f2⟩ | ⟨y, q, f1, f2, f3, f4, f5⟩
        · exact Or.inl ⟨y, j', EvL.step E f1, EvL.step Rr f2⟩
        · exact Or.inr ⟨y, q, EvL.step E f1, by omega, f3, f4, fun res hres => EvL.step Rr (f5 res hres)⟩
      · have h3b : ((tk l (p + 1)).Kind != 1) = true := by simpa using h3
        refine Or.inl ⟨_, p + 1, EvL.step (s' := (p + 1, true, ⟨14, (tk l p).At, 0, [], [x]⟩)) (Ev.sh 2 ?_) (ePl_end _ _ _), EvL.done ?_⟩
        · simp only [ePlB]
          simp only [qs, Option.bind_some, Option.map_some, joinK, qb, ↓reduceIte, if_true, if_false, eq_self, Int.reduceBEq, Int.reduceBNe, slook_eq, h1, h2, n3, h3b]; exact Ev.pure
        · simp only [rPlB]
          simp only [qs, Option.bind_some, Option.map_some, joinK, qb, ↓reduceIte, if_true, if_false, eq_self, Int.reduceBEq, Int.reduceBNe, h1, h2, n3, h3b]; exact Ev.pure
    · have h2 : isT (tk l p) 4 [46] = false := by simpa using h2
      refine Or.inr ⟨x, p, EvL.done (Ev.sh 2 ?_), by omega, hpl, hg, fun res hres => EvL.done ?_⟩
      · simp only [ePlB]
        simp only [qs, Option.bind_some, Option.map_some, joinK, qb, ↓reduceIte, if_true, if_false, eq_self, Int.reduceBEq, Int.reduceBNe, slook_eq, h1, h2]; exact Ev.pure
      · simp only [rPlB]
        simp only [qs, Option.bind_some, Option.map_some, joinK, qb, ↓reduceIte, if_true, if_false, eq_self, Int.reduceBEq, Int.reduceBNe, h1, h2]
        exact Ev.map hres
theorem snamed_R {l : List TToken} (W : WF l) (i : Int) (h : (tk l i).Kind = 1) : RG GS l i (fun k => stmt_cursor_named k l i false) (fun k => ref14_named k l i) := by
  obtain ⟨n1, n2, n3⟩ := W.next (i := i) (by omega)
  by_cases h1 : isT (tk l (i + 1)) 4 [40] = true
  · obtain ⟨a, j, b, ok, e1, e2, e3, e4⟩ := args_all W (i + 1)
    have E : Ev (fun k => stmt_cursor_named k l i false) (if ok && isT (tk l j) 4 [59] then (⟨38, (tk l i).At, 0, [], [⟨17, (tk l i).At, 0, (tk l i).Text, if ok then a else []⟩]⟩, IntKind.i64.wrap (j + 1), false) else (⟨38, (tk l i).At, 0, [], [⟨17, (tk l i).At, 0, (tk l i).Text, if ok then a else []⟩]⟩, j, true)) := by
      refine Ev.sh 2 ?_
      simp only [sNamed_eq W _ i h, eCallT, n3, h1, if_true]
      refine Ev.bind (sargs_of e1).up ?_
      cases ok
      · simp only [qs, Option.bind_some, Option.map_some, joinK, qb, ↓reduceIte, if_true, if_false, eq_self, Int.reduceBEq, Int.reduceBNe, show ((1 : Int) != 0) = true from rfl]; exact Ev.pure
      · simp only [qs, Option.bind_some, Option.map_some, joinK, qb, ↓reduceIte, if_true, if_false, eq_self, Int.reduceBEq, Int.reduceBNe, show ((0 : Int) != 0) = false from rfl]
        cases isT (tk l j) 4 [59]
        · simp only [qs, Option.bind_some, Option.map_some, joinK, qb, ↓reduceIte, if_true, if_false, eq_self, Int.reduceBEq, Int.reduceBNe]; exact Ev.pure
        · simp only [qs, Option.bind_some, Option.map_some, joinK, qb, ↓reduceIte, if_true, if_false, eq_self, Int.reduceBEq, Int.reduceBNe]; exact Ev.pure
    have Rr : Ev (fun k => ref14_named k l i) (if ok && isT (tk l j) 4 [59] then ⟨⟨38, (tk l i).At, 0, [], [⟨17, (tk l i).At, 0, (tk l i).Text, b⟩]⟩, IntKind.i64.wrap (j + 1), true⟩ else ⟨zN, j, false⟩) := by
      simp only [rNamed_eq W _ i h, h1, if_true]
      refine Ev.bind e2 ?_
      cases ok
      · simp only [qs, Option.bind_some, Option.map_some, joinK, qb, ↓reduceIte, if_true, if_false, eq_self, Int.reduceBEq, Int.reduceBNe]; exact Ev.pure
      · simp only [qs, Option.bind_some, Option.map_some, joinK, qb, ↓reduceIte, if_true, if_false, eq_self, Int.reduceBEq, Int.reduceBNe]
        cases isT (tk l j) 4 [59]
        · simp only [qs, Option.bind_some, Option.map_some, joinK, qb, ↓reduceIte, if_true, if_false, eq_self, Int.reduceBEq, Int.reduceBNe]; exact Ev.pure
        · simp only [qs, Option.bind_some, Option.map_some, joinK, qb, ↓reduceIte, if_true, if_false, eq_self, Int.reduceBEq, Int.reduceBNe]; exact Ev.pure
    cases ok with
    | false => exact RG.bad E Rr
    | true =>
      obtain ⟨rfl, q2, q3, q4⟩ := e3 rfl
      by_cases h3 : isT (tk l j) 4 [59] = true
      · obtain ⟨m1, m2, m3⟩ := W.next (i := j) (by rw [(isT_kind h3).1]; decide)
        simp only [h3, Bool.and_true, if_true, m3] at E Rr
        exact RG.good E Rr ⟨by omega, m2⟩ (gs_do _ _ (W.names i h) q4)
      · simp only [show isT (tk l j) 4 [59] = false by simpa using h3, Bool.and_false, Bool.false_eq_true, if_false] at E Rr
        exact RG.bad E Rr
  · have h1 : isT (tk l (i + 1)) 4 [40] = false := by simpa using h1
    rcases place_loop W (l.length - (i + 1)).toNat (i + 1) ⟨12, (tk l i).At, 0, (tk l i).Text, []⟩ (by omega) (by omega) n2 (gp_name _ (W.names i h)) with ⟨y, j, f1, f2⟩ | ⟨y, q, f1, f2, f3, f4, f5⟩
    · obtain ⟨n, hb⟩ := eSet_bad l y j
      refine RG.bad (n := n) (j := j) ?_ ?_
      · simp only [sNamed_eq W _ i h, h1, Bool.false_eq_true, if_false]
        exact Ev.bind (Ev.loop f1) hb
      · simp only [rNamed_eq W _ i h, h1, Bool.false_eq_true, if_false]
        exact Ev.loop f2
    · have E0 : ∀ {r}, Ev (fun k => eSetT l k y q false) r → Ev (fun k => stmt_cursor_named k l i false) r := by
        intro r hr
        simp only [sNamed_eq W _ i h, h1, Bool.false_eq_true, if_false]
        exact Ev.bind (Ev.loop f1) hr
      have R0 : ∀ {r}, Ev (fun k => rSetT l k q y) r → Ev (fun k => ref14_named k l i) r := by
        intro r hr
        simp only [rNamed_eq W _ i h, h1, Bool.false_eq_true, if_false]
        exact Ev.loop (f5 r hr)
      by_cases h2 : isT (tk l q) 4 [61] = true
      · obtain ⟨p1, p2, p3⟩ := W.next (i := q) (by rw [(isT_kind h2).1]; decide)
        obtain ⟨a, j, b, ok, e1, e2, e3, e4⟩ := sexpr_all W (q + 1)
        have E : Ev (fun k => eSetT l k y q false) (if ok && isT (tk l j) 4 [59] then (⟨32, (tk l q).At, 0, [], [y, a]⟩, IntKind.i64.wrap (j + 1), false) else (⟨32, (tk l q).At, 0, [], [y, a]⟩, j, true)) := by
          refine Ev.sh 2 ?_
          simp only [eSetT]
          simp only [qs, Option.bind_some, Option.map_some, joinK, qb, ↓reduceIte, if_true, if_false, eq_self, Int.reduceBEq, Int.reduceBNe, slook_eq, h2, p3]
          refine Ev.bind e1.up ?_
          cases ok
          · simp only [qs, Option.bind_some, Option.map_some, joinK, qb, ↓reduceIte, if_true, if_false, eq_self, Int.reduceBEq, Int.reduceBNe]; exact Ev.pure
          · simp only [qs, Option.bind_some, Option.map_some, joinK, qb, ↓reduceIte, if_true, if_false, eq_self, Int.reduceBEq, Int.reduceBNe]
            cases isT (tk l j) 4 [59]
            · simp only [qs, Option.bind_some, Option.map_some, joinK, qb, ↓reduceIte, if_true, if_false, eq_self, Int.reduceBEq, Int.reduceBNe]; exact Ev.pure
            · simp only [qs, Option.bind_some, Option.map_some, joinK, qb, ↓reduceIte, if_true, if_false, eq_self, Int.reduceBEq, Int.reduceBNe]; exact Ev.pure
        have Rr : Ev (fun k => rSetT l k q y) (if ok && isT (tk l j) 4 [59] then ⟨⟨32, (tk l q).At, 0, [], [y, b]⟩, IntKind.i64.wrap (j + 1), true⟩ else ⟨zN, j, false⟩) := by
          simp only [rSetT]
          simp only [qs, Option.bind_some, Option.map_some, joinK, qb, ↓reduceIte, if_true, if_false, eq_self, Int.reduceBEq, Int.reduceBNe, h2, p3]
          refine Ev.bind e2 ?_
          cases ok
          · simp only [qs, Option.bind_some, Option.map_some, joinK, qb, ↓reduceIte, if_true, if_false, eq_self, Int.reduceBEq, Int.reduceBNe]; exact Ev.pure
          · simp only [qs, Option.bind_some, Option.map_some, joinK, qb, ↓reduceIte, if_true, if_false, eq_self, Int.reduceBEq, Int.reduceBNe]
            cases isT (tk l j) 4 [59]
            · simp only [qs, Option.bind_some, Option.map_some, joinK, qb, ↓reduceIte, if_true, if_false, eq_self, Int.reduceBEq, Int.reduceBNe]; exact Ev.pure
            · simp only [qs, Option.bind_some, Option.map_some, joinK, qb, ↓reduceIte, if_true, if_false, eq_self, Int.reduceBEq, Int.reduceBNe]; exact Ev.pure
        cases ok with
        | false => exact RG.bad (E0 E) (R0 Rr)
        | true =>
          obtain ⟨rfl, q2, q3, q4⟩ := e3 rfl
          by_cases h3 : isT (tk l j) 4 [59] = true
          · obtain ⟨m1, m2, m3⟩ := W.next (i := j) (by rw [(isT_kind h3).1]; decide)
            simp only [h3, Bool.and_true, if_true, m3] at E Rr
            exact RG.good (E0 E) (R0 Rr) ⟨by omega, m2⟩ (gs_set _ f4 q4)
          · simp only [show isT (tk l j) 4 [59] = false by simpa using h3, Bool.and_false, Bool.false_eq_true, if_false] at E Rr
            exact RG.bad (E0 E) (R0 Rr)
      · have h2 : isT (tk l q) 4 [61] = false := by simpa using h2
        refine RG.bad (n := ⟨32, (tk l q).At, 0, [], [y, zN]⟩) (j := q) (E0 (Ev.sh 2 ?_)) (R0 ?_)
        · simp only [eSetT]
          simp only [qs, Option.bind_some, Option.map_some, joinK, qb, ↓reduceIte, if_true, if_false, eq_self, Int.reduceBEq, Int.reduceBNe, slook_eq, h2]; exact Ev.pure
        · simp only [rSetT]
          simp only [qs, Option.bind_some, Option.map_some, joinK, qb, ↓reduceIte, if_true, if_false, eq_self, Int.reduceBEq, Int.reduceBNe, h2]; exact Ev.pure
end Go.Proofs.YtjakhfaodfaimaaGreatDoor.F
namespace Go.Proofs.YtjakhfaodfaimaaGreatDoor.F
open Go
abbrev eStmt (l : List TToken) (i : Int) (k : Nat) := stmt_cursor_stmt k l i false
abbrev rStmt (l : List TToken) (i : Int) (k : Nat) := ref14_Stmt k l i
abbrev eBlock (l : List TToken) (i : Int) (k : Nat) := stmt_cursor_block k l i false
abbrev rBlock (l : List TToken) (i : Int) (k : Nat) := ref14_Block k l i
abbrev eChoice (l : List TToken) (i : Int) (k : Nat) := stmt_cursor_choice_v2 k 0 (tk l i).At 0 [] [] l (i + 1) false
abbrev rChoice (l : List TToken) (i : Int) (k : Nat) := ref14_choice k l i
structure IS (l : List TToken) (i : Int) : Prop where
  st : RG GS l i (eStmt l i) (rStmt l i)
  bl : RG GB l i (eBlock l i) (rBlock l i)
  ch : isT (tk l i) 3 [105, 102] = true → RG GI l i (eChoice l i) (rChoice l i)
def eBlB (l : List TToken) (a : Int) (k : Nat) (s : List TNode × Int × Bool) : Option ((List TNode × Int × Bool) ⊕ (TNode × Int × Bool)) :=
  match s with
  | (c, p, b) =>
    joinK (fun ((g3_9_20, g3_9_oext0_1) : Bool × Int) =>
    if g3_9_20 then
    (stmt_cursor_stmt k l g3_9_oext0_1 b).bind fun (x4_3_0, x4_3_1, x4_3_2) =>
    if (room 64 (c.length + [x4_3_0].length)) then
    some (.inl ((c ++ [x4_3_0]), x4_3_1, x4_3_2))
    else none
    else
    (some ((TNode.mk 30 a 0 [] c), g3_9_oext0_1, b)).map .inr) fun j_g3_9 =>
    if (!b) then
    (stmt_cursor_takes k 4 [125] l p b).bind fun (x3_7_0, x3_7_1) =>
    j_g3_9 ((!x3_7_0), x3_7_1)
    else
    j_g3_9 (false, p)
def rBlB (l : List TToken) (a : Int) (k : Nat) (s : List TNode × Int) : Option ((List TNode × Int) ⊕ Tref14_Got) :=
  match s with
  | (c, p) =>
    (ref13_Is k l p [125]).bind fun x5_2 =>
    if (!x5_2) then
    (ref14_Stmt k l p).bind fun x6_2 =>
    if (!x6_2.Ok) then
    some (.inr x6_2)
    else
    if (room 64 (c.length + [(TNode.mk x6_2.N.Kind x6_2.N.At x6_2.N.N x6_2.N.Name x6_2.N.Kids)].length)) then
    some (.inl ((c ++ [(TNode.mk x6_2.N.Kind x6_2.N.At x6_2.N.N x6_2.N.Name x6_2.N.Kids)]), x6_2.At))
    else none
    else
    (some (Tref14_Got.mk (TNode.mk 30 a 0 [] c) (IntKind.i64.wrap (p + 1)) true)).map .inr
theorem sBlock_eq (k : Nat) (l : List TToken) (i : Int) (b : Bool) : stmt_cursor_block (k + 1) l i b = (stmt_cursor_wants k [[123]] l i b).bind fun (p, c) => loopM k (eBlB l (tk l i).At k) ([], p, c) := by
  rw [stmt_cursor_block, slook_eq]; rfl
theorem rBlock_eq (k : Nat) (l : List TToken) (i : Int) : ref14_Block (k + 1) l i = if isT (tk l i) 4 [123] then loopM k (rBlB l (tk l i).At k) ([], IntKind.i64.wrap (i + 1)) else some ⟨zN, i, false⟩ := by
  rw [ref14_Block, Is_eq, Tok_eq]
  simp only [Option.bind_some]
  cases isT (tk l i) 4 [123]
  · rfl
  · rfl
theorem eBl_end (l : List TToken) (a p : Int) (c : List TNode) : EvL (eBlB l a) (c, p, true) (⟨30, a, 0, [], c⟩, p, true) := EvL.done (by simp only [eBlB]; simp only [qs, Option.bind_some, Option.map_some, joinK, qb, ↓reduceIte, if_true, if_false, eq_self, Int.reduceBEq, Int.reduceBNe]; exact Ev.pure)
theorem block_bad (l : List TToken) (i : Int) : Ev (fun k => stmt_cursor_block k l i true) (⟨30, (tk l i).At, 0, [], []⟩, i, true) := by
  refine Ev.sh 3 ?_
  simp only [sBlock_eq]
  simp only [qs, Option.bind_some, Option.map_some, joinK, qb, ↓reduceIte, if_true, if_false, eq_self, Int.reduceBEq, Int.reduceBNe]
  exact (Ev.loop (eBl_end l _ i [])).up (n := 2)
theorem room1 {m : Nat} (x : TNode) (h : m ≤ 1000000) : room 64 (m + [x].length) = true := room_of (by omega) (by simp; omega)
theorem block_loop {l : List TToken} (W : WF l) {i : Int} (a : Int) (H : ∀ j, i < j → j ≤ l.length → IS l j) : ∀ (n : Nat) (p : Int) (c : List TNode), (l.length : Int) - p ≤ n → i < p → 0 < p → p < l.length → (∀ x ∈ c, GS x) → (c.length : Int) ≤ p →
    ∃ x j y ok, EvL (eBlB l a) (c, p, false) (x, j, !ok) ∧ EvL (rBlB l a) (c, p) ⟨y, j, ok⟩ ∧ (ok = true → x = y ∧ p < j ∧ j < l.length ∧ GB y) ∧ (ok = false → y = zN) := by
  intro n
  induction n using Nat.strongRecOn with
  | _ n ih =>
  intro p c hn hi hp hpl hg hc
  have hlen := W.len
  by_cases h1 : isT (tk l p) 4 [125] = true
  · obtain ⟨n1, n2, n3⟩ := W.next (i := p) (by rw [(isT_kind h1).1]; decide)
    refine ⟨_, p + 1, _, true, EvL.done ?_, EvL.done ?_, fun _ => ⟨rfl, by omega, n2, gs_block a hg (by omega)⟩, fun h => by cases h⟩
    · simp only [eBlB]
      simp only [qs, Option.bind_some, Option.map_some, joinK, qb, ↓reduceIte, if_true, if_false, eq_self, Int.reduceBEq, Int.reduceBNe, h1, n3, Option.map_some]; exact Ev.pure
    · simp only [rBlB]
      simp only [qs, Option.bind_some, Option.map_some, joinK, qb, ↓reduceIte, if_true, if_false, eq_self, Int.reduceBEq, Int.reduceBNe, h1, n3, Option.map_some]; exact Ev.pure
  · have h1 : isT (tk l p) 4 [125] = false := by simpa using h1
    obtain ⟨x, j, y, ok, e1, e2, e3, e4⟩ := (H p hi (by omega)).st
    have E : Ev (fun k => eBlB l a k (c, p, false)) (.inl (c ++ [x], j, !ok)) := by
      simp only [eBlB]
      simp only [qs, Option.bind_some, Option.map_some, joinK, qb, ↓reduceIte, if_true, if_false, eq_self, Int.reduceBEq, Int.reduceBNe, h1]
      refine Ev.bind e1 ?_
      simp only [qs, Option.bind_some, Option.map_some, joinK, qb, ↓reduceIte, if_true, if_false, eq_self, Int.reduceBEq, Int.reduceBNe, room1 x (show c.length ≤ 1000000 by omega)]; exact Ev.pure
    cases ok with
    | false =>
      have := e4 rfl; subst this
      refine ⟨_, j, zN, false, EvL.step E (eBl_end _ _ _ _), EvL.done ?_, (fun h => by cases h), fun _ => rfl⟩
      simp only [rBlB]
      simp only [qs, Option.bind_some, Option.map_some, joinK, qb, ↓reduceIte, if_true, if_false, eq_self, Int.reduceBEq, Int.reduceBNe, h1]
      refine Ev.bind e2 ?_
      simp only [qs, Option.bind_some, Option.map_some, joinK, qb, ↓reduceIte, if_true, if_false, eq_self, Int.reduceBEq, Int.reduceBNe]; exact Ev.pure
    | true =>
      obtain ⟨rfl, q2, q3, q4⟩ := e3 rfl
      obtain ⟨x', j', y', ok', f1, f2, f3, f4⟩ := ih (n - 1) (by omega) j (c ++ [x]) (by omega) (by omega) (by omega) q3 (by simp; exact fun z hz => hz.elim (hg z) (fun e => e ▸ q4)) (by simp; omega)
      refine ⟨x', j', y', ok', EvL.step E f1, EvL.step (s' := (c ++ [x], j)) ?_ f2, fun h => ?_, f4⟩
      · simp only [rBlB]
        simp only [qs, Option.bind_some, Option.map_some, joinK, qb, ↓reduceIte, if_true, if_false, eq_self, Int.reduceBEq, Int.reduceBNe, h1]
        refine Ev.bind e2 ?_
        simp only [qs, Option.bind_some, Option.map_some, joinK, qb, ↓reduceIte, if_true, if_false, eq_self, Int.reduceBEq, Int.reduceBNe, room1 x (show c.length ≤ 1000000 by omega)]; exact Ev.pure
      · obtain ⟨g1, g2, g3, g4⟩ := f3 h
        exact ⟨g1, by omega, g3, g4⟩
theorem block_R {l : List TToken} (W : WF l) {i : Int} (H : ∀ j, i < j → j ≤ l.length → IS l j) : RG GB l i (eBlock l i) (rBlock l i) := by
  by_cases h1 : isT (tk l i) 4 [123] = true
  · obtain ⟨n1, n2, n3⟩ := W.next (i := i) (by rw [(isT_kind h1).1]; decide)
    obtain ⟨x, j, y, ok, e1, e2, e3, e4⟩ := block_loop W (tk l i).At H (l.length - (i + 1)).toNat (i + 1) [] (by omega) (by omega) (by omega) n2 (by simp) (by simp; omega)
    refine ⟨x, j, y, ok, Ev.sh 3 ?_, Ev.sh 1 ?_, fun h => ?_, e4⟩
    · simp only [eBlock, sBlock_eq]
      simp only [qs, Option.bind_some, Option.map_some, joinK, qb, ↓reduceIte, if_true, if_false, eq_self, Int.reduceBEq, Int.reduceBNe, h1, n3]
      exact (Ev.loop e1).up (n := 2)
    · simp only [rBlock, rBlock_eq]
      simp only [qs, Option.bind_some, Option.map_some, joinK, qb, ↓reduceIte, if_true, if_false, eq_self, Int.reduceBEq, Int.reduceBNe, h1, n3]
      exact Ev.loop e2
    · obtain ⟨g1, g2, g3, g4⟩ := e3 h
      exact ⟨g1, by omega, g3, g4⟩
  · have h1 : isT (tk l i) 4 [123] = false := by simpa using h1
    refine RG.bad (j := i) (n := ⟨30, (tk l i).At, 0, [], []⟩) (Ev.sh 3 ?_) (Ev.sh 1 ?_)
    · simp only [eBlock, sBlock_eq]
      simp only [qs, Option.bind_some, Option.map_some, joinK, qb, ↓reduceIte, if_true, if_false, eq_self, Int.reduceBEq, Int.reduceBNe, h1]
      exact (Ev.loop (eBl_end l _ i [])).up (n := 2)
    · simp only [rBlock, rBlock_eq]
      simp only [qs, Option.bind_some, Option.map_some, joinK, qb, ↓reduceIte, if_true, if_false, eq_self, Int.reduceBEq, Int.reduceBNe, h1]; exact Ev.pure
abbrev HT := Int × Int × Int × List UInt8 × Bool × List TNode × Int × Bool
theorem head_R {l : List TToken} (W : WF l) {i : Int} (H : ∀ j, i < j → j ≤ l.length → IS l j) (h0 : 0 ≤ i) (hi : i + 1 < l.length) (q : Int) :
    ∃ a c j1 j ok1 ok, Ev (fun k => stmt_cursor_expr k l (i + 1) false) (a, j1, !ok1) ∧ Ev (fun k => stmt_cursor_block k l j1 (!ok1)) (c, j, !ok) ∧
      Ev (fun k => ref14_headed k l i q) (if ok then (q, (tk l i).At, 0, [], true, [a, c], j, true) else (0, 0, 0, [], false, [], j, false)) ∧
      (ok = true → ok1 = true ∧ i < j ∧ j < l.length ∧ GEx a ∧ GB c) := by
  have hlen := W.len
  have n3 : IntKind.i64.wrap (i + 1) = i + 1 := wrap64_id (by omega) (by omega)
  obtain ⟨a, j, b, ok, e1, e2, e3, e4⟩ := sexpr_all W (i + 1)
  cases ok with
  | false =>
    have := e4 rfl; subst this
    refine ⟨a, _, j, j, false, false, e1, block_bad l j, Ev.sh 1 ?_, fun h => by cases h⟩
    simp only [ref14_headed]
    simp only [qs, Option.bind_some, Option.map_some, joinK, qb, ↓reduceIte, if_true, if_false, eq_self, Int.reduceBEq, Int.reduceBNe, n3]
    refine Ev.bind e2 ?_
    simp only [qs, Option.bind_some, Option.map_some, joinK, qb, ↓reduceIte, if_true, if_false, eq_self, Int.reduceBEq, Int.reduceBNe]; exact Ev.pure
  | true =>
    obtain ⟨rfl, q2, q3, q4⟩ := e3 rfl
    obtain ⟨c, j', d, ok', f1, f2, f3, f4⟩ := (H j (by omega) (by omega)).bl
    refine ⟨a, c, j, j', true, ok', e1, f1, Ev.sh 1 ?_, fun h => ?_⟩
    · simp only [ref14_headed]
      simp only [qs, Option.bind_some, Option.map_some, joinK, qb, ↓reduceIte, if_true, if_false, eq_self, Int.reduceBEq, Int.reduceBNe, n3]
      refine Ev.bind e2 ?_
      simp only [qs, Option.bind_some, Option.map_some, joinK, qb, ↓reduceIte, if_true, if_false, eq_self, Int.reduceBEq, Int.reduceBNe]
      refine Ev.bind f2 ?_
      cases ok'
      · have := f4 rfl; subst this
        simp only [qs, Option.bind_some, Option.map_some, joinK, qb, ↓reduceIte, if_true, if_false, eq_self, Int.reduceBEq, Int.reduceBNe]; exact Ev.pure
      · obtain ⟨rfl, g2, g3, g4⟩ := f3 rfl
        simp only [qs, Option.bind_some, Option.map_some, joinK, qb, ↓reduceIte, if_true, if_false, eq_self, Int.reduceBEq, Int.reduceBNe]; exact Ev.pure
    · obtain ⟨rfl, g2, g3, g4⟩ := f3 h
      exact ⟨rfl, by omega, g3, q4, g4⟩
theorem choice_R {l : List TToken} (W : WF l) {i : Int} (H : ∀ j, i < j → j ≤ l.length → IS l j) (hif : isT (tk l i) 3 [105, 102] = true) : RG GI l i (eChoice l i) (rChoice l i) := by
  obtain ⟨n1, n2, n3⟩ := W.next (i := i) (by rw [(isT_kind hif).1]; decide)
  obtain ⟨a, c, j1, j, ok1, ok, e1, e2, e3, e4⟩ := head_R W H n1 n2 33
  have r1 := room1 (m := 0) a (by omega)
  have r2 := room1 (m := ([a] : List TNode).length) c (by simp)
  cases ok with
  | false =>
    refine RG.bad (j := j) (n := ⟨33, (tk l i).At, 0, [], [a, c]⟩) (Ev.sh 1 ?_) (Ev.sh 1 ?_)
    · simp only [eChoice, stmt_cursor_choice_v2]
      refine Ev.bind e1 ?_
      simp only [qs, Option.bind_some, Option.map_some, joinK, qb, ↓reduceIte, if_true, if_false, eq_self, Int.reduceBEq, Int.reduceBNe, List.nil_append, List.length_nil, r1]
      refine Ev.bind e2 ?_
      simp only [qs, Option.bind_some, Option.map_some, joinK, qb, ↓reduceIte, if_true, if_false, eq_self, Int.reduceBEq, Int.reduceBNe, r2]; exact Ev.pure
    · simp only [rChoice, ref14_choice]
      refine Ev.bind e3 ?_
      simp only [qs, Option.bind_some, Option.map_some, joinK, qb, ↓reduceIte, if_true, if_false, eq_self, Int.reduceBEq, Int.reduceBNe]; exact Ev.pure
  | true =>
    obtain ⟨rfl, g1, g2, g3, g4⟩ := e4 rfl
    by_cases h1 : isT (tk l j) 3 [101, 108, 115, 101] = true
    · obtain ⟨m1, m2, m3⟩ := W.next (i := j) (by rw [(isT_kind h1).1]; decide)
      have both : ∀ {e : Nat → Option (TNode × Int × Bool)} {r : Nat → Option Tref14_Got} {GG : TNode → Prop},
          (∀ x q b, Ev e (x, q, b) → Ev (eChoice l i) (⟨33, (tk l i).At, 0, [], [a, c, x]⟩, q, b)) →
          (∀ y q (ok : Bool), Ev r ⟨y, q, ok⟩ → Ev (rChoice l i) (if ok then ⟨⟨33, (tk l i).At, 0, [], [a, c, y]⟩, q, true⟩ else ⟨y, q, false⟩)) →
          (∀ x, GG x → GS x ∧ (x.Kind = 30 ∨ x.Kind = 33)) → RG GG l (j + 1) e r → RG GI l i (eChoice l i) (rChoice l i) := by
        intro e r GG he hr hG ⟨x, q, y, ok, f1, f2, f3, f4⟩
        have E := he _ _ _ f1
        have Rr := hr _ _ _ f2
        cases ok with
        | false => have := f4 rfl; subst this; exact RG.bad E Rr
        | true =>
          obtain ⟨rfl, p2, p3, p4⟩ := f3 rfl
          obtain ⟨p5, p6⟩ := hG _ p4
          exact RG.good E Rr ⟨by omega, p3⟩ ⟨gs_three _ g3 g4 p5 p6, rfl⟩
      have r3 : ∀ x : TNode, room 64 (([a] ++ [c] : List TNode).length + [x].length) = true := fun x => room1 x (by simp)
      by_cases h2 : isT (tk l (j + 1)) 3 [105, 102] = true
      · obtain ⟨p1, p2, p3⟩ := W.next (i := j + 1) (by rw [(isT_kind h2).1]; decide)
        refine both ?_ ?_ (fun x hx => ⟨hx.gs, Or.inr hx.kd⟩) ((H (j + 1) (by omega) (by omega)).ch h2)
        · intro x q b hx
          refine Ev.sh 1 ?_
          simp only [eChoice, stmt_cursor_choice_v2]
          refine Ev.bind e1 ?_
          simp only [qs, Option.bind_some, Option.map_some, joinK, qb, ↓reduceIte, if_true, if_false, eq_self, Int.reduceBEq, Int.reduceBNe, List.nil_append, List.length_nil, r1]
          refine Ev.bind e2 ?_
          simp only [qs, Option.bind_some, Option.map_some, joinK, qb, ↓reduceIte, if_true, if_false, eq_self, Int.reduceBEq, Int.reduceBNe, r2, h1, m3, slook_eq, h2, p3]
          refine Ev.bind hx ?_
          simp only [qs, Option.bind_some, Option.map_some, joinK, qb, ↓reduceIte, if_true, if_false, eq_self, Int.reduceBEq, Int.reduceBNe, r3]; exact Ev.pure
        · intro y q ok hy
          refine Ev.sh 1 ?_
          simp only [rChoice, ref14_choice]
          refine Ev.bind e3 ?_
          simp only [qs, Option.bind_some, Option.map_some, joinK, qb, ↓reduceIte, if_true, if_false, eq_self, Int.reduceBEq, Int.reduceBNe, h1, m3, h2]
          refine Ev.bind hy ?_
          cases ok
          · simp only [qs, Option.bind_some, Option.map_some, joinK, qb, ↓reduceIte, if_true, if_false, eq_self, Int.reduceBEq, Int.reduceBNe]; exact Ev.pure
          · simp only [qs, Option.bind_some, Option.map_some, joinK, qb, ↓reduceIte, if_true, if_false, eq_self, Int.reduceBEq, Int.reduceBNe, show room 64 (([a, c] : List TNode).length + [y].length) = true from r3 y]; exact Ev.pure
      · have h2 : isT (tk l (j + 1)) 3 [105, 102] = false := by simpa using h2
        refine both ?_ ?_ (fun x hx => ⟨hx.gs, Or.inl hx.kd⟩) ((H (j + 1) (by omega) (by omega)).bl)
        · intro x q b hx
          refine Ev.sh 1 ?_
          simp only [eChoice, stmt_cursor_choice_v2]
          refine Ev.bind e1 ?_
          simp only [qs, Option.bind_some, Option.map_some, joinK, qb, ↓reduceIte, if_true, if_false, eq_self, Int.reduceBEq, Int.reduceBNe, List.nil_append, List.length_nil, r1]
          refine Ev.bind e2 ?_
          simp only [qs, Option.bind_some, Option.map_some, joinK, qb, ↓reduceIte, if_true, if_false, eq_self, Int.reduceBEq, Int.reduceBNe, r2, h1, m3, slook_eq, h2]
          refine Ev.bind hx ?_
          simp only [qs, Option.bind_some, Option.map_some, joinK, qb, ↓reduceIte, if_true, if_false, eq_self, Int.reduceBEq, Int.reduceBNe, r3]; exact Ev.pure
        · intro y q ok hy
          refine Ev.sh 1 ?_
          simp only [rChoice, ref14_choice]
          refine Ev.bind e3 ?_
          simp only [qs, Option.bind_some, Option.map_some, joinK, qb, ↓reduceIte, if_true, if_false, eq_self, Int.reduceBEq, Int.reduceBNe, h1, m3, h2]
          refine Ev.bind hy ?_
          cases ok
          · simp only [qs, Option.bind_some, Option.map_some, joinK, qb, ↓reduceIte, if_true, if_false, eq_self, Int.reduceBEq, Int.reduceBNe]; exact Ev.pure
          · simp only [qs, Option.bind_some, Option.map_some, joinK, qb, ↓reduceIte, if_true, if_false, eq_self, Int.reduceBEq, Int.reduceBNe, show room 64 (([a, c] : List TNode).length + [y].length) = true from r3 y]; exact Ev.pure
    · have h1 : isT (tk l j) 3 [101, 108, 115, 101] = false := by simpa using h1
      refine RG.good (j := j) (n := ⟨33, (tk l i).At, 0, [], [a, c]⟩) (Ev.sh 1 ?_) (Ev.sh 1 ?_) ⟨g1, g2⟩ ⟨gs_two _ 33 (Or.inl rfl) g3 g4, rfl⟩
      · simp only [eChoice, stmt_cursor_choice_v2]
        refine Ev.bind e1 ?_
        simp only [qs, Option.bind_some, Option.map_some, joinK, qb, ↓reduceIte, if_true, if_false, eq_self, Int.reduceBEq, Int.reduceBNe, List.nil_append, List.length_nil, r1]
        refine Ev.bind e2 ?_
        simp only [qs, Option.bind_some, Option.map_some, joinK, qb, ↓reduceIte, if_true, if_false, eq_self, Int.reduceBEq, Int.reduceBNe, r2, h1]; exact Ev.pure
      · simp only [rChoice, ref14_choice]
        refine Ev.bind e3 ?_
        simp only [qs, Option.bind_some, Option.map_some, joinK, qb, ↓reduceIte, if_true, if_false, eq_self, Int.reduceBEq, Int.reduceBNe, h1]; exact Ev.pure
end Go.Proofs.YtjakhfaodfaimaaGreatDoor.F
