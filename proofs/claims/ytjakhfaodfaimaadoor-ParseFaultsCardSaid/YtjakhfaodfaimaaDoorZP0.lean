/- The plain law. No condition. -/
import Derived.Test.YtjakhfaodfaimaaDoorZA1
import Derived.Test.YtjakhfaodfaimaaDoorZF0
set_option linter.unusedVariables false
namespace Go.Proofs.YtjakhfaodfaimaaDoor.F
open Go
def Ev {α : Type} (g : Nat → Option α) (x : α) : Prop := ∃ k0, ∀ k, k0 ≤ k → g k = some x
def EvL {σ ρ : Type} (body : Nat → σ → Option (σ ⊕ ρ)) (s : σ) (r : ρ) : Prop := ∃ k0, ∀ k j, k0 ≤ k → k0 ≤ j → loopM j (body k) s = some r
section
variable {α β σ ρ : Type}
theorem Ev.of {g : Nat → Option α} {x : α} (h : ∀ k, g k = some x) : Ev g x := ⟨0, fun k _ => h k⟩
theorem Ev.at {g : Nat → Option α} {x : α} (n : Nat) (h : ∀ k, g (k + n) = some x) : Ev g x := ⟨n, fun k hk => by have := h (k - n); rwa [show k - n + n = k by omega] at this⟩
theorem Ev.pure {x : α} : Ev (fun _ => some x) x := ⟨0, fun _ _ => rfl⟩
theorem Ev.bind {g : Nat → Option α} {f : Nat → α → Option β} {x : α} {y : β} (h : Ev g x) (h2 : Ev (fun k => f k x) y) : Ev (fun k => (g k).bind (f k)) y := by
  obtain ⟨k1, h1⟩ := h
  obtain ⟨k2, h2⟩ := h2
  exact ⟨max k1 k2, fun k hk => by show (g k).bind (f k) = _; rw [h1 k (by omega)]; exact h2 k (by omega)⟩
theorem Ev.bindS {g : Nat → Option α} {f : Nat → α → Option β} {x : α} {y : β} (h : ∀ k, g k = some x) (h2 : Ev (fun k => f k x) y) : Ev (fun k => (g k).bind (f k)) y := Ev.bind (Ev.of h) h2
theorem Ev.ite_t {c : Bool} {A B : Nat → Option α} {x : α} (hc : c = true) (h : Ev A x) : Ev (fun k => if c = true then A k else B k) x := by
  obtain ⟨k1, h1⟩ := h
  exact ⟨k1, fun k hk => by show (if c = true then A k else B k) = _; rw [if_pos hc]; exact h1 k hk⟩
theorem Ev.ite_f {c : Bool} {A B : Nat → Option α} {x : α} (hc : c = false) (h : Ev B x) : Ev (fun k => if c = true then A k else B k) x := by
  obtain ⟨k1, h1⟩ := h
  exact ⟨k1, fun k hk => by show (if c = true then A k else B k) = _; rw [if_neg (by rw [hc]; simp)]; exact h1 k hk⟩
theorem Ev.map {g : Nat → Option ρ} {r : ρ} (h : Ev g r) : Ev (fun k => (g k).map (Sum.inr (α := σ))) (.inr r) := by
  obtain ⟨k1, h1⟩ := h
  exact ⟨k1, fun k hk => by show (g k).map _ = _; rw [h1 k hk]; rfl⟩
theorem Ev.succ {g h : Nat → Option α} {x : α} (e : ∀ k, g (k + 1) = h k) (hh : Ev h x) : Ev g x := by
  obtain ⟨k1, h1⟩ := hh
  refine ⟨k1 + 1, fun k hk => ?_⟩
  obtain ⟨k, rfl⟩ : ∃ j, k = j + 1 := ⟨k - 1, by omega⟩
  rw [e]; exact h1 k (by omega)
theorem Ev.congr {g h : Nat → Option α} {x : α} (e : ∀ k, g k = h k) (hh : Ev h x) : Ev g x := by
  obtain ⟨k1, h1⟩ := hh
  exact ⟨k1, fun k hk => by rw [e]; exact h1 k hk⟩
theorem Ev.eq {g : Nat → Option α} {x y : α} (h : Ev g x) (e : x = y) : Ev g y := e ▸ h
theorem EvL.done {body : Nat → σ → Option (σ ⊕ ρ)} {s : σ} {r : ρ} (h : Ev (fun k => body k s) (.inr r)) : EvL body s r := by
  obtain ⟨k1, h1⟩ := h
  refine ⟨k1 + 1, fun k j hk hj => ?_⟩
  obtain ⟨j, rfl⟩ : ∃ i, j = i + 1 := ⟨j - 1, by omega⟩
  have := h1 k (by omega)
  simp only at this
  rw [loopM_step, this]
theorem EvL.step {body : Nat → σ → Option (σ ⊕ ρ)} {s s' : σ} {r : ρ} (h : Ev (fun k => body k s) (.inl s')) (h2 : EvL body s' r) : EvL body s r := by
  obtain ⟨k1, h1⟩ := h
  obtain ⟨k2, h2⟩ := h2
  refine ⟨k1 + k2 + 1, fun k j hk hj => ?_⟩
  obtain ⟨j, rfl⟩ : ∃ i, j = i + 1 := ⟨j - 1, by omega⟩
  have := h1 k (by omega)
  simp only at this
  rw [loopM_step, this]
  exact h2 k j (by omega) (by omega)
theorem Ev.loop {body : Nat → σ → Option (σ ⊕ ρ)} {s : σ} {r : ρ} (h : EvL body s r) : Ev (fun k => loopM k (body k) s) r := by
  obtain ⟨k1, h1⟩ := h
  exact ⟨k1, fun k hk => h1 k k hk hk⟩
theorem Ev.joinK {J : Nat → α → Option ρ} {B : Nat → (α → Option ρ) → Option ρ} {r : ρ} (h : Ev (fun k => B k (J k)) r) : Ev (fun k => F.joinK (J k) (B k)) r := h
theorem Ev.uniq {g : Nat → Option α} {x y : α} (h : Ev g x) (h2 : Ev g y) : x = y := by
  obtain ⟨k1, h1⟩ := h
  obtain ⟨k2, h2⟩ := h2
  have a := h1 (max k1 k2) (by omega)
  have b := h2 (max k1 k2) (by omega)
  rw [a] at b; exact Option.some.inj b
end
theorem Ev.succ1 {α : Type} {f : Nat → Option α} {x : α} (h : Ev (fun k => f (k + 1)) x) : Ev f x := Ev.succ (fun _ => rfl) h
theorem loop_ex {σ ρ : Type} {body : Nat → σ → Option (σ ⊕ ρ)} (Inv : σ → Prop) (m : σ → Nat) (Q : ρ → Prop)
    (h : ∀ s, Inv s → (∃ r, Ev (fun k => body k s) (.inr r) ∧ Q r) ∨ (∃ s', Ev (fun k => body k s) (.inl s') ∧ Inv s' ∧ m s' < m s)) :
    ∀ s, Inv s → ∃ r, EvL body s r ∧ Q r := by
  intro s
  induction hn : m s using Nat.strongRecOn generalizing s with
  | _ n ih =>
  intro hs
  rcases h s hs with ⟨r, h1, h2⟩ | ⟨s', h1, h2, h3⟩
  · exact ⟨r, EvL.done h1, h2⟩
  · obtain ⟨r, g1, g2⟩ := ih (m s') (by omega) s' rfl h2
    exact ⟨r, EvL.step h1 g1, g2⟩
theorem ix_of {α : Type} {l : List α} {i : Int} {x : α} (h0 : 0 ≤ i) (h : l[i.toNat]? = some x) : ix l i = some x := by unfold ix; rw [if_pos h0]; exact h
theorem ix_nat {α : Type} {l : List α} {i : Nat} (h : i < l.length) : ix l (i : Int) = some l[i] := by unfold ix; rw [if_pos (by omega)]; simp [h]
theorem room_of {b n : Nat} (h0 : 0 < b) (h : (2 * n + 1024) * b ≤ 140737488355328) : room b n = true := by unfold room; exact decide_eq_true ⟨h0, h⟩
theorem qb : ((!true) = false) ∧ ((!false) = true) ∧ ((false = true) = False) ∧ (∀ b : Bool, (b || true) = true) ∧ (∀ b : Bool, (true || b) = true) ∧ (∀ b : Bool, (false || b) = b) ∧ (∀ b : Bool, (b || false) = b) ∧
    (∀ b : Bool, (b && true) = b) ∧ (∀ b : Bool, (b && false) = false) ∧ (∀ b : Bool, (true && b) = b) ∧ (∀ b : Bool, (false && b) = false) ∧ (∀ a : Int, (a == a) = true) ∧ (∀ a : Int, (a != a) = false) ∧
    (∀ a : List UInt8, (a == a) = true) ∧ (∀ a : Bool, (a == a) = true) := by
  refine ⟨rfl, rfl, by simp, ?_, ?_, ?_, ?_, ?_, ?_, ?_, ?_, ?_, ?_, ?_, ?_⟩ <;> intro b <;> simp
end Go.Proofs.YtjakhfaodfaimaaDoor.F
set_option linter.unusedSimpArgs false
namespace Go.Proofs.YtjakhfaodfaimaaDoor.F
open Go
def tk (l : List TToken) (i : Int) : TToken := if 0 ≤ i then (l[i.toNat]?).getD ⟨0, 0, 0, []⟩ else ⟨0, 0, 0, []⟩
def isT (t : TToken) (kind : Int) (s : List UInt8) : Bool := (t.Kind == kind) && (t.Text == s)
theorem tk_in {l : List TToken} {i : Int} (h : (tk l i).Kind ≠ 0) : 0 ≤ i ∧ i < l.length := by
  unfold tk at h
  split at h
  · rename_i h0
    refine ⟨h0, ?_⟩
    cases hx : l[i.toNat]? with
    | none => rw [hx] at h; exact (h rfl).elim
    | some x => have := (List.getElem?_eq_some_iff.1 hx).1; omega
  · exact (h rfl).elim
theorem tok_body (l : List TToken) (i : Int) {k : Nat} : (if ((decide (i < 0)) || (decide (i ≥ ((l.length : Int))))) then some (TToken.mk 0 0 0 []) else (ix l i).bind fun x => some x) = some (tk l i) := by
  unfold tk
  by_cases h0 : 0 ≤ i
  · rw [if_pos h0]
    by_cases h1 : i < l.length
    · rw [if_neg (by simp; omega)]
      have : l[i.toNat]? = some l[i.toNat] := List.getElem?_eq_getElem (by omega)
      rw [ix_of h0 this, this]; rfl
    · rw [if_pos (by simp; omega), List.getElem?_eq_none (by omega)]; rfl
  · rw [if_neg h0, if_pos (by simp; omega)]
theorem Tok_eq (k : Nat) (l : List TToken) (i : Int) : ref13_Tok k l i = some (tk l i) := tok_body l i (k := k)
theorem look_eq (k : Nat) (l : List TToken) (i : Int) (b : Bool) : expr_reader_look k l i b = some (tk l i) := tok_body l i (k := k)
theorem Says_eq (k : Nat) (l : List TToken) (i : Int) (s : List UInt8) : ref13_Says k l i s = some (isT (tk l i) 3 s) := by unfold ref13_Says; rw [Tok_eq]; rfl
theorem Is_eq (k : Nat) (l : List TToken) (i : Int) (s : List UInt8) : ref13_Is k l i s = some (isT (tk l i) 4 s) := by unfold ref13_Is; rw [Tok_eq]; rfl
theorem is_eq (k : Nat) (kd : Int) (s : List UInt8) (l : List TToken) (i : Int) (b : Bool) : expr_reader_is k kd s l i b = some (isT (tk l i) kd s) := by unfold expr_reader_is; rw [look_eq]; rfl
theorem takes_bad (k : Nat) (s : List UInt8) (l : List TToken) (i : Int) : expr_reader_takes k s l i true = some (false, i) := rfl
theorem takes_eq (k : Nat) (s : List UInt8) (l : List TToken) (i : Int) : expr_reader_takes k s l i false = some (if isT (tk l i) 4 s then (true, IntKind.i64.wrap (i + 1)) else (false, i)) := by
  unfold expr_reader_takes joinK
  simp only [Bool.false_eq_true, if_false, is_eq, Option.bind_some]
  cases isT (tk l i) 4 s <;> rfl
theorem wants_bad (k : Nat) (s : List UInt8) (l : List TToken) (i : Int) : expr_reader_wants k s l i true = some (i, true) := rfl
theorem wants_eq (k : Nat) (s : List UInt8) (l : List TToken) (i : Int) : expr_reader_wants k s l i false = some (if isT (tk l i) 4 s then (IntKind.i64.wrap (i + 1), false) else (i, true)) := by
  unfold expr_reader_wants
  rw [takes_eq]
  cases isT (tk l i) 4 s <;> rfl
theorem name_bad (k : Nat) (l : List TToken) (i : Int) : expr_reader_name k l i true = some ([], i, true) := by unfold expr_reader_name; rw [look_eq]; rfl
theorem name_eq (k : Nat) (l : List TToken) (i : Int) : expr_reader_name k l i false = some (if (tk l i).Kind != 1 then ([], i, true) else ((tk l i).Text, IntKind.i64.wrap (i + 1), false)) := by
  unfold expr_reader_name
  rw [look_eq]
  simp only [Option.bind_some, Bool.false_or]
  cases h : (tk l i).Kind != 1 <;> simp [h]
theorem qe : (∀ k l i b, expr_reader_look k l i b = some (tk l i)) ∧ (∀ k l i, ref13_Tok k l i = some (tk l i)) ∧ (∀ k kd s l i b, expr_reader_is k kd s l i b = some (isT (tk l i) kd s)) ∧
    (∀ k s l i, expr_reader_takes k s l i false = some (if isT (tk l i) 4 s then (true, IntKind.i64.wrap (i + 1)) else (false, i))) ∧ (∀ k s l i, expr_reader_takes k s l i true = some (false, i)) ∧
    (∀ k s l i, expr_reader_wants k s l i false = some (if isT (tk l i) 4 s then (IntKind.i64.wrap (i + 1), false) else (i, true))) ∧ (∀ k s l i, expr_reader_wants k s l i true = some (i, true)) ∧
    (∀ k l i, expr_reader_name k l i false = some (if (tk l i).Kind != 1 then ([], i, true) else ((tk l i).Text, IntKind.i64.wrap (i + 1), false))) ∧ (∀ k l i, expr_reader_name k l i true = some ([], i, true)) ∧
    (∀ k l i s, ref13_Is k l i s = some (isT (tk l i) 4 s)) ∧ (∀ k l i s, ref13_Says k l i s = some (isT (tk l i) 3 s)) :=
  ⟨look_eq, Tok_eq, is_eq, takes_eq, takes_bad, wants_eq, wants_bad, name_eq, name_bad, Is_eq, Says_eq⟩
structure WF (l : List TToken) : Prop where
  len : l.length ≤ 100000
  last : ∀ p : Int, p + 1 = l.length → (tk l p).Kind = 0
  names : ∀ p : Int, (tk l p).Kind = 1 → Ev (fun k => ref11_Named k (tk l p).Text) true
  nums : ∀ p : Int, (tk l p).Kind = 2 → 0 ≤ (tk l p).N
theorem WF.next {l : List TToken} (h : WF l) {i : Int} (hk : (tk l i).Kind ≠ 0) : 0 ≤ i ∧ i + 1 < l.length ∧ IntKind.i64.wrap (i + 1) = i + 1 := by
  obtain ⟨h1, h2⟩ := tk_in hk
  have h3 : i + 1 ≠ l.length := fun e => hk (h.last i e)
  have := h.len
  exact ⟨h1, by omega, wrap64_id (by omega) (by omega)⟩
theorem isT_kind {t : TToken} {k : Int} {s : List UInt8} (h : isT t k s = true) : t.Kind = k ∧ t.Text = s := by unfold isT at h; simpa using h
theorem isT_of {t : TToken} {k : Int} {s : List UInt8} (h : t.Kind = k) (h2 : t.Text = s) : isT t k s = true := by unfold isT; simp [h, h2]
theorem isT_ne {t : TToken} {k : Int} {s : List UInt8} (h : t.Kind ≠ k) : isT t k s = false := by unfold isT; simp [h]
theorem isT_txt {t : TToken} {k : Int} {s : List UInt8} (h : t.Text ≠ s) : isT t k s = false := by unfold isT; simp [h]
abbrev GE (n : TNode) : Prop := Ev (fun k => ref11_Expr k n) true
abbrev GT (n : TNode) : Prop := Ev (fun k => ref11_Type k n) true
theorem exprs_good : ∀ (l m : List TNode), (∀ n ∈ l, GE n) → m.length + l.length ≤ 1000000 → EvL (σ := Int) (ρ := Bool) (fun k (l1_3 : Int) =>
    if (decide (l1_3 < (((m ++ l).length : Int)))) then
    (ix (m ++ l) l1_3).bind fun x4_2 =>
    (ref11_Expr k x4_2).bind fun x4_4 =>
    if (!x4_4) then
    some (.inr false)
    else
    some (.inl (IntKind.i64.wrap (l1_3 + 1)))
    else
    (some true).map .inr) (m.length : Int) true
  | [], m, _, _ => EvL.done (Ev.ite_f (by simp) (Ev.of fun _ => rfl))
  | n :: l, m, h, hl => by
    have ih := exprs_good l (m ++ [n]) (fun x hx => h x (by simp [hx])) (by simp at hl ⊢; omega)
    refine EvL.step (Ev.ite_t (by simp; omega) ?_) (s' := ((m ++ [n]).length : Int)) ?_
    · refine Ev.bindS (x := n) (fun k => ix_of (by omega) (by simp)) ?_
      refine Ev.bind (h n (by simp)) (Ev.ite_f rfl (Ev.eq Ev.pure ?_))
      rw [wrap64_id (by omega) (by simp at hl; omega)]; simp
    · simpa using ih
theorem exprs_all {l : List TNode} (h : ∀ n ∈ l, GE n) (hl : l.length ≤ 1000000) : Ev (fun k => ref11_exprs k l) true := by
  refine Ev.succ (fun k => by rw [ref11_exprs]) ?_
  refine Ev.joinK (Ev.loop ?_)
  have := exprs_good l [] h (by simpa using hl)
  simpa using this
end Go.Proofs.YtjakhfaodfaimaaDoor.F
namespace Go.Proofs.YtjakhfaodfaimaaDoor.F
open Go
abbrev Nm (s : List UInt8) : Prop := Ev (fun k => ref11_Named k s) true
theorem Type_eq (k : Nat) (n : TNode) : ref11_Type (k + 1) n = (if (n.N != 0) then some false else if (n.Kind == 4) then (ref11_Named k n.Name).bind fun x4_2 => some (x4_2 && (((n.Kids.length : Int)) == 0)) else
    if (!(n.Name == [])) then some false else if (n.Kind == 5) then
    joinK (fun (g8_10_34 : Bool) => some g8_10_34) fun j_g8_10 => if (((n.Kids.length : Int)) == 1) then (ix n.Kids 0).bind fun x8_7 => (ref11_Type k x8_7).bind fun x8_9 => j_g8_10 x8_9 else j_g8_10 false
    else some (((decide (n.Kind ≥ 1)) && (decide (n.Kind ≤ 3))) && (((n.Kids.length : Int)) == 0))) := by rw [ref11_Type]
theorem gt_rec (a : Int) {s : List UInt8} (h : Nm s) : GT ⟨4, a, 0, s, []⟩ := by
  refine Ev.succ (fun k => Type_eq k _) ?_
  refine Ev.ite_f rfl (Ev.ite_t rfl (Ev.bind h (Ev.of fun _ => rfl)))
theorem gt_one (a : Int) {k : Int} (h : 1 ≤ k ∧ k ≤ 3) : GT ⟨k, a, 0, [], []⟩ := by
  refine Ev.succ (fun j => Type_eq j _) ?_
  refine Ev.ite_f rfl (Ev.ite_f (by simp; omega) (Ev.ite_f rfl (Ev.ite_f (by simp; omega) (Ev.of fun _ => ?_))))
  simp; omega
theorem gt_arr (a : Int) {n : TNode} (h : GT n) : GT ⟨5, a, 0, [], [n]⟩ := by
  refine Ev.succ (fun j => Type_eq j _) ?_
  refine Ev.ite_f rfl (Ev.ite_f rfl (Ev.ite_f rfl (Ev.ite_t rfl ?_)))
  exact Ev.joinK (Ev.ite_t rfl (Ev.bindS (x := n) (fun _ => rfl) (Ev.bind h (Ev.of fun _ => rfl))))
theorem Expr_eq (k : Nat) (a0 : TNode) : ref11_Expr (k + 1) a0 = (if (a0.Kind == 19) then
    (ref11_alone k a0).bind fun x3_1 =>
    joinK (fun (g3_12_22 : Bool) =>
    joinK (fun (g3_18_28 : Bool) =>
    some g3_18_28) fun j_g3_18 =>
    if g3_12_22 then
    (sub a0.Kids 1 (a0.Kids.length : Int)).bind fun x3_16 =>
    (ref11_exprs k x3_16).bind fun x3_17 =>
    j_g3_18 x3_17
    else
    j_g3_18 false) fun j_g3_12 =>
    if (x3_1 && (decide ((a0.Kids.length : Int) > 0))) then
    (ix a0.Kids 0).bind fun x3_9 =>
    (ref11_Type k x3_9).bind fun x3_11 =>
    j_g3_12 x3_11
    else
    j_g3_12 false
    else
    (ref11_exprs k a0.Kids).bind fun x4_2 =>
    if (!x4_2) then
    some false
    else
    if ((a0.Kind == 10) || (a0.Kind == 11)) then
    some (((((a0.Kids.length : Int) == 0) && (a0.Name == [])) && (decide (a0.N ≥ 0))) && ((a0.Kind == 10) || (decide (a0.N ≤ 1))))
    else
    if ((a0.Kind == 15) || (a0.Kind == 16)) then
    if (a0.Kind == 15) then
    some ((((a0.Kids.length : Int) == 1) && (a0.Name == [])) && ((a0.N == 2) || (a0.N == 14)))
    else
    joinK (fun (g11_12_103 : Bool) =>
    some g11_12_103) fun j_g11_12 =>
    if (((a0.Kids.length : Int) == 2) && (a0.Name == [])) then
    (ref09_Bind k a0.N).bind fun x11_10 =>
    j_g11_12 (decide (x11_10 > 0))
    else
    j_g11_12 false
    else
    if (a0.Kind == 13) then
    joinK (fun (g13_5_112 : Bool) =>
    some g13_5_112) fun j_g13_5 =>
    if ((a0.Kids.length : Int) == 2) then
    (ref11_alone k a0).bind fun x13_4 =>
    j_g13_5 x13_4
    else
    j_g13_5 false
    else
    joinK (fun (g14_8_121 : Bool) =>
    if g14_8_121 then
    some false
    else
    some (((((a0.Kind == 12) && ((a0.Kids.length : Int) == 0)) || ((a0.Kind == 14) && ((a0.Kids.length : Int) == 1))) || (a0.Kind == 17)) || (a0.Kind == 18))) fun j_g14_8 =>
    if (a0.N != 0) then
    j_g14_8 true
    else
    (ref11_Named k a0.Name).bind fun x14_6 =>
    j_g14_8 (!x14_6)) := by rw [ref11_Expr]
theorem exprs_nil : Ev (fun k => ref11_exprs k []) true := exprs_all (by simp) (by simp)
theorem exprs_one {a : TNode} (h : GE a) : Ev (fun k => ref11_exprs k [a]) true := exprs_all (by simpa using h) (by simp)
theorem exprs_two {a b : TNode} (h : GE a) (h2 : GE b) : Ev (fun k => ref11_exprs k [a, b]) true := exprs_all (by simp; exact ⟨h, h2⟩) (by simp)
theorem ge_num (a : Int) {n : Int} (h : 0 ≤ n) : GE ⟨10, a, n, [], []⟩ := by
  refine Ev.succ (fun k => Expr_eq k _) (Ev.ite_f rfl (Ev.bind exprs_nil (Ev.ite_f rfl (Ev.ite_t rfl (Ev.of fun _ => ?_)))))
  simp [h]
theorem ge_flag (a : Int) {n : Int} (h : n = 0 ∨ n = 1) : GE ⟨11, a, n, [], []⟩ := by
  refine Ev.succ (fun k => Expr_eq k _) (Ev.ite_f rfl (Ev.bind exprs_nil (Ev.ite_f rfl (Ev.ite_t rfl (Ev.of fun _ => ?_)))))
  rcases h with rfl | rfl <;> simp
theorem ge_un (a : Int) {s : Int} {n : TNode} (h : s = 2 ∨ s = 14) (hn : GE n) : GE ⟨15, a, s, [], [n]⟩ := by
  refine Ev.succ (fun k => Expr_eq k _) (Ev.ite_f rfl (Ev.bind (exprs_one hn) (Ev.ite_f rfl (Ev.ite_f rfl (Ev.ite_t rfl (Ev.ite_t rfl (Ev.of fun _ => ?_)))))))
  rcases h with rfl | rfl <;> simp
theorem ge_bin (a : Int) {s b : Int} {n m : TNode} (h : ∀ k, ref09_Bind k s = some b) (hb : 0 < b) (hn : GE n) (hm : GE m) : GE ⟨16, a, s, [], [n, m]⟩ := by
  refine Ev.succ (fun k => Expr_eq k _) (Ev.ite_f rfl (Ev.bind (exprs_two hn hm) (Ev.ite_f rfl (Ev.ite_f rfl (Ev.ite_t rfl (Ev.ite_f rfl ?_))))))
  refine Ev.joinK (Ev.ite_t rfl (Ev.bindS h (Ev.of fun _ => ?_)))
  simp [hb]
theorem ge_index (a : Int) {n m : TNode} (hn : GE n) (hm : GE m) : GE ⟨13, a, 0, [], [n, m]⟩ := by
  refine Ev.succ (fun k => Expr_eq k _) (Ev.ite_f rfl (Ev.bind (exprs_two hn hm) (Ev.ite_f rfl (Ev.ite_f rfl (Ev.ite_f rfl (Ev.ite_t rfl ?_))))))
  exact Ev.joinK (Ev.ite_t rfl (Ev.bindS (fun _ => rfl) (Ev.of fun _ => rfl)))
theorem ge_named (kd a : Int) {s : List UInt8} {l : List TNode} (hs : Nm s) (hl : ∀ n ∈ l, GE n) (hn : l.length ≤ 1000000) (hk : (kd = 12 ∧ l = []) ∨ (kd = 14 ∧ l.length = 1) ∨ kd = 17 ∨ kd = 18) : GE ⟨kd, a, 0, s, l⟩ := by
  have h1 : kd ≠ 19 ∧ kd ≠ 10 ∧ kd ≠ 11 ∧ kd ≠ 15 ∧ kd ≠ 16 ∧ kd ≠ 13 := by omega
  obtain ⟨h1, h2, h3, h4, h5, h6⟩ := h1
  refine Ev.succ (fun k => Expr_eq k _) (Ev.ite_f (by simpa using h1) (Ev.bind (exprs_all hl hn) (Ev.ite_f rfl (Ev.ite_f (by simp [h2, h3]) (Ev.ite_f (by simp [h4, h5]) (Ev.ite_f (by simpa using h6) ?_))))))
  refine Ev.joinK (Ev.ite_f rfl (Ev.bind hs (Ev.of fun _ => ?_)))
  rcases hk with ⟨rfl, rfl⟩ | ⟨rfl, hk⟩ | rfl | rfl <;> simp_all
theorem ge_new (a : Int) {t : TNode} {l : List TNode} (ht : GT t) (hl : ∀ n ∈ l, GE n) (hn : l.length ≤ 1000000) : GE ⟨19, a, 0, [], t :: l⟩ := by
  refine Ev.succ (fun k => Expr_eq k _) (Ev.ite_t rfl (Ev.bindS (fun _ => rfl) ?_))
  refine Ev.joinK (Ev.ite_t (by simp) (Ev.bindS (x := t) (fun _ => rfl) (Ev.bind ht ?_)))
  refine Ev.joinK (Ev.ite_t rfl (Ev.bindS (x := l) (fun _ => ?_) (Ev.bind (exprs_all hl hn) (Ev.of fun _ => rfl))))
  unfold sub
  rw [if_pos (by simp; omega)]
  simp
theorem Placed_eq (k : Nat) (a0 a1 : TNode) : ref13_Placed (k + 1) a0 a1 = (if (((((a0.Kind != a1.Kind) || (a0.At != a1.At)) || (a0.N != a1.N)) || (!(a0.Name == a1.Name))) || (((a0.Kids.length : Int)) != ((a1.Kids.length : Int)))) then
    some false
    else
    joinK (fun (_ : Unit) =>
    some true) fun j_j0 =>
    loopM k (fun (l1_5 : Int) =>
    if (decide (l1_5 < ((a0.Kids.length : Int)))) then
    (ix a0.Kids l1_5).bind fun x6_3 =>
    (ix a1.Kids l1_5).bind fun x6_8 =>
    (ref13_Placed k x6_3 x6_8).bind fun x6_10 =>
    if (!x6_10) then
    some (.inr false)
    else
    some (.inl (IntKind.i64.wrap (l1_5 + 1)))
    else
    (j_j0 ()).map .inr) 0) := by rw [ref13_Placed]
inductive Wide : TNode → Prop
  | mk {n : TNode} (h : ∀ x ∈ n.Kids, Wide x) (hl : n.Kids.length ≤ 1000000) : Wide n
theorem placed_self {n : TNode} (h : Wide n) : Ev (fun k => ref13_Placed k n n) true := by
  induction h with
  | @mk n h hl ih =>
    refine Ev.succ (fun k => Placed_eq k _ _) (Ev.ite_f (by simp) (Ev.joinK (Ev.loop ?_)))
    have key : ∀ (l m : List TNode), n.Kids = m ++ l → EvL (σ := Int) (ρ := Bool) (fun k (l1_5 : Int) =>
        if (decide (l1_5 < ((n.Kids.length : Int)))) then
        (ix n.Kids l1_5).bind fun x6_3 =>
        (ix n.Kids l1_5).bind fun x6_8 =>
        (ref13_Placed k x6_3 x6_8).bind fun x6_10 =>
        if (!x6_10) then
        some (.inr false)
        else
        some (.inl (IntKind.i64.wrap (l1_5 + 1)))
        else
        (some true).map .inr) (m.length : Int) true := by
      intro l
      induction l with
      | nil => intro m hm; exact EvL.done (Ev.ite_f (by rw [hm]; simp) (Ev.of fun _ => rfl))
      | cons x l ihl =>
        intro m hm
        have hx : x ∈ n.Kids := by rw [hm]; simp
        have hlen : n.Kids.length = m.length + (l.length + 1) := by rw [hm]; simp
        have hix : ix n.Kids (m.length : Int) = some x := ix_of (by omega) (by rw [hm]; simp)
        refine EvL.step (Ev.ite_t (by simp; omega) (Ev.bindS (fun _ => hix) (Ev.bindS (fun _ => hix) (Ev.bind (ih x hx) (Ev.ite_f rfl Ev.pure))))) ?_
        rw [wrap64_id (by omega) (by omega)]
        have := ihl (m ++ [x]) (by rw [hm]; simp)
        simpa using this
    exact key n.Kids [] rfl
end Go.Proofs.YtjakhfaodfaimaaDoor.F
set_option maxRecDepth 100000
namespace Go.Proofs.YtjakhfaodfaimaaDoor.F
open Go
def spells : List (List UInt8) := [[43], [45], [42], [47], [37], [61, 61], [33, 61], [60], [60, 61], [62], [62, 61], [38, 38], [124, 124], [33]]
def sgR (t : TToken) (lev : Int) (k : Nat) (j_j0 : Unit → Option Int) (l1_8 : Int) : Option (Int ⊕ Int) :=
    if (decide (l1_8 ≤ 14)) then
    joinK (fun (g5_9_25 : Bool) =>
    joinK (fun (g5_15_31 : Bool) =>
    if g5_15_31 then
    some (.inr l1_8)
    else
    some (.inl (IntKind.i64.wrap (l1_8 + 1)))) fun j_g5_15 =>
    if g5_9_25 then
    (ref09_Bind k l1_8).bind fun x5_12 =>
    j_g5_15 (x5_12 == lev)
    else
    j_g5_15 false) fun j_g5_9 =>
    if (t.Kind == 4) then
    (ref09_Spell k l1_8).bind fun x5_5 =>
    j_g5_9 (x5_5 == t.Text)
    else
    j_g5_9 false
    else
    (j_j0 ()).map .inr
theorem refsign_eq (k : Nat) (l : List TToken) (i lev : Int) : ref13_sign k l i lev = loopM k (sgR (tk l i) lev k (fun _ => some 0)) 1 := by
  unfold ref13_sign
  rw [Tok_eq]
  rfl
theorem sg_none {t : TToken} {lev : Int} (h : t.Kind ≠ 4 ∨ ∀ s : Nat, 1 ≤ s → s ≤ 14 → (spells[s - 1]? ≠ some t.Text)) : ∀ (d s : Nat), s + d = 15 → 1 ≤ s → EvL (fun k => sgR t lev k (fun _ => some 0)) (s : Int) 0
  | 0, s, e, _ => EvL.done (Ev.ite_f (by simp; omega) (Ev.of fun _ => rfl))
  | d + 1, s, e, h1 => by
    have ih := sg_none (lev := lev) h d (s + 1) (by omega) (by omega)
    refine EvL.step (s' := ((s + 1 : Nat) : Int)) ?_ ih
    refine Ev.ite_t (by simp; omega) (Ev.joinK ?_)
    have hw : IntKind.i64.wrap ((s : Int) + 1) = ((s + 1 : Nat) : Int) := by rw [wrap64_id (by omega) (by omega)]; simp
    rcases h with h | h
    · refine Ev.ite_f (by simpa using h) (Ev.joinK (Ev.ite_f rfl (Ev.ite_f rfl (Ev.of fun _ => by rw [hw]))))
    · by_cases hk : t.Kind = 4
      · have hs := h s h1 (by omega)
        obtain ⟨x, hx⟩ : ∃ x, spells[s - 1]? = some x := ⟨_, List.getElem?_eq_getElem (by simp [spells]; omega)⟩
        have hsp : ∀ k, ref09_Spell k (s : Int) = some x := by
          intro k
          unfold ref09_Spell
          rw [if_neg (by simp; omega)]
          rw [ix_of (x := x) (by rw [wrap64_id (by omega) (by omega)]; omega) (by rw [wrap64_id (by omega) (by omega)]; rw [show ((s : Int) - 1).toNat = s - 1 by omega]; exact hx)]
          rfl
        refine Ev.ite_t (by simpa using hk) (Ev.bindS hsp (Ev.joinK (Ev.ite_f ?_ (Ev.ite_f rfl (Ev.of fun _ => by rw [hw])))))
        have : x ≠ t.Text := fun e => hs (by rw [hx, e])
        simpa using this
      · exact Ev.ite_f (by simpa using hk) (Ev.joinK (Ev.ite_f rfl (Ev.ite_f rfl (Ev.of fun _ => by rw [hw]))))
def bindOf : Nat → Int
  | 1 => 4 | 2 => 4 | 3 => 5 | 4 => 5 | 5 => 5 | 6 => 3 | 7 => 3 | 8 => 3 | 9 => 3 | 10 => 3 | 11 => 3 | 12 => 2 | 13 => 1 | _ => 0
theorem binds : ∀ s : Nat, 1 ≤ s → s ≤ 14 → ∀ k, ref09_Bind k (s : Int) = some (bindOf s) ∧ word_Bind k (s : Int) = some (bindOf s) := by
  intro s h1 h2 k
  match s, h1, h2 with
  | 1, _, _ => exact ⟨rfl, rfl⟩
  | 2, _, _ => exact ⟨rfl, rfl⟩
  | 3, _, _ => exact ⟨rfl, rfl⟩
  | 4, _, _ => exact ⟨rfl, rfl⟩
  | 5, _, _ => exact ⟨rfl, rfl⟩
  | 6, _, _ => exact ⟨rfl, rfl⟩
  | 7, _, _ => exact ⟨rfl, rfl⟩
  | 8, _, _ => exact ⟨rfl, rfl⟩
  | 9, _, _ => exact ⟨rfl, rfl⟩
  | 10, _, _ => exact ⟨rfl, rfl⟩
  | 11, _, _ => exact ⟨rfl, rfl⟩
  | 12, _, _ => exact ⟨rfl, rfl⟩
  | 13, _, _ => exact ⟨rfl, rfl⟩
  | 14, _, _ => exact ⟨rfl, rfl⟩
theorem spell_at (s : Nat) (h1 : 1 ≤ s) (h2 : s ≤ 14) {x : List UInt8} (hx : spells[s - 1]? = some x) (k : Nat) : ref09_Spell k (s : Int) = some x := by
  unfold ref09_Spell
  rw [if_neg (by simp; omega)]
  rw [ix_of (x := x) (by rw [wrap64_id (by omega) (by omega)]; omega) (by rw [wrap64_id (by omega) (by omega)]; rw [show ((s : Int) - 1).toNat = s - 1 by omega]; exact hx)]
  rfl
theorem spells_inj {a b : Nat} (ha : a < 14) (hb : b < 14) {x : List UInt8} (h1 : spells[a]? = some x) (h2 : spells[b]? = some x) : a = b := by
  have : ∀ a, a < 14 → ∀ b, b < 14 → spells[a]? = spells[b]? → a = b := by decide
  exact this a ha b hb (by rw [h1, h2])
theorem sg_to {t : TToken} {lev : Int} (hk : t.Kind = 4) {n : Nat} (hn1 : 1 ≤ n) (hn2 : n ≤ 14) (hx : spells[n - 1]? = some t.Text) : ∀ (d s : Nat), s + d = n → 1 ≤ s → EvL (fun k => sgR t lev k (fun _ => some 0)) (s : Int) (if bindOf n = lev then (n : Int) else 0)
  | 0, s, e, h1 => by
    have e : s = n := by omega
    subst e
    by_cases hb : bindOf s = lev
    · rw [if_pos hb]
      refine EvL.done (Ev.ite_t (by simp; omega) (Ev.joinK (Ev.ite_t (by simpa using hk) (Ev.bindS (spell_at s h1 hn2 hx) (Ev.joinK (Ev.ite_t (by simp) ?_))))))
      exact Ev.bindS (fun k => (binds s h1 hn2 k).1) (Ev.ite_t (by simpa using hb) Ev.pure)
    · rw [if_neg hb]
      have hw : IntKind.i64.wrap ((s : Int) + 1) = ((s + 1 : Nat) : Int) := by rw [wrap64_id (by omega) (by omega)]; simp
      have rest : EvL (fun k => sgR t lev k (fun _ => some 0)) ((s + 1 : Nat) : Int) 0 := by
        -- no other text fits
        have : ∀ (d q : Nat), q + d = 15 → s < q → EvL (fun k => sgR t lev k (fun _ => some 0)) (q : Int) 0 := by
          intro d
          induction d with
          | zero => intro q e h; exact EvL.done (Ev.ite_f (by simp; omega) (Ev.of fun _ => rfl))
          | succ d ih =>
            intro q e h
            have hwq : IntKind.i64.wrap ((q : Int) + 1) = ((q + 1 : Nat) : Int) := by rw [wrap64_id (by omega) (by omega)]; simp
            obtain ⟨x, hxq⟩ : ∃ x, spells[q - 1]? = some x := ⟨_, List.getElem?_eq_getElem (by simp [spells]; omega)⟩
            refine EvL.step (s' := ((q + 1 : Nat) : Int)) ?_ (ih (q + 1) (by omega) (by omega))
            refine Ev.ite_t (by simp; omega) (Ev.joinK (Ev.ite_t (by simpa using hk) (Ev.bindS (spell_at q (by omega) (by omega) hxq) (Ev.joinK (Ev.ite_f ?_ (Ev.ite_f rfl (Ev.of fun _ => by rw [hwq])))))))
            have : x ≠ t.Text := fun e' => by
              have := spells_inj (a := s - 1) (b := q - 1) (by omega) (by omega) hx (by rw [hxq, e'])
              omega
            simpa using this
        exact this (14 - s) (s + 1) (by omega) (by omega)
      refine EvL.step (s' := ((s + 1 : Nat) : Int)) ?_ rest
      refine Ev.ite_t (by simp; omega) (Ev.joinK (Ev.ite_t (by simpa using hk) (Ev.bindS (spell_at s h1 hn2 hx) (Ev.joinK (Ev.ite_t (by simp) ?_)))))
      exact Ev.bindS (fun k => (binds s h1 hn2 k).1) (Ev.ite_f (by simpa using hb) (Ev.of fun _ => by rw [hw]))
  | d + 1, s, e, h1 => by
    have hw : IntKind.i64.wrap ((s : Int) + 1) = ((s + 1 : Nat) : Int) := by rw [wrap64_id (by omega) (by omega)]; simp
    obtain ⟨x, hxq⟩ : ∃ x, spells[s - 1]? = some x := ⟨_, List.getElem?_eq_getElem (by simp [spells]; omega)⟩
    refine EvL.step (s' := ((s + 1 : Nat) : Int)) ?_ (sg_to hk hn1 hn2 hx d (s + 1) (by omega) (by omega))
    refine Ev.ite_t (by simp; omega) (Ev.joinK (Ev.ite_t (by simpa using hk) (Ev.bindS (spell_at s (by omega) (by omega) hxq) (Ev.joinK (Ev.ite_f ?_ (Ev.ite_f rfl (Ev.of fun _ => by rw [hw])))))))
    have : x ≠ t.Text := fun e' => by
      have := spells_inj (a := n - 1) (b := s - 1) (by omega) (by omega) hx (by rw [hxq, e'])
      omega
    simpa using this
def wsR (x : List UInt8) (k : Nat) (j_j0 : Unit → Option (Int × Bool)) (l1_7 : Int) : Option (Int ⊕ (Int × Bool)) :=
    if (decide (l1_7 < 15)) then
    (ix g_word_spellings l1_7).bind fun x3_1 =>
    if ((decide (l1_7 > 0)) && (x3_1 == x)) then
    some (.inr (l1_7, true))
    else
    some (.inl (IntKind.i64.wrap (l1_7 + 1)))
    else
    (j_j0 ()).map .inr
theorem wordsign_eq (k : Nat) (x : List UInt8) : word_Sign k x = loopM k (wsR x k (fun _ => some (0, false))) 0 := rfl
theorem gsp (s : Nat) (h1 : 1 ≤ s) (h2 : s ≤ 14) : ix g_word_spellings (s : Int) = spells[s - 1]? := by
  have : ∀ s, s < 15 → 1 ≤ s → g_word_spellings[s]? = spells[s - 1]? := by decide
  unfold ix
  rw [if_pos (by omega)]
  have := this s (by omega) h1
  simpa using this
theorem ws_from {x : List UInt8} (n : Nat) (hn : n ≤ 15) (hx : n < 15 → 1 ≤ n ∧ spells[n - 1]? = some x) (hno : ∀ s, 1 ≤ s → s < n → spells[s - 1]? ≠ some x) : ∀ (d s : Nat), s + d = n → EvL (fun k => wsR x k (fun _ => some (0, false))) (s : Int) (if n < 15 then ((n : Int), true) else (0, false))
  | 0, s, e => by
    have e : s = n := by omega
    subst e
    by_cases h : s < 15
    · rw [if_pos h]
      obtain ⟨h1, h2⟩ := hx h
      exact EvL.done (Ev.ite_t (by simp; omega) (Ev.bindS (x := x) (fun _ => by rw [gsp s h1 (by omega)]; exact h2) (Ev.ite_t (by simp; omega) Ev.pure)))
    · rw [if_neg h]
      exact EvL.done (Ev.ite_f (by simp; omega) (Ev.of fun _ => rfl))
  | d + 1, s, e => by
    have hw : IntKind.i64.wrap ((s : Int) + 1) = ((s + 1 : Nat) : Int) := by rw [wrap64_id (by omega) (by omega)]; simp
    refine EvL.step (s' := ((s + 1 : Nat) : Int)) ?_ (ws_from n hn hx hno d (s + 1) (by omega))
    refine Ev.ite_t (by simp; omega) ?_
    by_cases h0 : s = 0
    · subst h0
      exact Ev.bindS (x := []) (fun _ => rfl) (Ev.ite_f rfl (Ev.of fun _ => by rw [hw]))
    · obtain ⟨y, hy⟩ : ∃ y, spells[s - 1]? = some y := ⟨_, List.getElem?_eq_getElem (by simp [spells]; omega)⟩
      refine Ev.bindS (x := y) (fun _ => by rw [gsp s (by omega) (by omega)]; exact hy) (Ev.ite_f ?_ (Ev.of fun _ => by rw [hw]))
      have : y ≠ x := fun e' => hno s (by omega) (by omega) (by rw [hy, e'])
      simp [this]
theorem find_spell (x : List UInt8) : (∃ n, 1 ≤ n ∧ n ≤ 14 ∧ spells[n - 1]? = some x) ∨ ∀ s, 1 ≤ s → s ≤ 14 → spells[s - 1]? ≠ some x := by
  by_cases h : x ∈ spells
  · left
    obtain ⟨i, hi⟩ := List.mem_iff_getElem?.1 h
    have := (List.getElem?_eq_some_iff.1 hi).1
    exact ⟨i + 1, by omega, by simp [spells] at this; omega, by simpa using hi⟩
  · right
    intro s _ _ hs
    exact h (List.mem_of_getElem? hs)
theorem sign_both (l : List TToken) (i lev : Int) : ∃ s : Int, Ev (fun k => expr_reader_sign k lev l i false) s ∧ Ev (fun k => ref13_sign k l i lev) s ∧ (s ≠ 0 → (tk l i).Kind = 4 ∧ ∀ k, ref09_Bind k s = some lev) := by
  have hd : ∀ s, Ev (fun k => loopM k (sgR (tk l i) lev k (fun _ => some 0)) 1) s → Ev (fun k => ref13_sign k l i lev) s := fun s h => Ev.congr (fun k => refsign_eq k l i lev) h
  have he : ∀ s (p : Int × Bool), Ev (fun k => word_Sign k (tk l i).Text) p → Ev (fun k => joinK (fun (g3_11_27 : Bool) => if g3_11_27 then some p.1 else some 0) fun j => if (p.2 && ((tk l i).Kind == 4)) then (word_Bind k p.1).bind fun x3_8 => j (x3_8 == lev) else j false) s → Ev (fun k => expr_reader_sign k lev l i false) s := by
    intro s p h1 h2
    refine Ev.bindS (x := tk l i) (fun k => look_eq k l i false) (Ev.bind h1 ?_)
    exact h2
  rcases find_spell (tk l i).Text with ⟨n, h1, h2, h3⟩ | hno
  · have hw : Ev (fun k => word_Sign k (tk l i).Text) ((n : Int), true) := by
      have := Ev.loop (ws_from (x := (tk l i).Text) n (by omega) (fun _ => ⟨h1, h3⟩) (fun s q1 q2 q3 => by have := spells_inj (a := s - 1) (b := n - 1) (by omega) (by omega) q3 h3; omega) n 0 (by omega))
      rw [if_pos (by omega)] at this
      exact Ev.congr (fun k => wordsign_eq k _) this
    by_cases hk : (tk l i).Kind = 4
    · refine ⟨if bindOf n = lev then (n : Int) else 0, he _ _ hw ?_, hd _ ?_, fun h => ⟨hk, fun k => ?_⟩⟩
      · refine Ev.joinK (Ev.ite_t (by simpa using hk) (Ev.bindS (fun k => (binds n h1 h2 k).2) ?_))
        by_cases hb : bindOf n = lev
        · rw [if_pos hb]; exact Ev.ite_t (by simpa using hb) Ev.pure
        · rw [if_neg hb]; exact Ev.ite_f (by simpa using hb) Ev.pure
      · exact Ev.loop (sg_to hk h1 h2 h3 (n - 1) 1 (by omega) (by omega))
      · by_cases hb : bindOf n = lev
        · rw [if_pos hb, ← hb]; exact (binds n h1 h2 k).1
        · rw [if_neg hb] at h; exact (h rfl).elim
    · refine ⟨0, he _ _ hw ?_, hd _ ?_, fun h => (h rfl).elim⟩
      · exact Ev.joinK (Ev.ite_f (by simpa using hk) (Ev.ite_f rfl Ev.pure))
      · exact Ev.loop (sg_none (.inl hk) 14 1 (by omega) (by omega))
  · have hw : Ev (fun k => word_Sign k (tk l i).Text) ((0 : Int), false) := by
      have := Ev.loop (ws_from (x := (tk l i).Text) 15 (by omega) (fun h => by omega) (fun s q1 q2 => hno s q1 (by omega)) 15 0 (by omega))
      rw [if_neg (by omega)] at this
      exact Ev.congr (fun k => wordsign_eq k _) this
    refine ⟨0, he _ _ hw ?_, hd _ ?_, fun h => (h rfl).elim⟩
    · exact Ev.joinK (Ev.ite_f rfl (Ev.ite_f rfl Ev.pure))
    · exact Ev.loop (sg_none (.inr fun s q1 q2 => hno s q1 q2) 14 1 (by omega) (by omega))
end Go.Proofs.YtjakhfaodfaimaaDoor.F
namespace Go.Proofs.YtjakhfaodfaimaaDoor.F
open Go
abbrev zN : TNode := ⟨0, 0, 0, [], []⟩
def R (G : TNode → Prop) (l : List TToken) (i : Int) (e r : Nat → Option (TNode × Int × Bool)) : Prop :=
  ∃ n j m ok, Ev e (n, j, !ok) ∧ Ev r (m, j, ok) ∧ (ok = true → n = m ∧ i < j ∧ j < l.length ∧ G m) ∧ (ok = false → m = zN)
theorem R.bad {G : TNode → Prop} {l : List TToken} {i : Int} {e r : Nat → Option (TNode × Int × Bool)} {n : TNode} {j : Int} (h1 : Ev e (n, j, true)) (h2 : Ev r (zN, j, false)) : R G l i e r := ⟨n, j, zN, false, h1, h2, (fun h => by cases h), fun _ => rfl⟩
theorem R.good {G : TNode → Prop} {l : List TToken} {i : Int} {e r : Nat → Option (TNode × Int × Bool)} {n : TNode} {j : Int} (h1 : Ev e (n, j, false)) (h2 : Ev r (n, j, true)) (hj : i < j ∧ j < l.length) (hg : G n) : R G l i e r := ⟨n, j, n, true, h1, h2, (fun _ => ⟨rfl, hj.1, hj.2, hg⟩), fun h => by cases h⟩
structure GEx (n : TNode) : Prop where
  ge : GE n
  wide : Wide n
structure GTy (n : TNode) : Prop where
  gt : GT n
  wide : Wide n
structure GAr (l : List TNode) : Prop where
  all : ∀ n ∈ l, GEx n
  len : l.length ≤ 100000
theorem wide0 {k a n : Int} {s : List UInt8} : Wide ⟨k, a, n, s, []⟩ := ⟨by simp, by simp⟩
theorem wide1 {k a n : Int} {s : List UInt8} {x : TNode} (h : Wide x) : Wide ⟨k, a, n, s, [x]⟩ := ⟨by simpa using h, by simp⟩
theorem wide2 {k a n : Int} {s : List UInt8} {x y : TNode} (h : Wide x) (h2 : Wide y) : Wide ⟨k, a, n, s, [x, y]⟩ := ⟨by simp; exact ⟨h, h2⟩, by simp⟩
theorem wideL {k a n : Int} {s : List UInt8} {l : List TNode} (h : ∀ x ∈ l, Wide x) (h2 : l.length ≤ 1000000) : Wide ⟨k, a, n, s, l⟩ := ⟨h, h2⟩
abbrev eKind (l : List TToken) (i : Int) (k : Nat) := expr_reader_kind k l i false
abbrev rType (l : List TToken) (i : Int) (k : Nat) := ref13_Type k l i
theorem kind_step (k : Nat) (l : List TToken) (i : Int) : expr_reader_kind (k + 1) l i false = (
    joinK (fun ((j0_oext0_1, j0_oloc4_0) : Int × Int) =>
    some ((TNode.mk j0_oloc4_0 (tk l i).At 0 [] []), (IntKind.i64.wrap (j0_oext0_1 + 1)), false)) fun j_j0 =>
    if ((tk l i).Kind == 1) then
    (expr_reader_name k l i false).bind fun (x6_1_0, x6_1_1, x6_1_2) =>
    some ((TNode.mk 4 (tk l i).At 0 x6_1_0 []), x6_1_1, x6_1_2)
    else
    if isT (tk l i) 4 [91] then
    (expr_reader_wants k [93] l (IntKind.i64.wrap (i + 1)) false).bind fun (x9_1_0, x9_1_1) =>
    if x9_1_1 then
    some ((TNode.mk 0 (tk l i).At 0 [] []), x9_1_0, x9_1_1)
    else
    (expr_reader_kind k l x9_1_0 x9_1_1).bind fun (x12_1_0, x12_1_1, x12_1_2) =>
    some ((TNode.mk 5 (tk l i).At 0 [] [x12_1_0]), x12_1_1, x12_1_2)
    else
    if isT (tk l i) 3 [105, 110, 116] then
    j_j0 (i, 1)
    else
    if isT (tk l i) 3 [98, 111, 111, 108] then
    j_j0 (i, 2)
    else
    if isT (tk l i) 3 [114, 101, 118] then
    j_j0 (i, 3)
    else
    some ((TNode.mk 0 (tk l i).At 0 [] []), i, true)) := by
  rw [expr_reader_kind, look_eq]
  simp only [Option.bind_some, takes_eq, is_eq, joinK]
  cases isT (tk l i) 4 [91] <;> simp
theorem type_step (k : Nat) (l : List TToken) (i : Int) : ref13_Type (k + 1) l i = (
    if ((tk l i).Kind == 1) then
    some ((TNode.mk 4 (tk l i).At 0 (tk l i).Text []), (IntKind.i64.wrap (i + 1)), true)
    else
    if isT (tk l i) 3 [105, 110, 116] then
    some ((TNode.mk 1 (tk l i).At 0 [] []), (IntKind.i64.wrap (i + 1)), true)
    else
    if isT (tk l i) 3 [98, 111, 111, 108] then
    some ((TNode.mk 2 (tk l i).At 0 [] []), (IntKind.i64.wrap (i + 1)), true)
    else
    if isT (tk l i) 3 [114, 101, 118] then
    some ((TNode.mk 3 (tk l i).At 0 [] []), (IntKind.i64.wrap (i + 1)), true)
    else
    if (!isT (tk l i) 4 [91]) then
    some ((TNode.mk 0 0 0 [] []), i, false)
    else
    if (!isT (tk l (IntKind.i64.wrap (i + 1))) 4 [93]) then
    some ((TNode.mk 0 0 0 [] []), (IntKind.i64.wrap (i + 1)), false)
    else
    (ref13_Type k l (IntKind.i64.wrap (i + 2))).bind fun (x14_3_0, x14_3_1, x14_3_2) =>
    if (!x14_3_2) then
    some ((TNode.mk 0 0 0 [] []), x14_3_1, false)
    else
    some ((TNode.mk 5 (tk l i).At 0 [] [x14_3_0]), x14_3_1, true)) := by
  rw [ref13_Type, Tok_eq]
  simp only [Option.bind_some, Says_eq, Is_eq]
theorem type_R {l : List TToken} (W : WF l) : ∀ (n : Nat) (i : Int), (l.length : Int) - i ≤ n → R GTy l i (eKind l i) (rType l i) := by
  intro n
  induction n using Nat.strongRecOn with
  | _ n ih =>
  intro i hi
  by_cases h1 : (tk l i).Kind = 1
  · obtain ⟨n1, n2, n3⟩ := W.next (i := i) (by omega)
    refine R.good (Ev.succ (fun k => kind_step k l i) (Ev.joinK (Ev.ite_t (by simpa using h1) (Ev.bindS (fun k => name_eq k l i) (Ev.of fun _ => ?_))))) (Ev.succ (fun k => type_step k l i) (Ev.ite_t (by simpa using h1) (Ev.of fun _ => rfl))) ⟨by rw [n3]; omega, by rw [n3]; omega⟩ ⟨gt_rec _ (W.names i h1), wide0⟩
    simp [h1]
  · by_cases h2 : isT (tk l i) 4 [91] = true
    · have hk := (isT_kind h2).1
      obtain ⟨n1, n2, n3⟩ := W.next (i := i) (by omega)
      have s1 : ∀ s, isT (tk l i) 3 s = false := fun s => isT_ne (by omega)
      by_cases h3 : isT (tk l (i + 1)) 4 [93] = true
      · have hk2 := (isT_kind h3).1
        obtain ⟨m1, m2, m3⟩ := W.next (i := i + 1) (by omega)
        obtain ⟨a, j, b, ok, e1, e2, e3, e4⟩ := ih (n - 2) (by omega) (i + 2) (by omega)
        have hw2 : IntKind.i64.wrap (i + 2) = i + 2 := by rw [show i + 2 = i + 1 + 1 by omega]; exact m3
        have E : Ev (eKind l i) ((TNode.mk 5 (tk l i).At 0 [] [a]), j, !ok) := by
          refine Ev.succ (fun k => kind_step k l i) (Ev.joinK (Ev.ite_f (by simpa using h1) (Ev.ite_t h2 (Ev.bindS (x := (i + 2, false)) (fun k => by rw [n3, wants_eq, if_pos h3, m3, show i + 1 + 1 = i + 2 by omega]) (Ev.ite_f rfl (Ev.bind e1 Ev.pure))))))
        have Rr : Ev (rType l i) (if (!ok) = true then ((TNode.mk 0 0 0 [] []), j, false) else ((TNode.mk 5 (tk l i).At 0 [] [b]), j, true)) := by
          refine Ev.succ (fun k => type_step k l i) (Ev.ite_f (by simpa using h1) (Ev.ite_f (s1 _) (Ev.ite_f (s1 _) (Ev.ite_f (s1 _) (Ev.ite_f (by simp [h2]) (Ev.ite_f (by rw [n3]; simp [h3]) ?_))))))
          rw [hw2]
          refine Ev.bind e2 ?_
          cases ok
          · exact Ev.ite_t rfl Ev.pure
          · exact Ev.ite_f rfl Ev.pure
        cases ok with
        | false => exact R.bad E Rr
        | true =>
          obtain ⟨rfl, q2, q3, q4⟩ := e3 rfl
          exact R.good E Rr ⟨by omega, q3⟩ ⟨gt_arr _ q4.gt, wide1 q4.wide⟩
      · have h3 : isT (tk l (i + 1)) 4 [93] = false := by simpa using h3
        refine R.bad (Ev.succ (fun k => kind_step k l i) (Ev.joinK (Ev.ite_f (by simpa using h1) (Ev.ite_t h2 (Ev.bindS (x := (i + 1, true)) (fun k => by rw [n3, wants_eq, h3]; rfl) (Ev.ite_t rfl Ev.pure))))))
          (Ev.succ (fun k => type_step k l i) (Ev.ite_f (by simpa using h1) (Ev.ite_f (s1 _) (Ev.ite_f (s1 _) (Ev.ite_f (s1 _) (Ev.ite_f (by simp [h2]) (Ev.ite_t (by rw [n3]; simp [h3]) (Ev.of fun _ => by rw [n3]))))))))
    · have h2 : isT (tk l i) 4 [91] = false := by simpa using h2
      have fin : ∀ (kd : Int), (tk l i).Kind = 3 → 1 ≤ kd ∧ kd ≤ 3 → Ev (eKind l i) ((TNode.mk kd (tk l i).At 0 [] []), i + 1, false) → Ev (rType l i) ((TNode.mk kd (tk l i).At 0 [] []), i + 1, true) → R GTy l i (eKind l i) (rType l i) := by
        intro kd hk hb e1 e2
        obtain ⟨n1, n2, n3⟩ := W.next (i := i) (by omega)
        exact R.good e1 e2 ⟨by omega, n2⟩ ⟨gt_one _ hb, wide0⟩
      have hw : (tk l i).Kind = 3 → IntKind.i64.wrap (i + 1) = i + 1 := fun hk => (W.next (i := i) (by omega)).2.2
      by_cases h3 : isT (tk l i) 3 [105, 110, 116] = true
      · have hk := (isT_kind h3).1
        exact fin 1 hk (by omega) (Ev.succ (fun k => kind_step k l i) (Ev.joinK (Ev.ite_f (by simpa using h1) (Ev.ite_f h2 (Ev.ite_t h3 (Ev.of fun _ => by simp only [hw hk]))))))
          (Ev.succ (fun k => type_step k l i) (Ev.ite_f (by simpa using h1) (Ev.ite_t h3 (Ev.of fun _ => by simp only [hw hk]))))
      have h3 : isT (tk l i) 3 [105, 110, 116] = false := by simpa using h3
      by_cases h4 : isT (tk l i) 3 [98, 111, 111, 108] = true
      · have hk := (isT_kind h4).1
        exact fin 2 hk (by omega) (Ev.succ (fun k => kind_step k l i) (Ev.joinK (Ev.ite_f (by simpa using h1) (Ev.ite_f h2 (Ev.ite_f h3 (Ev.ite_t h4 (Ev.of fun _ => by simp only [hw hk])))))))
          (Ev.succ (fun k => type_step k l i) (Ev.ite_f (by simpa using h1) (Ev.ite_f h3 (Ev.ite_t h4 (Ev.of fun _ => by simp only [hw hk])))))
      have h4 : isT (tk l i) 3 [98, 111, 111, 108] = false := by simpa using h4
      by_cases h5 : isT (tk l i) 3 [114, 101, 118] = true
      · have hk := (isT_kind h5).1
        exact fin 3 hk (by omega) (Ev.succ (fun k => kind_step k l i) (Ev.joinK (Ev.ite_f (by simpa using h1) (Ev.ite_f h2 (Ev.ite_f h3 (Ev.ite_f h4 (Ev.ite_t h5 (Ev.of fun _ => by simp only [hw hk]))))))))
          (Ev.succ (fun k => type_step k l i) (Ev.ite_f (by simpa using h1) (Ev.ite_f h3 (Ev.ite_f h4 (Ev.ite_t h5 (Ev.of fun _ => by simp only [hw hk]))))))
      have h5 : isT (tk l i) 3 [114, 101, 118] = false := by simpa using h5
      exact R.bad (Ev.succ (fun k => kind_step k l i) (Ev.joinK (Ev.ite_f (by simpa using h1) (Ev.ite_f h2 (Ev.ite_f h3 (Ev.ite_f h4 (Ev.ite_f h5 Ev.pure)))))))
        (Ev.succ (fun k => type_step k l i) (Ev.ite_f (by simpa using h1) (Ev.ite_f h3 (Ev.ite_f h4 (Ev.ite_f h5 (Ev.ite_t (by simp [h2]) Ev.pure))))))
theorem type_all {l : List TToken} (W : WF l) (i : Int) : R GTy l i (eKind l i) (rType l i) := type_R W ((l.length : Int) - i).toNat i (by omega)
end Go.Proofs.YtjakhfaodfaimaaDoor.F
namespace Go.Proofs.YtjakhfaodfaimaaDoor.F
open Go
abbrev eArgs (l : List TToken) (i : Int) (k : Nat) := expr_reader_args k l i false
abbrev rArgs (l : List TToken) (i : Int) (k : Nat) := ref13_Args k l i
abbrev eFirst (l : List TToken) (i : Int) (k : Nat) := expr_reader_first k l i false
abbrev rFirst (l : List TToken) (i : Int) (k : Nat) := ref13_first k l i
abbrev ePart (l : List TToken) (i : Int) (k : Nat) := expr_reader_part k l i false
abbrev rPart (l : List TToken) (i : Int) (k : Nat) := ref13_part k l i
abbrev eFactor (l : List TToken) (i : Int) (k : Nat) := expr_reader_factor k l i false
abbrev rFactor (l : List TToken) (i : Int) (k : Nat) := ref13_factor k l i
abbrev eLevel (l : List TToken) (i lev : Int) (k : Nat) := expr_reader_level k lev l i false
abbrev rLevel (l : List TToken) (i lev : Int) (k : Nat) := ref13_level k l i lev
abbrev rExpr (l : List TToken) (i : Int) (k : Nat) := ref13_Expr k l i
theorem expr_of {l : List TToken} {i : Int} {p : TNode × Int × Bool} (h : Ev (rLevel l i 1) p) : Ev (rExpr l i) p := by
  refine Ev.succ1 ?_
  simp only [rExpr, ref13_Expr]
  exact Ev.bind h Ev.pure
theorem args_bad (l : List TToken) (i : Int) : Ev (fun k => expr_reader_args k l i true) ([], i, true) := by
  refine Ev.succ1 ?_
  simp only [expr_reader_args]
  simp only [qe, Option.bind_some, Option.map_some, joinK, qb, ↓reduceIte, if_true, if_false, eq_self, Int.reduceBEq, Int.reduceBNe]
  refine Ev.loop (EvL.done (Ev.of fun _ => ?_))
  simp only [qe, Option.bind_some, Option.map_some, joinK, qb, ↓reduceIte, if_true, if_false, eq_self, Int.reduceBEq, Int.reduceBNe]
structure IH (l : List TToken) (i : Int) : Prop where
  lev : ∀ q, 1 ≤ q → q ≤ 6 → ∀ j, i < j → j ≤ l.length → R GEx l j (eLevel l j q) (rLevel l j q)
  fac : ∀ j, i < j → j ≤ l.length → R GEx l j (eFactor l j) (rFactor l j)
theorem IH.mono {l : List TToken} {i j : Int} (H : IH l i) (h : i ≤ j) : IH l j := ⟨fun q a b p h1 => H.lev q a b p (by omega), fun p h1 => H.fac p (by omega)⟩
def eArgsB (l : List TToken) (k : Nat) (s : List TNode × Int × Bool) : Option ((List TNode × Int × Bool) ⊕ (List TNode × Int × Bool)) :=
  match s with
  | (l1_3, l1_oext0_1, l1_oext0_2) =>
    if (!l1_oext0_2) then
    (expr_reader_level k 1 l l1_oext0_1 l1_oext0_2).bind fun (x6_2_0, x6_2_1, x6_2_2) =>
    if (room 64 (l1_3.length + [x6_2_0].length)) then
    (expr_reader_takes k [41] l x6_2_1 x6_2_2).bind fun (x7_1_0, x7_1_1) =>
    if x7_1_0 then
    some (.inr ((l1_3 ++ [x6_2_0]), x7_1_1, x6_2_2))
    else
    (expr_reader_wants k [44] l x7_1_1 x6_2_2).bind fun (x9_1_0, x9_1_1) =>
    some (.inl ((l1_3 ++ [x6_2_0]), x9_1_0, x9_1_1))
    else none
    else
    (some (([] : List TNode), l1_oext0_1, l1_oext0_2)).map .inr
def rArgsB (l : List TToken) (k : Nat) (s : List TNode × Int) : Option ((List TNode × Int) ⊕ (List TNode × Int × Bool)) :=
  match s with
  | (l0_7, l0_1) =>
    (ref13_Expr k l l0_1).bind fun (x7_2_0, x7_2_1, x7_2_2) =>
    if (!x7_2_2) then
    some (.inr ([], x7_2_1, false))
    else
    if (room 64 (l0_7.length + [x7_2_0].length)) then
    (ref13_Is k l x7_2_1 [41]).bind fun x11_2 =>
    if x11_2 then
    some (.inr ((l0_7 ++ [x7_2_0]), (IntKind.i64.wrap (x7_2_1 + 1)), true))
    else
    (ref13_Is k l x7_2_1 [44]).bind fun x13_2 =>
    if (!x13_2) then
    some (.inr ([], x7_2_1, false))
    else
    some (.inl ((l0_7 ++ [x7_2_0]), (IntKind.i64.wrap (x7_2_1 + 1))))
    else none
theorem eArgs_eq (k : Nat) (l : List TToken) (i : Int) : expr_reader_args (k + 1) l i false = (
    if isT (tk l i) 4 [40] then
    if isT (tk l (IntKind.i64.wrap (i + 1))) 4 [41] then some ([], IntKind.i64.wrap (IntKind.i64.wrap (i + 1) + 1), false)
    else loopM k (eArgsB l k) ([], IntKind.i64.wrap (i + 1), false)
    else loopM k (eArgsB l k) ([], i, true)) := by
  rw [expr_reader_args]
  cases h1 : isT (tk l i) 4 [40]
  · simp only [qe, Option.bind_some, Option.map_some, joinK, qb, ↓reduceIte, if_true, if_false, eq_self, Int.reduceBEq, Int.reduceBNe, h1]; rfl
  · simp only [qe, Option.bind_some, Option.map_some, joinK, qb, ↓reduceIte, if_true, if_false, eq_self, Int.reduceBEq, Int.reduceBNe, h1]
    cases h2 : isT (tk l (IntKind.i64.wrap (i + 1))) 4 [41]
    · simp only [qe, Option.bind_some, Option.map_some, joinK, qb, ↓reduceIte, if_true, if_false, eq_self, Int.reduceBEq, Int.reduceBNe, h2]; rfl
    · simp only [qe, Option.bind_some, Option.map_some, joinK, qb, ↓reduceIte, if_true, if_false, eq_self, Int.reduceBEq, Int.reduceBNe, h2]
theorem rArgs_eq (k : Nat) (l : List TToken) (i : Int) : ref13_Args (k + 1) l i = (
    if isT (tk l i) 4 [40] then
    if isT (tk l (IntKind.i64.wrap (i + 1))) 4 [41] then some ([], IntKind.i64.wrap (IntKind.i64.wrap (i + 1) + 1), true)
    else loopM k (rArgsB l k) ([], IntKind.i64.wrap (i + 1))
    else some ([], i, false)) := by
  rw [ref13_Args]
  cases h1 : isT (tk l i) 4 [40]
  · simp only [qe, Option.bind_some, Option.map_some, joinK, qb, ↓reduceIte, if_true, if_false, eq_self, Int.reduceBEq, Int.reduceBNe, h1]
  · simp only [qe, Option.bind_some, Option.map_some, joinK, qb, ↓reduceIte, if_true, if_false, eq_self, Int.reduceBEq, Int.reduceBNe, h1]
    cases h2 : isT (tk l (IntKind.i64.wrap (i + 1))) 4 [41]
    · simp only [qe, Option.bind_some, Option.map_some, joinK, qb, ↓reduceIte, if_true, if_false, eq_self, Int.reduceBEq, Int.reduceBNe, h2]
      congr 1; funext s; simp only [rArgsB]; simp only [qe, Option.bind_some, Option.map_some, joinK, qb, ↓reduceIte, if_true, if_false, eq_self, Int.reduceBEq, Int.reduceBNe]
    · simp only [qe, Option.bind_some, Option.map_some, joinK, qb, ↓reduceIte, if_true, if_false, eq_self, Int.reduceBEq, Int.reduceBNe, h2]
theorem args_loop {l : List TToken} (W : WF l) {i : Int} (hi0 : 0 ≤ i) (H : IH l i) : ∀ (n : Nat) (p : Int) (out : List TNode), (l.length : Int) - p ≤ n → i < p → p ≤ l.length → (out.length : Int) ≤ p → (∀ x ∈ out, GEx x) →
    ∃ a j b ok, EvL (eArgsB l) (out, p, false) (a, j, !ok) ∧ EvL (rArgsB l) (out, p) (b, j, ok) ∧ (ok = true → a = b ∧ p < j ∧ j < l.length ∧ GAr b) ∧ (ok = false → a = [] ∧ b = []) := by
  intro n
  induction n using Nat.strongRecOn with
  | _ n ih =>
  intro p out hn hp hpl ho hg
  obtain ⟨a, j, b, ok, e1, e2, e3, e4⟩ := H.lev 1 (by omega) (by omega) p hp hpl
  have e2 := expr_of e2
  have hlen := W.len
  have hroom : ∀ x : TNode, room 64 (out.length + [x].length) = true := fun x => room_of (by omega) (by simp; omega)
  cases ok with
  | false =>
    refine ⟨[], j, [], false, EvL.step (s' := (out ++ [a], j, true)) ?_ (EvL.done ?_), EvL.done ?_, (fun h => by cases h), fun _ => ⟨rfl, rfl⟩⟩
    · simp only [eArgsB]; simp only [qe, Option.bind_some, Option.map_some, joinK, qb, ↓reduceIte, if_true, if_false, eq_self, Int.reduceBEq, Int.reduceBNe]
      refine Ev.bind e1 ?_
      simp only [qe, Option.bind_some, Option.map_some, joinK, qb, ↓reduceIte, if_true, if_false, eq_self, Int.reduceBEq, Int.reduceBNe, hroom]; exact Ev.pure
    · simp only [eArgsB]; simp only [qe, Option.bind_some, Option.map_some, joinK, qb, ↓reduceIte, if_true, if_false, eq_self, Int.reduceBEq, Int.reduceBNe]; exact Ev.pure
    · simp only [rArgsB]; simp only [qe, Option.bind_some, Option.map_some, joinK, qb, ↓reduceIte, if_true, if_false, eq_self, Int.reduceBEq, Int.reduceBNe]
      refine Ev.bind e2 ?_
      simp only [qe, Option.bind_some, Option.map_some, joinK, qb, ↓reduceIte, if_true, if_false, eq_self, Int.reduceBEq, Int.reduceBNe]; exact Ev.pure
  | true =>
    obtain ⟨rfl, q2, q3, q4⟩ := e3 rfl
    have hg' : ∀ x ∈ out ++ [a], GEx x := by
      intro x hx
      rcases List.mem_append.1 hx with hx | hx
      · exact hg x hx
      · simp at hx; subst hx; exact q4
    by_cases h1 : isT (tk l j) 4 [41] = true
    · have hk := (isT_kind h1).1
      obtain ⟨m1, m2, m3⟩ := W.next (i := j) (by omega)
      refine ⟨out ++ [a], j + 1, out ++ [a], true, EvL.done ?_, EvL.done ?_, fun _ => ⟨rfl, by omega, m2, ⟨hg', by simp; omega⟩⟩, fun h => by cases h⟩
      · simp only [eArgsB]; simp only [qe, Option.bind_some, Option.map_some, joinK, qb, ↓reduceIte, if_true, if_false, eq_self, Int.reduceBEq, Int.reduceBNe]
        refine Ev.bind e1 ?_
        simp only [qe, Option.bind_some, Option.map_some, joinK, qb, ↓reduceIte, if_true, if_false, eq_self, Int.reduceBEq, Int.reduceBNe, hroom, h1, m3]; exact Ev.pure
      · simp only [rArgsB]; simp only [qe, Option.bind_some, Option.map_some, joinK, qb, ↓reduceIte, if_true, if_false, eq_self, Int.reduceBEq, Int.reduceBNe]
        refine Ev.bind e2 ?_
        simp only [qe, Option.bind_some, Option.map_some, joinK, qb, ↓reduceIte, if_true, if_false, eq_self, Int.reduceBEq, Int.reduceBNe, hroom, h1, m3]; exact Ev.pure
    · have h1 : isT (tk l j) 4 [41] = false := by simpa using h1
      by_cases h2 : isT (tk l j) 4 [44] = true
      · have hk := (isT_kind h2).1
        obtain ⟨m1, m2, m3⟩ := W.next (i := j) (by omega)
        obtain ⟨a', j', b', ok', f1, f2, f3, f4⟩ := ih (n - 1) (by omega) (j + 1) (out ++ [a]) (by omega) (by omega) (by omega) (by simp; omega) hg'
        refine ⟨a', j', b', ok', EvL.step (s' := (out ++ [a], j + 1, false)) ?_ f1, EvL.step (s' := (out ++ [a], j + 1)) ?_ f2, fun h => ?_, f4⟩
        · simp only [eArgsB]; simp only [qe, Option.bind_some, Option.map_some, joinK, qb, ↓reduceIte, if_true, if_false, eq_self, Int.reduceBEq, Int.reduceBNe]
          refine Ev.bind e1 ?_
          simp only [qe, Option.bind_some, Option.map_some, joinK, qb, ↓reduceIte, if_true, if_false, eq_self, Int.reduceBEq, Int.reduceBNe, hroom, h1, h2, m3]; exact Ev.pure
        · simp only [rArgsB]; simp only [qe, Option.bind_some, Option.map_some, joinK, qb, ↓reduceIte, if_true, if_false, eq_self, Int.reduceBEq, Int.reduceBNe]
          refine Ev.bind e2 ?_
          simp only [qe, Option.bind_some, Option.map_some, joinK, qb, ↓reduceIte, if_true, if_false, eq_self, Int.reduceBEq, Int.reduceBNe, hroom, h1, h2, m3]; exact Ev.pure
        · obtain ⟨g1, g2, g3, g4⟩ := f3 h
          exact ⟨g1, by omega, g3, g4⟩
      · have h2 : isT (tk l j) 4 [44] = false := by simpa using h2
        refine ⟨[], j, [], false, EvL.step (s' := (out ++ [a], j, true)) ?_ (EvL.done ?_), EvL.done ?_, (fun h => by cases h), fun _ => ⟨rfl, rfl⟩⟩
        · simp only [eArgsB]; simp only [qe, Option.bind_some, Option.map_some, joinK, qb, ↓reduceIte, if_true, if_false, eq_self, Int.reduceBEq, Int.reduceBNe]
          refine Ev.bind e1 ?_
          simp only [qe, Option.bind_some, Option.map_some, joinK, qb, ↓reduceIte, if_true, if_false, eq_self, Int.reduceBEq, Int.reduceBNe, hroom, h1, h2]; exact Ev.pure
        · simp only [eArgsB]; simp only [qe, Option.bind_some, Option.map_some, joinK, qb, ↓reduceIte, if_true, if_false, eq_self, Int.reduceBEq, Int.reduceBNe]; exact Ev.pure
        · simp only [rArgsB]; simp only [qe, Option.bind_some, Option.map_some, joinK, qb, ↓reduceIte, if_true, if_false, eq_self, Int.reduceBEq, Int.reduceBNe]
          refine Ev.bind e2 ?_
          simp only [qe, Option.bind_some, Option.map_some, joinK, qb, ↓reduceIte, if_true, if_false, eq_self, Int.reduceBEq, Int.reduceBNe, hroom, h1, h2]; exact Ev.pure
def RA (l : List TToken) (i : Int) : Prop :=
  ∃ a j b ok, Ev (eArgs l i) (a, j, !ok) ∧ Ev (rArgs l i) (b, j, ok) ∧ (ok = true → a = b ∧ i < j ∧ j < l.length ∧ GAr b) ∧ (ok = false → a = [] ∧ b = [])
theorem args_R {l : List TToken} (W : WF l) {i : Int} (H : IH l i) : RA l i := by
  by_cases h1 : isT (tk l i) 4 [40] = true
  · have hk := (isT_kind h1).1
    obtain ⟨n1, n2, n3⟩ := W.next (i := i) (by omega)
    by_cases h2 : isT (tk l (i + 1)) 4 [41] = true
    · have hk := (isT_kind h2).1
      obtain ⟨m1, m2, m3⟩ := W.next (i := i + 1) (by omega)
      refine ⟨[], i + 1 + 1, [], true, Ev.succ1 ?_, Ev.succ1 ?_, fun _ => ⟨rfl, by omega, m2, ⟨by simp, by simp⟩⟩, fun h => by cases h⟩
      · simp only [eArgs, eArgs_eq]; simp only [qe, Option.bind_some, Option.map_some, joinK, qb, ↓reduceIte, if_true, if_false, eq_self, Int.reduceBEq, Int.reduceBNe, h1, n3, h2, m3]; exact Ev.pure
      · simp only [rArgs, rArgs_eq]; simp only [qe, Option.bind_some, Option.map_some, joinK, qb, ↓reduceIte, if_true, if_false, eq_self, Int.reduceBEq, Int.reduceBNe, h1, n3, h2, m3]; exact Ev.pure
    · have h2 : isT (tk l (i + 1)) 4 [41] = false := by simpa using h2
      obtain ⟨a, j, b, ok, f1, f2, f3, f4⟩ := args_loop W n1 H (l.length) (i + 1) [] (by omega) (by omega) (by omega) (by simp; omega) (by simp)
      refine ⟨a, j, b, ok, Ev.succ1 ?_, Ev.succ1 ?_, fun h => ?_, f4⟩
      · simp only [eArgs, eArgs_eq]; simp only [qe, Option.bind_some, Option.map_some, joinK, qb, ↓reduceIte, if_true, if_false, eq_self, Int.reduceBEq, Int.reduceBNe, h1, n3, h2]; exact Ev.loop f1
      · simp only [rArgs, rArgs_eq]; simp only [qe, Option.bind_some, Option.map_some, joinK, qb, ↓reduceIte, if_true, if_false, eq_self, Int.reduceBEq, Int.reduceBNe, h1, n3, h2]; exact Ev.loop f2
      · obtain ⟨g1, g2, g3, g4⟩ := f3 h
        exact ⟨g1, by omega, g3, g4⟩
  · have h1 : isT (tk l i) 4 [40] = false := by simpa using h1
    refine ⟨[], i, [], false, Ev.succ1 ?_, Ev.succ1 ?_, (fun h => by cases h), fun _ => ⟨rfl, rfl⟩⟩
    · simp only [eArgs, eArgs_eq]; simp only [qe, Option.bind_some, Option.map_some, joinK, qb, ↓reduceIte, if_true, if_false, eq_self, Int.reduceBEq, Int.reduceBNe, h1]
      refine Ev.loop (EvL.done ?_)
      simp only [eArgsB]; simp only [qe, Option.bind_some, Option.map_some, joinK, qb, ↓reduceIte, if_true, if_false, eq_self, Int.reduceBEq, Int.reduceBNe]; exact Ev.pure
    · simp only [rArgs, rArgs_eq]; simp only [qe, Option.bind_some, Option.map_some, joinK, qb, ↓reduceIte, if_true, if_false, eq_self, Int.reduceBEq, Int.reduceBNe, h1]; exact Ev.pure
end Go.Proofs.YtjakhfaodfaimaaDoor.F
set_option maxHeartbeats 4000000
namespace Go.Proofs.YtjakhfaodfaimaaDoor.F
open Go
theorem wideA {k a n : Int} {s : List UInt8} {l : List TNode} (h : GAr l) : Wide ⟨k, a, n, s, l⟩ := wideL (fun x hx => (h.all x hx).wide) (by have := h.len; omega)
theorem says_no {t : TToken} {s : List UInt8} (h : t.Kind ≠ 3) : isT t 3 s = false := isT_ne h
theorem mark_no {t : TToken} {s : List UInt8} (h : t.Kind ≠ 4) : isT t 4 s = false := isT_ne h
theorem named_R {l : List TToken} (W : WF l) {i : Int} (H : IH l i) {p : Int} (hp : i ≤ p) (kd a : Int) (hk : (tk l p).Kind = 1) :
    ∃ n j m ok, Ev (fun k => expr_reader_args k l (p + 1) false) (n, j, !ok) ∧ Ev (fun k => ref13_named k l p kd a) (if ok then ⟨kd, a, 0, (tk l p).Text, n⟩ else zN, j, ok) ∧ (ok = true → p < j ∧ j < l.length ∧ GAr n) ∧ (ok = false → m = zN) := by
  obtain ⟨n1, n2, n3⟩ := W.next (i := p) (by omega)
  obtain ⟨x, j, y, ok, f1, f2, f3, f4⟩ := args_R W (H.mono (j := p + 1) (by omega))
  refine ⟨x, j, zN, ok, f1, Ev.succ1 ?_, fun h => ?_, fun _ => rfl⟩
  · simp only [ref13_named]; simp only [qe, Option.bind_some, Option.map_some, joinK, qb, ↓reduceIte, if_true, if_false, eq_self, Int.reduceBEq, Int.reduceBNe, hk, n3]
    refine Ev.bind f2 ?_
    cases ok
    · simp only [qe, Option.bind_some, Option.map_some, joinK, qb, ↓reduceIte, if_true, if_false, eq_self, Int.reduceBEq, Int.reduceBNe]; exact Ev.pure
    · obtain ⟨rfl, _⟩ := f3 rfl
      simp only [qe, Option.bind_some, Option.map_some, joinK, qb, ↓reduceIte, if_true, if_false, eq_self, Int.reduceBEq, Int.reduceBNe]; exact Ev.pure
  · obtain ⟨rfl, g2, g3, g4⟩ := f3 h
    exact ⟨by omega, g3, g4⟩
theorem first_R {l : List TToken} (W : WF l) {i : Int} (H : IH l i) : R GEx l i (eFirst l i) (rFirst l i) := by
  by_cases k2 : (tk l i).Kind = 2
  · obtain ⟨n1, n2, n3⟩ := W.next (i := i) (by omega)
    refine R.good (j := i + 1) (n := ⟨10, (tk l i).At, (tk l i).N, [], []⟩) (Ev.succ1 ?_) (Ev.succ1 ?_) ⟨by omega, n2⟩ ⟨ge_num _ (W.nums i k2), wide0⟩
    · simp only [eFirst, expr_reader_first]; simp only [qe, Option.bind_some, Option.map_some, joinK, qb, ↓reduceIte, if_true, if_false, eq_self, Int.reduceBEq, Int.reduceBNe, k2, n3]; exact Ev.pure
    · simp only [rFirst, ref13_first]; simp only [qe, Option.bind_some, Option.map_some, joinK, qb, ↓reduceIte, if_true, if_false, eq_self, Int.reduceBEq, Int.reduceBNe, k2, n3]; exact Ev.pure
  by_cases k1 : (tk l i).Kind = 1
  · obtain ⟨n1, n2, n3⟩ := W.next (i := i) (by omega)
    have sn : ∀ s, isT (tk l i) 3 s = false := fun s => isT_ne (by omega)
    by_cases h1 : isT (tk l (i + 1)) 4 [40] = true
    · obtain ⟨x, j, y, ok, f1, f2, f3, f4⟩ := named_R W H (p := i) (by omega) 17 (tk l i).At k1
      have E : Ev (eFirst l i) (⟨17, (tk l i).At, 0, (tk l i).Text, x⟩, j, !ok) := by
        refine Ev.succ1 ?_
        simp only [eFirst, expr_reader_first]; simp only [qe, Option.bind_some, Option.map_some, joinK, qb, ↓reduceIte, if_true, if_false, eq_self, Int.reduceBEq, Int.reduceBNe, k1, n3, h1]
        refine Ev.bind f1 ?_
        simp only [qe, Option.bind_some, Option.map_some, joinK, qb, ↓reduceIte, if_true, if_false, eq_self, Int.reduceBEq, Int.reduceBNe]; exact Ev.pure
      have Rr : Ev (rFirst l i) (if ok then ⟨17, (tk l i).At, 0, (tk l i).Text, x⟩ else zN, j, ok) := by
        refine Ev.succ1 ?_
        simp only [rFirst, ref13_first]; simp only [qe, Option.bind_some, Option.map_some, joinK, qb, ↓reduceIte, if_true, if_false, eq_self, Int.reduceBEq, Int.reduceBNe, k1, n3, h1, sn]
        refine Ev.bind f2 ?_
        simp only [qe, Option.bind_some, Option.map_some, joinK, qb, ↓reduceIte, if_true, if_false, eq_self, Int.reduceBEq, Int.reduceBNe]; exact Ev.pure
      cases ok with
      | false => exact R.bad E Rr
      | true =>
        obtain ⟨g1, g2, g3⟩ := f3 rfl
        exact R.good E Rr ⟨g1, g2⟩ ⟨ge_named _ _ (W.names i k1) (fun n hn => (g3.all n hn).ge) (by have := g3.len; omega) (by omega), wideA g3⟩
    · have h1 : isT (tk l (i + 1)) 4 [40] = false := by simpa using h1
      refine R.good (j := i + 1) (n := ⟨12, (tk l i).At, 0, (tk l i).Text, []⟩) (Ev.succ1 ?_) (Ev.succ1 ?_) ⟨by omega, n2⟩ ⟨ge_named _ _ (W.names i k1) (by simp) (by simp) (.inl ⟨rfl, rfl⟩), wide0⟩
      · simp only [eFirst, expr_reader_first]; simp only [qe, Option.bind_some, Option.map_some, joinK, qb, ↓reduceIte, if_true, if_false, eq_self, Int.reduceBEq, Int.reduceBNe, k1, n3, h1]; exact Ev.pure
      · simp only [rFirst, ref13_first]; simp only [qe, Option.bind_some, Option.map_some, joinK, qb, ↓reduceIte, if_true, if_false, eq_self, Int.reduceBEq, Int.reduceBNe, k1, n3, h1, sn]; exact Ev.pure
  have b2 : ((tk l i).Kind == 2) = false := by simpa using k2
  have b1 : ((tk l i).Kind == 1) = false := by simpa using k1
  by_cases k3 : (tk l i).Kind = 3
  · obtain ⟨n1, n2, n3⟩ := W.next (i := i) (by omega)
    have mn : ∀ s, isT (tk l i) 4 s = false := fun s => isT_ne (by omega)
    have b3 : ((tk l i).Kind == 3) = true := by simpa using k3
    have sy : ∀ s, isT (tk l i) 3 s = ((tk l i).Text == s) := fun s => by unfold isT; rw [b3]; rfl
    have E : ∀ {x : TNode} {j : Int} {b : Bool}, Ev (fun k => expr_reader_word k ⟨0, (tk l i).At, 0, [], []⟩ (tk l i).Text l i false) (x, j, b) → Ev (eFirst l i) (x, j, b) := by
      intro x j b h
      refine Ev.succ1 ?_
      simp only [eFirst, expr_reader_first]; simp only [qe, Option.bind_some, Option.map_some, joinK, qb, ↓reduceIte, if_true, if_false, eq_self, Int.reduceBEq, Int.reduceBNe, b1, b2, mn, b3]
      refine Ev.bind h ?_
      simp only [qe, Option.bind_some, Option.map_some, joinK, qb, ↓reduceIte, if_true, if_false, eq_self, Int.reduceBEq, Int.reduceBNe]; exact Ev.pure
    by_cases w1 : (tk l i).Text = [116, 114, 117, 101]
    · refine R.good (j := i + 1) (n := ⟨11, (tk l i).At, 1, [], []⟩) (E (Ev.succ1 ?_)) (Ev.succ1 ?_) ⟨by omega, n2⟩ ⟨ge_flag _ (.inr rfl), wide0⟩
      · simp only [expr_reader_word]; simp only [qe, Option.bind_some, Option.map_some, joinK, qb, ↓reduceIte, if_true, if_false, eq_self, Int.reduceBEq, Int.reduceBNe, w1, n3]; exact Ev.pure
      · simp only [rFirst, ref13_first]; simp only [qe, Option.bind_some, Option.map_some, joinK, qb, ↓reduceIte, if_true, if_false, eq_self, Int.reduceBEq, Int.reduceBNe, b1, b2, sy, w1, n3]; exact Ev.pure
    have w1b : ((tk l i).Text == [116, 114, 117, 101]) = false := by simpa using w1
    by_cases w2 : (tk l i).Text = [102, 97, 108, 115, 101]
    · refine R.good (j := i + 1) (n := ⟨11, (tk l i).At, 0, [], []⟩) (E (Ev.succ1 ?_)) (Ev.succ1 ?_) ⟨by omega, n2⟩ ⟨ge_flag _ (.inl rfl), wide0⟩
      · simp only [expr_reader_word]; simp only [qe, Option.bind_some, Option.map_some, joinK, qb, ↓reduceIte, if_true, if_false, eq_self, Int.reduceBEq, Int.reduceBNe, w2, n3, show (([102, 97, 108, 115, 101] : List UInt8) == [116, 114, 117, 101]) = false from rfl]; exact Ev.pure
      · simp only [rFirst, ref13_first]; simp only [qe, Option.bind_some, Option.map_some, joinK, qb, ↓reduceIte, if_true, if_false, eq_self, Int.reduceBEq, Int.reduceBNe, b1, b2, sy, w2, n3, show (([102, 97, 108, 115, 101] : List UInt8) == [116, 114, 117, 101]) = false from rfl]; exact Ev.pure
    have w2b : ((tk l i).Text == [102, 97, 108, 115, 101]) = false := by simpa using w2
    by_cases w3 : (tk l i).Text = [102, 111, 114, 107]
    · have w3b : ((tk l i).Text == [102, 111, 114, 107]) = true := by rw [w3]; rfl
      by_cases kn : (tk l (i + 1)).Kind = 1
      · obtain ⟨x, j, y, ok, f1, f2, f3, f4⟩ := named_R W H (p := i + 1) (by omega) 18 (tk l i).At kn
        obtain ⟨m1, m2, m3⟩ := W.next (i := i + 1) (by omega)
        have E1 : Ev (eFirst l i) (⟨18, (tk l i).At, 0, (tk l (i + 1)).Text, x⟩, j, !ok) := by
          refine E (Ev.succ1 ?_)
          simp only [expr_reader_word]; simp only [qe, Option.bind_some, Option.map_some, joinK, qb, ↓reduceIte, if_true, if_false, eq_self, Int.reduceBEq, Int.reduceBNe, w1b, w2b, w3b, n3, kn, m3]
          refine Ev.bind f1 ?_
          simp only [qe, Option.bind_some, Option.map_some, joinK, qb, ↓reduceIte, if_true, if_false, eq_self, Int.reduceBEq, Int.reduceBNe]; exact Ev.pure
        have Rr : Ev (rFirst l i) (if ok then ⟨18, (tk l i).At, 0, (tk l (i + 1)).Text, x⟩ else zN, j, ok) := by
          refine Ev.succ1 ?_
          simp only [rFirst, ref13_first]; simp only [qe, Option.bind_some, Option.map_some, joinK, qb, ↓reduceIte, if_true, if_false, eq_self, Int.reduceBEq, Int.reduceBNe, b1, b2, sy, w1b, w2b, w3b, n3]
          refine Ev.bind f2 ?_
          simp only [qe, Option.bind_some, Option.map_some, joinK, qb, ↓reduceIte, if_true, if_false, eq_self, Int.reduceBEq, Int.reduceBNe]; exact Ev.pure
        cases ok with
        | false => exact R.bad E1 Rr
        | true =>
          obtain ⟨g1, g2, g3⟩ := f3 rfl
          exact R.good E1 Rr ⟨by omega, g2⟩ ⟨ge_named _ _ (W.names (i + 1) kn) (fun n hn => (g3.all n hn).ge) (by have := g3.len; omega) (by omega), wideA g3⟩
      · have knb : ((tk l (i + 1)).Kind != 1) = true := by simpa using kn
        refine R.bad (j := i + 1) (n := ⟨18, (tk l i).At, 0, [], []⟩) (E (Ev.succ1 ?_)) (Ev.succ1 ?_)
        · simp only [expr_reader_word]; simp only [qe, Option.bind_some, Option.map_some, joinK, qb, ↓reduceIte, if_true, if_false, eq_self, Int.reduceBEq, Int.reduceBNe, w1b, w2b, w3b, n3, knb]
          refine Ev.bind (args_bad l (i + 1)) ?_
          simp only [qe, Option.bind_some, Option.map_some, joinK, qb, ↓reduceIte, if_true, if_false, eq_self, Int.reduceBEq, Int.reduceBNe]; exact Ev.pure
        · simp only [rFirst, ref13_first]; simp only [qe, Option.bind_some, Option.map_some, joinK, qb, ↓reduceIte, if_true, if_false, eq_self, Int.reduceBEq, Int.reduceBNe, b1, b2, sy, w1b, w2b, w3b, n3]
          refine Ev.bind (x := (zN, i + 1, false)) (Ev.succ1 ?_) ?_
          · simp only [ref13_named]; simp only [qe, Option.bind_some, Option.map_some, joinK, qb, ↓reduceIte, if_true, if_false, eq_self, Int.reduceBEq, Int.reduceBNe, knb]; exact Ev.pure
          · simp only [qe, Option.bind_some, Option.map_some, joinK, qb, ↓reduceIte, if_true, if_false, eq_self, Int.reduceBEq, Int.reduceBNe]; exact Ev.pure
    have w3b : ((tk l i).Text == [102, 111, 114, 107]) = false := by simpa using w3
    by_cases w4 : (tk l i).Text = [110, 101, 119]
    · have w4b : ((tk l i).Text == [110, 101, 119]) = true := by rw [w4]; rfl
      obtain ⟨t, j, u, ok, e1, e2, e3, e4⟩ := type_all W (i + 1)
      cases ok with
      | false =>
        refine R.bad (j := j) (n := ⟨19, (tk l i).At, 0, [], [t] ++ []⟩) (E (Ev.succ1 ?_)) (Ev.succ1 ?_)
        · simp only [expr_reader_word]; simp only [qe, Option.bind_some, Option.map_some, joinK, qb, ↓reduceIte, if_true, if_false, eq_self, Int.reduceBEq, Int.reduceBNe, w1b, w2b, w3b, w4b, n3]
          refine Ev.bind e1 ?_
          simp only [qe, Option.bind_some, Option.map_some, joinK, qb, ↓reduceIte, if_true, if_false, eq_self, Int.reduceBEq, Int.reduceBNe]
          refine Ev.bind (args_bad l j) ?_
          simp only [qe, Option.bind_some, Option.map_some, joinK, qb, ↓reduceIte, if_true, if_false, eq_self, Int.reduceBEq, Int.reduceBNe, show room 64 ([t].length + ([] : List TNode).length) = true from rfl]; exact Ev.pure
        · simp only [rFirst, ref13_first]; simp only [qe, Option.bind_some, Option.map_some, joinK, qb, ↓reduceIte, if_true, if_false, eq_self, Int.reduceBEq, Int.reduceBNe, b1, b2, sy, w1b, w2b, w3b, w4b, n3]
          refine Ev.bind e2 ?_
          simp only [qe, Option.bind_some, Option.map_some, joinK, qb, ↓reduceIte, if_true, if_false, eq_self, Int.reduceBEq, Int.reduceBNe]; exact Ev.pure
      | true =>
        obtain ⟨rfl, q2, q3, q4⟩ := e3 rfl
        obtain ⟨x, j', y, ok', f1, f2, f3, f4⟩ := args_R W (H.mono (j := j) (by omega))
        have hx : x.length ≤ 100000 := by
          cases ok' with
          | false => rw [(f4 rfl).1]; simp
          | true => rw [(f3 rfl).1]; exact (f3 rfl).2.2.2.len
        have hr : room 64 ([t].length + x.length) = true := room_of (by omega) (by simp; omega)
        have E1 : Ev (eFirst l i) (⟨19, (tk l i).At, 0, [], [t] ++ x⟩, j', !ok') := by
          refine E (Ev.succ1 ?_)
          simp only [expr_reader_word]; simp only [qe, Option.bind_some, Option.map_some, joinK, qb, ↓reduceIte, if_true, if_false, eq_self, Int.reduceBEq, Int.reduceBNe, w1b, w2b, w3b, w4b, n3]
          refine Ev.bind e1 ?_
          simp only [qe, Option.bind_some, Option.map_some, joinK, qb, ↓reduceIte, if_true, if_false, eq_self, Int.reduceBEq, Int.reduceBNe]
          refine Ev.bind f1 ?_
          simp only [qe, Option.bind_some, Option.map_some, joinK, qb, ↓reduceIte, if_true, if_false, eq_self, Int.reduceBEq, Int.reduceBNe, hr]; exact Ev.pure
        have Rr : Ev (rFirst l i) (if ok' then ⟨19, (tk l i).At, 0, [], [t] ++ x⟩ else zN, j', ok') := by
          refine Ev.succ1 ?_
          simp only [rFirst, ref13_first]; simp only [qe, Option.bind_some, Option.map_some, joinK, qb, ↓reduceIte, if_true, if_false, eq_self, Int.reduceBEq, Int.reduceBNe, b1, b2, sy, w1b, w2b, w3b, w4b, n3]
          refine Ev.bind e2 ?_
          simp only [qe, Option.bind_some, Option.map_some, joinK, qb, ↓reduceIte, if_true, if_false, eq_self, Int.reduceBEq, Int.reduceBNe]
          refine Ev.bind f2 ?_
          cases ok'
          · simp only [qe, Option.bind_some, Option.map_some, joinK, qb, ↓reduceIte, if_true, if_false, eq_self, Int.reduceBEq, Int.reduceBNe]; exact Ev.pure
          · obtain ⟨rfl, _⟩ := f3 rfl
            simp only [qe, Option.bind_some, Option.map_some, joinK, qb, ↓reduceIte, if_true, if_false, eq_self, Int.reduceBEq, Int.reduceBNe, hr]; exact Ev.pure
        cases ok' with
        | false => exact R.bad E1 Rr
        | true =>
          obtain ⟨rfl, g2, g3, g4⟩ := f3 rfl
          exact R.good E1 Rr ⟨by omega, g3⟩ ⟨ge_new (t := t) (l := x) _ q4.gt (fun n hn => (g4.all n hn).ge) (by omega), wideL (by
            intro z hz
            rcases List.mem_cons.1 hz with rfl | hz
            · exact q4.wide
            · exact (g4.all z hz).wide) (by simp; omega)⟩
    have w4b : ((tk l i).Text == [110, 101, 119]) = false := by simpa using w4
    refine R.bad (j := i) (n := ⟨0, (tk l i).At, 0, [], []⟩) (E (Ev.succ1 ?_)) (Ev.succ1 ?_)
    · simp only [expr_reader_word]; simp only [qe, Option.bind_some, Option.map_some, joinK, qb, ↓reduceIte, if_true, if_false, eq_self, Int.reduceBEq, Int.reduceBNe, w1b, w2b, w3b, w4b]; exact Ev.pure
    · simp only [rFirst, ref13_first]; simp only [qe, Option.bind_some, Option.map_some, joinK, qb, ↓reduceIte, if_true, if_false, eq_self, Int.reduceBEq, Int.reduceBNe, b1, b2, sy, w1b, w2b, w3b, w4b, mn]; exact Ev.pure
  have b3 : ((tk l i).Kind == 3) = false := by simpa using k3
  have sn : ∀ s, isT (tk l i) 3 s = false := fun s => isT_ne k3
  by_cases h1 : isT (tk l i) 4 [40] = true
  · have hk := (isT_kind h1).1
    obtain ⟨n1, n2, n3⟩ := W.next (i := i) (by omega)
    obtain ⟨a, j, b, ok, e1, e2, e3, e4⟩ := H.lev 1 (by omega) (by omega) (i + 1) (by omega) (by omega)
    have e2 := expr_of e2
    cases ok with
    | false =>
      refine R.bad (j := j) (n := a) (Ev.succ1 ?_) (Ev.succ1 ?_)
      · simp only [eFirst, expr_reader_first]; simp only [qe, Option.bind_some, Option.map_some, joinK, qb, ↓reduceIte, if_true, if_false, eq_self, Int.reduceBEq, Int.reduceBNe, b1, b2, h1, n3]
        refine Ev.bind e1 ?_
        simp only [qe, Option.bind_some, Option.map_some, joinK, qb, ↓reduceIte, if_true, if_false, eq_self, Int.reduceBEq, Int.reduceBNe]; exact Ev.pure
      · simp only [rFirst, ref13_first]; simp only [qe, Option.bind_some, Option.map_some, joinK, qb, ↓reduceIte, if_true, if_false, eq_self, Int.reduceBEq, Int.reduceBNe, b1, b2, sn, h1, n3]
        refine Ev.bind e2 ?_
        simp only [qe, Option.bind_some, Option.map_some, joinK, qb, ↓reduceIte, if_true, if_false, eq_self, Int.reduceBEq, Int.reduceBNe]; exact Ev.pure
    | true =>
      obtain ⟨rfl, q2, q3, q4⟩ := e3 rfl
      by_cases h2 : isT (tk l j) 4 [41] = true
      · have hk2 := (isT_kind h2).1
        obtain ⟨m1, m2, m3⟩ := W.next (i := j) (by omega)
        refine R.good (j := j + 1) (n := a) (Ev.succ1 ?_) (Ev.succ1 ?_) ⟨by omega, m2⟩ q4
        · simp only [eFirst, expr_reader_first]; simp only [qe, Option.bind_some, Option.map_some, joinK, qb, ↓reduceIte, if_true, if_false, eq_self, Int.reduceBEq, Int.reduceBNe, b1, b2, h1, n3]
          refine Ev.bind e1 ?_
          simp only [qe, Option.bind_some, Option.map_some, joinK, qb, ↓reduceIte, if_true, if_false, eq_self, Int.reduceBEq, Int.reduceBNe, h2, m3]; exact Ev.pure
        · simp only [rFirst, ref13_first]; simp only [qe, Option.bind_some, Option.map_some, joinK, qb, ↓reduceIte, if_true, if_false, eq_self, Int.reduceBEq, Int.reduceBNe, b1, b2, sn, h1, n3]
          refine Ev.bind e2 ?_
          simp only [qe, Option.bind_some, Option.map_some, joinK, qb, ↓reduceIte, if_true, if_false, eq_self, Int.reduceBEq, Int.reduceBNe, h2, m3]; exact Ev.pure
      · have h2 : isT (tk l j) 4 [41] = false := by simpa using h2
        refine R.bad (j := j) (n := a) (Ev.succ1 ?_) (Ev.succ1 ?_)
        · simp only [eFirst, expr_reader_first]; simp only [qe, Option.bind_some, Option.map_some, joinK, qb, ↓reduceIte, if_true, if_false, eq_self, Int.reduceBEq, Int.reduceBNe, b1, b2, h1, n3]
          refine Ev.bind e1 ?_
          simp only [qe, Option.bind_some, Option.map_some, joinK, qb, ↓reduceIte, if_true, if_false, eq_self, Int.reduceBEq, Int.reduceBNe, h2]; exact Ev.pure
        · simp only [rFirst, ref13_first]; simp only [qe, Option.bind_some, Option.map_some, joinK, qb, ↓reduceIte, if_true, if_false, eq_self, Int.reduceBEq, Int.reduceBNe, b1, b2, sn, h1, n3]
          refine Ev.bind e2 ?_
          simp only [qe, Option.bind_some, Option.map_some, joinK, qb, ↓reduceIte, if_true, if_false, eq_self, Int.reduceBEq, Int.reduceBNe, h2]; exact Ev.pure
  · have h1 : isT (tk l i) 4 [40] = false := by simpa using h1
    refine R.bad (j := i) (n := ⟨0, (tk l i).At, 0, [], []⟩) (Ev.succ1 ?_) (Ev.succ1 ?_)
    · simp only [eFirst, expr_reader_first]; simp only [qe, Option.bind_some, Option.map_some, joinK, qb, ↓reduceIte, if_true, if_false, eq_self, Int.reduceBEq, Int.reduceBNe, b1, b2, b3, h1]; exact Ev.pure
    · simp only [rFirst, ref13_first]; simp only [qe, Option.bind_some, Option.map_some, joinK, qb, ↓reduceIte, if_true, if_false, eq_self, Int.reduceBEq, Int.reduceBNe, b1, b2, sn, h1]; exact Ev.pure
end Go.Proofs.YtjakhfaodfaimaaDoor.F
namespace Go.Proofs.YtjakhfaodfaimaaDoor.F
open Go
def ePartB (l : List TToken) (k : Nat) (s : Int × Bool × TNode) : Option ((Int × Bool × TNode) ⊕ (TNode × Int × Bool)) :=
  match s with
  | (l1_oext0_1, l1_oext0_2, l1_oloc3) =>
    if (!l1_oext0_2) then
    (expr_reader_look k l l1_oext0_1 l1_oext0_2).bind fun x3_1 =>
    (expr_reader_takes k [91] l l1_oext0_1 l1_oext0_2).bind fun (x5_1_0, x5_1_1) =>
    if x5_1_0 then
    (expr_reader_level k 1 l x5_1_1 l1_oext0_2).bind fun (x6_3_0, x6_3_1, x6_3_2) =>
    (expr_reader_wants k [93] l x6_3_1 x6_3_2).bind fun (x7_1_0, x7_1_1) =>
    some (.inl (x7_1_0, x7_1_1, (TNode.mk 13 x3_1.At 0 [] [l1_oloc3, x6_3_0])))
    else
    (expr_reader_takes k [46] l x5_1_1 l1_oext0_2).bind fun (x8_1_0, x8_1_1) =>
    if x8_1_0 then
    (expr_reader_name k l x8_1_1 l1_oext0_2).bind fun (x9_2_0, x9_2_1, x9_2_2) =>
    some (.inl (x9_2_1, x9_2_2, (TNode.mk 14 x3_1.At 0 x9_2_0 [l1_oloc3])))
    else
    some (.inr (l1_oloc3, x8_1_1, l1_oext0_2))
    else
    (some (l1_oloc3, l1_oext0_1, l1_oext0_2)).map .inr
def rPartB (l : List TToken) (k : Nat) (s : Int × TNode) : Option ((Int × TNode) ⊕ (TNode × Int × Bool)) :=
  match s with
  | (l0_8, l0_oloc7) =>
    (ref13_Tok k l l0_8).bind fun x4_2 =>
    (ref13_Is k l l0_8 [46]).bind fun x5_2 =>
    if x5_2 then
    (ref13_Tok k l (IntKind.i64.wrap (l0_8 + 1))).bind fun x6_3 =>
    if (x6_3.Kind != 1) then
    some (.inr ((TNode.mk 0 0 0 [] []), (IntKind.i64.wrap (l0_8 + 1)), false))
    else
    some (.inl ((IntKind.i64.wrap (l0_8 + 2)), (TNode.mk 14 x4_2.At 0 x6_3.Text [l0_oloc7])))
    else
    (ref13_Is k l l0_8 [91]).bind fun x11_2 =>
    if (!x11_2) then
    some (.inr (l0_oloc7, l0_8, true))
    else
    (ref13_Expr k l (IntKind.i64.wrap (l0_8 + 1))).bind fun (x13_3_0, x13_3_1, x13_3_2) =>
    joinK (fun (g14_7_72 : Bool) =>
    if g14_7_72 then
    some (.inr ((TNode.mk 0 0 0 [] []), x13_3_1, false))
    else
    some (.inl ((IntKind.i64.wrap (x13_3_1 + 1)), (TNode.mk 13 x4_2.At 0 [] [l0_oloc7, x13_3_0])))) fun j_g14_7 =>
    if (!x13_3_2) then
    j_g14_7 true
    else
    (ref13_Is k l x13_3_1 [93]).bind fun x14_5 =>
    j_g14_7 (!x14_5)
theorem ePart_eq (k : Nat) (l : List TToken) (i : Int) : expr_reader_part (k + 1) l i false = (expr_reader_first k l i false).bind fun (a, b, c) => loopM k (ePartB l k) (b, c, a) := by
  rw [expr_reader_part]; rfl
theorem rPart_eq (k : Nat) (l : List TToken) (i : Int) : ref13_part (k + 1) l i = (ref13_first k l i).bind fun (a, b, c) => if (!c) then some (zN, b, false) else loopM k (rPartB l k) (b, a) := by
  rw [ref13_part]; rfl
theorem ePart_end (l : List TToken) (p : Int) (n : TNode) : EvL (ePartB l) (p, true, n) (n, p, true) := EvL.done (by simp only [ePartB]; simp only [qe, Option.bind_some, Option.map_some, joinK, qb, ↓reduceIte, if_true, if_false, eq_self, Int.reduceBEq, Int.reduceBNe]; exact Ev.pure)
theorem part_loop {l : List TToken} (W : WF l) {i : Int} (H : IH l i) : ∀ (n : Nat) (p : Int) (x : TNode), (l.length : Int) - p ≤ n → i < p → p < l.length → GEx x →
    ∃ a j b ok, EvL (ePartB l) (p, false, x) (a, j, !ok) ∧ EvL (rPartB l) (p, x) (b, j, ok) ∧ (ok = true → a = b ∧ p ≤ j ∧ j < l.length ∧ GEx b) ∧ (ok = false → b = zN) := by
  intro n
  induction n using Nat.strongRecOn with
  | _ n ih =>
  intro p x hn hp hpl hg
  by_cases h1 : isT (tk l p) 4 [91] = true
  · have hk := (isT_kind h1).1
    have h46 : isT (tk l p) 4 [46] = false := isT_txt (by rw [(isT_kind h1).2]; decide)
    obtain ⟨n1, n2, n3⟩ := W.next (i := p) (by omega)
    obtain ⟨a, j, b, ok, e1, e2, e3, e4⟩ := H.lev 1 (by omega) (by omega) (p + 1) (by omega) (by omega)
    have e2 := expr_of e2
    cases ok with
    | false =>
      refine ⟨_, j, zN, false, EvL.step (s' := (j, true, ⟨13, (tk l p).At, 0, [], [x, a]⟩)) ?_ (ePart_end _ _ _), EvL.done ?_, (fun h => by cases h), fun _ => rfl⟩
      · simp only [ePartB]; simp only [qe, Option.bind_some, Option.map_some, joinK, qb, ↓reduceIte, if_true, if_false, eq_self, Int.reduceBEq, Int.reduceBNe, h1, n3]
        refine Ev.bind e1 ?_
        simp only [qe, Option.bind_some, Option.map_some, joinK, qb, ↓reduceIte, if_true, if_false, eq_self, Int.reduceBEq, Int.reduceBNe]; exact Ev.pure
      · simp only [rPartB]; simp only [qe, Option.bind_some, Option.map_some, joinK, qb, ↓reduceIte, if_true, if_false, eq_self, Int.reduceBEq, Int.reduceBNe, h1, h46, n3]
        refine Ev.bind e2 ?_
        simp only [qe, Option.bind_some, Option.map_some, joinK, qb, ↓reduceIte, if_true, if_false, eq_self, Int.reduceBEq, Int.reduceBNe]; exact Ev.pure
    | true =>
      obtain ⟨rfl, q2, q3, q4⟩ := e3 rfl
      by_cases h2 : isT (tk l j) 4 [93] = true
      · have hk2 := (isT_kind h2).1
        obtain ⟨m1, m2, m3⟩ := W.next (i := j) (by omega)
        obtain ⟨a', j', b', ok', f1, f2, f3, f4⟩ := ih (n - 1) (by omega) (j + 1) ⟨13, (tk l p).At, 0, [], [x, a]⟩ (by omega) (by omega) (by omega) ⟨ge_index _ hg.ge q4.ge, wide2 hg.wide q4.wide⟩
        refine ⟨a', j', b', ok', EvL.step (s' := (j + 1, false, ⟨13, (tk l p).At, 0, [], [x, a]⟩)) ?_ f1, EvL.step (s' := (j + 1, ⟨13, (tk l p).At, 0, [], [x, a]⟩)) ?_ f2, fun h => ?_, f4⟩
        · simp only [ePartB]; simp only [qe, Option.bind_some, Option.map_some, joinK, qb, ↓reduceIte, if_true, if_false, eq_self, Int.reduceBEq, Int.reduceBNe, h1, n3]
          refine Ev.bind e1 ?_
          simp only [qe, Option.bind_some, Option.map_some, joinK, qb, ↓reduceIte, if_true, if_false, eq_self, Int.reduceBEq, Int.reduceBNe, h2, m3]; exact Ev.pure
        · simp only [rPartB]; simp only [qe, Option.bind_some, Option.map_some, joinK, qb, ↓reduceIte, if_true, if_false, eq_self, Int.reduceBEq, Int.reduceBNe, h1, h46, n3]
          refine Ev.bind e2 ?_
          simp only [qe, Option.bind_some, Option.map_some, joinK, qb, ↓reduceIte, if_true, if_false, eq_self, Int.reduceBEq, Int.reduceBNe, h2, m3]; exact Ev.pure
        · obtain ⟨g1, g2, g3, g4⟩ := f3 h
          exact ⟨g1, by omega, g3, g4⟩
      · have h2 : isT (tk l j) 4 [93] = false := by simpa using h2
        refine ⟨_, j, zN, false, EvL.step (s' := (j, true, ⟨13, (tk l p).At, 0, [], [x, a]⟩)) ?_ (ePart_end _ _ _), EvL.done ?_, (fun h => by cases h), fun _ => rfl⟩
        · simp only [ePartB]; simp only [qe, Option.bind_some, Option.map_some, joinK, qb, ↓reduceIte, if_true, if_false, eq_self, Int.reduceBEq, Int.reduceBNe, h1, n3]
          refine Ev.bind e1 ?_
          simp only [qe, Option.bind_some, Option.map_some, joinK, qb, ↓reduceIte, if_true, if_false, eq_self, Int.reduceBEq, Int.reduceBNe, h2]; exact Ev.pure
        · simp only [rPartB]; simp only [qe, Option.bind_some, Option.map_some, joinK, qb, ↓reduceIte, if_true, if_false, eq_self, Int.reduceBEq, Int.reduceBNe, h1, h46, n3]
          refine Ev.bind e2 ?_
          simp only [qe, Option.bind_some, Option.map_some, joinK, qb, ↓reduceIte, if_true, if_false, eq_self, Int.reduceBEq, Int.reduceBNe, h2]; exact Ev.pure
  · have h1 : isT (tk l p) 4 [91] = false := by simpa using h1
    by_cases h2 : isT (tk l p) 4 [46] = true
    · have hk := (isT_kind h2).1
      obtain ⟨n1, n2, n3⟩ := W.next (i := p) (by omega)
      by_cases kn : (tk l (p + 1)).Kind = 1
      · obtain ⟨m1, m2, m3⟩ := W.next (i := p + 1) (by omega)
        have m4 : IntKind.i64.wrap (p + 2) = p + 1 + 1 := by rw [show p + 2 = p + 1 + 1 by omega]; exact m3
        obtain ⟨a', j', b', ok', f1, f2, f3, f4⟩ := ih (n - 1) (by omega) (p + 1 + 1) ⟨14, (tk l p).At, 0, (tk l (p + 1)).Text, [x]⟩ (by omega) (by omega) (by omega) ⟨ge_named _ _ (W.names _ kn) (by simpa using hg.ge) (by simp) (by simp), wide1 hg.wide⟩
        refine ⟨a', j', b', ok', EvL.step (s' := (p + 1 + 1, false, ⟨14, (tk l p).At, 0, (tk l (p + 1)).Text, [x]⟩)) ?_ f1, EvL.step (s' := (p + 1 + 1, ⟨14, (tk l p).At, 0, (tk l (p + 1)).Text, [x]⟩)) ?_ f2, fun h => ?_, f4⟩
        · simp only [ePartB]; simp only [qe, Option.bind_some, Option.map_some, joinK, qb, ↓reduceIte, if_true, if_false, eq_self, Int.reduceBEq, Int.reduceBNe, h1, h2, n3, kn, m3]; exact Ev.pure
        · simp only [rPartB]; simp only [qe, Option.bind_some, Option.map_some, joinK, qb, ↓reduceIte, if_true, if_false, eq_self, Int.reduceBEq, Int.reduceBNe, h1, h2, n3, kn, m4]; exact Ev.pure
        · obtain ⟨g1, g2, g3, g4⟩ := f3 h
          exact ⟨g1, by omega, g3, g4⟩
      · have knb : ((tk l (p + 1)).Kind != 1) = true := by simpa using kn
        refine ⟨_, p + 1, zN, false, EvL.step (s' := (p + 1, true, ⟨14, (tk l p).At, 0, [], [x]⟩)) ?_ (ePart_end _ _ _), EvL.done ?_, (fun h => by cases h), fun _ => rfl⟩
        · simp only [ePartB]; simp only [qe, Option.bind_some, Option.map_some, joinK, qb, ↓reduceIte, if_true, if_false, eq_self, Int.reduceBEq, Int.reduceBNe, h1, h2, n3, knb]; exact Ev.pure
        · simp only [rPartB]; simp only [qe, Option.bind_some, Option.map_some, joinK, qb, ↓reduceIte, if_true, if_false, eq_self, Int.reduceBEq, Int.reduceBNe, h1, h2, n3, knb]; exact Ev.pure
    · have h2 : isT (tk l p) 4 [46] = false := by simpa using h2
      refine ⟨x, p, x, true, EvL.done ?_, EvL.done ?_, fun _ => ⟨rfl, by omega, hpl, hg⟩, fun h => by cases h⟩
      · simp only [ePartB]; simp only [qe, Option.bind_some, Option.map_some, joinK, qb, ↓reduceIte, if_true, if_false, eq_self, Int.reduceBEq, Int.reduceBNe, h1, h2]; exact Ev.pure
      · simp only [rPartB]; simp only [qe, Option.bind_some, Option.map_some, joinK, qb, ↓reduceIte, if_true, if_false, eq_self, Int.reduceBEq, Int.reduceBNe, h1, h2]; exact Ev.pure
theorem part_R {l : List TToken} (W : WF l) {i : Int} (H : IH l i) : R GEx l i (ePart l i) (rPart l i) := by
  obtain ⟨a, j, b, ok, e1, e2, e3, e4⟩ := first_R W H
  cases ok with
  | false =>
    refine R.bad (j := j) (n := a) (Ev.succ1 ?_) (Ev.succ1 ?_)
    · simp only [ePart, ePart_eq]
      exact Ev.bind e1 (Ev.loop (ePart_end _ _ _))
    · simp only [rPart, rPart_eq]
      exact Ev.bind e2 Ev.pure
  | true =>
    obtain ⟨rfl, q2, q3, q4⟩ := e3 rfl
    obtain ⟨a', j', b', ok', f1, f2, f3, f4⟩ := part_loop W H (l.length - j).toNat j a (by omega) q2 q3 q4
    refine ⟨a', j', b', ok', Ev.succ1 ?_, Ev.succ1 ?_, fun h => ?_, f4⟩
    · simp only [ePart, ePart_eq]
      exact Ev.bind e1 (Ev.loop f1)
    · simp only [rPart, rPart_eq]
      exact Ev.bind e2 (Ev.loop f2)
    · obtain ⟨g1, g2, g3, g4⟩ := f3 h
      exact ⟨g1, by omega, g3, g4⟩
def eFacB (l : List TToken) (i : Int) (k : Nat) (s : Int × Int) : Option ((Int × Int) ⊕ (TNode × Int × Bool)) :=
  match s with
  | (l1_11, l1_oext0_1) =>
    if (decide (l1_11 < (([2, 14] : List Int).length : Int))) then
    (ix [2, 14] l1_11).bind fun x4_0 =>
    (word_Spell k x4_0).bind fun x5_2 =>
    (expr_reader_takes k x5_2 l l1_oext0_1 false).bind fun (x5_3_0, x5_3_1) =>
    if x5_3_0 then
    (expr_reader_factor k l x5_3_1 false).bind fun (x6_3_0, x6_3_1, x6_3_2) =>
    some (.inr ((TNode.mk 15 (tk l i).At x4_0 [] [x6_3_0]), x6_3_1, x6_3_2))
    else
    some (.inl ((IntKind.i64.wrap (l1_11 + 1)), x5_3_1))
    else
    (expr_reader_part k l l1_oext0_1 false).map .inr
theorem bind_same {α β γ : Type} (o : Option (α × β × γ)) : (o.bind fun (a, b, c) => some (a, b, c)) = o := by cases o <;> rfl
theorem eFac_eq (k : Nat) (l : List TToken) (i : Int) : expr_reader_factor (k + 1) l i false = loopM k (eFacB l i k) (0, i) := by
  rw [expr_reader_factor, look_eq, Option.bind_some]
  simp only [joinK, bind_same]
  rfl
theorem factor_R {l : List TToken} (W : WF l) {i : Int} (H : IH l i) : R GEx l i (eFactor l i) (rFactor l i) := by
  have s1 : ∀ k, word_Spell k 2 = some [45] := fun _ => rfl
  have s2 : ∀ k, word_Spell k 14 = some [33] := fun _ => rfl
  have i0 : ix [(2 : Int), 14] 0 = some 2 := rfl
  have i1 : ix [(2 : Int), 14] 1 = some 14 := rfl
  have d0 : decide ((0 : Int) < (([2, 14] : List Int).length : Int)) = true := rfl
  have d1 : decide ((1 : Int) < (([2, 14] : List Int).length : Int)) = true := rfl
  have d2 : decide ((2 : Int) < (([2, 14] : List Int).length : Int)) = false := rfl
  have w1 : IntKind.i64.wrap (0 + 1) = 1 := rfl
  have w2 : IntKind.i64.wrap (1 + 1) = 2 := rfl
  by_cases h1 : isT (tk l i) 4 [45] = true
  · have hk := (isT_kind h1).1
    have h33 : isT (tk l i) 4 [33] = false := isT_txt (by rw [(isT_kind h1).2]; decide)
    obtain ⟨n1, n2, n3⟩ := W.next (i := i) (by omega)
    obtain ⟨a, j, b, ok, e1, e2, e3, e4⟩ := H.fac (i + 1) (by omega) (by omega)
    have E : Ev (eFactor l i) (⟨15, (tk l i).At, 2, [], [a]⟩, j, !ok) := by
      refine Ev.succ1 ?_
      simp only [eFactor, eFac_eq]
      refine Ev.loop (EvL.done ?_)
      simp only [eFacB]; simp only [qe, Option.bind_some, Option.map_some, joinK, qb, ↓reduceIte, if_true, if_false, eq_self, Int.reduceBEq, Int.reduceBNe, d0, i0, s1, h1, n3]
      refine Ev.bind e1 ?_
      simp only [qe, Option.bind_some, Option.map_some, joinK, qb, ↓reduceIte, if_true, if_false, eq_self, Int.reduceBEq, Int.reduceBNe]; exact Ev.pure
    have Rr : Ev (rFactor l i) (if ok then ⟨15, (tk l i).At, 2, [], [b]⟩ else zN, j, ok) := by
      refine Ev.succ1 ?_
      simp only [rFactor, ref13_factor]; simp only [qe, Option.bind_some, Option.map_some, joinK, qb, ↓reduceIte, if_true, if_false, eq_self, Int.reduceBEq, Int.reduceBNe, h1, h33, n3]
      refine Ev.bind e2 ?_
      cases ok
      · simp only [qe, Option.bind_some, Option.map_some, joinK, qb, ↓reduceIte, if_true, if_false, eq_self, Int.reduceBEq, Int.reduceBNe]; exact Ev.pure
      · simp only [qe, Option.bind_some, Option.map_some, joinK, qb, ↓reduceIte, if_true, if_false, eq_self, Int.reduceBEq, Int.reduceBNe]; exact Ev.pure
    cases ok with
    | false => exact R.bad E Rr
    | true =>
      obtain ⟨rfl, q2, q3, q4⟩ := e3 rfl
      exact R.good E Rr ⟨by omega, q3⟩ ⟨ge_un _ (.inl rfl) q4.ge, wide1 q4.wide⟩
  have h1 : isT (tk l i) 4 [45] = false := by simpa using h1
  by_cases h2 : isT (tk l i) 4 [33] = true
  · have hk := (isT_kind h2).1
    obtain ⟨n1, n2, n3⟩ := W.next (i := i) (by omega)
    obtain ⟨a, j, b, ok, e1, e2, e3, e4⟩ := H.fac (i + 1) (by omega) (by omega)
    have E : Ev (eFactor l i) (⟨15, (tk l i).At, 14, [], [a]⟩, j, !ok) := by
      refine Ev.succ1 ?_
      simp only [eFactor, eFac_eq]
      refine Ev.loop (EvL.step (s' := (1, i)) ?_ (EvL.done ?_))
      · simp only [eFacB]; simp only [qe, Option.bind_some, Option.map_some, joinK, qb, ↓reduceIte, if_true, if_false, eq_self, Int.reduceBEq, Int.reduceBNe, d0, i0, s1, h1, w1]; exact Ev.pure
      · simp only [eFacB]; simp only [qe, Option.bind_some, Option.map_some, joinK, qb, ↓reduceIte, if_true, if_false, eq_self, Int.reduceBEq, Int.reduceBNe, d1, i1, s2, h2, n3]
        refine Ev.bind e1 ?_
        simp only [qe, Option.bind_some, Option.map_some, joinK, qb, ↓reduceIte, if_true, if_false, eq_self, Int.reduceBEq, Int.reduceBNe]; exact Ev.pure
    have Rr : Ev (rFactor l i) (if ok then ⟨15, (tk l i).At, 14, [], [b]⟩ else zN, j, ok) := by
      refine Ev.succ1 ?_
      simp only [rFactor, ref13_factor]; simp only [qe, Option.bind_some, Option.map_some, joinK, qb, ↓reduceIte, if_true, if_false, eq_self, Int.reduceBEq, Int.reduceBNe, h1, h2, n3]
      refine Ev.bind e2 ?_
      cases ok
      · simp only [qe, Option.bind_some, Option.map_some, joinK, qb, ↓reduceIte, if_true, if_false, eq_self, Int.reduceBEq, Int.reduceBNe]; exact Ev.pure
      · simp only [qe, Option.bind_some, Option.map_some, joinK, qb, ↓reduceIte, if_true, if_false, eq_self, Int.reduceBEq, Int.reduceBNe]; exact Ev.pure
    cases ok with
    | false => exact R.bad E Rr
    | true =>
      obtain ⟨rfl, q2, q3, q4⟩ := e3 rfl
      exact R.good E Rr ⟨by omega, q3⟩ ⟨ge_un _ (.inr rfl) q4.ge, wide1 q4.wide⟩
  have h2 : isT (tk l i) 4 [33] = false := by simpa using h2
  obtain ⟨a, j, b, ok, e1, e2, e3, e4⟩ := part_R W H
  refine ⟨a, j, b, ok, Ev.succ1 ?_, Ev.succ1 ?_, e3, e4⟩
  · simp only [eFactor, eFac_eq]
    refine Ev.loop (EvL.step (s' := (1, i)) ?_ (EvL.step (s' := (2, i)) ?_ (EvL.done ?_)))
    · simp only [eFacB]; simp only [qe, Option.bind_some, Option.map_some, joinK, qb, ↓reduceIte, if_true, if_false, eq_self, Int.reduceBEq, Int.reduceBNe, d0, i0, s1, h1, w1]; exact Ev.pure
    · simp only [eFacB]; simp only [qe, Option.bind_some, Option.map_some, joinK, qb, ↓reduceIte, if_true, if_false, eq_self, Int.reduceBEq, Int.reduceBNe, d1, i1, s2, h2, w2]; exact Ev.pure
    · simp only [eFacB]; simp only [qe, Option.bind_some, Option.map_some, joinK, qb, ↓reduceIte, if_true, if_false, eq_self, Int.reduceBEq, Int.reduceBNe, d2]; exact Ev.map e1
  · simp only [rFactor, ref13_factor]; simp only [qe, Option.bind_some, Option.map_some, joinK, qb, ↓reduceIte, if_true, if_false, eq_self, Int.reduceBEq, Int.reduceBNe, h1, h2]
    refine Ev.bind e2 ?_
    simp only [qe, Option.bind_some, Option.map_some, joinK, qb, ↓reduceIte, if_true, if_false, eq_self, Int.reduceBEq, Int.reduceBNe]; exact Ev.pure
end Go.Proofs.YtjakhfaodfaimaaDoor.F
namespace Go.Proofs.YtjakhfaodfaimaaDoor.F
open Go
def eLevB (l : List TToken) (q : Int) (k : Nat) (s : Int × Bool × TNode) : Option ((Int × Bool × TNode) ⊕ (TNode × Int × Bool)) :=
  match s with
  | (l1_oext0_1, l1_oext0_2, l1_oloc5) =>
    if (!l1_oext0_2) then
    (expr_reader_sign k q l l1_oext0_1 l1_oext0_2).bind fun x5_2 =>
    if (x5_2 == 0) then
    (some (l1_oloc5, l1_oext0_1, l1_oext0_2)).map .inr
    else
    (expr_reader_look k l l1_oext0_1 l1_oext0_2).bind fun x7_1 =>
    (expr_reader_level k (IntKind.i64.wrap (q + 1)) l (IntKind.i64.wrap (l1_oext0_1 + 1)) l1_oext0_2).bind fun (x9_4_0, x9_4_1, x9_4_2) =>
    if (q == 3) then
    (some ((TNode.mk 16 x7_1.At x5_2 [] [l1_oloc5, x9_4_0]), x9_4_1, x9_4_2)).map .inr
    else
    some (.inl (x9_4_1, x9_4_2, (TNode.mk 16 x7_1.At x5_2 [] [l1_oloc5, x9_4_0])))
    else
    (some (l1_oloc5, l1_oext0_1, l1_oext0_2)).map .inr
def rLevB (l : List TToken) (q : Int) (k : Nat) (s : Int × TNode) : Option ((Int × TNode) ⊕ (TNode × Int × Bool)) :=
  match s with
  | (l0_10, l0_oloc9) =>
    (ref13_sign k l l0_10 q).bind fun x6_3 =>
    if (x6_3 == 0) then
    some (.inr (l0_oloc9, l0_10, true))
    else
    (ref13_level k l (IntKind.i64.wrap (l0_10 + 1)) (IntKind.i64.wrap (q + 1))).bind fun (x9_5_0, x9_5_1, x9_5_2) =>
    if (!x9_5_2) then
    some (.inr ((TNode.mk 0 0 0 [] []), x9_5_1, false))
    else
    (ref13_Tok k l l0_10).bind fun x12_2 =>
    if (q == 3) then
    some (.inr ((TNode.mk 16 x12_2.At x6_3 [] [l0_oloc9, x9_5_0]), x9_5_1, true))
    else
    some (.inl (x9_5_1, (TNode.mk 16 x12_2.At x6_3 [] [l0_oloc9, x9_5_0])))
theorem eLev_eq (k : Nat) (l : List TToken) (i q : Int) : expr_reader_level (k + 1) q l i false = (if (q == 6) then (expr_reader_factor k l i false) else (expr_reader_level k (IntKind.i64.wrap (q + 1)) l i false).bind fun (a, b, c) => loopM k (eLevB l q k) (b, c, a)) := by
  rw [expr_reader_level]
  simp only [joinK, bind_same]
  rfl
theorem rLev_eq (k : Nat) (l : List TToken) (i q : Int) : ref13_level (k + 1) l i q = (if (decide (q > 5)) then (ref13_factor k l i) else (ref13_level k l i (IntKind.i64.wrap (q + 1))).bind fun (a, b, c) => if (!c) then some (zN, b, false) else loopM k (rLevB l q k) (b, a)) := by
  rw [ref13_level]
  simp only [joinK, bind_same]
  rfl
theorem eLev_end (l : List TToken) (q p : Int) (n : TNode) : EvL (eLevB l q) (p, true, n) (n, p, true) := EvL.done (by simp only [eLevB]; simp only [qe, Option.bind_some, Option.map_some, joinK, qb, ↓reduceIte, if_true, if_false, eq_self, Int.reduceBEq, Int.reduceBNe]; exact Ev.pure)
theorem lev_loop {l : List TToken} (W : WF l) {i : Int} (H : IH l i) (q : Int) (hq1 : 1 ≤ q) (hq5 : q ≤ 5) : ∀ (n : Nat) (p : Int) (x : TNode), (l.length : Int) - p ≤ n → i < p → p < l.length → GEx x →
    ∃ a j b ok, EvL (eLevB l q) (p, false, x) (a, j, !ok) ∧ EvL (rLevB l q) (p, x) (b, j, ok) ∧ (ok = true → a = b ∧ p ≤ j ∧ j < l.length ∧ GEx b) ∧ (ok = false → b = zN) := by
  have hw : IntKind.i64.wrap (q + 1) = q + 1 := wrap64_id (by omega) (by omega)
  intro n
  induction n using Nat.strongRecOn with
  | _ n ih =>
  intro p x hn hp hpl hg
  obtain ⟨s, s1, s2, s3⟩ := sign_both l p q
  by_cases h0 : s = 0
  · subst h0
    refine ⟨x, p, x, true, EvL.done ?_, EvL.done ?_, fun _ => ⟨rfl, by omega, hpl, hg⟩, fun h => by cases h⟩
    · simp only [eLevB]; simp only [qe, Option.bind_some, Option.map_some, joinK, qb, ↓reduceIte, if_true, if_false, eq_self, Int.reduceBEq, Int.reduceBNe]
      refine Ev.bind s1 ?_
      simp only [qe, Option.bind_some, Option.map_some, joinK, qb, ↓reduceIte, if_true, if_false, eq_self, Int.reduceBEq, Int.reduceBNe]; exact Ev.pure
    · simp only [rLevB]
      refine Ev.bind s2 ?_
      simp only [qe, Option.bind_some, Option.map_some, joinK, qb, ↓reduceIte, if_true, if_false, eq_self, Int.reduceBEq, Int.reduceBNe]; exact Ev.pure
  · have h0b : (s == 0) = false := by simpa using h0
    obtain ⟨hk, hb⟩ := s3 h0
    obtain ⟨n1, n2, n3⟩ := W.next (i := p) (by omega)
    obtain ⟨a, j, b, ok, e1, e2, e3, e4⟩ := H.lev (q + 1) (by omega) (by omega) (p + 1) (by omega) (by omega)
    by_cases h3 : q = 3
    · have h3b : (q == 3) = true := by simpa using h3
      have E : EvL (eLevB l q) (p, false, x) (⟨16, (tk l p).At, s, [], [x, a]⟩, j, !ok) := by
        refine EvL.done ?_
        simp only [eLevB]; simp only [qe, Option.bind_some, Option.map_some, joinK, qb, ↓reduceIte, if_true, if_false, eq_self, Int.reduceBEq, Int.reduceBNe]
        refine Ev.bind s1 ?_
        simp only [qe, Option.bind_some, Option.map_some, joinK, qb, ↓reduceIte, if_true, if_false, eq_self, Int.reduceBEq, Int.reduceBNe, h0b, hw, n3]
        refine Ev.bind e1 ?_
        simp only [qe, Option.bind_some, Option.map_some, joinK, qb, ↓reduceIte, if_true, if_false, eq_self, Int.reduceBEq, Int.reduceBNe, h3b]; exact Ev.pure
      have Rr : EvL (rLevB l q) (p, x) (if ok then ⟨16, (tk l p).At, s, [], [x, b]⟩ else zN, j, ok) := by
        refine EvL.done ?_
        simp only [rLevB]
        refine Ev.bind s2 ?_
        simp only [qe, Option.bind_some, Option.map_some, joinK, qb, ↓reduceIte, if_true, if_false, eq_self, Int.reduceBEq, Int.reduceBNe, h0b, hw, n3]
        refine Ev.bind e2 ?_
        cases ok
        · simp only [qe, Option.bind_some, Option.map_some, joinK, qb, ↓reduceIte, if_true, if_false, eq_self, Int.reduceBEq, Int.reduceBNe]; exact Ev.pure
        · simp only [qe, Option.bind_some, Option.map_some, joinK, qb, ↓reduceIte, if_true, if_false, eq_self, Int.reduceBEq, Int.reduceBNe, h3b]; exact Ev.pure
      refine ⟨_, j, _, ok, E, Rr, fun h => ?_, fun h => by subst h; rfl⟩
      subst h
      obtain ⟨rfl, q2, q3, q4⟩ := e3 rfl
      exact ⟨rfl, by omega, q3, ⟨ge_bin _ hb (by omega) hg.ge q4.ge, wide2 hg.wide q4.wide⟩⟩
    · have h3b : (q == 3) = false := by simpa using h3
      have E : Ev (fun k => eLevB l q k (p, false, x)) (.inl (j, !ok, ⟨16, (tk l p).At, s, [], [x, a]⟩)) := by
        simp only [eLevB]; simp only [qe, Option.bind_some, Option.map_some, joinK, qb, ↓reduceIte, if_true, if_false, eq_self, Int.reduceBEq, Int.reduceBNe]
        refine Ev.bind s1 ?_
        simp only [qe, Option.bind_some, Option.map_some, joinK, qb, ↓reduceIte, if_true, if_false, eq_self, Int.reduceBEq, Int.reduceBNe, h0b, hw, n3]
        refine Ev.bind e1 ?_
        simp only [qe, Option.bind_some, Option.map_some, joinK, qb, ↓reduceIte, if_true, if_false, eq_self, Int.reduceBEq, Int.reduceBNe, h3b]; exact Ev.pure
      cases ok with
      | false =>
        refine ⟨_, j, zN, false, EvL.step E (eLev_end _ _ _ _), EvL.done ?_, (fun h => by cases h), fun _ => rfl⟩
        simp only [rLevB]
        refine Ev.bind s2 ?_
        simp only [qe, Option.bind_some, Option.map_some, joinK, qb, ↓reduceIte, if_true, if_false, eq_self, Int.reduceBEq, Int.reduceBNe, h0b, hw, n3]
        refine Ev.bind e2 ?_
        simp only [qe, Option.bind_some, Option.map_some, joinK, qb, ↓reduceIte, if_true, if_false, eq_self, Int.reduceBEq, Int.reduceBNe]; exact Ev.pure
      | true =>
        obtain ⟨rfl, q2, q3, q4⟩ := e3 rfl
        obtain ⟨a', j', b', ok', f1, f2, f3, f4⟩ := ih (n - 1) (by omega) j ⟨16, (tk l p).At, s, [], [x, a]⟩ (by omega) (by omega) (by omega) ⟨ge_bin _ hb (by omega) hg.ge q4.ge, wide2 hg.wide q4.wide⟩
        refine ⟨a', j', b', ok', EvL.step E f1, EvL.step (s' := (j, ⟨16, (tk l p).At, s, [], [x, a]⟩)) ?_ f2, fun h => ?_, f4⟩
        · simp only [rLevB]
          refine Ev.bind s2 ?_
          simp only [qe, Option.bind_some, Option.map_some, joinK, qb, ↓reduceIte, if_true, if_false, eq_self, Int.reduceBEq, Int.reduceBNe, h0b, hw, n3]
          refine Ev.bind e2 ?_
          simp only [qe, Option.bind_some, Option.map_some, joinK, qb, ↓reduceIte, if_true, if_false, eq_self, Int.reduceBEq, Int.reduceBNe, h3b]; exact Ev.pure
        · obtain ⟨g1, g2, g3, g4⟩ := f3 h
          exact ⟨g1, by omega, g3, g4⟩
theorem level_R {l : List TToken} (W : WF l) {i : Int} (H : IH l i) : ∀ (d : Nat) (q : Int), q + d = 6 → 1 ≤ q → R GEx l i (eLevel l i q) (rLevel l i q)
  | 0, q, e, h => by
    have e : q = 6 := by omega
    subst e
    obtain ⟨a, j, b, ok, e1, e2, e3, e4⟩ := factor_R W H
    refine ⟨a, j, b, ok, Ev.succ1 ?_, Ev.succ1 ?_, e3, e4⟩
    · simp only [eLevel, eLev_eq]; simp only [qe, Option.bind_some, Option.map_some, joinK, qb, ↓reduceIte, if_true, if_false, eq_self, Int.reduceBEq, Int.reduceBNe]; exact e1
    · simp only [rLevel, rLev_eq]; simp only [qe, Option.bind_some, Option.map_some, joinK, qb, ↓reduceIte, if_true, if_false, eq_self, Int.reduceBEq, Int.reduceBNe, show decide ((6 : Int) > 5) = true from rfl]; exact e2
  | d + 1, q, e, h => by
    have h6 : (q == 6) = false := by simp; omega
    have h5 : decide (q > 5) = false := by simp; omega
    have hw : IntKind.i64.wrap (q + 1) = q + 1 := wrap64_id (by omega) (by omega)
    obtain ⟨a, j, b, ok, e1, e2, e3, e4⟩ := level_R W H d (q + 1) (by omega) (by omega)
    cases ok with
    | false =>
      refine R.bad (j := j) (n := a) (Ev.succ1 ?_) (Ev.succ1 ?_)
      · simp only [eLevel, eLev_eq]; simp only [qe, Option.bind_some, Option.map_some, joinK, qb, ↓reduceIte, if_true, if_false, eq_self, Int.reduceBEq, Int.reduceBNe, h6, hw]
        refine Ev.bind e1 ?_
        exact Ev.loop (eLev_end _ _ _ _)
      · simp only [rLevel, rLev_eq]; simp only [qe, Option.bind_some, Option.map_some, joinK, qb, ↓reduceIte, if_true, if_false, eq_self, Int.reduceBEq, Int.reduceBNe, h5, hw]
        refine Ev.bind e2 ?_
        simp only [qe, Option.bind_some, Option.map_some, joinK, qb, ↓reduceIte, if_true, if_false, eq_self, Int.reduceBEq, Int.reduceBNe]; exact Ev.pure
    | true =>
      obtain ⟨rfl, q2, q3, q4⟩ := e3 rfl
      obtain ⟨a', j', b', ok', f1, f2, f3, f4⟩ := lev_loop W H q h (by omega) (l.length - j).toNat j a (by omega) q2 q3 q4
      refine ⟨a', j', b', ok', Ev.succ1 ?_, Ev.succ1 ?_, fun h => ?_, f4⟩
      · simp only [eLevel, eLev_eq]; simp only [qe, Option.bind_some, Option.map_some, joinK, qb, ↓reduceIte, if_true, if_false, eq_self, Int.reduceBEq, Int.reduceBNe, h6, hw]
        refine Ev.bind e1 ?_
        exact Ev.loop f1
      · simp only [rLevel, rLev_eq]; simp only [qe, Option.bind_some, Option.map_some, joinK, qb, ↓reduceIte, if_true, if_false, eq_self, Int.reduceBEq, Int.reduceBNe, h5, hw]
        refine Ev.bind e2 ?_
        simp only [qe, Option.bind_some, Option.map_some, joinK, qb, ↓reduceIte, if_true, if_false, eq_self, Int.reduceBEq, Int.reduceBNe]; exact Ev.loop f2
      · obtain ⟨g1, g2, g3, g4⟩ := f3 h
        exact ⟨g1, by omega, g3, g4⟩
theorem ih_all {l : List TToken} (W : WF l) : ∀ (n : Nat) (i : Int), (l.length : Int) - i ≤ n → IH l i := by
  intro n
  induction n with
  | zero =>
    intro i hi
    exact ⟨fun q a b j hj hl => by omega, fun j hj hl => by omega⟩
  | succ n ih =>
    intro i hi
    refine ⟨fun q a b j hj hl => ?_, fun j hj hl => ?_⟩
    · exact level_R W (ih j (by omega)) (6 - q).toNat q (by omega) a
    · exact factor_R W (ih j (by omega))
theorem ih_at {l : List TToken} (W : WF l) (i : Int) : IH l i := ih_all W (l.length - i).toNat i (by omega)
theorem expr_all {l : List TToken} (W : WF l) (i : Int) : R GEx l i (eLevel l i 1) (rExpr l i) := by
  obtain ⟨a, j, b, ok, e1, e2, e3, e4⟩ := level_R W (ih_at W i) 5 1 (by omega) (by omega)
  exact ⟨a, j, b, ok, e1, expr_of e2, e3, e4⟩
theorem args_all {l : List TToken} (W : WF l) (i : Int) : RA l i := args_R W (ih_at W i)
end Go.Proofs.YtjakhfaodfaimaaDoor.F
namespace Go.Proofs.YtjakhfaodfaimaaDoor.F
open Go
theorem Ev.sh {α : Type} (n : Nat) {f : Nat → Option α} {x : α} (h : Ev (fun k => f (k + n)) x) : Ev f x := by
  obtain ⟨k0, h⟩ := h
  refine ⟨k0 + n, fun k hk => ?_⟩
  have h2 : f (k - n + n) = some x := h (k - n) (by omega)
  rwa [show k - n + n = k by omega] at h2
theorem Ev.up {α : Type} {n : Nat} {f : Nat → Option α} {x : α} (h : Ev f x) : Ev (fun k => f (k + n)) x := by
  obtain ⟨k0, h⟩ := h
  exact ⟨k0, fun k hk => h (k + n) (by omega)⟩
theorem node_eta (n : TNode) : TNode.mk n.Kind n.At n.N n.Name n.Kids = n := by cases n; rfl
theorem slook_eq (k : Nat) (l : List TToken) (i : Int) (b : Bool) : stmt_cursor_look k l i b = some (tk l i) := tok_body l i (k := k)
theorem sis_eq (k : Nat) (kd : Int) (s : List UInt8) (l : List TToken) (i : Int) : stmt_cursor_is k kd s l i false = some (isT (tk l i) kd s) := by unfold stmt_cursor_is; rw [slook_eq]; rfl
theorem sis_bad (k : Nat) (kd : Int) (s : List UInt8) (l : List TToken) (i : Int) : stmt_cursor_is k kd s l i true = some false := by unfold stmt_cursor_is; rw [slook_eq]; rfl
theorem stakes_eq (k : Nat) (kd : Int) (s : List UInt8) (l : List TToken) (i : Int) : stmt_cursor_takes k kd s l i false = some (if isT (tk l i) kd s then (true, IntKind.i64.wrap (i + 1)) else (false, i)) := by
  unfold stmt_cursor_takes
  rw [sis_eq]
  cases isT (tk l i) kd s <;> rfl
theorem stakes_bad (k : Nat) (kd : Int) (s : List UInt8) (l : List TToken) (i : Int) : stmt_cursor_takes k kd s l i true = some (false, i) := by
  unfold stmt_cursor_takes
  rw [sis_bad]; rfl
theorem sname_eq (k : Nat) (l : List TToken) (i : Int) : stmt_cursor_name k l i false = some (if (tk l i).Kind != 1 then ([], 0, i, true) else ((tk l i).Text, (tk l i).At, IntKind.i64.wrap (i + 1), false)) := by
  unfold stmt_cursor_name
  rw [slook_eq]
  simp only [Option.bind_some, Bool.false_or]
  cases h : (tk l i).Kind != 1 <;> simp [h]
theorem sname_bad (k : Nat) (l : List TToken) (i : Int) : stmt_cursor_name k l i true = some ([], 0, i, true) := by unfold stmt_cursor_name; rw [slook_eq]; rfl
theorem spart2_bad (k : Nat) (l : List TToken) (i : Int) : stmt_cursor_part_v2 k l i true = some (zN, i, true) := rfl
theorem sexpr_bad (k : Nat) (l : List TToken) (i : Int) : stmt_cursor_expr k l i true = some (zN, i, true) := rfl
theorem spart_bad (k : Nat) (l : List TToken) (i : Int) : stmt_cursor_part k l i true = some (zN, i, true) := rfl
theorem sparam_bad (k : Nat) (l : List TToken) (i : Int) : stmt_cursor_param k l i true = some (⟨50, 0, 0, [], [zN]⟩, i, true) := by
  unfold stmt_cursor_param; rw [sname_bad]; rfl
theorem sempty_eq (k : Nat) (l : List TToken) (i : Int) (b : Bool) : stmt_cursor_empty k l i b = some (isT (tk l (IntKind.i64.wrap (i + 1))) 4 [93]) := by
  unfold stmt_cursor_empty; rw [sis_eq]; rfl
theorem send_ok (k : Nat) (n : TNode) (l : List TToken) (i : Int) : stmt_cursor_end k n l i false = some (n, i, 0) := rfl
theorem send_bad (k : Nat) (n : TNode) (l : List TToken) (i : Int) : stmt_cursor_end k n l i true = some (zN, i, 1) := rfl
theorem fail_eq (k : Nat) (i : Int) : ref14_fail k i = some ⟨zN, i, false⟩ := rfl
theorem closed_eq (k : Nat) (l : List TToken) (g : Tref14_Got) (n : TNode) (m : List UInt8) : ref14_closed k l g n m = some (if g.Ok then (if isT (tk l g.At) 4 m then ⟨n, IntKind.i64.wrap (g.At + 1), true⟩ else ⟨zN, g.At, false⟩) else ⟨zN, g.At, false⟩) := by
  unfold ref14_closed joinK
  simp only [Is_eq, fail_eq, Option.bind_some]
  cases g.Ok
  · rfl
  · cases isT (tk l g.At) 4 m <;> rfl
theorem wants_no (k : Nat) (m : List UInt8) (l : List TToken) (i : Int) : stmt_cursor_wants (k + 2) [m] l i true = some (i, true) := by
  unfold stmt_cursor_wants
  rw [show k + 2 = k + 1 + 1 from rfl, loopM_step]
  simp only [show decide ((0 : Int) < (([m] : List (List UInt8)).length : Int)) = true from rfl, if_true, show ix [m] 0 = some m from rfl, Option.bind_some, stakes_bad, Bool.or_true]
  rw [show IntKind.i64.wrap (0 + 1) = 1 from rfl, loopM_step]
  rfl
theorem wants_ok (k : Nat) (m : List UInt8) (l : List TToken) (i : Int) : stmt_cursor_wants (k + 2) [m] l i false = some (if isT (tk l i) 4 m then (IntKind.i64.wrap (i + 1), false) else (i, true)) := by
  unfold stmt_cursor_wants
  rw [show k + 2 = k + 1 + 1 from rfl, loopM_step]
  simp only [show decide ((0 : Int) < (([m] : List (List UInt8)).length : Int)) = true from rfl, if_true, show ix [m] 0 = some m from rfl, Option.bind_some, stakes_eq]
  cases isT (tk l i) 4 m
  · simp only [Bool.false_eq_true, if_false, Bool.not_false, Bool.true_or]
    rw [show IntKind.i64.wrap (0 + 1) = 1 from rfl, loopM_step]
    rfl
  · simp only [if_true, Bool.not_true, Bool.false_or]
    rw [show IntKind.i64.wrap (0 + 1) = 1 from rfl, loopM_step]
    rfl
theorem qs : (∀ n : TNode, TNode.mk n.Kind n.At n.N n.Name n.Kids = n) ∧ (∀ k l i b, stmt_cursor_look k l i b = some (tk l i)) ∧ (∀ k kd s l i, stmt_cursor_is k kd s l i false = some (isT (tk l i) kd s)) ∧ (∀ k kd s l i, stmt_cursor_is k kd s l i true = some false) ∧
    (∀ k kd s l i, stmt_cursor_takes k kd s l i false = some (if isT (tk l i) kd s then (true, IntKind.i64.wrap (i + 1)) else (false, i))) ∧ (∀ k kd s l i, stmt_cursor_takes k kd s l i true = some (false, i)) ∧
    (∀ k l i, stmt_cursor_name k l i false = some (if (tk l i).Kind != 1 then ([], 0, i, true) else ((tk l i).Text, (tk l i).At, IntKind.i64.wrap (i + 1), false))) ∧ (∀ k l i, stmt_cursor_name k l i true = some ([], 0, i, true)) ∧
    (∀ k l i, stmt_cursor_expr k l i true = some (zN, i, true)) ∧ (∀ k l i, stmt_cursor_part k l i true = some (zN, i, true)) ∧ (∀ k l i, stmt_cursor_param k l i true = some (⟨50, 0, 0, [], [zN]⟩, i, true)) ∧
    (∀ k l i b, stmt_cursor_empty k l i b = some (isT (tk l (IntKind.i64.wrap (i + 1))) 4 [93])) ∧ (∀ k n l i, stmt_cursor_end k n l i false = some (n, i, 0)) ∧ (∀ k n l i, stmt_cursor_end k n l i true = some (zN, i, 1)) ∧
    (∀ k i, ref14_fail k i = some ⟨zN, i, false⟩) ∧ (∀ k l g n m, ref14_closed k l g n m = some (if g.Ok then (if isT (tk l g.At) 4 m then ⟨n, IntKind.i64.wrap (g.At + 1), true⟩ else ⟨zN, g.At, false⟩) else ⟨zN, g.At, false⟩)) ∧
    (∀ k m l i, stmt_cursor_wants (k + 2) [m] l i false = some (if isT (tk l i) 4 m then (IntKind.i64.wrap (i + 1), false) else (i, true))) ∧ (∀ k m l i, stmt_cursor_wants (k + 2) [m] l i true = some (i, true)) ∧
    (∀ k l i, ref13_Tok k l i = some (tk l i)) ∧ (∀ k l i s, ref13_Is k l i s = some (isT (tk l i) 4 s)) ∧ (∀ k l i s, ref13_Says k l i s = some (isT (tk l i) 3 s)) :=
  ⟨node_eta, slook_eq, sis_eq, sis_bad, stakes_eq, stakes_bad, sname_eq, sname_bad, sexpr_bad, spart_bad, sparam_bad, sempty_eq, send_ok, send_bad, fail_eq, closed_eq, wants_ok, wants_no, Tok_eq, Is_eq, Says_eq⟩
def RG (G : TNode → Prop) (l : List TToken) (i : Int) (e : Nat → Option (TNode × Int × Bool)) (r : Nat → Option Tref14_Got) : Prop :=
  ∃ n j m ok, Ev e (n, j, !ok) ∧ Ev r ⟨m, j, ok⟩ ∧ (ok = true → n = m ∧ i < j ∧ j < l.length ∧ G m) ∧ (ok = false → m = zN)
theorem RG.bad {G : TNode → Prop} {l : List TToken} {i : Int} {e : Nat → Option (TNode × Int × Bool)} {r : Nat → Option Tref14_Got} {n : TNode} {j : Int} (h1 : Ev e (n, j, true)) (h2 : Ev r ⟨zN, j, false⟩) : RG G l i e r := ⟨n, j, zN, false, h1, h2, (fun h => by cases h), fun _ => rfl⟩
theorem RG.good {G : TNode → Prop} {l : List TToken} {i : Int} {e : Nat → Option (TNode × Int × Bool)} {r : Nat → Option Tref14_Got} {n : TNode} {j : Int} (h1 : Ev e (n, j, false)) (h2 : Ev r ⟨n, j, true⟩) (hj : i < j ∧ j < l.length) (hg : G n) : RG G l i e r := ⟨n, j, n, true, h1, h2, (fun _ => ⟨rfl, hj.1, hj.2, hg⟩), fun h => by cases h⟩
theorem sexpr_of {l : List TToken} {i : Int} {n : TNode} {j : Int} {ok : Bool} (h : Ev (eLevel l i 1) (n, j, !ok)) : Ev (fun k => stmt_cursor_expr k l i false) (if ok then n else zN, j, !ok) := by
  unfold stmt_cursor_expr stmt_cursor_part_v2
  simp only [Bool.false_eq_true, if_false]
  refine Ev.bind (x := (if ok then n else zN, j, !ok)) (Ev.bind (x := (if ok then n else zN, j, if ok then 0 else 1)) ?_ ?_) Ev.pure
  · unfold expr_Expr
    refine Ev.bind h ?_
    cases ok <;> exact Ev.pure
  · cases ok <;> exact Ev.pure
theorem rexpr_of {l : List TToken} {i : Int} {m : TNode} {j : Int} {ok : Bool} (h : Ev (rExpr l i) (m, j, ok)) : Ev (fun k => ref14_expr k l i) ⟨m, j, ok⟩ := by
  unfold ref14_expr
  exact Ev.bind h Ev.pure
theorem sexpr_all {l : List TToken} (W : WF l) (i : Int) : RG GEx l i (fun k => stmt_cursor_expr k l i false) (fun k => ref14_expr k l i) := by
  obtain ⟨n, j, m, ok, e1, e2, e3, e4⟩ := expr_all W i
  refine ⟨_, j, m, ok, sexpr_of e1, rexpr_of e2, fun h => ?_, e4⟩
  subst h; exact e3 rfl
theorem spart_all {l : List TToken} (W : WF l) (i : Int) : R GTy l i (fun k => stmt_cursor_part k l i false) (fun k => ref13_Type k l i) := by
  obtain ⟨n, j, m, ok, e1, e2, e3, e4⟩ := type_all W i
  refine ⟨if ok then n else zN, j, m, ok, ?_, e2, fun h => ?_, e4⟩
  · unfold stmt_cursor_part
    simp only [Bool.false_eq_true, if_false]
    refine Ev.bind (x := (if ok then n else zN, j, if ok then 0 else 1)) ?_ ?_
    · unfold expr_Type
      refine Ev.bind e1 ?_
      cases ok <;> exact Ev.pure
    · cases ok <;> exact Ev.pure
  · subst h; exact e3 rfl
theorem sargs_of {l : List TToken} {i : Int} {n : List TNode} {j : Int} {ok : Bool} (h : Ev (eArgs l i) (n, j, !ok)) : Ev (fun k => expr_Args k l i) (if ok then n else [], j, if ok then 0 else 1) := by
  unfold expr_Args
  refine Ev.bind h ?_
  cases ok
  · simp only [qe, Option.bind_some, Option.map_some, joinK, qb, ↓reduceIte, if_true, if_false, eq_self, Int.reduceBEq, Int.reduceBNe]; exact Ev.pure
  · simp only [qe, Option.bind_some, Option.map_some, joinK, qb, ↓reduceIte, if_true, if_false, eq_self, Int.reduceBEq, Int.reduceBNe]; exact Ev.pure
end Go.Proofs.YtjakhfaodfaimaaDoor.F
namespace Go.Proofs.YtjakhfaodfaimaaDoor.F
open Go
abbrev SGood (n : TNode) : Prop := Ev (fun k => ref11_Stmt k n) true
structure GS (n : TNode) : Prop where
  gs : SGood n
  wide : Wide n
structure GP (n : TNode) : Prop where
  gp : Ev (fun k => ref11_place k n) true
  ge : GE n
  wide : Wide n
structure GB (n : TNode) : Prop where
  gs : GS n
  kd : n.Kind = 30
structure GI (n : TNode) : Prop where
  gs : GS n
  kd : n.Kind = 33
theorem alone_eq (k : Nat) (n : TNode) : ref11_alone k n = some ((n.N == 0) && (n.Name == [])) := rfl
theorem gp_name (a : Int) {s : List UInt8} (h : Nm s) : GP ⟨12, a, 0, s, []⟩ := by
  have hg : GE ⟨12, a, 0, s, []⟩ := ge_named 12 a h (by simp) (by simp) (Or.inl ⟨rfl, rfl⟩)
  refine ⟨Ev.succ1 ?_, hg, wide0⟩
  simp only [ref11_place]
  refine Ev.bind hg ?_
  simp only [qs, Option.bind_some, Option.map_some, joinK, qb, ↓reduceIte, if_true, if_false, eq_self, Int.reduceBEq, Int.reduceBNe]; exact Ev.pure
theorem gp_field (a : Int) {s : List UInt8} {n : TNode} (h : Nm s) (hn : GP n) : GP ⟨14, a, 0, s, [n]⟩ := by
  have hg : GE ⟨14, a, 0, s, [n]⟩ := ge_named 14 a h (by simpa using hn.ge) (by simp) (Or.inr (Or.inl ⟨rfl, rfl⟩))
  refine ⟨Ev.succ1 ?_, hg, wide1 hn.wide⟩
  simp only [ref11_place]
  refine Ev.bind hg ?_
  simp only [qs, Option.bind_some, Option.map_some, joinK, qb, ↓reduceIte, if_true, if_false, eq_self, Int.reduceBEq, Int.reduceBNe]
  refine Ev.bindS (x := n) (fun _ => rfl) (Ev.bind hn.gp Ev.pure)
theorem gp_index (a : Int) {n m : TNode} (hn : GP n) (hm : GEx m) : GP ⟨13, a, 0, [], [n, m]⟩ := by
  have hg : GE ⟨13, a, 0, [], [n, m]⟩ := ge_index a hn.ge hm.ge
  refine ⟨Ev.succ1 ?_, hg, wide2 hn.wide hm.wide⟩
  simp only [ref11_place]
  refine Ev.bind hg ?_
  simp only [qs, Option.bind_some, Option.map_some, joinK, qb, ↓reduceIte, if_true, if_false, eq_self, Int.reduceBEq, Int.reduceBNe]
  refine Ev.bindS (x := n) (fun _ => rfl) (Ev.bind hn.gp Ev.pure)
theorem gs_join (a : Int) {s : List UInt8} (h : Nm s) : GS ⟨36, a, 0, s, []⟩ := by
  refine ⟨Ev.succ1 ?_, wide0⟩
  simp only [ref11_Stmt]
  simp only [qs, Option.bind_some, Option.map_some, joinK, qb, ↓reduceIte, if_true, if_false, eq_self, Int.reduceBEq, Int.reduceBNe]
  refine Ev.bind h ?_
  simp only [qs, Option.bind_some, Option.map_some, joinK, qb, ↓reduceIte, if_true, if_false, eq_self, Int.reduceBEq, Int.reduceBNe, List.length_nil, Int.ofNat_zero, show ((0 : Nat) : Int) = 0 from rfl]; exact Ev.pure
theorem gs_var (a : Int) {s : List UInt8} {n : TNode} (h : Nm s) (hn : GEx n) : GS ⟨31, a, 0, s, [n]⟩ := by
  refine ⟨Ev.succ1 ?_, wide1 hn.wide⟩
  simp only [ref11_Stmt]
  simp only [qs, Option.bind_some, Option.map_some, joinK, qb, ↓reduceIte, if_true, if_false, eq_self, Int.reduceBEq, Int.reduceBNe]
  refine Ev.bind h ?_
  simp only [qs, Option.bind_some, Option.map_some, joinK, qb, ↓reduceIte, if_true, if_false, eq_self, Int.reduceBEq, Int.reduceBNe, List.length_cons, List.length_nil, show ((0 + 1 : Nat) : Int) = 1 from rfl]
  exact Ev.bindS (x := n) (fun _ => rfl) (Ev.bind hn.ge Ev.pure)
theorem gs_ret0 (a : Int) : GS ⟨35, a, 0, [], []⟩ := by
  refine ⟨Ev.succ1 ?_, wide0⟩
  simp only [ref11_Stmt]
  simp only [qs, Option.bind_some, Option.map_some, joinK, qb, ↓reduceIte, if_true, if_false, eq_self, Int.reduceBEq, Int.reduceBNe, alone_eq, List.length_nil, show ((0 : Nat) : Int) = 0 from rfl]; exact Ev.pure
theorem gs_ret1 (a : Int) {n : TNode} (hn : GEx n) : GS ⟨35, a, 0, [], [n]⟩ := by
  refine ⟨Ev.succ1 ?_, wide1 hn.wide⟩
  simp only [ref11_Stmt]
  simp only [qs, Option.bind_some, Option.map_some, joinK, qb, ↓reduceIte, if_true, if_false, eq_self, Int.reduceBEq, Int.reduceBNe, alone_eq, List.length_cons, List.length_nil, show ((0 + 1 : Nat) : Int) = 1 from rfl]
  exact Ev.bindS (x := n) (fun _ => rfl) (Ev.bind hn.ge Ev.pure)
theorem gs_print (a : Int) {n : TNode} (hn : GEx n) : GS ⟨37, a, 0, [], [n]⟩ := by
  refine ⟨Ev.succ1 ?_, wide1 hn.wide⟩
  simp only [ref11_Stmt]
  simp only [qs, Option.bind_some, Option.map_some, joinK, qb, ↓reduceIte, if_true, if_false, eq_self, Int.reduceBEq, Int.reduceBNe, alone_eq, List.length_cons, List.length_nil, show ((0 + 1 : Nat) : Int) = 1 from rfl]
  exact Ev.bindS (x := n) (fun _ => rfl) (Ev.bind hn.ge Ev.pure)
theorem gs_do (a b : Int) {s : List UInt8} {l : List TNode} (h : Nm s) (hl : GAr l) : GS ⟨38, a, 0, [], [⟨17, b, 0, s, l⟩]⟩ := by
  have hc : GE ⟨17, b, 0, s, l⟩ := ge_named 17 b h (fun n hn => (hl.all n hn).ge) (by have := hl.len; omega) (Or.inr (Or.inr (Or.inl rfl)))
  refine ⟨Ev.succ1 ?_, wide1 (wideL (fun x hx => (hl.all x hx).wide) (by have := hl.len; omega))⟩
  simp only [ref11_Stmt]
  simp only [qs, Option.bind_some, Option.map_some, joinK, qb, ↓reduceIte, if_true, if_false, eq_self, Int.reduceBEq, Int.reduceBNe, alone_eq, List.length_cons, List.length_nil, show ((0 + 1 : Nat) : Int) = 1 from rfl]
  refine Ev.bindS (x := ⟨17, b, 0, s, l⟩) (fun _ => rfl) ?_
  simp only [qs, Option.bind_some, Option.map_some, joinK, qb, ↓reduceIte, if_true, if_false, eq_self, Int.reduceBEq, Int.reduceBNe]
  exact Ev.bindS (x := ⟨17, b, 0, s, l⟩) (fun _ => rfl) (Ev.bind hc Ev.pure)
theorem gs_set (a : Int) {n m : TNode} (hn : GP n) (hm : GEx m) : GS ⟨32, a, 0, [], [n, m]⟩ := by
  refine ⟨Ev.succ1 ?_, wide2 hn.wide hm.wide⟩
  simp only [ref11_Stmt]
  simp only [qs, Option.bind_some, Option.map_some, joinK, qb, ↓reduceIte, if_true, if_false, eq_self, Int.reduceBEq, Int.reduceBNe, alone_eq, List.length_cons, List.length_nil, show ((0 + 1 + 1 : Nat) : Int) = 2 from rfl]
  refine Ev.bindS (x := n) (fun _ => rfl) (Ev.bind hn.gp ?_)
  simp only [qs, Option.bind_some, Option.map_some, joinK, qb, ↓reduceIte, if_true, if_false, eq_self, Int.reduceBEq, Int.reduceBNe]
  exact Ev.bindS (x := m) (fun _ => rfl) (Ev.bind hm.ge Ev.pure)
theorem kind_of {n : TNode} {q : Int} (h : GS n) (hk : n.Kind = q) : Ev (fun k => ref11_kind k n q) true := by
  refine Ev.succ1 ?_
  simp only [ref11_kind]
  simp only [qs, Option.bind_some, Option.map_some, joinK, qb, ↓reduceIte, if_true, if_false, eq_self, Int.reduceBEq, Int.reduceBNe, hk]
  exact Ev.bind h.gs Ev.pure
theorem kind_no {n : TNode} {q : Int} (hk : n.Kind ≠ q) : Ev (fun k => ref11_kind k n q) false := by
  refine Ev.succ1 ?_
  simp only [ref11_kind]
  simp only [qs, Option.bind_some, Option.map_some, joinK, qb, ↓reduceIte, if_true, if_false, eq_self, Int.reduceBEq, Int.reduceBNe, show (n.Kind == q) = false by simpa using hk]
  exact Ev.pure
theorem gs_two (a q : Int) (hq : q = 33 ∨ q = 34) {n b : TNode} (hn : GEx n) (hb : GB b) : GS ⟨q, a, 0, [], [n, b]⟩ := by
  refine ⟨Ev.succ1 ?_, wide2 hn.wide hb.gs.wide⟩
  simp only [ref11_Stmt]
  have c2 : decide ((2 : Int) < 2) = false := rfl
  rcases hq with rfl | rfl
  all_goals
    simp only [qs, Option.bind_some, Option.map_some, joinK, qb, ↓reduceIte, if_true, if_false, eq_self, Int.reduceBEq, Int.reduceBNe, alone_eq, c2, List.length_cons, List.length_nil, show ((0 + 1 + 1 : Nat) : Int) = 2 from rfl]
    refine Ev.bindS (x := n) (fun _ => rfl) (Ev.bind hn.ge ?_)
    simp only [qs, Option.bind_some, Option.map_some, joinK, qb, ↓reduceIte, if_true, if_false, eq_self, Int.reduceBEq, Int.reduceBNe]
    refine Ev.bindS (x := b) (fun _ => rfl) (Ev.bind (kind_of hb.gs hb.kd) ?_)
    simp only [qs, Option.bind_some, Option.map_some, joinK, qb, ↓reduceIte, if_true, if_false, eq_self, Int.reduceBEq, Int.reduceBNe]
    exact Ev.pure
theorem gs_three (a : Int) {n b c : TNode} (hn : GEx n) (hb : GB b) (hc : GS c) (hk : c.Kind = 30 ∨ c.Kind = 33) : GS ⟨33, a, 0, [], [n, b, c]⟩ := by
  refine ⟨Ev.succ1 ?_, wideL (by simp; exact ⟨hn.wide, hb.gs.wide, hc.wide⟩) (by simp)⟩
  simp only [ref11_Stmt]
  have c2 : decide ((3 : Int) < 2) = false := rfl
  simp only [qs, Option.bind_some, Option.map_some, joinK, qb, ↓reduceIte, if_true, if_false, eq_self, Int.reduceBEq, Int.reduceBNe, alone_eq, c2, List.length_cons, List.length_nil, show ((0 + 1 + 1 + 1 : Nat) : Int) = 3 from rfl]
  refine Ev.bindS (x := n) (fun _ => rfl) (Ev.bind hn.ge ?_)
  simp only [qs, Option.bind_some, Option.map_some, joinK, qb, ↓reduceIte, if_true, if_false, eq_self, Int.reduceBEq, Int.reduceBNe]
  refine Ev.bindS (x := b) (fun _ => rfl) (Ev.bind (kind_of hb.gs hb.kd) ?_)
  simp only [qs, Option.bind_some, Option.map_some, joinK, qb, ↓reduceIte, if_true, if_false, eq_self, Int.reduceBEq, Int.reduceBNe]
  refine Ev.bindS (x := c) (fun _ => rfl) ?_
  by_cases h : c.Kind = 30
  · refine Ev.bind (kind_of hc h) ?_
    simp only [qs, Option.bind_some, Option.map_some, joinK, qb, ↓reduceIte, if_true, if_false, eq_self, Int.reduceBEq, Int.reduceBNe]; exact Ev.pure
  · refine Ev.bind (kind_no h) ?_
    simp only [qs, Option.bind_some, Option.map_some, joinK, qb, ↓reduceIte, if_true, if_false, eq_self, Int.reduceBEq, Int.reduceBNe]
    refine Ev.bindS (x := c) (fun _ => rfl) (Ev.bind (kind_of hc (by omega)) Ev.pure)
theorem gs_block (a : Int) {l : List TNode} (hl : ∀ n ∈ l, GS n) (hn : l.length ≤ 1000000) : GB ⟨30, a, 0, [], l⟩ := by
  refine ⟨⟨Ev.succ1 ?_, wideL (fun x hx => (hl x hx).wide) hn⟩, rfl⟩
  simp only [ref11_Stmt]
  simp only [qs, Option.bind_some, Option.map_some, joinK, qb, ↓reduceIte, if_true, if_false, eq_self, Int.reduceBEq, Int.reduceBNe, alone_eq]
  refine Ev.loop ?_
  have key : ∀ (r m : List TNode), l = m ++ r → EvL (σ := Int) (ρ := Bool) (fun k (l1_4 : Int) =>
      if decide (l1_4 < (l.length : Int)) = true then
        (ix l l1_4).bind fun x12_3 => (ref11_Stmt k x12_3).bind fun x12_5 =>
          if (!x12_5) = true then some (.inr false) else some (.inl (IntKind.i64.wrap (l1_4 + 1)))
      else some (.inr true)) (m.length : Int) true := by
    intro r
    induction r with
    | nil => intro m hm; exact EvL.done (Ev.ite_f (by rw [hm]; simp) (Ev.of fun _ => rfl))
    | cons x r ih =>
      intro m hm
      have hx : x ∈ l := by rw [hm]; simp
      have hlen : l.length = m.length + (r.length + 1) := by rw [hm]; simp
      have hix : ix l (m.length : Int) = some x := ix_of (by omega) (by rw [hm]; simp)
      refine EvL.step (Ev.ite_t (by simp; omega) (Ev.bindS (fun _ => hix) (Ev.bind (hl x hx).gs (Ev.ite_f rfl Ev.pure)))) ?_
      rw [wrap64_id (by omega) (by omega)]
      have := ih (m ++ [x]) (by rw [hm]; simp)
      simpa using this
  exact key l [] rfl
end Go.Proofs.YtjakhfaodfaimaaDoor.F
namespace Go.Proofs.YtjakhfaodfaimaaDoor.F
open Go
theorem ix_tk {l : List TToken} {i : Int} (h0 : 0 ≤ i) (h : i < l.length) : ix l i = some (tk l i) := by
  have e : l[i.toNat]? = some l[i.toNat] := List.getElem?_eq_getElem (by omega)
  rw [ix_of h0 e]; unfold tk; rw [if_pos h0, e]; rfl
def ePlB (l : List TToken) (k : Nat) (s : Int × Bool × TNode) : Option ((Int × Bool × TNode) ⊕ (TNode × Int × Bool)) :=
  match s with
  | (p, b, n) =>
    if (!b) then
    (stmt_cursor_look k l p b).bind fun x4_1 =>
    (stmt_cursor_takes k 4 [91] l p b).bind fun (x6_1_0, x6_1_1) =>
    if x6_1_0 then
    (stmt_cursor_expr k l x6_1_1 b).bind fun (x7_3_0, x7_3_1, x7_3_2) =>
    (stmt_cursor_wants k [[93]] l x7_3_1 x7_3_2).bind fun (x8_2_0, x8_2_1) =>
    some (.inl (x8_2_0, x8_2_1, (TNode.mk 13 x4_1.At 0 [] [n, x7_3_0])))
    else
    (stmt_cursor_takes k 4 [46] l x6_1_1 b).bind fun (x9_1_0, x9_1_1) =>
    if x9_1_0 then
    (stmt_cursor_name k l x9_1_1 b).bind fun (x11_1_0, x11_1_1, x11_1_2, x11_1_3) =>
    some (.inl (x11_1_2, x11_1_3, (TNode.mk 14 x4_1.At 0 x11_1_0 [n])))
    else
    some (.inr (n, x9_1_1, b))
    else
    (some (n, p, b)).map .inr
theorem sPlace_eq (k : Nat) (l : List TToken) (i : Int) (h : (tk l i).Kind = 1) : stmt_cursor_place k l i false = loopM k (ePlB l k) (IntKind.i64.wrap (i + 1), false, ⟨12, (tk l i).At, 0, (tk l i).Text, []⟩) := by
  unfold stmt_cursor_place
  rw [sname_eq, h]
  rfl
def rSetT (l : List TToken) (k : Nat) (q : Int) (n : TNode) : Option Tref14_Got :=
    (ref13_Is k l q [61]).bind fun x22_2 =>
    if (!x22_2) then
    (ref14_fail k q).bind fun x23_1 =>
    some x23_1
    else
    (ref14_expr k l (IntKind.i64.wrap (q + 1))).bind fun x24_3 =>
    (ref13_Tok k l q).bind fun x25_4 =>
    (ref14_closed k l x24_3 (TNode.mk 32 x25_4.At 0 [] [n, (TNode.mk x24_3.N.Kind x24_3.N.At x24_3.N.N x24_3.N.Name x24_3.N.Kids)]) [59]).bind fun x25_11 =>
    some x25_11
def rPlB (l : List TToken) (k : Nat) (s : Int × TNode) : Option ((Int × TNode) ⊕ Tref14_Got) :=
  match s with
  | (l1_1, l1_oloc10) =>
    (ref13_Is k l l1_1 [91]).bind fun x8_2 =>
    joinK (fun (g8_7_62 : Bool) =>
    if g8_7_62 then
    (ref13_Tok k l l1_1).bind fun x9_2 =>
    (ref13_Is k l l1_1 [46]).bind fun x10_2 =>
    if x10_2 then
    (ref13_Tok k l (IntKind.i64.wrap (l1_1 + 1))).bind fun x11_3 =>
    if (x11_3.Kind != 1) then
    (ref14_fail k (IntKind.i64.wrap (l1_1 + 1))).bind fun x13_2 =>
    some (.inr x13_2)
    else
    some (.inl ((IntKind.i64.wrap (l1_1 + 2)), (TNode.mk 14 x9_2.At 0 x11_3.Text [l1_oloc10])))
    else
    (ref14_expr k l (IntKind.i64.wrap (l1_1 + 1))).bind fun x16_3 =>
    (ref14_closed k l x16_3 (TNode.mk 13 x9_2.At 0 [] [l1_oloc10, (TNode.mk x16_3.N.Kind x16_3.N.At x16_3.N.N x16_3.N.Name x16_3.N.Kids)]) [93]).bind fun x17_8 =>
    if (!x17_8.Ok) then
    some (.inr x17_8)
    else
    some (.inl (x17_8.At, x17_8.N))
    else
    (rSetT l k l1_1 l1_oloc10).map .inr) fun j_g8_7 =>
    if x8_2 then
    j_g8_7 true
    else
    (ref13_Is k l l1_1 [46]).bind fun x8_6 =>
    j_g8_7 x8_6
def eCallT (l : List TToken) (i : Int) (k : Nat) : Option (TNode × Int × Bool) :=
    (expr_Args k l (IntKind.i64.wrap (i + 1))).bind fun (x3_9_0, x3_9_1, x3_9_2) =>
    (stmt_cursor_wants k [[59]] l x3_9_1 (x3_9_2 != 0)).bind fun (x5_2_0, x5_2_1) =>
    some ((TNode.mk 38 (tk l i).At 0 [] [(TNode.mk 17 (tk l i).At 0 (tk l i).Text x3_9_0)]), x5_2_0, x5_2_1)
def eSetT (l : List TToken) (k : Nat) (x : TNode) (q : Int) (b : Bool) : Option (TNode × Int × Bool) :=
    (stmt_cursor_look k l q b).bind fun x8_1 =>
    (stmt_cursor_wants k [[61]] l q b).bind fun (x9_2_0, x9_2_1) =>
    (stmt_cursor_expr k l x9_2_0 x9_2_1).bind fun (x10_1_0, x10_1_1, x10_1_2) =>
    (stmt_cursor_wants k [[59]] l x10_1_1 x10_1_2).bind fun (x11_2_0, x11_2_1) =>
    some ((TNode.mk 32 x8_1.At 0 [] [x, x10_1_0]), x11_2_0, x11_2_1)
theorem sNamed_eq {l : List TToken} (W : WF l) (k : Nat) (i : Int) (h : (tk l i).Kind = 1) : stmt_cursor_named k l i false =
    (if isT (tk l (i + 1)) 4 [40] then eCallT l i k else (loopM k (ePlB l k) (i + 1, false, ⟨12, (tk l i).At, 0, (tk l i).Text, []⟩)).bind fun (x, q, b) => eSetT l k x q b) := by
  obtain ⟨n1, n2, n3⟩ := W.next (i := i) (by omega)
  unfold stmt_cursor_named eCallT eSetT
  rw [sPlace_eq _ _ _ h]
  simp only [n3, joinK, slook_eq, Option.bind_some, ix_tk (show 0 ≤ i + 1 by omega) n2, show decide (i + 1 < (l.length : Int)) = true by simpa using n2, if_true]
  cases hk : (tk l (i + 1)).Kind == 4
  · simp only [isT, hk, Bool.false_and, Bool.false_eq_true, if_false]
  · cases ht : (tk l (i + 1)).Text == [40]
    · simp only [isT, hk, ht, Bool.and_false, Bool.false_eq_true, if_false, if_true]
    · simp only [isT, hk, ht, Bool.and_true, if_true]
theorem rNamed_eq {l : List TToken} (W : WF l) (k : Nat) (i : Int) (h : (tk l i).Kind = 1) : ref14_named k l i =
    (if isT (tk l (i + 1)) 4 [40] then (ref13_Args k l (i + 1)).bind fun (a, j, ok) => ref14_closed k l ⟨⟨17, (tk l i).At, 0, (tk l i).Text, a⟩, j, ok⟩ ⟨38, (tk l i).At, 0, [], [⟨17, (tk l i).At, 0, (tk l i).Text, a⟩]⟩ [59]
     else loopM k (rPlB l k) (i + 1, ⟨12, (tk l i).At, 0, (tk l i).Text, []⟩)) := by
  obtain ⟨n1, n2, n3⟩ := W.next (i := i) (by omega)
  unfold ref14_named
  rw [n3, Tok_eq, Is_eq]
  simp only [Option.bind_some]
  cases isT (tk l (i + 1)) 4 [40]
  · simp only [Bool.false_eq_true, if_false]; rfl
  · simp only [if_true, closed_eq, Option.bind_some]
theorem ePl_end (l : List TToken) (p : Int) (n : TNode) : EvL (ePlB l) (p, true, n) (n, p, true) := EvL.done (by simp only [ePlB]; simp only [qs, Option.bind_some, Option.map_some, joinK, qb, ↓reduceIte, if_true, if_false, eq_self, Int.reduceBEq, Int.reduceBNe]; exact Ev.pure)
theorem eSet_bad (l : List TToken) (x : TNode) (q : Int) : ∃ n, Ev (fun k => eSetT l k x q true) (n, q, true) := by
  refine ⟨⟨32, (tk l q).At, 0, [], [x, zN]⟩, Ev.sh 2 ?_⟩
  simp only [eSetT]
  simp only [qs, Option.bind_some, Option.map_some, joinK, qb, ↓reduceIte, if_true, if_false, eq_self, Int.reduceBEq, Int.reduceBNe, slook_eq]; exact Ev.pure
theorem place_loop {l : List TToken} (W : WF l) : ∀ (n : Nat) (p : Int) (x : TNode), (l.length : Int) - p ≤ n → 0 < p → p < l.length → GP x →
    (∃ y j, EvL (ePlB l) (p, false, x) (y, j, true) ∧ EvL (rPlB l) (p, x) ⟨zN, j, false⟩) ∨
    (∃ y q, EvL (ePlB l) (p, false, x) (y, q, false) ∧ p ≤ q ∧ q < l.length ∧ GP y ∧ ∀ res, Ev (fun k => rSetT l k q y) res → EvL (rPlB l) (p, x) res) := by
  intro n
  induction n using Nat.strongRecOn with
  | _ n ih =>
  intro p x hn hp hpl hg
  by_cases h1 : isT (tk l p) 4 [91] = true
  · have hk := (isT_kind h1).1
    have h2 : isT (tk l p) 4 [46] = false := isT_txt (by rw [(isT_kind h1).2]; decide)
    obtain ⟨n1, n2, n3⟩ := W.next (i := p) (by omega)
    obtain ⟨a, j, b, ok, e1, e2, e3, e4⟩ := sexpr_all W (p + 1)
    have E : Ev (fun k => ePlB l k (p, false, x)) (.inl (if ok && isT (tk l j) 4 [93] then (IntKind.i64.wrap (j + 1), false, ⟨13, (tk l p).At, 0, [], [x, a]⟩) else (j, true, ⟨13, (tk l p).At, 0, [], [x, a]⟩))) := by
      refine Ev.sh 2 ?_
      simp only [ePlB]
      simp only [qs, Option.bind_some, Option.map_some, joinK, qb, ↓reduceIte, if_true, if_false, eq_self, Int.reduceBEq, Int.reduceBNe, slook_eq, h1, n3]
      refine Ev.bind e1.up ?_
      cases ok
      · simp only [qs, Option.bind_some, Option.map_some, joinK, qb, ↓reduceIte, if_true, if_false, eq_self, Int.reduceBEq, Int.reduceBNe]; exact Ev.pure
      · simp only [qs, Option.bind_some, Option.map_some, joinK, qb, ↓reduceIte, if_true, if_false, eq_self, Int.reduceBEq, Int.reduceBNe]
        cases isT (tk l j) 4 [93]
        · simp only [qs, Option.bind_some, Option.map_some, joinK, qb, ↓reduceIte, if_true, if_false, eq_self, Int.reduceBEq, Int.reduceBNe]; exact Ev.pure
        · simp only [qs, Option.bind_some, Option.map_some, joinK, qb, ↓reduceIte, if_true, if_false, eq_self, Int.reduceBEq, Int.reduceBNe]; exact Ev.pure
    have Rr : Ev (fun k => rPlB l k (p, x)) (if ok && isT (tk l j) 4 [93] then .inl (IntKind.i64.wrap (j + 1), ⟨13, (tk l p).At, 0, [], [x, b]⟩) else .inr ⟨zN, j, false⟩) := by
      simp only [rPlB]
      simp only [qs, Option.bind_some, Option.map_some, joinK, qb, ↓reduceIte, if_true, if_false, eq_self, Int.reduceBEq, Int.reduceBNe, h1, h2, n3]
      refine Ev.bind e2 ?_
      cases ok
      · simp only [qs, Option.bind_some, Option.map_some, joinK, qb, ↓reduceIte, if_true, if_false, eq_self, Int.reduceBEq, Int.reduceBNe]; exact Ev.pure
      · simp only [qs, Option.bind_some, Option.map_some, joinK, qb, ↓reduceIte, if_true, if_false, eq_self, Int.reduceBEq, Int.reduceBNe]
        cases isT (tk l j) 4 [93]
        · simp only [qs, Option.bind_some, Option.map_some, joinK, qb, ↓reduceIte, if_true, if_false, eq_self, Int.reduceBEq, Int.reduceBNe]; exact Ev.pure
        · simp only [qs, Option.bind_some, Option.map_some, joinK, qb, ↓reduceIte, if_true, if_false, eq_self, Int.reduceBEq, Int.reduceBNe]; exact Ev.pure
    cases ok with
    | false =>
      simp only [Bool.false_and, Bool.false_eq_true, if_false] at E Rr
      exact Or.inl ⟨_, j, EvL.step E (ePl_end _ _ _), EvL.done Rr⟩
    | true =>
      obtain ⟨rfl, q2, q3, q4⟩ := e3 rfl
      by_cases h3 : isT (tk l j) 4 [93] = true
      · obtain ⟨m1, m2, m3⟩ := W.next (i := j) (by rw [(isT_kind h3).1]; decide)
        simp only [h3, Bool.and_true, if_true, m3] at E Rr
        rcases ih (n - 1) (by omega) (j + 1) ⟨13, (tk l p).At, 0, [], [x, a]⟩ (by omega) (by omega) m2 (gp_index _ hg q4) with ⟨y, j', f1, f2⟩ | ⟨y, q, f1, f2, f3, f4, f5⟩
        · exact Or.inl ⟨y, j', EvL.step E f1, EvL.step Rr f2⟩
        · exact Or.inr ⟨y, q, EvL.step E f1, by omega, f3, f4, fun res hres => EvL.step Rr (f5 res hres)⟩
      · simp only [show isT (tk l j) 4 [93] = false by simpa using h3, Bool.and_false, Bool.false_eq_true, if_false] at E Rr
        exact Or.inl ⟨_, j, EvL.step E (ePl_end _ _ _), EvL.done Rr⟩
  · have h1 : isT (tk l p) 4 [91] = false := by simpa using h1
    by_cases h2 : isT (tk l p) 4 [46] = true
    · have hk := (isT_kind h2).1
      obtain ⟨n1, n2, n3⟩ := W.next (i := p) (by omega)
      by_cases h3 : (tk l (p + 1)).Kind = 1
      · obtain ⟨m1, m2, m3⟩ := W.next (i := p + 1) (by omega)
        have hw2 : IntKind.i64.wrap (p + 2) = p + 2 := by rw [show p + 2 = p + 1 + 1 by omega]; exact m3
        have E : Ev (fun k => ePlB l k (p, false, x)) (.inl (p + 2, false, ⟨14, (tk l p).At, 0, (tk l (p + 1)).Text, [x]⟩)) := by
          refine Ev.sh 2 ?_
          simp only [ePlB]
          simp only [qs, Option.bind_some, Option.map_some, joinK, qb, ↓reduceIte, if_true, if_false, eq_self, Int.reduceBEq, Int.reduceBNe, slook_eq, h1, h2, n3, h3, m3]
          rw [show p + 1 + 1 = p + 2 by omega]; exact Ev.pure
        have Rr : Ev (fun k => rPlB l k (p, x)) (.inl (p + 2, ⟨14, (tk l p).At, 0, (tk l (p + 1)).Text, [x]⟩)) := by
          simp only [rPlB]
          simp only [qs, Option.bind_some, Option.map_some, joinK, qb, ↓reduceIte, if_true, if_false, eq_self, Int.reduceBEq, Int.reduceBNe, h1, h2, n3, h3, hw2]; exact Ev.pure
        rcases ih (n - 1) (by omega) (p + 2) ⟨14, (tk l p).At, 0, (tk l (p + 1)).Text, [x]⟩ (by omega) (by omega) (by omega) (gp_field _ (W.names _ h3) hg) with ⟨y, j', f1, f2⟩ | ⟨y, q, f1, f2, f3, f4, f5⟩
        · exact Or.inl ⟨y, j', EvL.step E f1, EvL.step Rr f2⟩
        · exact Or.inr ⟨y, q, EvL.step E f1, by omega, f3, f4, fun res hres => EvL.step Rr (f5 res hres)⟩
      · have h3b : ((tk l (p + 1)).Kind != 1) = true := by simpa using h3
        refine Or.inl ⟨_, p + 1, EvL.step (s' := (p + 1, true, ⟨14, (tk l p).At, 0, [], [x]⟩)) (Ev.sh 2 ?_) (ePl_end _ _ _), EvL.done ?_⟩
        · simp only [ePlB]
          simp only [qs, Option.bind_some, Option.map_some, joinK, qb, ↓reduceIte, if_true, if_false, eq_self, Int.reduceBEq, Int.reduceBNe, slook_eq, h1, h2, n3, h3b]; exact Ev.pure
        · simp only [rPlB]
          simp only [qs, Option.bind_some, Option.map_some, joinK, qb, ↓reduceIte, if_true, if_false, eq_self, Int.reduceBEq, Int.reduceBNe, h1, h2, n3, h3b]; exact Ev.pure
    · have h2 : isT (tk l p) 4 [46] = false := by simpa using h2
      refine Or.inr ⟨x, p, EvL.done (Ev.sh 2 ?_), by omega, hpl, hg, fun res hres => EvL.done ?_⟩
      · simp only [ePlB]
        simp only [qs, Option.bind_some, Option.map_some, joinK, qb, ↓reduceIte, if_true, if_false, eq_self, Int.reduceBEq, Int.reduceBNe, slook_eq, h1, h2]; exact Ev.pure
      · simp only [rPlB]
        simp only [qs, Option.bind_some, Option.map_some, joinK, qb, ↓reduceIte, if_true, if_false, eq_self, Int.reduceBEq, Int.reduceBNe, h1, h2]
        exact Ev.map hres
theorem snamed_R {l : List TToken} (W : WF l) (i : Int) (h : (tk l i).Kind = 1) : RG GS l i (fun k => stmt_cursor_named k l i false) (fun k => ref14_named k l i) := by
  obtain ⟨n1, n2, n3⟩ := W.next (i := i) (by omega)
  by_cases h1 : isT (tk l (i + 1)) 4 [40] = true
  · obtain ⟨a, j, b, ok, e1, e2, e3, e4⟩ := args_all W (i + 1)
    have E : Ev (fun k => stmt_cursor_named k l i false) (if ok && isT (tk l j) 4 [59] then (⟨38, (tk l i).At, 0, [], [⟨17, (tk l i).At, 0, (tk l i).Text, if ok then a else []⟩]⟩, IntKind.i64.wrap (j + 1), false) else (⟨38, (tk l i).At, 0, [], [⟨17, (tk l i).At, 0, (tk l i).Text, if ok then a else []⟩]⟩, j, true)) := by
      refine Ev.sh 2 ?_
      simp only [sNamed_eq W _ i h, eCallT, n3, h1, if_true]
      refine Ev.bind (sargs_of e1).up ?_
      cases ok
      · simp only [qs, Option.bind_some, Option.map_some, joinK, qb, ↓reduceIte, if_true, if_false, eq_self, Int.reduceBEq, Int.reduceBNe, show ((1 : Int) != 0) = true from rfl]; exact Ev.pure
      · simp only [qs, Option.bind_some, Option.map_some, joinK, qb, ↓reduceIte, if_true, if_false, eq_self, Int.reduceBEq, Int.reduceBNe, show ((0 : Int) != 0) = false from rfl]
        cases isT (tk l j) 4 [59]
        · simp only [qs, Option.bind_some, Option.map_some, joinK, qb, ↓reduceIte, if_true, if_false, eq_self, Int.reduceBEq, Int.reduceBNe]; exact Ev.pure
        · simp only [qs, Option.bind_some, Option.map_some, joinK, qb, ↓reduceIte, if_true, if_false, eq_self, Int.reduceBEq, Int.reduceBNe]; exact Ev.pure
    have Rr : Ev (fun k => ref14_named k l i) (if ok && isT (tk l j) 4 [59] then ⟨⟨38, (tk l i).At, 0, [], [⟨17, (tk l i).At, 0, (tk l i).Text, b⟩]⟩, IntKind.i64.wrap (j + 1), true⟩ else ⟨zN, j, false⟩) := by
      simp only [rNamed_eq W _ i h, h1, if_true]
      refine Ev.bind e2 ?_
      cases ok
      · simp only [qs, Option.bind_some, Option.map_some, joinK, qb, ↓reduceIte, if_true, if_false, eq_self, Int.reduceBEq, Int.reduceBNe]; exact Ev.pure
      · simp only [qs, Option.bind_some, Option.map_some, joinK, qb, ↓reduceIte, if_true, if_false, eq_self, Int.reduceBEq, Int.reduceBNe]
        cases isT (tk l j) 4 [59]
        · simp only [qs, Option.bind_some, Option.map_some, joinK, qb, ↓reduceIte, if_true, if_false, eq_self, Int.reduceBEq, Int.reduceBNe]; exact Ev.pure
        · simp only [qs, Option.bind_some, Option.map_some, joinK, qb, ↓reduceIte, if_true, if_false, eq_self, Int.reduceBEq, Int.reduceBNe]; exact Ev.pure
    cases ok with
    | false => exact RG.bad E Rr
    | true =>
      obtain ⟨rfl, q2, q3, q4⟩ := e3 rfl
      by_cases h3 : isT (tk l j) 4 [59] = true
      · obtain ⟨m1, m2, m3⟩ := W.next (i := j) (by rw [(isT_kind h3).1]; decide)
        simp only [h3, Bool.and_true, if_true, m3] at E Rr
        exact RG.good E Rr ⟨by omega, m2⟩ (gs_do _ _ (W.names i h) q4)
      · simp only [show isT (tk l j) 4 [59] = false by simpa using h3, Bool.and_false, Bool.false_eq_true, if_false] at E Rr
        exact RG.bad E Rr
  · have h1 : isT (tk l (i + 1)) 4 [40] = false := by simpa using h1
    rcases place_loop W (l.length - (i + 1)).toNat (i + 1) ⟨12, (tk l i).At, 0, (tk l i).Text, []⟩ (by omega) (by omega) n2 (gp_name _ (W.names i h)) with ⟨y, j, f1, f2⟩ | ⟨y, q, f1, f2, f3, f4, f5⟩
    · obtain ⟨n, hb⟩ := eSet_bad l y j
      refine RG.bad (n := n) (j := j) ?_ ?_
      · simp only [sNamed_eq W _ i h, h1, Bool.false_eq_true, if_false]
        exact Ev.bind (Ev.loop f1) hb
      · simp only [rNamed_eq W _ i h, h1, Bool.false_eq_true, if_false]
        exact Ev.loop f2
    · have E0 : ∀ {r}, Ev (fun k => eSetT l k y q false) r → Ev (fun k => stmt_cursor_named k l i false) r := by
        intro r hr
        simp only [sNamed_eq W _ i h, h1, Bool.false_eq_true, if_false]
        exact Ev.bind (Ev.loop f1) hr
      have R0 : ∀ {r}, Ev (fun k => rSetT l k q y) r → Ev (fun k => ref14_named k l i) r := by
        intro r hr
        simp only [rNamed_eq W _ i h, h1, Bool.false_eq_true, if_false]
        exact Ev.loop (f5 r hr)
      by_cases h2 : isT (tk l q) 4 [61] = true
      · obtain ⟨p1, p2, p3⟩ := W.next (i := q) (by rw [(isT_kind h2).1]; decide)
        obtain ⟨a, j, b, ok, e1, e2, e3, e4⟩ := sexpr_all W (q + 1)
        have E : Ev (fun k => eSetT l k y q false) (if ok && isT (tk l j) 4 [59] then (⟨32, (tk l q).At, 0, [], [y, a]⟩, IntKind.i64.wrap (j + 1), false) else (⟨32, (tk l q).At, 0, [], [y, a]⟩, j, true)) := by
          refine Ev.sh 2 ?_
          simp only [eSetT]
          simp only [qs, Option.bind_some, Option.map_some, joinK, qb, ↓reduceIte, if_true, if_false, eq_self, Int.reduceBEq, Int.reduceBNe, slook_eq, h2, p3]
          refine Ev.bind e1.up ?_
          cases ok
          · simp only [qs, Option.bind_some, Option.map_some, joinK, qb, ↓reduceIte, if_true, if_false, eq_self, Int.reduceBEq, Int.reduceBNe]; exact Ev.pure
          · simp only [qs, Option.bind_some, Option.map_some, joinK, qb, ↓reduceIte, if_true, if_false, eq_self, Int.reduceBEq, Int.reduceBNe]
            cases isT (tk l j) 4 [59]
            · simp only [qs, Option.bind_some, Option.map_some, joinK, qb, ↓reduceIte, if_true, if_false, eq_self, Int.reduceBEq, Int.reduceBNe]; exact Ev.pure
            · simp only [qs, Option.bind_some, Option.map_some, joinK, qb, ↓reduceIte, if_true, if_false, eq_self, Int.reduceBEq, Int.reduceBNe]; exact Ev.pure
        have Rr : Ev (fun k => rSetT l k q y) (if ok && isT (tk l j) 4 [59] then ⟨⟨32, (tk l q).At, 0, [], [y, b]⟩, IntKind.i64.wrap (j + 1), true⟩ else ⟨zN, j, false⟩) := by
          simp only [rSetT]
          simp only [qs, Option.bind_some, Option.map_some, joinK, qb, ↓reduceIte, if_true, if_false, eq_self, Int.reduceBEq, Int.reduceBNe, h2, p3]
          refine Ev.bind e2 ?_
          cases ok
          · simp only [qs, Option.bind_some, Option.map_some, joinK, qb, ↓reduceIte, if_true, if_false, eq_self, Int.reduceBEq, Int.reduceBNe]; exact Ev.pure
          · simp only [qs, Option.bind_some, Option.map_some, joinK, qb, ↓reduceIte, if_true, if_false, eq_self, Int.reduceBEq, Int.reduceBNe]
            cases isT (tk l j) 4 [59]
            · simp only [qs, Option.bind_some, Option.map_some, joinK, qb, ↓reduceIte, if_true, if_false, eq_self, Int.reduceBEq, Int.reduceBNe]; exact Ev.pure
            · simp only [qs, Option.bind_some, Option.map_some, joinK, qb, ↓reduceIte, if_true, if_false, eq_self, Int.reduceBEq, Int.reduceBNe]; exact Ev.pure
        cases ok with
        | false => exact RG.bad (E0 E) (R0 Rr)
        | true =>
          obtain ⟨rfl, q2, q3, q4⟩ := e3 rfl
          by_cases h3 : isT (tk l j) 4 [59] = true
          · obtain ⟨m1, m2, m3⟩ := W.next (i := j) (by rw [(isT_kind h3).1]; decide)
            simp only [h3, Bool.and_true, if_true, m3] at E Rr
            exact RG.good (E0 E) (R0 Rr) ⟨by omega, m2⟩ (gs_set _ f4 q4)
          · simp only [show isT (tk l j) 4 [59] = false by simpa using h3, Bool.and_false, Bool.false_eq_true, if_false] at E Rr
            exact RG.bad (E0 E) (R0 Rr)
      · have h2 : isT (tk l q) 4 [61] = false := by simpa using h2
        refine RG.bad (n := ⟨32, (tk l q).At, 0, [], [y, zN]⟩) (j := q) (E0 (Ev.sh 2 ?_)) (R0 ?_)
        · simp only [eSetT]
          simp only [qs, Option.bind_some, Option.map_some, joinK, qb, ↓reduceIte, if_true, if_false, eq_self, Int.reduceBEq, Int.reduceBNe, slook_eq, h2]; exact Ev.pure
        · simp only [rSetT]
          simp only [qs, Option.bind_some, Option.map_some, joinK, qb, ↓reduceIte, if_true, if_false, eq_self, Int.reduceBEq, Int.reduceBNe, h2]; exact Ev.pure
end Go.Proofs.YtjakhfaodfaimaaDoor.F
namespace Go.Proofs.YtjakhfaodfaimaaDoor.F
open Go
abbrev eStmt (l : List TToken) (i : Int) (k : Nat) := stmt_cursor_stmt k l i false
abbrev rStmt (l : List TToken) (i : Int) (k : Nat) := ref14_Stmt k l i
abbrev eBlock (l : List TToken) (i : Int) (k : Nat) := stmt_cursor_block k l i false
abbrev rBlock (l : List TToken) (i : Int) (k : Nat) := ref14_Block k l i
abbrev eChoice (l : List TToken) (i : Int) (k : Nat) := stmt_cursor_choice_v2 k 0 (tk l i).At 0 [] [] l (i + 1) false
abbrev rChoice (l : List TToken) (i : Int) (k : Nat) := ref14_choice k l i
structure IS (l : List TToken) (i : Int) : Prop where
  st : RG GS l i (eStmt l i) (rStmt l i)
  bl : RG GB l i (eBlock l i) (rBlock l i)
  ch : isT (tk l i) 3 [105, 102] = true → RG GI l i (eChoice l i) (rChoice l i)
def eBlB (l : List TToken) (a : Int) (k : Nat) (s : List TNode × Int × Bool) : Option ((List TNode × Int × Bool) ⊕ (TNode × Int × Bool)) :=
  match s with
  | (c, p, b) =>
    joinK (fun ((g3_9_20, g3_9_oext0_1) : Bool × Int) =>
    if g3_9_20 then
    (stmt_cursor_stmt k l g3_9_oext0_1 b).bind fun (x4_3_0, x4_3_1, x4_3_2) =>
    if (room 64 (c.length + [x4_3_0].length)) then
    some (.inl ((c ++ [x4_3_0]), x4_3_1, x4_3_2))
    else none
    else
    (some ((TNode.mk 30 a 0 [] c), g3_9_oext0_1, b)).map .inr) fun j_g3_9 =>
    if (!b) then
    (stmt_cursor_takes k 4 [125] l p b).bind fun (x3_7_0, x3_7_1) =>
    j_g3_9 ((!x3_7_0), x3_7_1)
    else
    j_g3_9 (false, p)
def rBlB (l : List TToken) (a : Int) (k : Nat) (s : List TNode × Int) : Option ((List TNode × Int) ⊕ Tref14_Got) :=
  match s with
  | (c, p) =>
    (ref13_Is k l p [125]).bind fun x5_2 =>
    if (!x5_2) then
    (ref14_Stmt k l p).bind fun x6_2 =>
    if (!x6_2.Ok) then
    some (.inr x6_2)
    else
    if (room 64 (c.length + [(TNode.mk x6_2.N.Kind x6_2.N.At x6_2.N.N x6_2.N.Name x6_2.N.Kids)].length)) then
    some (.inl ((c ++ [(TNode.mk x6_2.N.Kind x6_2.N.At x6_2.N.N x6_2.N.Name x6_2.N.Kids)]), x6_2.At))
    else none
    else
    (some (Tref14_Got.mk (TNode.mk 30 a 0 [] c) (IntKind.i64.wrap (p + 1)) true)).map .inr
theorem sBlock_eq (k : Nat) (l : List TToken) (i : Int) (b : Bool) : stmt_cursor_block (k + 1) l i b = (stmt_cursor_wants k [[123]] l i b).bind fun (p, c) => loopM k (eBlB l (tk l i).At k) ([], p, c) := by
  rw [stmt_cursor_block, slook_eq]; rfl
theorem rBlock_eq (k : Nat) (l : List TToken) (i : Int) : ref14_Block (k + 1) l i = if isT (tk l i) 4 [123] then loopM k (rBlB l (tk l i).At k) ([], IntKind.i64.wrap (i + 1)) else some ⟨zN, i, false⟩ := by
  rw [ref14_Block, Is_eq, Tok_eq]
  simp only [Option.bind_some]
  cases isT (tk l i) 4 [123]
  · rfl
  · rfl
theorem eBl_end (l : List TToken) (a p : Int) (c : List TNode) : EvL (eBlB l a) (c, p, true) (⟨30, a, 0, [], c⟩, p, true) := EvL.done (by simp only [eBlB]; simp only [qs, Option.bind_some, Option.map_some, joinK, qb, ↓reduceIte, if_true, if_false, eq_self, Int.reduceBEq, Int.reduceBNe]; exact Ev.pure)
theorem block_bad (l : List TToken) (i : Int) : Ev (fun k => stmt_cursor_block k l i true) (⟨30, (tk l i).At, 0, [], []⟩, i, true) := by
  refine Ev.sh 3 ?_
  simp only [sBlock_eq]
  simp only [qs, Option.bind_some, Option.map_some, joinK, qb, ↓reduceIte, if_true, if_false, eq_self, Int.reduceBEq, Int.reduceBNe]
  exact (Ev.loop (eBl_end l _ i [])).up (n := 2)
theorem room1 {m : Nat} (x : TNode) (h : m ≤ 1000000) : room 64 (m + [x].length) = true := room_of (by omega) (by simp; omega)
theorem block_loop {l : List TToken} (W : WF l) {i : Int} (a : Int) (H : ∀ j, i < j → j ≤ l.length → IS l j) : ∀ (n : Nat) (p : Int) (c : List TNode), (l.length : Int) - p ≤ n → i < p → 0 < p → p < l.length → (∀ x ∈ c, GS x) → (c.length : Int) ≤ p →
    ∃ x j y ok, EvL (eBlB l a) (c, p, false) (x, j, !ok) ∧ EvL (rBlB l a) (c, p) ⟨y, j, ok⟩ ∧ (ok = true → x = y ∧ p < j ∧ j < l.length ∧ GB y) ∧ (ok = false → y = zN) := by
  intro n
  induction n using Nat.strongRecOn with
  | _ n ih =>
  intro p c hn hi hp hpl hg hc
  have hlen := W.len
  by_cases h1 : isT (tk l p) 4 [125] = true
  · obtain ⟨n1, n2, n3⟩ := W.next (i := p) (by rw [(isT_kind h1).1]; decide)
    refine ⟨_, p + 1, _, true, EvL.done ?_, EvL.done ?_, fun _ => ⟨rfl, by omega, n2, gs_block a hg (by omega)⟩, fun h => by cases h⟩
    · simp only [eBlB]
      simp only [qs, Option.bind_some, Option.map_some, joinK, qb, ↓reduceIte, if_true, if_false, eq_self, Int.reduceBEq, Int.reduceBNe, h1, n3, Option.map_some]; exact Ev.pure
    · simp only [rBlB]
      simp only [qs, Option.bind_some, Option.map_some, joinK, qb, ↓reduceIte, if_true, if_false, eq_self, Int.reduceBEq, Int.reduceBNe, h1, n3, Option.map_some]; exact Ev.pure
  · have h1 : isT (tk l p) 4 [125] = false := by simpa using h1
    obtain ⟨x, j, y, ok, e1, e2, e3, e4⟩ := (H p hi (by omega)).st
    have E : Ev (fun k => eBlB l a k (c, p, false)) (.inl (c ++ [x], j, !ok)) := by
      simp only [eBlB]
      simp only [qs, Option.bind_some, Option.map_some, joinK, qb, ↓reduceIte, if_true, if_false, eq_self, Int.reduceBEq, Int.reduceBNe, h1]
      refine Ev.bind e1 ?_
      simp only [qs, Option.bind_some, Option.map_some, joinK, qb, ↓reduceIte, if_true, if_false, eq_self, Int.reduceBEq, Int.reduceBNe, room1 x (show c.length ≤ 1000000 by omega)]; exact Ev.pure
    cases ok with
    | false =>
      have := e4 rfl; subst this
      refine ⟨_, j, zN, false, EvL.step E (eBl_end _ _ _ _), EvL.done ?_, (fun h => by cases h), fun _ => rfl⟩
      simp only [rBlB]
      simp only [qs, Option.bind_some, Option.map_some, joinK, qb, ↓reduceIte, if_true, if_false, eq_self, Int.reduceBEq, Int.reduceBNe, h1]
      refine Ev.bind e2 ?_
      simp only [qs, Option.bind_some, Option.map_some, joinK, qb, ↓reduceIte, if_true, if_false, eq_self, Int.reduceBEq, Int.reduceBNe]; exact Ev.pure
    | true =>
      obtain ⟨rfl, q2, q3, q4⟩ := e3 rfl
      obtain ⟨x', j', y', ok', f1, f2, f3, f4⟩ := ih (n - 1) (by omega) j (c ++ [x]) (by omega) (by omega) (by omega) q3 (by simp; exact fun z hz => hz.elim (hg z) (fun e => e ▸ q4)) (by simp; omega)
      refine ⟨x', j', y', ok', EvL.step E f1, EvL.step (s' := (c ++ [x], j)) ?_ f2, fun h => ?_, f4⟩
      · simp only [rBlB]
        simp only [qs, Option.bind_some, Option.map_some, joinK, qb, ↓reduceIte, if_true, if_false, eq_self, Int.reduceBEq, Int.reduceBNe, h1]
        refine Ev.bind e2 ?_
        simp only [qs, Option.bind_some, Option.map_some, joinK, qb, ↓reduceIte, if_true, if_false, eq_self, Int.reduceBEq, Int.reduceBNe, room1 x (show c.length ≤ 1000000 by omega)]; exact Ev.pure
      · obtain ⟨g1, g2, g3, g4⟩ := f3 h
        exact ⟨g1, by omega, g3, g4⟩
theorem block_R {l : List TToken} (W : WF l) {i : Int} (H : ∀ j, i < j → j ≤ l.length → IS l j) : RG GB l i (eBlock l i) (rBlock l i) := by
  by_cases h1 : isT (tk l i) 4 [123] = true
  · obtain ⟨n1, n2, n3⟩ := W.next (i := i) (by rw [(isT_kind h1).1]; decide)
    obtain ⟨x, j, y, ok, e1, e2, e3, e4⟩ := block_loop W (tk l i).At H (l.length - (i + 1)).toNat (i + 1) [] (by omega) (by omega) (by omega) n2 (by simp) (by simp; omega)
    refine ⟨x, j, y, ok, Ev.sh 3 ?_, Ev.sh 1 ?_, fun h => ?_, e4⟩
    · simp only [eBlock, sBlock_eq]
      simp only [qs, Option.bind_some, Option.map_some, joinK, qb, ↓reduceIte, if_true, if_false, eq_self, Int.reduceBEq, Int.reduceBNe, h1, n3]
      exact (Ev.loop e1).up (n := 2)
    · simp only [rBlock, rBlock_eq]
      simp only [qs, Option.bind_some, Option.map_some, joinK, qb, ↓reduceIte, if_true, if_false, eq_self, Int.reduceBEq, Int.reduceBNe, h1, n3]
      exact Ev.loop e2
    · obtain ⟨g1, g2, g3, g4⟩ := e3 h
      exact ⟨g1, by omega, g3, g4⟩
  · have h1 : isT (tk l i) 4 [123] = false := by simpa using h1
    refine RG.bad (j := i) (n := ⟨30, (tk l i).At, 0, [], []⟩) (Ev.sh 3 ?_) (Ev.sh 1 ?_)
    · simp only [eBlock, sBlock_eq]
      simp only [qs, Option.bind_some, Option.map_some, joinK, qb, ↓reduceIte, if_true, if_false, eq_self, Int.reduceBEq, Int.reduceBNe, h1]
      exact (Ev.loop (eBl_end l _ i [])).up (n := 2)
    · simp only [rBlock, rBlock_eq]
      simp only [qs, Option.bind_some, Option.map_some, joinK, qb, ↓reduceIte, if_true, if_false, eq_self, Int.reduceBEq, Int.reduceBNe, h1]; exact Ev.pure
abbrev HT := Int × Int × Int × List UInt8 × Bool × List TNode × Int × Bool
theorem head_R {l : List TToken} (W : WF l) {i : Int} (H : ∀ j, i < j → j ≤ l.length → IS l j) (h0 : 0 ≤ i) (hi : i + 1 < l.length) (q : Int) :
    ∃ a c j1 j ok1 ok, Ev (fun k => stmt_cursor_expr k l (i + 1) false) (a, j1, !ok1) ∧ Ev (fun k => stmt_cursor_block k l j1 (!ok1)) (c, j, !ok) ∧
      Ev (fun k => ref14_headed k l i q) (if ok then (q, (tk l i).At, 0, [], true, [a, c], j, true) else (0, 0, 0, [], false, [], j, false)) ∧
      (ok = true → ok1 = true ∧ i < j ∧ j < l.length ∧ GEx a ∧ GB c) := by
  have hlen := W.len
  have n3 : IntKind.i64.wrap (i + 1) = i + 1 := wrap64_id (by omega) (by omega)
  obtain ⟨a, j, b, ok, e1, e2, e3, e4⟩ := sexpr_all W (i + 1)
  cases ok with
  | false =>
    have := e4 rfl; subst this
    refine ⟨a, _, j, j, false, false, e1, block_bad l j, Ev.sh 1 ?_, fun h => by cases h⟩
    simp only [ref14_headed]
    simp only [qs, Option.bind_some, Option.map_some, joinK, qb, ↓reduceIte, if_true, if_false, eq_self, Int.reduceBEq, Int.reduceBNe, n3]
    refine Ev.bind e2 ?_
    simp only [qs, Option.bind_some, Option.map_some, joinK, qb, ↓reduceIte, if_true, if_false, eq_self, Int.reduceBEq, Int.reduceBNe]; exact Ev.pure
  | true =>
    obtain ⟨rfl, q2, q3, q4⟩ := e3 rfl
    obtain ⟨c, j', d, ok', f1, f2, f3, f4⟩ := (H j (by omega) (by omega)).bl
    refine ⟨a, c, j, j', true, ok', e1, f1, Ev.sh 1 ?_, fun h => ?_⟩
    · simp only [ref14_headed]
      simp only [qs, Option.bind_some, Option.map_some, joinK, qb, ↓reduceIte, if_true, if_false, eq_self, Int.reduceBEq, Int.reduceBNe, n3]
      refine Ev.bind e2 ?_
      simp only [qs, Option.bind_some, Option.map_some, joinK, qb, ↓reduceIte, if_true, if_false, eq_self, Int.reduceBEq, Int.reduceBNe]
      refine Ev.bind f2 ?_
      cases ok'
      · have := f4 rfl; subst this
        simp only [qs, Option.bind_some, Option.map_some, joinK, qb, ↓reduceIte, if_true, if_false, eq_self, Int.reduceBEq, Int.reduceBNe]; exact Ev.pure
      · obtain ⟨rfl, g2, g3, g4⟩ := f3 rfl
        simp only [qs, Option.bind_some, Option.map_some, joinK, qb, ↓reduceIte, if_true, if_false, eq_self, Int.reduceBEq, Int.reduceBNe]; exact Ev.pure
    · obtain ⟨rfl, g2, g3, g4⟩ := f3 h
      exact ⟨rfl, by omega, g3, q4, g4⟩
theorem choice_R {l : List TToken} (W : WF l) {i : Int} (H : ∀ j, i < j → j ≤ l.length → IS l j) (hif : isT (tk l i) 3 [105, 102] = true) : RG GI l i (eChoice l i) (rChoice l i) := by
  obtain ⟨n1, n2, n3⟩ := W.next (i := i) (by rw [(isT_kind hif).1]; decide)
  obtain ⟨a, c, j1, j, ok1, ok, e1, e2, e3, e4⟩ := head_R W H n1 n2 33
  have r1 := room1 (m := 0) a (by omega)
  have r2 := room1 (m := ([a] : List TNode).length) c (by simp)
  cases ok with
  | false =>
    refine RG.bad (j := j) (n := ⟨33, (tk l i).At, 0, [], [a, c]⟩) (Ev.sh 1 ?_) (Ev.sh 1 ?_)
    · simp only [eChoice, stmt_cursor_choice_v2]
      refine Ev.bind e1 ?_
      simp only [qs, Option.bind_some, Option.map_some, joinK, qb, ↓reduceIte, if_true, if_false, eq_self, Int.reduceBEq, Int.reduceBNe, List.nil_append, List.length_nil, r1]
      refine Ev.bind e2 ?_
      simp only [qs, Option.bind_some, Option.map_some, joinK, qb, ↓reduceIte, if_true, if_false, eq_self, Int.reduceBEq, Int.reduceBNe, r2]; exact Ev.pure
    · simp only [rChoice, ref14_choice]
      refine Ev.bind e3 ?_
      simp only [qs, Option.bind_some, Option.map_some, joinK, qb, ↓reduceIte, if_true, if_false, eq_self, Int.reduceBEq, Int.reduceBNe]; exact Ev.pure
  | true =>
    obtain ⟨rfl, g1, g2, g3, g4⟩ := e4 rfl
    by_cases h1 : isT (tk l j) 3 [101, 108, 115, 101] = true
    · obtain ⟨m1, m2, m3⟩ := W.next (i := j) (by rw [(isT_kind h1).1]; decide)
      have both : ∀ {e : Nat → Option (TNode × Int × Bool)} {r : Nat → Option Tref14_Got} {GG : TNode → Prop},
          (∀ x q b, Ev e (x, q, b) → Ev (eChoice l i) (⟨33, (tk l i).At, 0, [], [a, c, x]⟩, q, b)) →
          (∀ y q (ok : Bool), Ev r ⟨y, q, ok⟩ → Ev (rChoice l i) (if ok then ⟨⟨33, (tk l i).At, 0, [], [a, c, y]⟩, q, true⟩ else ⟨y, q, false⟩)) →
          (∀ x, GG x → GS x ∧ (x.Kind = 30 ∨ x.Kind = 33)) → RG GG l (j + 1) e r → RG GI l i (eChoice l i) (rChoice l i) := by
        intro e r GG he hr hG ⟨x, q, y, ok, f1, f2, f3, f4⟩
        have E := he _ _ _ f1
        have Rr := hr _ _ _ f2
        cases ok with
        | false => have := f4 rfl; subst this; exact RG.bad E Rr
        | true =>
          obtain ⟨rfl, p2, p3, p4⟩ := f3 rfl
          obtain ⟨p5, p6⟩ := hG _ p4
          exact RG.good E Rr ⟨by omega, p3⟩ ⟨gs_three _ g3 g4 p5 p6, rfl⟩
      have r3 : ∀ x : TNode, room 64 (([a] ++ [c] : List TNode).length + [x].length) = true := fun x => room1 x (by simp)
      by_cases h2 : isT (tk l (j + 1)) 3 [105, 102] = true
      · obtain ⟨p1, p2, p3⟩ := W.next (i := j + 1) (by rw [(isT_kind h2).1]; decide)
        refine both ?_ ?_ (fun x hx => ⟨hx.gs, Or.inr hx.kd⟩) ((H (j + 1) (by omega) (by omega)).ch h2)
        · intro x q b hx
          refine Ev.sh 1 ?_
          simp only [eChoice, stmt_cursor_choice_v2]
          refine Ev.bind e1 ?_
          simp only [qs, Option.bind_some, Option.map_some, joinK, qb, ↓reduceIte, if_true, if_false, eq_self, Int.reduceBEq, Int.reduceBNe, List.nil_append, List.length_nil, r1]
          refine Ev.bind e2 ?_
          simp only [qs, Option.bind_some, Option.map_some, joinK, qb, ↓reduceIte, if_true, if_false, eq_self, Int.reduceBEq, Int.reduceBNe, r2, h1, m3, slook_eq, h2, p3]
          refine Ev.bind hx ?_
          simp only [qs, Option.bind_some, Option.map_some, joinK, qb, ↓reduceIte, if_true, if_false, eq_self, Int.reduceBEq, Int.reduceBNe, r3]; exact Ev.pure
        · intro y q ok hy
          refine Ev.sh 1 ?_
          simp only [rChoice, ref14_choice]
          refine Ev.bind e3 ?_
          simp only [qs, Option.bind_some, Option.map_some, joinK, qb, ↓reduceIte, if_true, if_false, eq_self, Int.reduceBEq, Int.reduceBNe, h1, m3, h2]
          refine Ev.bind hy ?_
          cases ok
          · simp only [qs, Option.bind_some, Option.map_some, joinK, qb, ↓reduceIte, if_true, if_false, eq_self, Int.reduceBEq, Int.reduceBNe]; exact Ev.pure
          · simp only [qs, Option.bind_some, Option.map_some, joinK, qb, ↓reduceIte, if_true, if_false, eq_self, Int.reduceBEq, Int.reduceBNe, show room 64 (([a, c] : List TNode).length + [y].length) = true from r3 y]; exact Ev.pure
      · have h2 : isT (tk l (j + 1)) 3 [105, 102] = false := by simpa using h2
        refine both ?_ ?_ (fun x hx => ⟨hx.gs, Or.inl hx.kd⟩) ((H (j + 1) (by omega) (by omega)).bl)
        · intro x q b hx
          refine Ev.sh 1 ?_
          simp only [eChoice, stmt_cursor_choice_v2]
          refine Ev.bind e1 ?_
          simp only [qs, Option.bind_some, Option.map_some, joinK, qb, ↓reduceIte, if_true, if_false, eq_self, Int.reduceBEq, Int.reduceBNe, List.nil_append, List.length_nil, r1]
          refine Ev.bind e2 ?_
          simp only [qs, Option.bind_some, Option.map_some, joinK, qb, ↓reduceIte, if_true, if_false, eq_self, Int.reduceBEq, Int.reduceBNe, r2, h1, m3, slook_eq, h2]
          refine Ev.bind hx ?_
          simp only [qs, Option.bind_some, Option.map_some, joinK, qb, ↓reduceIte, if_true, if_false, eq_self, Int.reduceBEq, Int.reduceBNe, r3]; exact Ev.pure
        · intro y q ok hy
          refine Ev.sh 1 ?_
          simp only [rChoice, ref14_choice]
          refine Ev.bind e3 ?_
          simp only [qs, Option.bind_some, Option.map_some, joinK, qb, ↓reduceIte, if_true, if_false, eq_self, Int.reduceBEq, Int.reduceBNe, h1, m3, h2]
          refine Ev.bind hy ?_
          cases ok
          · simp only [qs, Option.bind_some, Option.map_some, joinK, qb, ↓reduceIte, if_true, if_false, eq_self, Int.reduceBEq, Int.reduceBNe]; exact Ev.pure
          · simp only [qs, Option.bind_some, Option.map_some, joinK, qb, ↓reduceIte, if_true, if_false, eq_self, Int.reduceBEq, Int.reduceBNe, show room 64 (([a, c] : List TNode).length + [y].length) = true from r3 y]; exact Ev.pure
    · have h1 : isT (tk l j) 3 [101, 108, 115, 101] = false := by simpa using h1
      refine RG.good (j := j) (n := ⟨33, (tk l i).At, 0, [], [a, c]⟩) (Ev.sh 1 ?_) (Ev.sh 1 ?_) ⟨g1, g2⟩ ⟨gs_two _ 33 (Or.inl rfl) g3 g4, rfl⟩
      · simp only [eChoice, stmt_cursor_choice_v2]
        refine Ev.bind e1 ?_
        simp only [qs, Option.bind_some, Option.map_some, joinK, qb, ↓reduceIte, if_true, if_false, eq_self, Int.reduceBEq, Int.reduceBNe, List.nil_append, List.length_nil, r1]
        refine Ev.bind e2 ?_
        simp only [qs, Option.bind_some, Option.map_some, joinK, qb, ↓reduceIte, if_true, if_false, eq_self, Int.reduceBEq, Int.reduceBNe, r2, h1]; exact Ev.pure
      · simp only [rChoice, ref14_choice]
        refine Ev.bind e3 ?_
        simp only [qs, Option.bind_some, Option.map_some, joinK, qb, ↓reduceIte, if_true, if_false, eq_self, Int.reduceBEq, Int.reduceBNe, h1]; exact Ev.pure
end Go.Proofs.YtjakhfaodfaimaaDoor.F
namespace Go.Proofs.YtjakhfaodfaimaaDoor.F
open Go
theorem isT_text {t : TToken} {s u : List UInt8} (h : t.Text = u) (hn : (u == s) = false) (k : Int) : isT t k s = false := by unfold isT; rw [h, hn, Bool.and_false]
theorem close_R {l : List TToken} (W : WF l) {i p : Int} (hi : i < p) (mk : TNode → TNode) (hmk : ∀ n, GEx n → GS (mk n)) {e : Nat → Option (TNode × Int × Bool)} {r : Nat → Option Tref14_Got}
    (he : ∀ a j ok, Ev (fun k => stmt_cursor_expr k l p false) (a, j, !ok) → Ev e (if ok && isT (tk l j) 4 [59] then (mk a, IntKind.i64.wrap (j + 1), false) else (mk a, j, true)))
    (hr : ∀ b j ok, Ev (fun k => ref14_expr k l p) ⟨b, j, ok⟩ → Ev r (if ok && isT (tk l j) 4 [59] then ⟨mk b, IntKind.i64.wrap (j + 1), true⟩ else ⟨zN, j, false⟩)) : RG GS l i e r := by
  obtain ⟨a, j, b, ok, e1, e2, e3, e4⟩ := sexpr_all W p
  have E := he _ _ _ e1
  have Rr := hr _ _ _ e2
  cases ok with
  | false => exact RG.bad E Rr
  | true =>
    obtain ⟨rfl, q2, q3, q4⟩ := e3 rfl
    by_cases h3 : isT (tk l j) 4 [59] = true
    · obtain ⟨m1, m2, m3⟩ := W.next (i := j) (by rw [(isT_kind h3).1]; decide)
      simp only [h3, Bool.and_true, if_true, m3] at E Rr
      exact RG.good E Rr ⟨by omega, m2⟩ (hmk _ q4)
    · simp only [show isT (tk l j) 4 [59] = false by simpa using h3, Bool.and_false, Bool.false_eq_true, if_false] at E Rr
      exact RG.bad E Rr
theorem words_R {l : List TToken} (W : WF l) {i : Int} (H : ∀ j, i < j → j ≤ l.length → IS l j) (hk : (tk l i).Kind = 3) : RG GS l i (eStmt l i) (rStmt l i) := by
  obtain ⟨n1, n2, n3⟩ := W.next (i := i) (by omega)
  have hlen := W.len
  have k1 : ((tk l i).Kind == 1) = false := by rw [hk]; rfl
  have k2 : isT (tk l i) 4 [123] = false := isT_ne (by omega)
  have k3 : ((tk l i).Kind != 3) = false := by rw [hk]; rfl
  have w2 : IntKind.i64.wrap (i + 2) = i + 2 := wrap64_id (by omega) (by omega)
  have w3 : IntKind.i64.wrap (i + 3) = i + 3 := wrap64_id (by omega) (by omega)
  have a2 : i + 1 + 1 = i + 2 := by omega
  have a3 : i + 2 + 1 = i + 3 := by omega
  have isT3 : ∀ s, isT (tk l i) 3 s = ((tk l i).Text == s) := fun s => by unfold isT; rw [hk]; rfl
  -- var
  by_cases hv : (tk l i).Text = [118, 97, 114]
  · by_cases hn : (tk l (i + 1)).Kind = 1
    · obtain ⟨p1, p2, p3⟩ := W.next (i := i + 1) (by omega)
      by_cases he : isT (tk l (i + 2)) 4 [61] = true
      · obtain ⟨q1, q2, q3⟩ := W.next (i := i + 2) (by rw [(isT_kind he).1]; decide)
        refine close_R W (p := i + 3) (by omega) (fun x => ⟨31, (tk l i).At, 0, (tk l (i + 1)).Text, [x]⟩) (fun n hn' => gs_var _ (W.names _ hn) hn') ?_ ?_
        · intro a j ok e1
          refine Ev.sh 4 ?_
          simp only [eStmt, stmt_cursor_stmt, stmt_cursor_word_v2, bind_same]
          simp only [qs, Option.bind_some, Option.map_some, joinK, qb, ↓reduceIte, if_true, if_false, eq_self, Int.reduceBEq, Int.reduceBNe, slook_eq, k1, k2, k3, hv, n3, hn, a2, w2, he, a3, w3]
          refine Ev.bind e1.up ?_
          cases ok
          · simp only [qs, Option.bind_some, Option.map_some, joinK, qb, ↓reduceIte, if_true, if_false, eq_self, Int.reduceBEq, Int.reduceBNe]; exact Ev.pure
          · simp only [qs, Option.bind_some, Option.map_some, joinK, qb, ↓reduceIte, if_true, if_false, eq_self, Int.reduceBEq, Int.reduceBNe]
            cases isT (tk l j) 4 [59]
            · simp only [qs, Option.bind_some, Option.map_some, joinK, qb, ↓reduceIte, if_true, if_false, eq_self, Int.reduceBEq, Int.reduceBNe]; exact Ev.pure
            · simp only [qs, Option.bind_some, Option.map_some, joinK, qb, ↓reduceIte, if_true, if_false, eq_self, Int.reduceBEq, Int.reduceBNe]; exact Ev.pure
        · intro b j ok e2
          refine Ev.sh 1 ?_
          simp only [rStmt, ref14_Stmt]
          simp only [qs, Option.bind_some, Option.map_some, joinK, qb, ↓reduceIte, if_true, if_false, eq_self, Int.reduceBEq, Int.reduceBNe, isT3, k1, k2, k3, hv, show (([118, 97, 114] : List UInt8) == [105, 102]) = false from rfl, show (([118, 97, 114] : List UInt8) == [119, 104, 105, 108, 101]) = false from rfl, show (([118, 97, 114] : List UInt8) == [114, 101, 116, 117, 114, 110]) = false from rfl, show (([118, 97, 114] : List UInt8) == [112, 114, 105, 110, 116]) = false from rfl, n3, hn, a2, w2, he, a3, w3]
          refine Ev.bind e2 ?_
          cases ok
          · simp only [qs, Option.bind_some, Option.map_some, joinK, qb, ↓reduceIte, if_true, if_false, eq_self, Int.reduceBEq, Int.reduceBNe]; exact Ev.pure
          · simp only [qs, Option.bind_some, Option.map_some, joinK, qb, ↓reduceIte, if_true, if_false, eq_self, Int.reduceBEq, Int.reduceBNe]
            cases isT (tk l j) 4 [59]
            · simp only [qs, Option.bind_some, Option.map_some, joinK, qb, ↓reduceIte, if_true, if_false, eq_self, Int.reduceBEq, Int.reduceBNe]; exact Ev.pure
            · simp only [qs, Option.bind_some, Option.map_some, joinK, qb, ↓reduceIte, if_true, if_false, eq_self, Int.reduceBEq, Int.reduceBNe]; exact Ev.pure
      · have he : isT (tk l (i + 2)) 4 [61] = false := by simpa using he
        refine RG.bad (j := i + 2) (n := ⟨31, (tk l i).At, 0, (tk l (i + 1)).Text, [zN]⟩) (Ev.sh 4 ?_) (Ev.sh 1 ?_)
        · simp only [eStmt, stmt_cursor_stmt, stmt_cursor_word_v2, bind_same]
          simp only [qs, Option.bind_some, Option.map_some, joinK, qb, ↓reduceIte, if_true, if_false, eq_self, Int.reduceBEq, Int.reduceBNe, slook_eq, k1, k2, k3, hv, n3, hn, a2, w2, he]; exact Ev.pure
        · simp only [rStmt, ref14_Stmt]
          simp only [qs, Option.bind_some, Option.map_some, joinK, qb, ↓reduceIte, if_true, if_false, eq_self, Int.reduceBEq, Int.reduceBNe, isT3, k1, k2, k3, hv, show (([118, 97, 114] : List UInt8) == [105, 102]) = false from rfl, show (([118, 97, 114] : List UInt8) == [119, 104, 105, 108, 101]) = false from rfl, show (([118, 97, 114] : List UInt8) == [114, 101, 116, 117, 114, 110]) = false from rfl, show (([118, 97, 114] : List UInt8) == [112, 114, 105, 110, 116]) = false from rfl, n3, hn, a2, w2, he]; exact Ev.pure
    · have hn : ((tk l (i + 1)).Kind != 1) = true := by simpa using hn
      refine RG.bad (j := i + 1) (n := ⟨31, (tk l i).At, 0, [], [zN]⟩) (Ev.sh 4 ?_) (Ev.sh 1 ?_)
      · simp only [eStmt, stmt_cursor_stmt, stmt_cursor_word_v2, bind_same]
        simp only [qs, Option.bind_some, Option.map_some, joinK, qb, ↓reduceIte, if_true, if_false, eq_self, Int.reduceBEq, Int.reduceBNe, slook_eq, k1, k2, k3, hv, n3, hn]; exact Ev.pure
      · simp only [rStmt, ref14_Stmt]
        simp only [qs, Option.bind_some, Option.map_some, joinK, qb, ↓reduceIte, if_true, if_false, eq_self, Int.reduceBEq, Int.reduceBNe, isT3, k1, k2, k3, hv, show (([118, 97, 114] : List UInt8) == [105, 102]) = false from rfl, show (([118, 97, 114] : List UInt8) == [119, 104, 105, 108, 101]) = false from rfl, show (([118, 97, 114] : List UInt8) == [114, 101, 116, 117, 114, 110]) = false from rfl, show (([118, 97, 114] : List UInt8) == [112, 114, 105, 110, 116]) = false from rfl, n3, hn]; exact Ev.pure
  have hv : ((tk l i).Text == [118, 97, 114]) = false := by simpa using hv
  -- if
  by_cases hf : (tk l i).Text = [105, 102]
  · obtain ⟨x, j, y, ok, e1, e2, e3, e4⟩ := choice_R W H (by rw [isT3, hf]; rfl)
    refine ⟨x, j, y, ok, Ev.sh 2 ?_, Ev.sh 1 ?_, fun h => ?_, e4⟩
    · simp only [eStmt, stmt_cursor_stmt, stmt_cursor_word_v2, bind_same]
      simp only [qs, Option.bind_some, Option.map_some, joinK, qb, ↓reduceIte, if_true, if_false, eq_self, Int.reduceBEq, Int.reduceBNe, slook_eq, k1, k2, k3, hv, hf, n3, show (([105, 102] : List UInt8) == [118, 97, 114]) = false from rfl]
      exact e1
    · simp only [rStmt, ref14_Stmt]
      simp only [qs, Option.bind_some, Option.map_some, joinK, qb, ↓reduceIte, if_true, if_false, eq_self, Int.reduceBEq, Int.reduceBNe, isT3, k1, k2, k3, hf]
      refine Ev.bind e2 ?_
      exact Ev.pure
    · obtain ⟨g1, g2, g3, g4⟩ := e3 h
      exact ⟨g1, g2, g3, g4.gs⟩
  have hf : ((tk l i).Text == [105, 102]) = false := by simpa using hf
  -- while
  by_cases hw : (tk l i).Text = [119, 104, 105, 108, 101]
  · obtain ⟨a, c, j1, j, ok1, ok, e1, e2, e3, e4⟩ := head_R W H n1 n2 34
    have r1 := room1 (m := 0) a (by omega)
    have r2 := room1 (m := ([a] : List TNode).length) c (by simp)
    have E : Ev (eStmt l i) (⟨34, (tk l i).At, 0, [], [a, c]⟩, j, !ok) := by
      refine Ev.sh 2 ?_
      simp only [eStmt, stmt_cursor_stmt, stmt_cursor_word_v2, bind_same]
      simp only [qs, Option.bind_some, Option.map_some, joinK, qb, ↓reduceIte, if_true, if_false, eq_self, Int.reduceBEq, Int.reduceBNe, slook_eq, k1, k2, k3, hw, n3, show (([119, 104, 105, 108, 101] : List UInt8) == [118, 97, 114]) = false from rfl, show (([119, 104, 105, 108, 101] : List UInt8) == [105, 102]) = false from rfl]
      refine Ev.bind e1 ?_
      simp only [qs, Option.bind_some, Option.map_some, joinK, qb, ↓reduceIte, if_true, if_false, eq_self, Int.reduceBEq, Int.reduceBNe, List.nil_append, List.length_nil, r1]
      refine Ev.bind e2 ?_
      simp only [qs, Option.bind_some, Option.map_some, joinK, qb, ↓reduceIte, if_true, if_false, eq_self, Int.reduceBEq, Int.reduceBNe, r2]; exact Ev.pure
    have Rr : Ev (rStmt l i) (if ok then ⟨⟨34, (tk l i).At, 0, [], [a, c]⟩, j, true⟩ else ⟨zN, j, false⟩) := by
      refine Ev.sh 1 ?_
      simp only [rStmt, ref14_Stmt]
      simp only [qs, Option.bind_some, Option.map_some, joinK, qb, ↓reduceIte, if_true, if_false, eq_self, Int.reduceBEq, Int.reduceBNe, isT3, k1, k2, k3, hf, hw]
      refine Ev.bind e3 ?_
      cases ok
      · simp only [qs, Option.bind_some, Option.map_some, joinK, qb, ↓reduceIte, if_true, if_false, eq_self, Int.reduceBEq, Int.reduceBNe]; exact Ev.pure
      · simp only [qs, Option.bind_some, Option.map_some, joinK, qb, ↓reduceIte, if_true, if_false, eq_self, Int.reduceBEq, Int.reduceBNe]; exact Ev.pure
    cases ok with
    | false => exact RG.bad E Rr
    | true =>
      obtain ⟨g0, g1, g2, g3, g4⟩ := e4 rfl
      exact RG.good E Rr ⟨g1, g2⟩ (gs_two _ 34 (Or.inr rfl) g3 g4)
  have hw : ((tk l i).Text == [119, 104, 105, 108, 101]) = false := by simpa using hw
  -- return
  by_cases hr : (tk l i).Text = [114, 101, 116, 117, 114, 110]
  · by_cases hs : isT (tk l (i + 1)) 4 [59] = true
    · obtain ⟨p1, p2, p3⟩ := W.next (i := i + 1) (by rw [(isT_kind hs).1]; decide)
      refine RG.good (j := i + 2) (n := ⟨35, (tk l i).At, 0, [], []⟩) (Ev.sh 4 ?_) (Ev.sh 1 ?_) ⟨by omega, by omega⟩ (gs_ret0 _)
      · simp only [eStmt, stmt_cursor_stmt, stmt_cursor_word_v2, bind_same]
        simp only [qs, Option.bind_some, Option.map_some, joinK, qb, ↓reduceIte, if_true, if_false, eq_self, Int.reduceBEq, Int.reduceBNe, slook_eq, k1, k2, k3, hr, n3, hs, a2, w2, show (([114, 101, 116, 117, 114, 110] : List UInt8) == [118, 97, 114]) = false from rfl, show (([114, 101, 116, 117, 114, 110] : List UInt8) == [105, 102]) = false from rfl, show (([114, 101, 116, 117, 114, 110] : List UInt8) == [119, 104, 105, 108, 101]) = false from rfl]
        exact Ev.pure
      · simp only [rStmt, ref14_Stmt]
        simp only [qs, Option.bind_some, Option.map_some, joinK, qb, ↓reduceIte, if_true, if_false, eq_self, Int.reduceBEq, Int.reduceBNe, isT3, k1, k2, k3, hf, hw, hr, n3, hs, w2]; exact Ev.pure
    · have hs : isT (tk l (i + 1)) 4 [59] = false := by simpa using hs
      refine close_R W (p := i + 1) (by omega) (fun x => ⟨35, (tk l i).At, 0, [], [x]⟩) (fun n hn' => gs_ret1 _ hn') ?_ ?_
      · intro a j ok e1
        refine Ev.sh 4 ?_
        simp only [eStmt, stmt_cursor_stmt, stmt_cursor_word_v2, bind_same]
        simp only [qs, Option.bind_some, Option.map_some, joinK, qb, ↓reduceIte, if_true, if_false, eq_self, Int.reduceBEq, Int.reduceBNe, slook_eq, k1, k2, k3, hr, n3, hs, show (([114, 101, 116, 117, 114, 110] : List UInt8) == [118, 97, 114]) = false from rfl, show (([114, 101, 116, 117, 114, 110] : List UInt8) == [105, 102]) = false from rfl, show (([114, 101, 116, 117, 114, 110] : List UInt8) == [119, 104, 105, 108, 101]) = false from rfl]
        refine Ev.bind e1.up ?_
        cases ok
        · simp only [qs, Option.bind_some, Option.map_some, joinK, qb, ↓reduceIte, if_true, if_false, eq_self, Int.reduceBEq, Int.reduceBNe]; exact Ev.pure
        · simp only [qs, Option.bind_some, Option.map_some, joinK, qb, ↓reduceIte, if_true, if_false, eq_self, Int.reduceBEq, Int.reduceBNe]
          cases isT (tk l j) 4 [59]
          · simp only [qs, Option.bind_some, Option.map_some, joinK, qb, ↓reduceIte, if_true, if_false, eq_self, Int.reduceBEq, Int.reduceBNe]; exact Ev.pure
          · simp only [qs, Option.bind_some, Option.map_some, joinK, qb, ↓reduceIte, if_true, if_false, eq_self, Int.reduceBEq, Int.reduceBNe]; exact Ev.pure
      · intro b j ok e2
        refine Ev.sh 1 ?_
        simp only [rStmt, ref14_Stmt]
        simp only [qs, Option.bind_some, Option.map_some, joinK, qb, ↓reduceIte, if_true, if_false, eq_self, Int.reduceBEq, Int.reduceBNe, isT3, k1, k2, k3, hf, hw, hr, n3, hs]
        refine Ev.bind e2 ?_
        cases ok
        · simp only [qs, Option.bind_some, Option.map_some, joinK, qb, ↓reduceIte, if_true, if_false, eq_self, Int.reduceBEq, Int.reduceBNe]; exact Ev.pure
        · simp only [qs, Option.bind_some, Option.map_some, joinK, qb, ↓reduceIte, if_true, if_false, eq_self, Int.reduceBEq, Int.reduceBNe]
          cases isT (tk l j) 4 [59]
          · simp only [qs, Option.bind_some, Option.map_some, joinK, qb, ↓reduceIte, if_true, if_false, eq_self, Int.reduceBEq, Int.reduceBNe]; exact Ev.pure
          · simp only [qs, Option.bind_some, Option.map_some, joinK, qb, ↓reduceIte, if_true, if_false, eq_self, Int.reduceBEq, Int.reduceBNe]; exact Ev.pure
  have hr : ((tk l i).Text == [114, 101, 116, 117, 114, 110]) = false := by simpa using hr
  -- join
  by_cases hj : (tk l i).Text = [106, 111, 105, 110]
  · have hp : (([106, 111, 105, 110] : List UInt8) == [112, 114, 105, 110, 116]) = false := rfl
    by_cases hn : (tk l (i + 1)).Kind = 1
    · obtain ⟨p1, p2, p3⟩ := W.next (i := i + 1) (by omega)
      have E : Ev (eStmt l i) (if isT (tk l (i + 2)) 4 [59] then (⟨36, (tk l i).At, 0, (tk l (i + 1)).Text, []⟩, IntKind.i64.wrap (i + 3), false) else (⟨36, (tk l i).At, 0, (tk l (i + 1)).Text, []⟩, i + 2, true)) := by
        refine Ev.sh 4 ?_
        simp only [eStmt, stmt_cursor_stmt, stmt_cursor_word_v2, bind_same]
        simp only [qs, Option.bind_some, Option.map_some, joinK, qb, ↓reduceIte, if_true, if_false, eq_self, Int.reduceBEq, Int.reduceBNe, slook_eq, k1, k2, k3, hj, n3, hn, a2, w2, a3, show (([106, 111, 105, 110] : List UInt8) == [118, 97, 114]) = false from rfl, show (([106, 111, 105, 110] : List UInt8) == [105, 102]) = false from rfl, show (([106, 111, 105, 110] : List UInt8) == [119, 104, 105, 108, 101]) = false from rfl, show (([106, 111, 105, 110] : List UInt8) == [114, 101, 116, 117, 114, 110]) = false from rfl]
        cases isT (tk l (i + 2)) 4 [59]
        · simp only [qs, Option.bind_some, Option.map_some, joinK, qb, ↓reduceIte, if_true, if_false, eq_self, Int.reduceBEq, Int.reduceBNe]; exact Ev.pure
        · simp only [qs, Option.bind_some, Option.map_some, joinK, qb, ↓reduceIte, if_true, if_false, eq_self, Int.reduceBEq, Int.reduceBNe]; exact Ev.pure
      have Rr : Ev (rStmt l i) (if isT (tk l (i + 2)) 4 [59] then ⟨⟨36, (tk l i).At, 0, (tk l (i + 1)).Text, []⟩, IntKind.i64.wrap (i + 3), true⟩ else ⟨zN, i + 2, false⟩) := by
        refine Ev.sh 1 ?_
        simp only [rStmt, ref14_Stmt]
        simp only [qs, Option.bind_some, Option.map_some, joinK, qb, ↓reduceIte, if_true, if_false, eq_self, Int.reduceBEq, Int.reduceBNe, isT3, k1, k2, k3, hf, hw, hr, hv, hp, hj, n3, hn, w2, a3, show (([106, 111, 105, 110] : List UInt8) == [118, 97, 114]) = false from rfl, show (([106, 111, 105, 110] : List UInt8) == [105, 102]) = false from rfl, show (([106, 111, 105, 110] : List UInt8) == [119, 104, 105, 108, 101]) = false from rfl, show (([106, 111, 105, 110] : List UInt8) == [114, 101, 116, 117, 114, 110]) = false from rfl]
        exact Ev.pure
      by_cases h3 : isT (tk l (i + 2)) 4 [59] = true
      · obtain ⟨m1, m2, m3⟩ := W.next (i := i + 2) (by rw [(isT_kind h3).1]; decide)
        simp only [h3, if_true, w3] at E Rr
        exact RG.good E Rr ⟨by omega, by omega⟩ (gs_join _ (W.names _ hn))
      · simp only [show isT (tk l (i + 2)) 4 [59] = false by simpa using h3, Bool.false_eq_true, if_false] at E Rr
        exact RG.bad E Rr
    · have hn : ((tk l (i + 1)).Kind != 1) = true := by simpa using hn
      refine RG.bad (j := i + 1) (n := ⟨36, (tk l i).At, 0, [], []⟩) (Ev.sh 4 ?_) (Ev.sh 1 ?_)
      · simp only [eStmt, stmt_cursor_stmt, stmt_cursor_word_v2, bind_same]
        simp only [qs, Option.bind_some, Option.map_some, joinK, qb, ↓reduceIte, if_true, if_false, eq_self, Int.reduceBEq, Int.reduceBNe, slook_eq, k1, k2, k3, hj, n3, hn, show (([106, 111, 105, 110] : List UInt8) == [118, 97, 114]) = false from rfl, show (([106, 111, 105, 110] : List UInt8) == [105, 102]) = false from rfl, show (([106, 111, 105, 110] : List UInt8) == [119, 104, 105, 108, 101]) = false from rfl, show (([106, 111, 105, 110] : List UInt8) == [114, 101, 116, 117, 114, 110]) = false from rfl]; exact Ev.pure
      · simp only [rStmt, ref14_Stmt]
        simp only [qs, Option.bind_some, Option.map_some, joinK, qb, ↓reduceIte, if_true, if_false, eq_self, Int.reduceBEq, Int.reduceBNe, isT3, k1, k2, k3, hj, hp, n3, hn, show (([106, 111, 105, 110] : List UInt8) == [118, 97, 114]) = false from rfl, show (([106, 111, 105, 110] : List UInt8) == [105, 102]) = false from rfl, show (([106, 111, 105, 110] : List UInt8) == [119, 104, 105, 108, 101]) = false from rfl, show (([106, 111, 105, 110] : List UInt8) == [114, 101, 116, 117, 114, 110]) = false from rfl]; exact Ev.pure
  have hj : ((tk l i).Text == [106, 111, 105, 110]) = false := by simpa using hj
  -- print
  by_cases hp : (tk l i).Text = [112, 114, 105, 110, 116]
  · refine close_R W (p := i + 1) (by omega) (fun x => ⟨37, (tk l i).At, 0, [], [x]⟩) (fun n hn' => gs_print _ hn') ?_ ?_
    · intro a j ok e1
      refine Ev.sh 4 ?_
      simp only [eStmt, stmt_cursor_stmt, stmt_cursor_word_v2, bind_same]
      simp only [qs, Option.bind_some, Option.map_some, joinK, qb, ↓reduceIte, if_true, if_false, eq_self, Int.reduceBEq, Int.reduceBNe, slook_eq, k1, k2, k3, hp, n3, show (([112, 114, 105, 110, 116] : List UInt8) == [118, 97, 114]) = false from rfl, show (([112, 114, 105, 110, 116] : List UInt8) == [105, 102]) = false from rfl, show (([112, 114, 105, 110, 116] : List UInt8) == [119, 104, 105, 108, 101]) = false from rfl, show (([112, 114, 105, 110, 116] : List UInt8) == [114, 101, 116, 117, 114, 110]) = false from rfl, show (([112, 114, 105, 110, 116] : List UInt8) == [106, 111, 105, 110]) = false from rfl]
      refine Ev.bind e1.up ?_
      cases ok
      · simp only [qs, Option.bind_some, Option.map_some, joinK, qb, ↓reduceIte, if_true, if_false, eq_self, Int.reduceBEq, Int.reduceBNe]; exact Ev.pure
      · simp only [qs, Option.bind_some, Option.map_some, joinK, qb, ↓reduceIte, if_true, if_false, eq_self, Int.reduceBEq, Int.reduceBNe]
        cases isT (tk l j) 4 [59]
        · simp only [qs, Option.bind_some, Option.map_some, joinK, qb, ↓reduceIte, if_true, if_false, eq_self, Int.reduceBEq, Int.reduceBNe]; exact Ev.pure
        · simp only [qs, Option.bind_some, Option.map_some, joinK, qb, ↓reduceIte, if_true, if_false, eq_self, Int.reduceBEq, Int.reduceBNe]; exact Ev.pure
    · intro b j ok e2
      refine Ev.sh 1 ?_
      simp only [rStmt, ref14_Stmt]
      simp only [qs, Option.bind_some, Option.map_some, joinK, qb, ↓reduceIte, if_true, if_false, eq_self, Int.reduceBEq, Int.reduceBNe, isT3, k1, k2, k3, hf, hw, hr, hp, n3]
      refine Ev.bind e2 ?_
      cases ok
      · simp only [qs, Option.bind_some, Option.map_some, joinK, qb, ↓reduceIte, if_true, if_false, eq_self, Int.reduceBEq, Int.reduceBNe]; exact Ev.pure
      · simp only [qs, Option.bind_some, Option.map_some, joinK, qb, ↓reduceIte, if_true, if_false, eq_self, Int.reduceBEq, Int.reduceBNe]
        cases isT (tk l j) 4 [59]
        · simp only [qs, Option.bind_some, Option.map_some, joinK, qb, ↓reduceIte, if_true, if_false, eq_self, Int.reduceBEq, Int.reduceBNe]; exact Ev.pure
        · simp only [qs, Option.bind_some, Option.map_some, joinK, qb, ↓reduceIte, if_true, if_false, eq_self, Int.reduceBEq, Int.reduceBNe]; exact Ev.pure
  have hp : ((tk l i).Text == [112, 114, 105, 110, 116]) = false := by simpa using hp
  have wb : IntKind.i64.wrap (i + 1 - 1) = i := by rw [show i + 1 - 1 = i by omega]; exact wrap64_id (by omega) (by omega)
  refine RG.bad (j := i) (n := ⟨0, (tk l i).At, 0, [], []⟩) (Ev.sh 4 ?_) (Ev.sh 1 ?_)
  · simp only [eStmt, stmt_cursor_stmt, stmt_cursor_word_v2, bind_same]
    simp only [qs, Option.bind_some, Option.map_some, joinK, qb, ↓reduceIte, if_true, if_false, eq_self, Int.reduceBEq, Int.reduceBNe, slook_eq, k1, k2, k3, hv, hf, hw, hr, hj, hp, n3, wb]; exact Ev.pure
  · simp only [rStmt, ref14_Stmt]
    simp only [qs, Option.bind_some, Option.map_some, joinK, qb, ↓reduceIte, if_true, if_false, eq_self, Int.reduceBEq, Int.reduceBNe, isT3, k1, k2, k3, hv, hf, hw, hr, hj, hp]; exact Ev.pure
theorem stmt_R {l : List TToken} (W : WF l) {i : Int} (H : ∀ j, i < j → j ≤ l.length → IS l j) (B : RG GB l i (eBlock l i) (rBlock l i)) : RG GS l i (eStmt l i) (rStmt l i) := by
  by_cases hk : (tk l i).Kind = 3
  · exact words_R W H hk
  have k3 : ((tk l i).Kind != 3) = true := by simpa using hk
  have n3 : ∀ s, isT (tk l i) 3 s = false := fun s => isT_ne hk
  by_cases h1 : (tk l i).Kind = 1
  · have k2 : isT (tk l i) 4 [123] = false := isT_ne (by omega)
    obtain ⟨x, j, y, ok, e1, e2, e3, e4⟩ := snamed_R W i h1
    refine ⟨x, j, y, ok, Ev.sh 1 ?_, Ev.sh 1 ?_, e3, e4⟩
    · simp only [eStmt, stmt_cursor_stmt]
      simp only [qs, Option.bind_some, Option.map_some, joinK, qb, ↓reduceIte, if_true, if_false, eq_self, Int.reduceBEq, Int.reduceBNe, slook_eq, h1]
      exact Ev.bind e1 Ev.pure
    · simp only [rStmt, ref14_Stmt]
      simp only [qs, Option.bind_some, Option.map_some, joinK, qb, ↓reduceIte, if_true, if_false, eq_self, Int.reduceBEq, Int.reduceBNe, k2, h1]
      exact Ev.bind e2 Ev.pure
  have k1 : ((tk l i).Kind == 1) = false := by simpa using h1
  by_cases h2 : isT (tk l i) 4 [123] = true
  · obtain ⟨x, j, y, ok, e1, e2, e3, e4⟩ := B
    refine ⟨x, j, y, ok, Ev.sh 1 ?_, Ev.sh 1 ?_, fun h => ?_, e4⟩
    · simp only [eStmt, stmt_cursor_stmt]
      simp only [qs, Option.bind_some, Option.map_some, joinK, qb, ↓reduceIte, if_true, if_false, eq_self, Int.reduceBEq, Int.reduceBNe, slook_eq, k1, h2]
      exact Ev.bind e1 Ev.pure
    · simp only [rStmt, ref14_Stmt]
      simp only [qs, Option.bind_some, Option.map_some, joinK, qb, ↓reduceIte, if_true, if_false, eq_self, Int.reduceBEq, Int.reduceBNe, h2]
      exact Ev.bind e2 Ev.pure
    · obtain ⟨g1, g2, g3, g4⟩ := e3 h
      exact ⟨g1, g2, g3, g4.gs⟩
  have h2 : isT (tk l i) 4 [123] = false := by simpa using h2
  refine RG.bad (j := i) (n := zN) (Ev.sh 1 ?_) (Ev.sh 1 ?_)
  · simp only [eStmt, stmt_cursor_stmt]
    simp only [qs, Option.bind_some, Option.map_some, joinK, qb, ↓reduceIte, if_true, if_false, eq_self, Int.reduceBEq, Int.reduceBNe, slook_eq, k1, h2, k3]; exact Ev.pure
  · simp only [rStmt, ref14_Stmt]
    simp only [qs, Option.bind_some, Option.map_some, joinK, qb, ↓reduceIte, if_true, if_false, eq_self, Int.reduceBEq, Int.reduceBNe, h2, k1, n3]; exact Ev.pure
theorem is_all {l : List TToken} (W : WF l) : ∀ (n : Nat) (i : Int), (l.length : Int) - i ≤ n → IS l i := by
  intro n
  induction n using Nat.strongRecOn with
  | _ n ih =>
  intro i hi
  have H : ∀ j, i < j → j ≤ l.length → IS l j := fun j h1 h2 => ih (n - 1) (by omega) j (by omega)
  have B := block_R W H
  exact ⟨stmt_R W H B, B, choice_R W H⟩
theorem is_at {l : List TToken} (W : WF l) (i : Int) : IS l i := is_all W (l.length - i).toNat i (by omega)
end Go.Proofs.YtjakhfaodfaimaaDoor.F
namespace Go.Proofs.YtjakhfaodfaimaaDoor.F
open Go
structure GPa (n : TNode) : Prop where
  gp : Ev (fun k => ref11_param k n) true
  wide : Wide n
structure GD (n : TNode) : Prop where
  gd : Ev (fun k => ref11_Decl k n) true
  wide : Wide n
theorem gpa_of (a : Int) {s : List UInt8} {t : TNode} (h : Nm s) (ht : GTy t) : GPa ⟨50, a, 0, s, [t]⟩ := by
  refine ⟨?_, wide1 ht.wide⟩
  simp only [ref11_param]
  simp only [qs, Option.bind_some, Option.map_some, joinK, qb, ↓reduceIte, if_true, if_false, eq_self, Int.reduceBEq, Int.reduceBNe]
  refine Ev.bind h ?_
  simp only [qs, Option.bind_some, Option.map_some, joinK, qb, ↓reduceIte, if_true, if_false, eq_self, Int.reduceBEq, Int.reduceBNe, List.length_cons, List.length_nil, show ((0 + 1 : Nat) : Int) = 1 from rfl]
  exact Ev.bindS (x := t) (fun _ => rfl) (Ev.bind ht.gt Ev.pure)
theorem params_loop {ps rest : List TNode} (h : ∀ x ∈ ps, GPa x) (hl : ps.length ≤ 1000000) {J : Nat → Option Bool} {res : Bool} (hJ : Ev J res) : EvL (σ := Int) (ρ := Bool) (fun k (l3_5 : Int) =>
    if decide (l3_5 < (ps.length : Int)) = true then
      (ix (ps ++ rest) l3_5).bind fun x20_3 => (ref11_param k x20_3).bind fun x20_5 =>
        if (!x20_5) = true then some (.inr false) else some (.inl (IntKind.i64.wrap (l3_5 + 1)))
    else (J k).map .inr) 0 res := by
  have key : ∀ (r m : List TNode), ps = m ++ r → EvL (σ := Int) (ρ := Bool) (fun k (l3_5 : Int) =>
    if decide (l3_5 < (ps.length : Int)) = true then
      (ix (ps ++ rest) l3_5).bind fun x20_3 => (ref11_param k x20_3).bind fun x20_5 =>
        if (!x20_5) = true then some (.inr false) else some (.inl (IntKind.i64.wrap (l3_5 + 1)))
    else (J k).map .inr) (m.length : Int) res := by
    intro r
    induction r with
    | nil => intro m hm; exact EvL.done (Ev.ite_f (by rw [hm]; simp) (Ev.map hJ))
    | cons x r ih =>
      intro m hm
      have hx : x ∈ ps := by rw [hm]; simp
      have hlen : ps.length = m.length + (r.length + 1) := by rw [hm]; simp
      have hix : ix (ps ++ rest) (m.length : Int) = some x := ix_of (by omega) (by rw [hm]; simp)
      refine EvL.step (Ev.ite_t (by simp; omega) (Ev.bindS (fun _ => hix) (Ev.bind (h x hx).gp (Ev.ite_f rfl Ev.pure)))) ?_
      rw [wrap64_id (by omega) (by omega)]
      have := ih (m ++ [x]) (by rw [hm]; simp)
      simpa using this
  exact key ps [] rfl
theorem gd_rec (a : Int) {s : List UInt8} {ps : List TNode} (h : Nm s) (h0 : ps ≠ []) (hp : ∀ x ∈ ps, GPa x) (hl : ps.length ≤ 1000000) : GD ⟨51, a, 0, s, ps⟩ := by
  refine ⟨?_, wideL (fun x hx => (hp x hx).wide) hl⟩
  have c0 : ((ps.length : Int) == 0) = false := by simpa using h0
  have c1 : decide ((ps.length : Int) < 0) = false := by simp
  simp only [ref11_Decl]
  refine Ev.bind h ?_
  simp only [qs, Option.bind_some, Option.map_some, joinK, qb, ↓reduceIte, if_true, if_false, eq_self, Int.reduceBEq, Int.reduceBNe, c0, c1]
  refine Ev.loop ?_
  have := params_loop (rest := []) hp hl (J := fun _ => some true) Ev.pure
  rw [List.append_nil] at this
  exact this
theorem gd_iso1 (a : Int) {n : Int} {s : List UInt8} {t : TNode} (h : Nm s) (hn : 0 ≤ n) (ht : GTy t) : GD ⟨52, a, n, s, [t]⟩ := by
  refine ⟨?_, wide1 ht.wide⟩
  simp only [ref11_Decl]
  refine Ev.bind h ?_
  simp only [qs, Option.bind_some, Option.map_some, joinK, qb, ↓reduceIte, if_true, if_false, eq_self, Int.reduceBEq, Int.reduceBNe, List.length_cons, List.length_nil, show ((0 + 1 : Nat) : Int) = 1 from rfl, show decide (n < 0) = false by simpa using hn, show decide ((1 : Int) > 2) = false from rfl]
  refine Ev.bindS (x := t) (fun _ => rfl) (Ev.bind ht.gt ?_)
  simp only [qs, Option.bind_some, Option.map_some, joinK, qb, ↓reduceIte, if_true, if_false, eq_self, Int.reduceBEq, Int.reduceBNe]; exact Ev.pure
theorem gd_iso2 (a b : Int) {n : Int} {s u : List UInt8} {t : TNode} (h : Nm s) (hu : Nm u) (hn : 0 ≤ n) (ht : GTy t) : GD ⟨52, a, n, s, [t, ⟨12, b, 0, u, []⟩]⟩ := by
  refine ⟨?_, wide2 ht.wide wide0⟩
  simp only [ref11_Decl]
  refine Ev.bind h ?_
  simp only [qs, Option.bind_some, Option.map_some, joinK, qb, ↓reduceIte, if_true, if_false, eq_self, Int.reduceBEq, Int.reduceBNe, List.length_cons, List.length_nil, show ((0 + 1 + 1 : Nat) : Int) = 2 from rfl, show decide (n < 0) = false by simpa using hn, show decide ((2 : Int) > 2) = false from rfl]
  refine Ev.bindS (x := t) (fun _ => rfl) (Ev.bind ht.gt ?_)
  simp only [qs, Option.bind_some, Option.map_some, joinK, qb, ↓reduceIte, if_true, if_false, eq_self, Int.reduceBEq, Int.reduceBNe]
  refine Ev.bindS (x := ⟨12, b, 0, u, []⟩) (fun _ => rfl) ?_
  simp only [qs, Option.bind_some, Option.map_some, joinK, qb, ↓reduceIte, if_true, if_false, eq_self, Int.reduceBEq, Int.reduceBNe]
  exact Ev.bindS (x := ⟨12, b, 0, u, []⟩) (fun _ => rfl) (Ev.bind (gp_name b hu).ge Ev.pure)
def TyO (t : TNode) : Prop := GTy t ∨ t = zN
theorem TyO.wide {t : TNode} (h : TyO t) : Wide t := by rcases h with h | rfl; exact h.wide; exact wide0
theorem type_zero : Ev (fun k => ref11_Type k zN) false := by
  refine Ev.sh 1 ?_
  simp only [ref11_Type]
  simp only [qs, Option.bind_some, Option.map_some, joinK, qb, ↓reduceIte, if_true, if_false, eq_self, Int.reduceBEq, Int.reduceBNe, show decide ((0 : Int) ≥ 1) = false from rfl]; exact Ev.pure
theorem gd_fun (a : Int) {s : List UInt8} {ps : List TNode} {t b : TNode} (h : Nm s) (hp : ∀ x ∈ ps, GPa x) (hl : ps.length ≤ 900000) (ht : TyO t) (hb : GB b) : GD ⟨53, a, 0, s, ps ++ [t, b]⟩ := by
  refine ⟨?_, wideL (by simp; intro x hx; rcases hx with hx | rfl | rfl; exact (hp _ hx).wide; exact ht.wide; exact hb.gs.wide) (by simp; omega)⟩
  have c0 : ((ps ++ [t, b]).length : Int) = (ps.length : Int) + 2 := by simp
  have c1 : IntKind.i64.wrap ((ps.length : Int) + 2 - 2) = (ps.length : Int) := by rw [show (ps.length : Int) + 2 - 2 = ps.length by omega]; exact wrap64_id (by omega) (by omega)
  have c2 : IntKind.i64.wrap ((ps.length : Int) + 2 - 1) = (ps.length : Int) + 1 := by rw [show (ps.length : Int) + 2 - 1 = ps.length + 1 by omega]; exact wrap64_id (by omega) (by omega)
  have c3 : decide ((ps.length : Int) < 0) = false := by simp
  have c4 : ((ps.length : Int) + 2 == 0) = false := by simp; omega
  simp only [ref11_Decl]
  refine Ev.bind h ?_
  simp only [qs, Option.bind_some, Option.map_some, joinK, qb, ↓reduceIte, if_true, if_false, eq_self, Int.reduceBEq, Int.reduceBNe, c0, c1, c2, c3, c4]
  refine Ev.loop ?_
  refine params_loop (rest := [t, b]) hp (by omega) ?_
  refine Ev.bindS (x := b) (fun _ => ix_of (by omega) (by rw [show ((ps.length : Int) + 1).toNat = ps.length + 1 by omega]; simp)) (Ev.bind (kind_of hb.gs hb.kd) ?_)
  simp only [qs, Option.bind_some, Option.map_some, joinK, qb, ↓reduceIte, if_true, if_false, eq_self, Int.reduceBEq, Int.reduceBNe]
  refine Ev.bindS (x := [t, b]) (fun _ => by unfold sub; rw [if_pos (by simp; omega), show ((ps.length : Int) + 2).toNat = (ps ++ [t, b]).length by simp only [List.length_append, List.length_cons, List.length_nil]; omega, List.take_length]; simp) (Ev.bindS (x := t) (fun _ => rfl) ?_)
  rcases ht with ht | rfl
  · refine Ev.bind ht.gt ?_
    simp only [qs, Option.bind_some, Option.map_some, joinK, qb, ↓reduceIte, if_true, if_false, eq_self, Int.reduceBEq, Int.reduceBNe]; exact Ev.pure
  · refine Ev.bind type_zero ?_
    simp only [qs, Option.bind_some, Option.map_some, joinK, qb, ↓reduceIte, if_true, if_false, eq_self, Int.reduceBEq, Int.reduceBNe, alone_eq, List.length_nil, show ((0 : Nat) : Int) = 0 from rfl]; exact Ev.pure
theorem gd_merge (a : Int) {s : List UInt8} {ps : List TNode} {b : TNode} (h : Nm s) (hp : ∀ x ∈ ps, GPa x) (hl : ps.length = 3) (hb : GB b) : GD ⟨54, a, 0, s, ps ++ [b]⟩ := by
  refine ⟨?_, wideL (by simp; intro x hx; rcases hx with hx | rfl; exact (hp _ hx).wide; exact hb.gs.wide) (by simp; omega)⟩
  have c0 : ((ps ++ [b]).length : Int) = 4 := by simp; omega
  have c1 : IntKind.i64.wrap ((4 : Int) - 1) = (ps.length : Int) := by rw [hl]; rfl
  have c2 : ((ps.length : Int) == 3) = true := by rw [hl]; rfl
  have c3 : decide ((ps.length : Int) < 0) = false := by simp
  simp only [ref11_Decl]
  refine Ev.bind h ?_
  simp only [qs, Option.bind_some, Option.map_some, joinK, qb, ↓reduceIte, if_true, if_false, eq_self, Int.reduceBEq, Int.reduceBNe, c0, c1, c2, c3]
  refine Ev.loop ?_
  refine params_loop (rest := [b]) hp (by omega) ?_
  refine Ev.bindS (x := b) (fun _ => ix_of (by omega) (by simp)) (Ev.bind (kind_of hb.gs hb.kd) ?_)
  simp only [qs, Option.bind_some, Option.map_some, joinK, qb, ↓reduceIte, if_true, if_false, eq_self, Int.reduceBEq, Int.reduceBNe]; exact Ev.pure
end Go.Proofs.YtjakhfaodfaimaaDoor.F
namespace Go.Proofs.YtjakhfaodfaimaaDoor.F
open Go
theorem param_R {l : List TToken} (W : WF l) (i : Int) : RG GPa l i (fun k => stmt_cursor_param k l i false) (fun k => ref14_param k l i) := by
  by_cases h1 : (tk l i).Kind = 1
  · obtain ⟨n1, n2, n3⟩ := W.next (i := i) (by omega)
    obtain ⟨a, j, b, ok, e1, e2, e3, e4⟩ := spart_all W (i + 1)
    have E : Ev (fun k => stmt_cursor_param k l i false) (⟨50, (tk l i).At, 0, (tk l i).Text, [a]⟩, j, !ok) := by
      simp only [stmt_cursor_param]
      simp only [qs, Option.bind_some, Option.map_some, joinK, qb, ↓reduceIte, if_true, if_false, eq_self, Int.reduceBEq, Int.reduceBNe, h1, n3]
      refine Ev.bind e1 ?_
      simp only [qs, Option.bind_some, Option.map_some, joinK, qb, ↓reduceIte, if_true, if_false, eq_self, Int.reduceBEq, Int.reduceBNe]; exact Ev.pure
    have Rr : Ev (fun k => ref14_param k l i) (if ok then ⟨⟨50, (tk l i).At, 0, (tk l i).Text, [b]⟩, j, true⟩ else ⟨zN, j, false⟩) := by
      simp only [ref14_param]
      simp only [qs, Option.bind_some, Option.map_some, joinK, qb, ↓reduceIte, if_true, if_false, eq_self, Int.reduceBEq, Int.reduceBNe, h1, n3]
      refine Ev.bind e2 ?_
      cases ok
      · simp only [qs, Option.bind_some, Option.map_some, joinK, qb, ↓reduceIte, if_true, if_false, eq_self, Int.reduceBEq, Int.reduceBNe]; exact Ev.pure
      · simp only [qs, Option.bind_some, Option.map_some, joinK, qb, ↓reduceIte, if_true, if_false, eq_self, Int.reduceBEq, Int.reduceBNe]; exact Ev.pure
    cases ok with
    | false => exact RG.bad E Rr
    | true =>
      obtain ⟨rfl, q2, q3, q4⟩ := e3 rfl
      exact RG.good E Rr ⟨by omega, q3⟩ (gpa_of _ (W.names _ h1) q4)
  · have h1 : ((tk l i).Kind != 1) = true := by simpa using h1
    refine RG.bad (j := i) (n := ⟨50, 0, 0, [], [zN]⟩) ?_ ?_
    · simp only [stmt_cursor_param]
      simp only [qs, Option.bind_some, Option.map_some, joinK, qb, ↓reduceIte, if_true, if_false, eq_self, Int.reduceBEq, Int.reduceBNe, h1]; exact Ev.pure
    · simp only [ref14_param]
      simp only [qs, Option.bind_some, Option.map_some, joinK, qb, ↓reduceIte, if_true, if_false, eq_self, Int.reduceBEq, Int.reduceBNe, h1]; exact Ev.pure
def eRecB (l : List TToken) (a : Int) (s : List UInt8) (k : Nat) (st : List TNode × Int × Bool) : Option ((List TNode × Int × Bool) ⊕ (TNode × Int × Bool)) :=
  match st with
  | (c, p, b) =>
    if (!b) then
    (stmt_cursor_param k l p b).bind fun (x3_3_0, x3_3_1, x3_3_2) =>
    if (room 64 (c.length + [x3_3_0].length)) then
    (stmt_cursor_wants k [[59]] l x3_3_1 x3_3_2).bind fun (x4_2_0, x4_2_1) =>
    (stmt_cursor_takes k 4 [125] l x4_2_0 x4_2_1).bind fun (x5_1_0, x5_1_1) =>
    if x5_1_0 then
    (some ((TNode.mk 51 a 0 s (c ++ [x3_3_0])), x5_1_1, x4_2_1)).map .inr
    else
    some (.inl ((c ++ [x3_3_0]), x5_1_1, x4_2_1))
    else none
    else
    (some ((TNode.mk 51 a 0 s c), p, b)).map .inr
def rRecB (l : List TToken) (a : Int) (s : List UInt8) (k : Nat) (st : List TNode × Int) : Option ((List TNode × Int) ⊕ Tref14_Got) :=
  match st with
  | (l0_bclloc54, l0_1) =>
    (ref14_param k l l0_1).bind fun x4_2 =>
    (ref14_closed k l x4_2 (TNode.mk x4_2.N.Kind x4_2.N.At x4_2.N.N x4_2.N.Name x4_2.N.Kids) [59]).bind fun x5_4 =>
    if (!x5_4.Ok) then
    some (.inr x5_4)
    else
    if (room 64 (l0_bclloc54.length + [(TNode.mk x5_4.N.Kind x5_4.N.At x5_4.N.N x5_4.N.Name x5_4.N.Kids)].length)) then
    (ref13_Is k l x5_4.At [125]).bind fun x10_2 =>
    if x10_2 then
    some (.inr (Tref14_Got.mk (TNode.mk 51 a 0 s (l0_bclloc54 ++ [(TNode.mk x5_4.N.Kind x5_4.N.At x5_4.N.N x5_4.N.Name x5_4.N.Kids)])) (IntKind.i64.wrap (x5_4.At + 1)) true))
    else
    some (.inl ((l0_bclloc54 ++ [(TNode.mk x5_4.N.Kind x5_4.N.At x5_4.N.N x5_4.N.Name x5_4.N.Kids)]), x5_4.At))
    else none
abbrev eRec (l : List TToken) (a : Int) (s : List UInt8) (p : Int) (k : Nat) := stmt_cursor_rec_v2 k 51 a 0 s [] l p false
abbrev rRec (l : List TToken) (a : Int) (s : List UInt8) (p : Int) (k : Nat) := ref14_rec_v2 k l p 51 a 0 s []
theorem eRec_eq (k : Nat) (l : List TToken) (a : Int) (s : List UInt8) (p : Int) (b : Bool) : stmt_cursor_rec_v2 k 51 a 0 s [] l p b = (stmt_cursor_wants k [[123]] l p b).bind fun (q, c) => loopM k (eRecB l a s k) ([], q, c) := rfl
theorem rRec_eq (k : Nat) (l : List TToken) (a : Int) (s : List UInt8) (p : Int) : rRec l a s p k = if isT (tk l p) 4 [123] then loopM k (rRecB l a s k) ([], IntKind.i64.wrap (p + 1)) else some ⟨zN, p, false⟩ := by
  unfold rRec ref14_rec_v2
  rw [Is_eq]
  simp only [Option.bind_some]
  cases isT (tk l p) 4 [123]
  · rfl
  · rfl
theorem eRec_end (l : List TToken) (a p : Int) (s : List UInt8) (c : List TNode) : EvL (eRecB l a s) (c, p, true) (⟨51, a, 0, s, c⟩, p, true) := EvL.done (by simp only [eRecB]; simp only [qs, Option.bind_some, Option.map_some, joinK, qb, ↓reduceIte, if_true, if_false, eq_self, Int.reduceBEq, Int.reduceBNe]; exact Ev.pure)
theorem eRec_bad (l : List TToken) (a : Int) (s : List UInt8) (p : Int) : Ev (fun k => stmt_cursor_rec_v2 k 51 a 0 s [] l p true) (⟨51, a, 0, s, []⟩, p, true) := by
  refine Ev.sh 2 ?_
  simp only [eRec_eq]
  simp only [qs, Option.bind_some, Option.map_some, joinK, qb, ↓reduceIte, if_true, if_false, eq_self, Int.reduceBEq, Int.reduceBNe]
  exact (Ev.loop (eRec_end l a p s [])).up (n := 2)
theorem rec_loop {l : List TToken} (W : WF l) (a : Int) {s : List UInt8} (hs : Nm s) : ∀ (n : Nat) (p : Int) (c : List TNode), (l.length : Int) - p ≤ n → 0 < p → p < l.length → (∀ x ∈ c, GPa x) → (c.length : Int) ≤ p →
    ∃ x j y ok, EvL (eRecB l a s) (c, p, false) (x, j, !ok) ∧ EvL (rRecB l a s) (c, p) ⟨y, j, ok⟩ ∧ (ok = true → x = y ∧ p < j ∧ j < l.length ∧ GD y) ∧ (ok = false → y = zN) := by
  intro n
  induction n using Nat.strongRecOn with
  | _ n ih =>
  intro p c hn hp hpl hg hc
  have hlen := W.len
  obtain ⟨x, j, y, ok, e1, e2, e3, e4⟩ := param_R W p
  have r1 := fun x => room1 x (show c.length ≤ 1000000 by omega)
  have bad : (ok && isT (tk l j) 4 [59]) = false → ∃ x j y ok, EvL (eRecB l a s) (c, p, false) (x, j, !ok) ∧ EvL (rRecB l a s) (c, p) ⟨y, j, ok⟩ ∧ (ok = true → x = y ∧ p < j ∧ j < l.length ∧ GD y) ∧ (ok = false → y = zN) := by
    intro hb
    refine ⟨⟨51, a, 0, s, c ++ [x]⟩, j, zN, false, EvL.step (s' := (c ++ [x], j, true)) (Ev.sh 2 ?_) (eRec_end _ _ _ _ _), EvL.done ?_, (fun h => by cases h), fun _ => rfl⟩
    · simp only [eRecB]
      simp only [qs, Option.bind_some, Option.map_some, joinK, qb, ↓reduceIte, if_true, if_false, eq_self, Int.reduceBEq, Int.reduceBNe]
      refine Ev.bind e1.up ?_
      cases ok
      · simp only [qs, Option.bind_some, Option.map_some, joinK, qb, ↓reduceIte, if_true, if_false, eq_self, Int.reduceBEq, Int.reduceBNe, r1]; exact Ev.pure
      · simp only [qs, Option.bind_some, Option.map_some, joinK, qb, ↓reduceIte, if_true, if_false, eq_self, Int.reduceBEq, Int.reduceBNe, r1, show isT (tk l j) 4 [59] = false by simpa using hb]; exact Ev.pure
    · simp only [rRecB]
      refine Ev.bind e2 ?_
      cases ok
      · simp only [qs, Option.bind_some, Option.map_some, joinK, qb, ↓reduceIte, if_true, if_false, eq_self, Int.reduceBEq, Int.reduceBNe]; exact Ev.pure
      · simp only [qs, Option.bind_some, Option.map_some, joinK, qb, ↓reduceIte, if_true, if_false, eq_self, Int.reduceBEq, Int.reduceBNe, show isT (tk l j) 4 [59] = false by simpa using hb]; exact Ev.pure
  cases ok with
  | false => exact bad rfl
  | true =>
    obtain ⟨rfl, q2, q3, q4⟩ := e3 rfl
    by_cases h1 : isT (tk l j) 4 [59] = true
    · obtain ⟨m1, m2, m3⟩ := W.next (i := j) (by rw [(isT_kind h1).1]; decide)
      by_cases h2 : isT (tk l (j + 1)) 4 [125] = true
      · obtain ⟨u1, u2, u3⟩ := W.next (i := j + 1) (by rw [(isT_kind h2).1]; decide)
        refine ⟨⟨51, a, 0, s, c ++ [x]⟩, j + 1 + 1, _, true, EvL.done (Ev.sh 2 ?_), EvL.done ?_, fun _ => ⟨rfl, by omega, u2, gd_rec a hs (by simp) (by simp; exact fun z hz => hz.elim (hg z) (fun e => e ▸ q4)) (by simp; omega)⟩, (fun h => by cases h)⟩
        · simp only [eRecB]
          simp only [qs, Option.bind_some, Option.map_some, joinK, qb, ↓reduceIte, if_true, if_false, eq_self, Int.reduceBEq, Int.reduceBNe]
          refine Ev.bind e1.up ?_
          simp only [qs, Option.bind_some, Option.map_some, joinK, qb, ↓reduceIte, if_true, if_false, eq_self, Int.reduceBEq, Int.reduceBNe, r1, h1, m3, h2, u3, Option.map_some]; exact Ev.pure
        · simp only [rRecB]
          refine Ev.bind e2 ?_
          simp only [qs, Option.bind_some, Option.map_some, joinK, qb, ↓reduceIte, if_true, if_false, eq_self, Int.reduceBEq, Int.reduceBNe, r1, h1, m3, h2, u3]; exact Ev.pure
      · have h2 : isT (tk l (j + 1)) 4 [125] = false := by simpa using h2
        obtain ⟨x', j', y', ok', f1, f2, f3, f4⟩ := ih (n - 1) (by omega) (j + 1) (c ++ [x]) (by omega) (by omega) m2 (by simp; exact fun z hz => hz.elim (hg z) (fun e => e ▸ q4)) (by simp; omega)
        refine ⟨x', j', y', ok', EvL.step (s' := (c ++ [x], j + 1, false)) (Ev.sh 2 ?_) f1, EvL.step (s' := (c ++ [x], j + 1)) ?_ f2, fun h => ?_, f4⟩
        · simp only [eRecB]
          simp only [qs, Option.bind_some, Option.map_some, joinK, qb, ↓reduceIte, if_true, if_false, eq_self, Int.reduceBEq, Int.reduceBNe]
          refine Ev.bind e1.up ?_
          simp only [qs, Option.bind_some, Option.map_some, joinK, qb, ↓reduceIte, if_true, if_false, eq_self, Int.reduceBEq, Int.reduceBNe, r1, h1, m3, h2]; exact Ev.pure
        · simp only [rRecB]
          refine Ev.bind e2 ?_
          simp only [qs, Option.bind_some, Option.map_some, joinK, qb, ↓reduceIte, if_true, if_false, eq_self, Int.reduceBEq, Int.reduceBNe, r1, h1, m3, h2]; exact Ev.pure
        · obtain ⟨g1, g2, g3, g4⟩ := f3 h
          exact ⟨g1, by omega, g3, g4⟩
    · exact bad (by simpa using h1)
theorem rec_R {l : List TToken} (W : WF l) (a : Int) {s : List UInt8} (hs : Nm s) (p : Int) : RG GD l p (eRec l a s p) (rRec l a s p) := by
  by_cases h1 : isT (tk l p) 4 [123] = true
  · obtain ⟨n1, n2, n3⟩ := W.next (i := p) (by rw [(isT_kind h1).1]; decide)
    obtain ⟨x, j, y, ok, e1, e2, e3, e4⟩ := rec_loop W a hs (l.length - (p + 1)).toNat (p + 1) [] (by omega) (by omega) n2 (by simp) (by simp; omega)
    refine ⟨x, j, y, ok, Ev.sh 2 ?_, ?_, fun h => ?_, e4⟩
    · simp only [eRec, eRec_eq]
      simp only [qs, Option.bind_some, Option.map_some, joinK, qb, ↓reduceIte, if_true, if_false, eq_self, Int.reduceBEq, Int.reduceBNe, h1, n3]
      exact (Ev.loop e1).up (n := 2)
    · refine Ev.congr (fun k => rRec_eq k l a s p) ?_
      simp only [qs, Option.bind_some, Option.map_some, joinK, qb, ↓reduceIte, if_true, if_false, eq_self, Int.reduceBEq, Int.reduceBNe, h1, n3]
      exact Ev.loop e2
    · obtain ⟨g1, g2, g3, g4⟩ := e3 h
      exact ⟨g1, by omega, g3, g4⟩
  · have h1 : isT (tk l p) 4 [123] = false := by simpa using h1
    refine RG.bad (j := p) (n := ⟨51, a, 0, s, []⟩) (Ev.sh 2 ?_) ?_
    · simp only [eRec, eRec_eq]
      simp only [qs, Option.bind_some, Option.map_some, joinK, qb, ↓reduceIte, if_true, if_false, eq_self, Int.reduceBEq, Int.reduceBNe, h1]
      exact (Ev.loop (eRec_end l a p s [])).up (n := 2)
    · refine Ev.congr (fun k => rRec_eq k l a s p) ?_
      simp only [qs, Option.bind_some, Option.map_some, joinK, qb, ↓reduceIte, if_true, if_false, eq_self, Int.reduceBEq, Int.reduceBNe, h1]; exact Ev.pure
def eIsoT (l : List TToken) (a : Int) (s : List UInt8) (v : Int) (q : Int) (b : Bool) (k : Nat) : Option (TNode × Int × Bool) :=
    (stmt_cursor_part k l q b).bind fun (x9_3_0, x9_3_1, x9_3_2) =>
    if (room 64 (([] : List TNode).length + [x9_3_0].length)) then
    joinK (fun ((j2_bclloc34, j2_oext0_1, j2_oext0_2) : List TNode × Int × Bool) =>
    (stmt_cursor_wants k [[59]] l j2_oext0_1 j2_oext0_2).bind fun (x14_2_0, x14_2_1) =>
    some ((TNode.mk 52 a v s j2_bclloc34), x14_2_0, x14_2_1)) fun j_j2 =>
    (stmt_cursor_takes k 3 [98, 121] l x9_3_1 x9_3_2).bind fun (x10_1_0, x10_1_1) =>
    if x10_1_0 then
    (stmt_cursor_name k l x10_1_1 x9_3_2).bind fun (x12_1_0, x12_1_1, x12_1_2, x12_1_3) =>
    if (room 64 ((([] : List TNode) ++ [x9_3_0]).length + [(TNode.mk 12 x12_1_1 0 x12_1_0 [])].length)) then
    j_j2 ((([] ++ [x9_3_0]) ++ [(TNode.mk 12 x12_1_1 0 x12_1_0 [])]), x12_1_2, x12_1_3)
    else none
    else
    j_j2 (([] ++ [x9_3_0]), x10_1_1, x9_3_2)
    else none
def rIsoT (l : List TToken) (a : Int) (s : List UInt8) (v : Int) (q : Int) (k : Nat) : Option Tref14_Got :=
    (ref13_Type k l q).bind fun (x9_2_0, x9_2_1, x9_2_2) =>
    if (!x9_2_2) then
    (ref14_fail k x9_2_1).bind fun x11_1 =>
    some x11_1
    else
    joinK (fun ((j1_9, j1_oloc5_4) : Int × List TNode) =>
    (ref14_closed k l (Tref14_Got.mk (TNode.mk 52 a v s j1_oloc5_4) j1_9 true) (TNode.mk 52 a v s j1_oloc5_4) [59]).bind fun x19_5 =>
    some x19_5) fun j_j1 =>
    (ref13_Says k l x9_2_1 [98, 121]).bind fun x13_2 =>
    if x13_2 then
    (ref13_Tok k l (IntKind.i64.wrap (x9_2_1 + 1))).bind fun x14_3 =>
    if (x14_3.Kind != 1) then
    (ref14_fail k (IntKind.i64.wrap (x9_2_1 + 1))).bind fun x16_2 =>
    some x16_2
    else
    if (room 64 ([x9_2_0].length + [(TNode.mk 12 x14_3.At 0 x14_3.Text [])].length)) then
    j_j1 ((IntKind.i64.wrap (x9_2_1 + 2)), ([x9_2_0] ++ [(TNode.mk 12 x14_3.At 0 x14_3.Text [])]))
    else none
    else
    j_j1 (x9_2_1, [x9_2_0])
abbrev eIso (l : List TToken) (a : Int) (s : List UInt8) (p : Int) (k : Nat) := stmt_cursor_iso_v2 k 52 a 0 s [] l p false
abbrev rIso (l : List TToken) (a : Int) (s : List UInt8) (p : Int) (k : Nat) := ref14_iso k l p ⟨52, a, 0, s, []⟩
theorem eIso_eq (k : Nat) (l : List TToken) (a : Int) (s : List UInt8) (p : Int) : eIso l a s p k =
    (if (isT (tk l p) 4 [91] && !isT (tk l (IntKind.i64.wrap (p + 1))) 4 [93]) then
      (if ((tk l (IntKind.i64.wrap (p + 1))).Kind != 2 || (tk l (IntKind.i64.wrap (p + 1))).N == 0) then (stmt_cursor_wants k [[93]] l (IntKind.i64.wrap (p + 1)) true).bind fun (q, b) => eIsoT l a s 0 q b k
       else (stmt_cursor_wants k [[93]] l (IntKind.i64.wrap (IntKind.i64.wrap (p + 1) + 1)) false).bind fun (q, b) => eIsoT l a s (tk l (IntKind.i64.wrap (p + 1))).N q b k)
     else eIsoT l a s 0 p false k) := by
  unfold eIso stmt_cursor_iso_v2
  simp only [joinK]
  rw [sis_eq, sempty_eq, slook_eq]
  simp only [Option.bind_some]
  cases isT (tk l p) 4 [91]
  · rfl
  · cases isT (tk l (IntKind.i64.wrap (p + 1))) 4 [93]
    · simp only [if_true, Bool.not_false, Bool.and_true]
      cases ((tk l (IntKind.i64.wrap (p + 1))).Kind != 2 || (tk l (IntKind.i64.wrap (p + 1))).N == 0)
      · rfl
      · rfl
    · rfl
theorem eIso_bad (l : List TToken) (a : Int) (s : List UInt8) (v q : Int) : ∃ n, Ev (eIsoT l a s v q true) (n, q, true) := by
  refine ⟨⟨52, a, v, s, [zN]⟩, Ev.sh 2 ?_⟩
  simp only [eIsoT]
  simp only [qs, Option.bind_some, Option.map_some, joinK, qb, ↓reduceIte, if_true, if_false, eq_self, Int.reduceBEq, Int.reduceBNe, room1 (m := ([] : List TNode).length) zN (by simp)]; exact Ev.pure
theorem eIso_bad0 (l : List TToken) (a : Int) (s : List UInt8) (p : Int) : ∃ n, Ev (fun k => stmt_cursor_iso_v2 k 52 a 0 s [] l p true) (n, p, true) := by
  obtain ⟨n, h⟩ := eIso_bad l a s 0 p
  refine ⟨n, ?_⟩
  refine Ev.congr (fun k => ?_) h
  simp only [stmt_cursor_iso_v2, sis_bad]
  rfl
theorem rIso_eq (k : Nat) (l : List TToken) (a : Int) (s : List UInt8) (p : Int) : rIso l a s p k =
    (if (isT (tk l p) 4 [91] && !isT (tk l (IntKind.i64.wrap (p + 1))) 4 [93]) then
      (if ((tk l (IntKind.i64.wrap (p + 1))).Kind != 2 || (tk l (IntKind.i64.wrap (p + 1))).N == 0) then some ⟨zN, IntKind.i64.wrap (p + 1), false⟩
       else if isT (tk l (IntKind.i64.wrap (p + 2))) 4 [93] then rIsoT l a s (tk l (IntKind.i64.wrap (p + 1))).N (IntKind.i64.wrap (p + 3)) k
       else some ⟨zN, IntKind.i64.wrap (p + 2), false⟩)
     else rIsoT l a s 0 p k) := by
  unfold rIso ref14_iso
  simp only [joinK]
  rw [Is_eq k l p, Is_eq k l (IntKind.i64.wrap (p + 1)), Tok_eq k l (IntKind.i64.wrap (p + 1)), Is_eq k l (IntKind.i64.wrap (p + 2))]
  simp only [Option.bind_some]
  cases isT (tk l p) 4 [91]
  · rfl
  · cases isT (tk l (IntKind.i64.wrap (p + 1))) 4 [93]
    · simp only [if_true, Bool.not_false, Bool.and_true]
      cases ((tk l (IntKind.i64.wrap (p + 1))).Kind != 2 || (tk l (IntKind.i64.wrap (p + 1))).N == 0)
      · cases isT (tk l (IntKind.i64.wrap (p + 2))) 4 [93]
        · rfl
        · rfl
      · rfl
    · rfl
theorem isoT_R {l : List TToken} (W : WF l) (a : Int) {s : List UInt8} (hs : Nm s) {v : Int} (hv : 0 ≤ v) (q : Int) : RG GD l q (eIsoT l a s v q false) (rIsoT l a s v q) := by
  have hlen := W.len
  obtain ⟨x, j, y, ok, e1, e2, e3, e4⟩ := spart_all W q
  have r1 : ∀ x : TNode, room 64 (([] : List TNode).length + [x].length) = true := fun x => room1 x (by simp)
  have r2 : ∀ x y : TNode, room 64 (([x] : List TNode).length + [y].length) = true := fun x y => room1 y (by simp)
  cases ok with
  | false =>
    refine RG.bad (j := j) (n := ⟨52, a, v, s, [x]⟩) (Ev.sh 2 ?_) ?_
    · simp only [eIsoT]
      refine Ev.bind e1.up ?_
      simp only [qs, Option.bind_some, Option.map_some, joinK, qb, ↓reduceIte, if_true, if_false, eq_self, Int.reduceBEq, Int.reduceBNe, r1]; exact Ev.pure
    · unfold rIsoT
      refine Ev.bind e2 ?_
      simp only [qs, Option.bind_some, Option.map_some, joinK, qb, ↓reduceIte, if_true, if_false, eq_self, Int.reduceBEq, Int.reduceBNe]; exact Ev.pure
  | true =>
    obtain ⟨rfl, q2, q3, q4⟩ := e3 rfl
    by_cases h1 : isT (tk l j) 3 [98, 121] = true
    · obtain ⟨m1, m2, m3⟩ := W.next (i := j) (by rw [(isT_kind h1).1]; decide)
      by_cases h2 : (tk l (j + 1)).Kind = 1
      · obtain ⟨u1, u2, u3⟩ := W.next (i := j + 1) (by omega)
        have w2 : IntKind.i64.wrap (j + 2) = j + 2 := wrap64_id (by omega) (by omega)
        have a2 : j + 1 + 1 = j + 2 := by omega
        have E : Ev (eIsoT l a s v q false) (if isT (tk l (j + 2)) 4 [59] then (⟨52, a, v, s, [x, ⟨12, (tk l (j + 1)).At, 0, (tk l (j + 1)).Text, []⟩]⟩, IntKind.i64.wrap (j + 2 + 1), false) else (⟨52, a, v, s, [x, ⟨12, (tk l (j + 1)).At, 0, (tk l (j + 1)).Text, []⟩]⟩, j + 2, true)) := by
          refine Ev.sh 2 ?_
          simp only [eIsoT]
          refine Ev.bind e1.up ?_
          simp only [qs, Option.bind_some, Option.map_some, joinK, qb, ↓reduceIte, if_true, if_false, eq_self, Int.reduceBEq, Int.reduceBNe, r1, h1, m3, h2, List.nil_append, r2, a2, w2]
          cases isT (tk l (j + 2)) 4 [59]
          · simp only [qs, Option.bind_some, Option.map_some, joinK, qb, ↓reduceIte, if_true, if_false, eq_self, Int.reduceBEq, Int.reduceBNe]; exact Ev.pure
          · simp only [qs, Option.bind_some, Option.map_some, joinK, qb, ↓reduceIte, if_true, if_false, eq_self, Int.reduceBEq, Int.reduceBNe]; exact Ev.pure
        have Rr : Ev (rIsoT l a s v q) (if isT (tk l (j + 2)) 4 [59] then ⟨⟨52, a, v, s, [x, ⟨12, (tk l (j + 1)).At, 0, (tk l (j + 1)).Text, []⟩]⟩, IntKind.i64.wrap (j + 2 + 1), true⟩ else ⟨zN, j + 2, false⟩) := by
          unfold rIsoT
          refine Ev.bind e2 ?_
          simp only [qs, Option.bind_some, Option.map_some, joinK, qb, ↓reduceIte, if_true, if_false, eq_self, Int.reduceBEq, Int.reduceBNe, h1, m3, h2, w2, r2]
          cases isT (tk l (j + 2)) 4 [59]
          · simp only [qs, Option.bind_some, Option.map_some, joinK, qb, ↓reduceIte, if_true, if_false, eq_self, Int.reduceBEq, Int.reduceBNe]; exact Ev.pure
          · simp only [qs, Option.bind_some, Option.map_some, joinK, qb, ↓reduceIte, if_true, if_false, eq_self, Int.reduceBEq, Int.reduceBNe]; exact Ev.pure
        by_cases h3 : isT (tk l (j + 2)) 4 [59] = true
        · obtain ⟨v1, v2, v3⟩ := W.next (i := j + 2) (by rw [(isT_kind h3).1]; decide)
          simp only [h3, if_true, v3] at E Rr
          exact RG.good E Rr ⟨by omega, v2⟩ (gd_iso2 _ _ hs (W.names _ h2) hv q4)
        · simp only [show isT (tk l (j + 2)) 4 [59] = false by simpa using h3, Bool.false_eq_true, if_false] at E Rr
          exact RG.bad E Rr
      · have h2 : ((tk l (j + 1)).Kind != 1) = true := by simpa using h2
        refine RG.bad (j := j + 1) (n := ⟨52, a, v, s, [x, ⟨12, 0, 0, [], []⟩]⟩) (Ev.sh 2 ?_) ?_
        · simp only [eIsoT]
          refine Ev.bind e1.up ?_
          simp only [qs, Option.bind_some, Option.map_some, joinK, qb, ↓reduceIte, if_true, if_false, eq_self, Int.reduceBEq, Int.reduceBNe, r1, h1, m3, h2, List.nil_append, r2]; exact Ev.pure
        · unfold rIsoT
          refine Ev.bind e2 ?_
          simp only [qs, Option.bind_some, Option.map_some, joinK, qb, ↓reduceIte, if_true, if_false, eq_self, Int.reduceBEq, Int.reduceBNe, h1, m3, h2]; exact Ev.pure
    · have h1 : isT (tk l j) 3 [98, 121] = false := by simpa using h1
      have E : Ev (eIsoT l a s v q false) (if isT (tk l j) 4 [59] then (⟨52, a, v, s, [x]⟩, IntKind.i64.wrap (j + 1), false) else (⟨52, a, v, s, [x]⟩, j, true)) := by
        refine Ev.sh 2 ?_
        simp only [eIsoT]
        refine Ev.bind e1.up ?_
        simp only [qs, Option.bind_some, Option.map_some, joinK, qb, ↓reduceIte, if_true, if_false, eq_self, Int.reduceBEq, Int.reduceBNe, r1, h1, List.nil_append]
        cases isT (tk l j) 4 [59]
        · simp only [qs, Option.bind_some, Option.map_some, joinK, qb, ↓reduceIte, if_true, if_false, eq_self, Int.reduceBEq, Int.reduceBNe]; exact Ev.pure
        · simp only [qs, Option.bind_some, Option.map_some, joinK, qb, ↓reduceIte, if_true, if_false, eq_self, Int.reduceBEq, Int.reduceBNe]; exact Ev.pure
      have Rr : Ev (rIsoT l a s v q) (if isT (tk l j) 4 [59] then ⟨⟨52, a, v, s, [x]⟩, IntKind.i64.wrap (j + 1), true⟩ else ⟨zN, j, false⟩) := by
        unfold rIsoT
        refine Ev.bind e2 ?_
        simp only [qs, Option.bind_some, Option.map_some, joinK, qb, ↓reduceIte, if_true, if_false, eq_self, Int.reduceBEq, Int.reduceBNe, h1]
        cases isT (tk l j) 4 [59]
        · simp only [qs, Option.bind_some, Option.map_some, joinK, qb, ↓reduceIte, if_true, if_false, eq_self, Int.reduceBEq, Int.reduceBNe]; exact Ev.pure
        · simp only [qs, Option.bind_some, Option.map_some, joinK, qb, ↓reduceIte, if_true, if_false, eq_self, Int.reduceBEq, Int.reduceBNe]; exact Ev.pure
      by_cases h3 : isT (tk l j) 4 [59] = true
      · obtain ⟨v1, v2, v3⟩ := W.next (i := j) (by rw [(isT_kind h3).1]; decide)
        simp only [h3, if_true, v3] at E Rr
        exact RG.good E Rr ⟨by omega, v2⟩ (gd_iso1 _ hs hv q4)
      · simp only [show isT (tk l j) 4 [59] = false by simpa using h3, Bool.false_eq_true, if_false] at E Rr
        exact RG.bad E Rr
theorem RG.mono {G : TNode → Prop} {l : List TToken} {i p : Int} {e : Nat → Option (TNode × Int × Bool)} {r : Nat → Option Tref14_Got} (h : RG G l p e r) (hp : i ≤ p) : RG G l i e r := by
  obtain ⟨x, j, y, ok, e1, e2, e3, e4⟩ := h
  exact ⟨x, j, y, ok, e1, e2, fun h => by obtain ⟨g1, g2, g3, g4⟩ := e3 h; exact ⟨g1, by omega, g3, g4⟩, e4⟩
theorem RG.congr {G : TNode → Prop} {l : List TToken} {i : Int} {e e' : Nat → Option (TNode × Int × Bool)} {r r' : Nat → Option Tref14_Got} (he : ∀ x, Ev e' x → Ev e x) (hr : ∀ x, Ev r' x → Ev r x) (h : RG G l i e' r') : RG G l i e r := by
  obtain ⟨x, j, y, ok, e1, e2, e3, e4⟩ := h
  exact ⟨x, j, y, ok, he _ e1, hr _ e2, e3, e4⟩
theorem iso_R {l : List TToken} (W : WF l) (a : Int) {s : List UInt8} (hs : Nm s) (p : Int) : RG GD l p (eIso l a s p) (rIso l a s p) := by
  have hlen := W.len
  by_cases h1 : (isT (tk l p) 4 [91] && !isT (tk l (IntKind.i64.wrap (p + 1))) 4 [93]) = true
  · have hb : isT (tk l p) 4 [91] = true := by simp only [Bool.and_eq_true] at h1; exact h1.1
    obtain ⟨n1, n2, n3⟩ := W.next (i := p) (by rw [(isT_kind hb).1]; decide)
    rw [n3] at h1
    by_cases h2 : ((tk l (p + 1)).Kind != 2 || (tk l (p + 1)).N == 0) = true
    · obtain ⟨n, hn⟩ := eIso_bad l a s 0 (p + 1)
      refine RG.bad (j := p + 1) (n := n) (Ev.sh 2 ?_) ?_
      · simp only [eIso_eq]
        simp only [qs, Option.bind_some, Option.map_some, joinK, qb, ↓reduceIte, if_true, if_false, eq_self, Int.reduceBEq, Int.reduceBNe, n3, h1, h2]
        exact hn.up
      · refine Ev.congr (fun k => rIso_eq k l a s p) ?_
        simp only [qs, Option.bind_some, Option.map_some, joinK, qb, ↓reduceIte, if_true, if_false, eq_self, Int.reduceBEq, Int.reduceBNe, n3, h1, h2]; exact Ev.pure
    · have h2 : ((tk l (p + 1)).Kind != 2 || (tk l (p + 1)).N == 0) = false := by simpa using h2
      have hk : (tk l (p + 1)).Kind = 2 := by simp at h2; exact h2.1
      obtain ⟨m1, m2, m3⟩ := W.next (i := p + 1) (by omega)
      have w2 : IntKind.i64.wrap (p + 2) = p + 2 := wrap64_id (by omega) (by omega)
      have w3 : IntKind.i64.wrap (p + 3) = p + 3 := wrap64_id (by omega) (by omega)
      have a2 : p + 1 + 1 = p + 2 := by omega
      have a3 : p + 2 + 1 = p + 3 := by omega
      by_cases h3 : isT (tk l (p + 2)) 4 [93] = true
      · refine RG.congr (fun x hx => Ev.sh 2 ?_) (fun x hx => ?_) (RG.mono (isoT_R W a hs (W.nums _ hk) (p + 3)) (by omega))
        · simp only [eIso_eq]
          simp only [qs, Option.bind_some, Option.map_some, joinK, qb, ↓reduceIte, if_true, if_false, eq_self, Int.reduceBEq, Int.reduceBNe, n3, h1, h2, a2, w2, h3, a3, w3]
          exact hx.up
        · refine Ev.congr (fun k => rIso_eq k l a s p) ?_
          simp only [qs, Option.bind_some, Option.map_some, joinK, qb, ↓reduceIte, if_true, if_false, eq_self, Int.reduceBEq, Int.reduceBNe, n3, h1, h2, w2, h3, w3]
          exact hx
      · have h3 : isT (tk l (p + 2)) 4 [93] = false := by simpa using h3
        obtain ⟨n, hn⟩ := eIso_bad l a s (tk l (p + 1)).N (p + 2)
        refine RG.bad (j := p + 2) (n := n) (Ev.sh 2 ?_) ?_
        · simp only [eIso_eq]
          simp only [qs, Option.bind_some, Option.map_some, joinK, qb, ↓reduceIte, if_true, if_false, eq_self, Int.reduceBEq, Int.reduceBNe, n3, h1, h2, a2, w2, h3]
          exact hn.up
        · refine Ev.congr (fun k => rIso_eq k l a s p) ?_
          simp only [qs, Option.bind_some, Option.map_some, joinK, qb, ↓reduceIte, if_true, if_false, eq_self, Int.reduceBEq, Int.reduceBNe, n3, h1, h2, w2, h3]; exact Ev.pure
  · have h1 : (isT (tk l p) 4 [91] && !isT (tk l (IntKind.i64.wrap (p + 1))) 4 [93]) = false := by simpa using h1
    refine RG.congr (fun x hx => ?_) (fun x hx => ?_) (isoT_R W a hs (v := 0) (by omega) p)
    · refine Ev.congr (fun k => eIso_eq k l a s p) ?_
      simp only [qs, Option.bind_some, Option.map_some, joinK, qb, ↓reduceIte, if_true, if_false, eq_self, Int.reduceBEq, Int.reduceBNe, h1]
      exact hx
    · refine Ev.congr (fun k => rIso_eq k l a s p) ?_
      simp only [qs, Option.bind_some, Option.map_some, joinK, qb, ↓reduceIte, if_true, if_false, eq_self, Int.reduceBEq, Int.reduceBNe, h1]
      exact hx
end Go.Proofs.YtjakhfaodfaimaaDoor.F
namespace Go.Proofs.YtjakhfaodfaimaaDoor.F
open Go
def eFunT (l : List TToken) (a : Int) (s : List UInt8) (c : List TNode) (q : Int) (b : Bool) (k : Nat) : Option (TNode × Int × Bool) :=
    joinK (fun ((j2_bclloc34, j2_oext0_1, j2_oext0_2) : List TNode × Int × Bool) =>
    (stmt_cursor_block k l j2_oext0_1 j2_oext0_2).bind fun (x10_3_0, x10_3_1, x10_3_2) =>
    if (room 64 (j2_bclloc34.length + [x10_3_0].length)) then
    some ((TNode.mk 53 a 0 s (j2_bclloc34 ++ [x10_3_0])), x10_3_1, x10_3_2)
    else none) fun j_j2 =>
    (stmt_cursor_is k 4 [123] l q b).bind fun x7_1 =>
    if x7_1 then
    if (room 64 (c.length + [(TNode.mk 0 0 0 [] [])].length)) then
    j_j2 ((c ++ [(TNode.mk 0 0 0 [] [])]), q, b)
    else none
    else
    (stmt_cursor_part k l q b).bind fun (x9_3_0, x9_3_1, x9_3_2) =>
    if (room 64 (c.length + [x9_3_0].length)) then
    j_j2 ((c ++ [x9_3_0]), x9_3_1, x9_3_2)
    else none
def eMrgT (l : List TToken) (a : Int) (s : List UInt8) (c : List TNode) (q : Int) (b : Bool) (k : Nat) : Option (TNode × Int × Bool) :=
    (stmt_cursor_wants k [[41]] l q b).bind fun (x7_2_0, x7_2_1) =>
    (stmt_cursor_block k l x7_2_0 x7_2_1).bind fun (x8_3_0, x8_3_1, x8_3_2) =>
    if (room 64 (c.length + [x8_3_0].length)) then
    some ((TNode.mk 54 a 0 s (c ++ [x8_3_0])), x8_3_1, x8_3_2)
    else none
theorem eFunT_bad (l : List TToken) (a : Int) (s : List UInt8) (c : List TNode) (q : Int) (hc : c.length ≤ 900000) : ∃ n, Ev (eFunT l a s c q true) (n, q, true) := by
  refine ⟨⟨53, a, 0, s, c ++ [zN] ++ [⟨30, (tk l q).At, 0, [], []⟩]⟩, ?_⟩
  unfold eFunT
  simp only [qs, Option.bind_some, Option.map_some, joinK, qb, ↓reduceIte, if_true, if_false, eq_self, Int.reduceBEq, Int.reduceBNe, room1 zN (show c.length ≤ 1000000 by omega)]
  refine Ev.bind (block_bad l q) ?_
  simp only [qs, Option.bind_some, Option.map_some, joinK, qb, ↓reduceIte, if_true, if_false, eq_self, Int.reduceBEq, Int.reduceBNe, room1 (m := (c ++ [zN]).length) ⟨30, (tk l q).At, 0, [], []⟩ (by simp; omega)]; exact Ev.pure
theorem eMrgT_bad (l : List TToken) (a : Int) (s : List UInt8) (c : List TNode) (q : Int) (hc : c.length ≤ 900000) : ∃ n, Ev (eMrgT l a s c q true) (n, q, true) := by
  refine ⟨⟨54, a, 0, s, c ++ [⟨30, (tk l q).At, 0, [], []⟩]⟩, Ev.sh 2 ?_⟩
  simp only [eMrgT]
  simp only [qs, Option.bind_some, Option.map_some, joinK, qb, ↓reduceIte, if_true, if_false, eq_self, Int.reduceBEq, Int.reduceBNe]
  refine Ev.bind (block_bad l q).up ?_
  simp only [qs, Option.bind_some, Option.map_some, joinK, qb, ↓reduceIte, if_true, if_false, eq_self, Int.reduceBEq, Int.reduceBNe, room1 ⟨30, (tk l q).At, 0, [], []⟩ (show c.length ≤ 1000000 by omega)]; exact Ev.pure
def Tail (l : List TToken) (q kd a : Int) (s : List UInt8) (c : List TNode) (r : Tref14_Got) : Prop :=
  Ev (fun k => ref14_tail_v2 k l q kd a 0 s c) r ∧ ∃ z, Ev (fun k => ref14_tail_v3 k l q kd a 0 s kd a 0 s c) (z, r)
theorem funT_R {l : List TToken} (W : WF l) (a : Int) {s : List UInt8} (hs : Nm s) {c : List TNode} (hp : ∀ x ∈ c, GPa x) (hc : c.length ≤ 200000) (q : Int) :
    ∃ n j m ok, Ev (eFunT l a s c q false) (n, j, !ok) ∧ Tail l q 53 a s c ⟨m, j, ok⟩ ∧ (ok = true → n = m ∧ q < j ∧ j < l.length ∧ GD m) ∧ (ok = false → m = zN) := by
  have r1 := fun x => room1 x (show c.length ≤ 1000000 by omega)
  have r2 := fun (x y : TNode) => room1 y (show (c ++ [x]).length ≤ 1000000 by simp; omega)
  by_cases h1 : isT (tk l q) 4 [123] = true
  · obtain ⟨x, j, y, ok, e1, e2, e3, e4⟩ := (is_at W q).bl
    have E : Ev (eFunT l a s c q false) (⟨53, a, 0, s, c ++ [zN] ++ [x]⟩, j, !ok) := by
      unfold eFunT
      simp only [qs, Option.bind_some, Option.map_some, joinK, qb, ↓reduceIte, if_true, if_false, eq_self, Int.reduceBEq, Int.reduceBNe, h1, r1]
      refine Ev.bind e1 ?_
      simp only [qs, Option.bind_some, Option.map_some, joinK, qb, ↓reduceIte, if_true, if_false, eq_self, Int.reduceBEq, Int.reduceBNe, r2]; exact Ev.pure
    have T2 : Ev (fun k => ref14_tail_v2 k l q 53 a 0 s c) (if ok then ⟨⟨53, a, 0, s, c ++ [zN] ++ [y]⟩, j, true⟩ else ⟨zN, j, false⟩) := by
      simp only [ref14_tail_v2]
      simp only [qs, Option.bind_some, Option.map_some, joinK, qb, ↓reduceIte, if_true, if_false, eq_self, Int.reduceBEq, Int.reduceBNe, h1, r1]
      refine Ev.bind e2 ?_
      cases ok
      · have := e4 rfl; subst this
        simp only [qs, Option.bind_some, Option.map_some, joinK, qb, ↓reduceIte, if_true, if_false, eq_self, Int.reduceBEq, Int.reduceBNe]; exact Ev.pure
      · simp only [qs, Option.bind_some, Option.map_some, joinK, qb, ↓reduceIte, if_true, if_false, eq_self, Int.reduceBEq, Int.reduceBNe, r2]; exact Ev.pure
    have T3 : Ev (fun k => ref14_tail_v3 k l q 53 a 0 s 53 a 0 s c) (if ok then (c ++ [zN] ++ [y], ⟨⟨53, a, 0, s, c ++ [zN] ++ [y]⟩, j, true⟩) else (c ++ [zN], ⟨zN, j, false⟩)) := by
      simp only [ref14_tail_v3]
      simp only [qs, Option.bind_some, Option.map_some, joinK, qb, ↓reduceIte, if_true, if_false, eq_self, Int.reduceBEq, Int.reduceBNe, h1, r1]
      refine Ev.bind e2 ?_
      cases ok
      · have := e4 rfl; subst this
        simp only [qs, Option.bind_some, Option.map_some, joinK, qb, ↓reduceIte, if_true, if_false, eq_self, Int.reduceBEq, Int.reduceBNe]; exact Ev.pure
      · simp only [qs, Option.bind_some, Option.map_some, joinK, qb, ↓reduceIte, if_true, if_false, eq_self, Int.reduceBEq, Int.reduceBNe, r2]; exact Ev.pure
    cases ok with
    | false => exact ⟨_, j, zN, false, E, ⟨T2, _, T3⟩, (fun h => by cases h), fun _ => rfl⟩
    | true =>
      obtain ⟨rfl, g2, g3, g4⟩ := e3 rfl
      refine ⟨_, j, _, true, E, ⟨T2, _, T3⟩, fun _ => ⟨rfl, by omega, g3, ?_⟩, fun h => by cases h⟩
      rw [List.append_assoc]; exact gd_fun a hs hp (by omega) (Or.inr rfl) g4
  · have h1 : isT (tk l q) 4 [123] = false := by simpa using h1
    obtain ⟨x, j, y, ok, e1, e2, e3, e4⟩ := spart_all W q
    cases ok with
    | false =>
      refine ⟨⟨53, a, 0, s, c ++ [x] ++ [⟨30, (tk l j).At, 0, [], []⟩]⟩, j, zN, false, ?_, ⟨?_, c, ?_⟩, (fun h => by cases h), fun _ => rfl⟩
      · unfold eFunT
        simp only [qs, Option.bind_some, Option.map_some, joinK, qb, ↓reduceIte, if_true, if_false, eq_self, Int.reduceBEq, Int.reduceBNe, h1]
        refine Ev.bind e1 ?_
        simp only [qs, Option.bind_some, Option.map_some, joinK, qb, ↓reduceIte, if_true, if_false, eq_self, Int.reduceBEq, Int.reduceBNe, r1]
        refine Ev.bind (block_bad l j) ?_
        simp only [qs, Option.bind_some, Option.map_some, joinK, qb, ↓reduceIte, if_true, if_false, eq_self, Int.reduceBEq, Int.reduceBNe, r2]; exact Ev.pure
      · simp only [ref14_tail_v2]
        simp only [qs, Option.bind_some, Option.map_some, joinK, qb, ↓reduceIte, if_true, if_false, eq_self, Int.reduceBEq, Int.reduceBNe, h1]
        refine Ev.bind e2 ?_
        simp only [qs, Option.bind_some, Option.map_some, joinK, qb, ↓reduceIte, if_true, if_false, eq_self, Int.reduceBEq, Int.reduceBNe]; exact Ev.pure
      · simp only [ref14_tail_v3]
        simp only [qs, Option.bind_some, Option.map_some, joinK, qb, ↓reduceIte, if_true, if_false, eq_self, Int.reduceBEq, Int.reduceBNe, h1]
        refine Ev.bind e2 ?_
        simp only [qs, Option.bind_some, Option.map_some, joinK, qb, ↓reduceIte, if_true, if_false, eq_self, Int.reduceBEq, Int.reduceBNe]; exact Ev.pure
    | true =>
      obtain ⟨rfl, q2, q3, q4⟩ := e3 rfl
      obtain ⟨x', j', y', ok', f1, f2, f3, f4⟩ := (is_at W j).bl
      have E : Ev (eFunT l a s c q false) (⟨53, a, 0, s, c ++ [x] ++ [x']⟩, j', !ok') := by
        unfold eFunT
        simp only [qs, Option.bind_some, Option.map_some, joinK, qb, ↓reduceIte, if_true, if_false, eq_self, Int.reduceBEq, Int.reduceBNe, h1]
        refine Ev.bind e1 ?_
        simp only [qs, Option.bind_some, Option.map_some, joinK, qb, ↓reduceIte, if_true, if_false, eq_self, Int.reduceBEq, Int.reduceBNe, r1]
        refine Ev.bind f1 ?_
        simp only [qs, Option.bind_some, Option.map_some, joinK, qb, ↓reduceIte, if_true, if_false, eq_self, Int.reduceBEq, Int.reduceBNe, r2]; exact Ev.pure
      have T2 : Ev (fun k => ref14_tail_v2 k l q 53 a 0 s c) (if ok' then ⟨⟨53, a, 0, s, c ++ [x] ++ [y']⟩, j', true⟩ else ⟨zN, j', false⟩) := by
        simp only [ref14_tail_v2]
        simp only [qs, Option.bind_some, Option.map_some, joinK, qb, ↓reduceIte, if_true, if_false, eq_self, Int.reduceBEq, Int.reduceBNe, h1]
        refine Ev.bind e2 ?_
        simp only [qs, Option.bind_some, Option.map_some, joinK, qb, ↓reduceIte, if_true, if_false, eq_self, Int.reduceBEq, Int.reduceBNe, r1]
        refine Ev.bind f2 ?_
        cases ok'
        · have := f4 rfl; subst this
          simp only [qs, Option.bind_some, Option.map_some, joinK, qb, ↓reduceIte, if_true, if_false, eq_self, Int.reduceBEq, Int.reduceBNe]; exact Ev.pure
        · simp only [qs, Option.bind_some, Option.map_some, joinK, qb, ↓reduceIte, if_true, if_false, eq_self, Int.reduceBEq, Int.reduceBNe, r2]; exact Ev.pure
      have T3 : Ev (fun k => ref14_tail_v3 k l q 53 a 0 s 53 a 0 s c) (if ok' then (c ++ [x] ++ [y'], ⟨⟨53, a, 0, s, c ++ [x] ++ [y']⟩, j', true⟩) else (c ++ [x], ⟨zN, j', false⟩)) := by
        simp only [ref14_tail_v3]
        simp only [qs, Option.bind_some, Option.map_some, joinK, qb, ↓reduceIte, if_true, if_false, eq_self, Int.reduceBEq, Int.reduceBNe, h1]
        refine Ev.bind e2 ?_
        simp only [qs, Option.bind_some, Option.map_some, joinK, qb, ↓reduceIte, if_true, if_false, eq_self, Int.reduceBEq, Int.reduceBNe, r1]
        refine Ev.bind f2 ?_
        cases ok'
        · have := f4 rfl; subst this
          simp only [qs, Option.bind_some, Option.map_some, joinK, qb, ↓reduceIte, if_true, if_false, eq_self, Int.reduceBEq, Int.reduceBNe]; exact Ev.pure
        · simp only [qs, Option.bind_some, Option.map_some, joinK, qb, ↓reduceIte, if_true, if_false, eq_self, Int.reduceBEq, Int.reduceBNe, r2]; exact Ev.pure
      cases ok' with
      | false => exact ⟨_, j', zN, false, E, ⟨T2, _, T3⟩, (fun h => by cases h), fun _ => rfl⟩
      | true =>
        obtain ⟨rfl, g2, g3, g4⟩ := f3 rfl
        refine ⟨_, j', _, true, E, ⟨T2, _, T3⟩, fun _ => ⟨rfl, by omega, g3, ?_⟩, fun h => by cases h⟩
        rw [List.append_assoc]; exact gd_fun a hs hp (by omega) (Or.inl q4) g4
theorem mrgT_R {l : List TToken} (W : WF l) (a : Int) {s : List UInt8} (hs : Nm s) {c : List TNode} (hp : ∀ x ∈ c, GPa x) (hc : c.length = 3) (q : Int) (hq : isT (tk l q) 4 [41] = true) :
    ∃ n j m ok, Ev (eMrgT l a s c q false) (n, j, !ok) ∧ (∃ z, Ev (fun k => ref14_tail_v3 k l (q + 1) 54 a 0 s 54 a 0 s c) (z, ⟨m, j, ok⟩)) ∧ (ok = true → n = m ∧ q < j ∧ j < l.length ∧ GD m) ∧ (ok = false → m = zN) := by
  have r1 := fun x => room1 x (show c.length ≤ 1000000 by omega)
  obtain ⟨n1, n2, n3⟩ := W.next (i := q) (by rw [(isT_kind hq).1]; decide)
  obtain ⟨x, j, y, ok, e1, e2, e3, e4⟩ := (is_at W (q + 1)).bl
  have E : Ev (eMrgT l a s c q false) (⟨54, a, 0, s, c ++ [x]⟩, j, !ok) := by
    refine Ev.sh 2 ?_
    simp only [eMrgT]
    simp only [qs, Option.bind_some, Option.map_some, joinK, qb, ↓reduceIte, if_true, if_false, eq_self, Int.reduceBEq, Int.reduceBNe, hq, n3]
    refine Ev.bind e1.up ?_
    simp only [qs, Option.bind_some, Option.map_some, joinK, qb, ↓reduceIte, if_true, if_false, eq_self, Int.reduceBEq, Int.reduceBNe, r1]; exact Ev.pure
  have T3 : Ev (fun k => ref14_tail_v3 k l (q + 1) 54 a 0 s 54 a 0 s c) (if ok then (c ++ [y], ⟨⟨54, a, 0, s, c ++ [y]⟩, j, true⟩) else (c, ⟨zN, j, false⟩)) := by
    simp only [ref14_tail_v3]
    simp only [qs, Option.bind_some, Option.map_some, joinK, qb, ↓reduceIte, if_true, if_false, eq_self, Int.reduceBEq, Int.reduceBNe]
    refine Ev.bind e2 ?_
    cases ok
    · have := e4 rfl; subst this
      simp only [qs, Option.bind_some, Option.map_some, joinK, qb, ↓reduceIte, if_true, if_false, eq_self, Int.reduceBEq, Int.reduceBNe]; exact Ev.pure
    · simp only [qs, Option.bind_some, Option.map_some, joinK, qb, ↓reduceIte, if_true, if_false, eq_self, Int.reduceBEq, Int.reduceBNe, r1]; exact Ev.pure
  cases ok with
  | false => exact ⟨_, j, zN, false, E, ⟨_, T3⟩, (fun h => by cases h), fun _ => rfl⟩
  | true =>
    obtain ⟨rfl, g2, g3, g4⟩ := e3 rfl
    exact ⟨_, j, _, true, E, ⟨_, T3⟩, fun _ => ⟨rfl, by omega, g3, gd_merge a hs hp hc g4⟩, fun h => by cases h⟩
def eFunB (l : List TToken) (a : Int) (s : List UInt8) (k : Nat) (st : List TNode × Int × Bool) : Option ((List TNode × Int × Bool) ⊕ (TNode × Int × Bool)) :=
  match st with
  | (c, p, b) =>
    if (!b) then
    (stmt_cursor_param k l p b).bind fun (x4_3_0, x4_3_1, x4_3_2) =>
    if (room 64 (c.length + [x4_3_0].length)) then
    (stmt_cursor_takes k 4 [41] l x4_3_1 x4_3_2).bind fun (x5_1_0, x5_1_1) =>
    if x5_1_0 then
    (eFunT l a s (c ++ [x4_3_0]) x5_1_1 x4_3_2 k).map .inr
    else
    (stmt_cursor_wants k [[44]] l x5_1_1 x4_3_2).bind fun (x6_2_0, x6_2_1) =>
    some (.inl ((c ++ [x4_3_0]), x6_2_0, x6_2_1))
    else none
    else
    (eFunT l a s c p b k).map .inr
def rFunB (l : List TToken) (kd a : Int) (s : List UInt8) (k : Nat) (st : List TNode × Int) : Option ((List TNode × Int) ⊕ Tref14_Got) :=
  match st with
  | (c, p) =>
    (ref14_param k l p).bind fun x6_2 =>
    if (!x6_2.Ok) then
    some (.inr x6_2)
    else
    if (room 64 (c.length + [(TNode.mk x6_2.N.Kind x6_2.N.At x6_2.N.N x6_2.N.Name x6_2.N.Kids)].length)) then
    joinK (fun (g13_5_70 : Bool) =>
    if g13_5_70 then
    (ref14_tail_v3 k l (IntKind.i64.wrap (x6_2.At + 1)) kd a 0 s kd a 0 s (c ++ [(TNode.mk x6_2.N.Kind x6_2.N.At x6_2.N.N x6_2.N.Name x6_2.N.Kids)])).bind fun (x14_4_0, x14_4_1) =>
    some (.inr x14_4_1)
    else
    joinK (fun (g15_7_83 : Bool) =>
    if g15_7_83 then
    (ref14_fail k x6_2.At).bind fun x16_1 =>
    some (.inr x16_1)
    else
    some (.inl ((c ++ [(TNode.mk x6_2.N.Kind x6_2.N.At x6_2.N.N x6_2.N.Name x6_2.N.Kids)]), (IntKind.i64.wrap (x6_2.At + 1))))) fun j_g15_7 =>
    if (!((kd == 53) || (decide (((c ++ [(TNode.mk x6_2.N.Kind x6_2.N.At x6_2.N.N x6_2.N.Name x6_2.N.Kids)]).length : Int) < 3)))) then
    j_g15_7 true
    else
    (ref13_Is k l x6_2.At [44]).bind fun x15_5 =>
    j_g15_7 (!x15_5)) fun j_g13_5 =>
    if ((kd == 53) || (((c ++ [(TNode.mk x6_2.N.Kind x6_2.N.At x6_2.N.N x6_2.N.Name x6_2.N.Kids)]).length : Int) == 3)) then
    (ref13_Is k l x6_2.At [41]).bind fun x13_4 =>
    j_g13_5 x13_4
    else
    j_g13_5 false
    else none
theorem eFun_eq (k : Nat) (l : List TToken) (a : Int) (s : List UInt8) (p : Int) (b : Bool) : stmt_cursor_fun_v2 k 53 a 0 s [] l p b =
    (stmt_cursor_wants k [[40]] l p b).bind fun (q, c) => (stmt_cursor_takes k 4 [41] l q c).bind fun (t, q2) => if (!t) then loopM k (eFunB l a s k) ([], q2, c) else eFunT l a s [] q2 c k := rfl
theorem rFun_eq (k : Nat) (l : List TToken) (a : Int) (s : List UInt8) (p : Int) (kd : Int) : ref14_fun_v2 k l p kd a 0 s [] =
    (if isT (tk l p) 4 [40] then (if kd == 53 && isT (tk l (IntKind.i64.wrap (p + 1))) 4 [41] then ref14_tail_v2 k l (IntKind.i64.wrap (IntKind.i64.wrap (p + 1) + 1)) kd a 0 s [] else loopM k (rFunB l kd a s k) ([], IntKind.i64.wrap (p + 1))) else some ⟨zN, p, false⟩) := by
  have h : ref14_fun_v2 k l p kd a 0 s [] = (ref13_Is k l p [40]).bind fun x1_2 => if (!x1_2) then (ref14_fail k p).bind fun x2_1 => some x2_1 else
      joinK (fun (g4_7_25 : Bool) => if g4_7_25 then (ref14_tail_v2 k l (IntKind.i64.wrap (IntKind.i64.wrap (p + 1) + 1)) kd a 0 s []).bind fun x5_4 => some x5_4 else loopM k (rFunB l kd a s k) ([], IntKind.i64.wrap (p + 1)))
        fun j => if (kd == 53) then (ref13_Is k l (IntKind.i64.wrap (p + 1)) [41]).bind fun x4_6 => j x4_6 else j false := rfl
  rw [h, Is_eq k l p, Is_eq k l (IntKind.i64.wrap (p + 1))]
  generalize loopM k (rFunB l kd a s k) ([], IntKind.i64.wrap (p + 1)) = M
  generalize ref14_tail_v2 k l (IntKind.i64.wrap (IntKind.i64.wrap (p + 1) + 1)) kd a 0 s [] = T
  simp only [Option.bind_some, fail_eq, joinK]
  cases isT (tk l p) 4 [40]
  · rfl
  · cases kd == 53
    · rfl
    · cases isT (tk l (IntKind.i64.wrap (p + 1))) 4 [41]
      · rfl
      · cases T <;> rfl
theorem eFun_end (l : List TToken) (a p : Int) (s : List UInt8) (c : List TNode) (hc : c.length ≤ 900000) : ∃ n, EvL (eFunB l a s) (c, p, true) (n, p, true) := by
  obtain ⟨n, h⟩ := eFunT_bad l a s c p hc
  refine ⟨n, EvL.done ?_⟩
  simp only [eFunB]
  simp only [qs, Option.bind_some, Option.map_some, joinK, qb, ↓reduceIte, if_true, if_false, eq_self, Int.reduceBEq, Int.reduceBNe]
  exact Ev.map h
theorem fun_loop {l : List TToken} (W : WF l) (a : Int) {s : List UInt8} (hs : Nm s) : ∀ (n : Nat) (p : Int) (c : List TNode), (l.length : Int) - p ≤ n → 0 < p → p < l.length → (∀ x ∈ c, GPa x) → (c.length : Int) ≤ p →
    ∃ x j y ok, EvL (eFunB l a s) (c, p, false) (x, j, !ok) ∧ EvL (rFunB l 53 a s) (c, p) ⟨y, j, ok⟩ ∧ (ok = true → x = y ∧ p < j ∧ j < l.length ∧ GD y) ∧ (ok = false → y = zN) := by
  intro n
  induction n using Nat.strongRecOn with
  | _ n ih =>
  intro p c hn hp hpl hg hc
  have hlen := W.len
  obtain ⟨x, j, y, ok, e1, e2, e3, e4⟩ := param_R W p
  have r1 := fun x => room1 x (show c.length ≤ 1000000 by omega)
  cases ok with
  | false =>
    have := e4 rfl; subst this
    obtain ⟨z, hz⟩ := eFun_end l a j s (c ++ [x]) (by simp; omega)
    refine ⟨z, j, zN, false, EvL.step (s' := (c ++ [x], j, true)) (Ev.sh 2 ?_) hz, EvL.done ?_, (fun h => by cases h), fun _ => rfl⟩
    · simp only [eFunB]
      simp only [qs, Option.bind_some, Option.map_some, joinK, qb, ↓reduceIte, if_true, if_false, eq_self, Int.reduceBEq, Int.reduceBNe]
      refine Ev.bind e1.up ?_
      simp only [qs, Option.bind_some, Option.map_some, joinK, qb, ↓reduceIte, if_true, if_false, eq_self, Int.reduceBEq, Int.reduceBNe, r1]; exact Ev.pure
    · simp only [rFunB]
      refine Ev.bind e2 ?_
      simp only [qs, Option.bind_some, Option.map_some, joinK, qb, ↓reduceIte, if_true, if_false, eq_self, Int.reduceBEq, Int.reduceBNe]; exact Ev.pure
  | true =>
    obtain ⟨rfl, q2, q3, q4⟩ := e3 rfl
    have hg' : ∀ z ∈ c ++ [x], GPa z := by simp; exact fun z hz => hz.elim (hg z) (fun e => e ▸ q4)
    by_cases h1 : isT (tk l j) 4 [41] = true
    · obtain ⟨m1, m2, m3⟩ := W.next (i := j) (by rw [(isT_kind h1).1]; decide)
      obtain ⟨x', j', y', ok', f1, ⟨_, w, f2⟩, f3, f4⟩ := funT_R W a hs hg' (by simp; omega) (j + 1)
      refine ⟨x', j', y', ok', EvL.done ?_, EvL.done ?_, fun h => ?_, f4⟩
      · simp only [eFunB]
        simp only [qs, Option.bind_some, Option.map_some, joinK, qb, ↓reduceIte, if_true, if_false, eq_self, Int.reduceBEq, Int.reduceBNe]
        refine Ev.bind e1 ?_
        simp only [qs, Option.bind_some, Option.map_some, joinK, qb, ↓reduceIte, if_true, if_false, eq_self, Int.reduceBEq, Int.reduceBNe, r1, h1, m3]
        exact Ev.map f1
      · simp only [rFunB]
        refine Ev.bind e2 ?_
        simp only [qs, Option.bind_some, Option.map_some, joinK, qb, ↓reduceIte, if_true, if_false, eq_self, Int.reduceBEq, Int.reduceBNe, r1, h1, m3]
        refine Ev.bind f2 ?_
        exact Ev.pure
      · obtain ⟨g1, g2, g3, g4⟩ := f3 h
        exact ⟨g1, by omega, g3, g4⟩
    · have h1 : isT (tk l j) 4 [41] = false := by simpa using h1
      by_cases h2 : isT (tk l j) 4 [44] = true
      · obtain ⟨m1, m2, m3⟩ := W.next (i := j) (by rw [(isT_kind h2).1]; decide)
        obtain ⟨x', j', y', ok', f1, f2, f3, f4⟩ := ih (n - 1) (by omega) (j + 1) (c ++ [x]) (by omega) (by omega) m2 hg' (by simp; omega)
        refine ⟨x', j', y', ok', EvL.step (s' := (c ++ [x], j + 1, false)) (Ev.sh 2 ?_) f1, EvL.step (s' := (c ++ [x], j + 1)) ?_ f2, fun h => ?_, f4⟩
        · simp only [eFunB]
          simp only [qs, Option.bind_some, Option.map_some, joinK, qb, ↓reduceIte, if_true, if_false, eq_self, Int.reduceBEq, Int.reduceBNe]
          refine Ev.bind e1.up ?_
          simp only [qs, Option.bind_some, Option.map_some, joinK, qb, ↓reduceIte, if_true, if_false, eq_self, Int.reduceBEq, Int.reduceBNe, r1, h1, m3, h2]; exact Ev.pure
        · simp only [rFunB]
          refine Ev.bind e2 ?_
          simp only [qs, Option.bind_some, Option.map_some, joinK, qb, ↓reduceIte, if_true, if_false, eq_self, Int.reduceBEq, Int.reduceBNe, r1, h1, m3, h2]; exact Ev.pure
        · obtain ⟨g1, g2, g3, g4⟩ := f3 h
          exact ⟨g1, by omega, g3, g4⟩
      · have h2 : isT (tk l j) 4 [44] = false := by simpa using h2
        obtain ⟨z, hz⟩ := eFun_end l a j s (c ++ [x]) (by simp; omega)
        refine ⟨z, j, zN, false, EvL.step (s' := (c ++ [x], j, true)) (Ev.sh 2 ?_) hz, EvL.done ?_, (fun h => by cases h), fun _ => rfl⟩
        · simp only [eFunB]
          simp only [qs, Option.bind_some, Option.map_some, joinK, qb, ↓reduceIte, if_true, if_false, eq_self, Int.reduceBEq, Int.reduceBNe]
          refine Ev.bind e1.up ?_
          simp only [qs, Option.bind_some, Option.map_some, joinK, qb, ↓reduceIte, if_true, if_false, eq_self, Int.reduceBEq, Int.reduceBNe, r1, h1, h2]; exact Ev.pure
        · simp only [rFunB]
          refine Ev.bind e2 ?_
          simp only [qs, Option.bind_some, Option.map_some, joinK, qb, ↓reduceIte, if_true, if_false, eq_self, Int.reduceBEq, Int.reduceBNe, r1, h1, h2]; exact Ev.pure
theorem fun_R {l : List TToken} (W : WF l) (a : Int) {s : List UInt8} (hs : Nm s) (p : Int) : RG GD l p (fun k => stmt_cursor_fun_v2 k 53 a 0 s [] l p false) (fun k => ref14_fun_v2 k l p 53 a 0 s []) := by
  have hlen := W.len
  by_cases h1 : isT (tk l p) 4 [40] = true
  · obtain ⟨n1, n2, n3⟩ := W.next (i := p) (by rw [(isT_kind h1).1]; decide)
    by_cases h2 : isT (tk l (p + 1)) 4 [41] = true
    · obtain ⟨m1, m2, m3⟩ := W.next (i := p + 1) (by rw [(isT_kind h2).1]; decide)
      obtain ⟨x, j, y, ok, e1, ⟨e2, _⟩, e3, e4⟩ := funT_R W a hs (c := []) (by simp) (by simp) (p + 1 + 1)
      refine ⟨x, j, y, ok, Ev.sh 2 ?_, ?_, fun h => ?_, e4⟩
      · simp only [eFun_eq]
        simp only [qs, Option.bind_some, Option.map_some, joinK, qb, ↓reduceIte, if_true, if_false, eq_self, Int.reduceBEq, Int.reduceBNe, h1, n3, h2, m3]
        exact e1.up
      · simp only [rFun_eq]
        simp only [qs, Option.bind_some, Option.map_some, joinK, qb, ↓reduceIte, if_true, if_false, eq_self, Int.reduceBEq, Int.reduceBNe, h1, n3, h2, m3]
        exact e2
      · obtain ⟨g1, g2, g3, g4⟩ := e3 h
        exact ⟨g1, by omega, g3, g4⟩
    · have h2 : isT (tk l (p + 1)) 4 [41] = false := by simpa using h2
      obtain ⟨x, j, y, ok, e1, e2, e3, e4⟩ := fun_loop W a hs (l.length - (p + 1)).toNat (p + 1) [] (by omega) (by omega) n2 (by simp) (by simp; omega)
      refine ⟨x, j, y, ok, Ev.sh 2 ?_, ?_, fun h => ?_, e4⟩
      · simp only [eFun_eq]
        simp only [qs, Option.bind_some, Option.map_some, joinK, qb, ↓reduceIte, if_true, if_false, eq_self, Int.reduceBEq, Int.reduceBNe, h1, n3, h2]
        exact (Ev.loop e1).up (n := 2)
      · simp only [rFun_eq]
        simp only [qs, Option.bind_some, Option.map_some, joinK, qb, ↓reduceIte, if_true, if_false, eq_self, Int.reduceBEq, Int.reduceBNe, h1, n3, h2]
        exact Ev.loop e2
      · obtain ⟨g1, g2, g3, g4⟩ := e3 h
        exact ⟨g1, by omega, g3, g4⟩
  · have h1 : isT (tk l p) 4 [40] = false := by simpa using h1
    obtain ⟨z, hz⟩ := eFun_end l a p s [] (by simp)
    refine RG.bad (j := p) (n := z) (Ev.sh 2 ?_) ?_
    · simp only [eFun_eq]
      simp only [qs, Option.bind_some, Option.map_some, joinK, qb, ↓reduceIte, if_true, if_false, eq_self, Int.reduceBEq, Int.reduceBNe, h1]
      exact (Ev.loop hz).up (n := 2)
    · simp only [rFun_eq]
      simp only [qs, Option.bind_some, Option.map_some, joinK, qb, ↓reduceIte, if_true, if_false, eq_self, Int.reduceBEq, Int.reduceBNe, h1]; exact Ev.pure
def mmarks : List (List UInt8) := [[40], [44], [44]]
def eMrgB (l : List TToken) (a : Int) (s : List UInt8) (k : Nat) (st : List TNode × Int × Int × Bool) : Option ((List TNode × Int × Int × Bool) ⊕ (TNode × Int × Bool)) :=
  match st with
  | (c, t, p, b) =>
    if (decide (t < (mmarks.length : Int))) then
    (ix mmarks t).bind fun x3_0 =>
    (stmt_cursor_wants k [x3_0] l p b).bind fun (x4_3_0, x4_3_1) =>
    (stmt_cursor_param k l x4_3_0 x4_3_1).bind fun (x5_3_0, x5_3_1, x5_3_2) =>
    if (room 64 (c.length + [x5_3_0].length)) then
    some (.inl ((c ++ [x5_3_0]), (IntKind.i64.wrap (t + 1)), x5_3_1, x5_3_2))
    else none
    else
    (eMrgT l a s c p b k).map .inr
theorem eMrg_eq (k : Nat) (l : List TToken) (a : Int) (s : List UInt8) (p : Int) (b : Bool) : stmt_cursor_merge_v2 k 54 a 0 s [] l p b = loopM k (eMrgB l a s k) ([], 0, p, b) := rfl
theorem mrg_at {t : Nat} (ht : t < 3) : ∃ m, ix mmarks (t : Int) = some m ∧ decide ((t : Int) < (mmarks.length : Int)) = true ∧ IntKind.i64.wrap ((t : Int) + 1) = ((t + 1 : Nat) : Int) := by
  match t, ht with
  | 0, _ => exact ⟨_, rfl, rfl, rfl⟩
  | 1, _ => exact ⟨_, rfl, rfl, rfl⟩
  | 2, _ => exact ⟨_, rfl, rfl, rfl⟩
theorem eMrg_end (l : List TToken) (a p : Int) (s : List UInt8) : ∀ (d t : Nat) (c : List TNode), t + d = 3 → c.length = t → ∃ n, EvL (eMrgB l a s) (c, (t : Int), p, true) (n, p, true)
  | 0, t, c, h, hc => by
    have h : t = 3 := by omega
    subst h
    obtain ⟨n, hn⟩ := eMrgT_bad l a s c p (by omega)
    refine ⟨n, EvL.done ?_⟩
    simp only [eMrgB]
    simp only [qs, Option.bind_some, Option.map_some, joinK, qb, ↓reduceIte, if_true, if_false, eq_self, Int.reduceBEq, Int.reduceBNe, show decide (((3 : Nat) : Int) < (mmarks.length : Int)) = false from rfl]
    exact Ev.map hn
  | d + 1, t, c, h, hc => by
    obtain ⟨m, m1, m2, m3⟩ := mrg_at (t := t) (by omega)
    obtain ⟨n, hn⟩ := eMrg_end l a p s d (t + 1) (c ++ [⟨50, 0, 0, [], [zN]⟩]) (by omega) (by simp; omega)
    refine ⟨n, EvL.step (s' := (c ++ [⟨50, 0, 0, [], [zN]⟩], ((t + 1 : Nat) : Int), p, true)) (Ev.sh 2 ?_) hn⟩
    simp only [eMrgB]
    simp only [qs, Option.bind_some, Option.map_some, joinK, qb, ↓reduceIte, if_true, if_false, eq_self, Int.reduceBEq, Int.reduceBNe, m1, m2, m3, room1 ⟨50, 0, 0, [], [zN]⟩ (show c.length ≤ 1000000 by omega)]; exact Ev.pure
theorem mrg_loop {l : List TToken} (W : WF l) (a : Int) {s : List UInt8} (hs : Nm s) : ∀ (d t : Nat) (p : Int) (c : List TNode) (m : List UInt8), t + d + 1 = 3 → c.length = t → (∀ x ∈ c, GPa x) → ix mmarks (t : Int) = some m → isT (tk l p) 4 m = true →
    ∃ x j y ok, EvL (eMrgB l a s) (c, (t : Int), p, false) (x, j, !ok) ∧ EvL (rFunB l 54 a s) (c, p + 1) ⟨y, j, ok⟩ ∧ (ok = true → x = y ∧ p < j ∧ j < l.length ∧ GD y) ∧ (ok = false → y = zN) := by
  intro d
  induction d with
  | zero =>
    intro t p c m ht hc hg hm hp
    have ht : t = 2 := by omega
    subst ht
    obtain ⟨n1, n2, n3⟩ := W.next (i := p) (by rw [(isT_kind hp).1]; decide)
    obtain ⟨m', m1, m2, m3⟩ := mrg_at (t := 2) (by omega)
    rw [hm] at m1; cases m1
    obtain ⟨x, j, y, ok, e1, e2, e3, e4⟩ := param_R W (p + 1)
    have r1 := fun x => room1 x (show c.length ≤ 1000000 by omega)
    have E : Ev (fun k => eMrgB l a s k (c, ((2 : Nat) : Int), p, false)) (.inl (c ++ [x], ((2 + 1 : Nat) : Int), j, !ok)) := by
      refine Ev.sh 2 ?_
      simp only [eMrgB]
      simp only [qs, Option.bind_some, Option.map_some, joinK, qb, ↓reduceIte, if_true, if_false, eq_self, Int.reduceBEq, Int.reduceBNe, hm, m2, hp, n3]
      refine Ev.bind e1.up ?_
      simp only [qs, Option.bind_some, Option.map_some, joinK, qb, ↓reduceIte, if_true, if_false, eq_self, Int.reduceBEq, Int.reduceBNe, m3, r1]; exact Ev.pure
    cases ok with
    | false =>
      have := e4 rfl; subst this
      obtain ⟨z, hz⟩ := eMrg_end l a j s 0 3 (c ++ [x]) rfl (by simp; omega)
      refine ⟨z, j, zN, false, EvL.step E hz, EvL.done ?_, (fun h => by cases h), fun _ => rfl⟩
      simp only [rFunB]
      refine Ev.bind e2 ?_
      simp only [qs, Option.bind_some, Option.map_some, joinK, qb, ↓reduceIte, if_true, if_false, eq_self, Int.reduceBEq, Int.reduceBNe]; exact Ev.pure
    | true =>
      obtain ⟨rfl, q2, q3, q4⟩ := e3 rfl
      have hg' : ∀ z ∈ c ++ [x], GPa z := by simp; exact fun z hz => hz.elim (hg z) (fun e => e ▸ q4)
      have hl3 : (c ++ [x]).length = 3 := by simp; omega
      have hl3i : ((c ++ [x]).length : Int) = 3 := by omega
      by_cases h1 : isT (tk l j) 4 [41] = true
      · obtain ⟨u1, u2, u3⟩ := W.next (i := j) (by rw [(isT_kind h1).1]; decide)
        obtain ⟨x', j', y', ok', f1, ⟨w, f2⟩, f3, f4⟩ := mrgT_R W a hs hg' hl3 j h1
        refine ⟨x', j', y', ok', EvL.step E (EvL.done ?_), EvL.done ?_, fun h => ?_, f4⟩
        · simp only [eMrgB]
          simp only [qs, Option.bind_some, Option.map_some, joinK, qb, ↓reduceIte, if_true, if_false, eq_self, Int.reduceBEq, Int.reduceBNe, show decide (((2 + 1 : Nat) : Int) < (mmarks.length : Int)) = false from rfl]
          exact Ev.map f1
        · simp only [rFunB]
          refine Ev.bind e2 ?_
          simp only [qs, Option.bind_some, Option.map_some, joinK, qb, ↓reduceIte, if_true, if_false, eq_self, Int.reduceBEq, Int.reduceBNe, r1, hl3i, h1, u3]
          refine Ev.bind f2 ?_
          exact Ev.pure
        · obtain ⟨g1, g2, g3, g4⟩ := f3 h
          exact ⟨g1, by omega, g3, g4⟩
      · have h1 : isT (tk l j) 4 [41] = false := by simpa using h1
        refine ⟨⟨54, a, 0, s, c ++ [x] ++ [⟨30, (tk l j).At, 0, [], []⟩]⟩, j, zN, false, EvL.step E (EvL.done ?_), EvL.done ?_, (fun h => by cases h), fun _ => rfl⟩
        · have hT : Ev (eMrgT l a s (c ++ [x]) j false) (⟨54, a, 0, s, c ++ [x] ++ [⟨30, (tk l j).At, 0, [], []⟩]⟩, j, true) := by
            refine Ev.sh 2 ?_
            simp only [eMrgT]
            simp only [qs, Option.bind_some, Option.map_some, joinK, qb, ↓reduceIte, if_true, if_false, eq_self, Int.reduceBEq, Int.reduceBNe, h1]
            refine Ev.bind (block_bad l j).up ?_
            simp only [qs, Option.bind_some, Option.map_some, joinK, qb, ↓reduceIte, if_true, if_false, eq_self, Int.reduceBEq, Int.reduceBNe, room1 (m := (c ++ [x]).length) ⟨30, (tk l j).At, 0, [], []⟩ (by omega)]; exact Ev.pure
          simp only [eMrgB]
          simp only [qs, Option.bind_some, Option.map_some, joinK, qb, ↓reduceIte, if_true, if_false, eq_self, Int.reduceBEq, Int.reduceBNe, show decide (((2 + 1 : Nat) : Int) < (mmarks.length : Int)) = false from rfl]
          exact Ev.map hT
        · simp only [rFunB]
          refine Ev.bind e2 ?_
          simp only [qs, Option.bind_some, Option.map_some, joinK, qb, ↓reduceIte, if_true, if_false, eq_self, Int.reduceBEq, Int.reduceBNe, r1, hl3i, h1, show decide ((3 : Int) < 3) = false from rfl]; exact Ev.pure
  | succ d ih =>
    intro t p c m ht hc hg hm hp
    obtain ⟨n1, n2, n3⟩ := W.next (i := p) (by rw [(isT_kind hp).1]; decide)
    obtain ⟨m', m1, m2, m3⟩ := mrg_at (t := t) (by omega)
    rw [hm] at m1; cases m1
    have hm2 : ix mmarks ((t + 1 : Nat) : Int) = some [44] := by
      have : t = 0 ∨ t = 1 := by omega
      rcases this with rfl | rfl <;> rfl
    have m2' : decide (((t + 1 : Nat) : Int) < (mmarks.length : Int)) = true := (mrg_at (t := t + 1) (by omega)).choose_spec.2.1
    have m3' : IntKind.i64.wrap (((t + 1 : Nat) : Int) + 1) = ((t + 1 + 1 : Nat) : Int) := (mrg_at (t := t + 1) (by omega)).choose_spec.2.2
    obtain ⟨x, j, y, ok, e1, e2, e3, e4⟩ := param_R W (p + 1)
    have r1 := fun x => room1 x (show c.length ≤ 1000000 by omega)
    have E : Ev (fun k => eMrgB l a s k (c, (t : Int), p, false)) (.inl (c ++ [x], ((t + 1 : Nat) : Int), j, !ok)) := by
      refine Ev.sh 2 ?_
      simp only [eMrgB]
      simp only [qs, Option.bind_some, Option.map_some, joinK, qb, ↓reduceIte, if_true, if_false, eq_self, Int.reduceBEq, Int.reduceBNe, hm, m2, hp, n3]
      refine Ev.bind e1.up ?_
      simp only [qs, Option.bind_some, Option.map_some, joinK, qb, ↓reduceIte, if_true, if_false, eq_self, Int.reduceBEq, Int.reduceBNe, m3, r1]; exact Ev.pure
    cases ok with
    | false =>
      have := e4 rfl; subst this
      obtain ⟨z, hz⟩ := eMrg_end l a j s (d + 1) (t + 1) (c ++ [x]) (by omega) (by simp; omega)
      refine ⟨z, j, zN, false, EvL.step E hz, EvL.done ?_, (fun h => by cases h), fun _ => rfl⟩
      simp only [rFunB]
      refine Ev.bind e2 ?_
      simp only [qs, Option.bind_some, Option.map_some, joinK, qb, ↓reduceIte, if_true, if_false, eq_self, Int.reduceBEq, Int.reduceBNe]; exact Ev.pure
    | true =>
      obtain ⟨rfl, q2, q3, q4⟩ := e3 rfl
      have hg' : ∀ z ∈ c ++ [x], GPa z := by simp; exact fun z hz => hz.elim (hg z) (fun e => e ▸ q4)
      have hl3 : (((c ++ [x]).length : Int) == 3) = false := by simp; omega
      have hl3i : decide (((c ++ [x]).length : Int) < 3) = true := by simp; omega
      by_cases h2 : isT (tk l j) 4 [44] = true
      · obtain ⟨u1, u2, u3⟩ := W.next (i := j) (by rw [(isT_kind h2).1]; decide)
        obtain ⟨x', j', y', ok', f1, f2, f3, f4⟩ := ih (t + 1) j (c ++ [x]) [44] (by omega) (by simp; omega) hg' hm2 h2
        refine ⟨x', j', y', ok', EvL.step E f1, EvL.step (s' := (c ++ [x], j + 1)) ?_ f2, fun h => ?_, f4⟩
        · simp only [rFunB]
          refine Ev.bind e2 ?_
          simp only [qs, Option.bind_some, Option.map_some, joinK, qb, ↓reduceIte, if_true, if_false, eq_self, Int.reduceBEq, Int.reduceBNe, r1, hl3, hl3i, h2, u3]; exact Ev.pure
        · obtain ⟨g1, g2, g3, g4⟩ := f3 h
          exact ⟨g1, by omega, g3, g4⟩
      · have h2 : isT (tk l j) 4 [44] = false := by simpa using h2
        obtain ⟨z, hz⟩ := eMrg_end l a j s d (t + 2) (c ++ [x] ++ [⟨50, 0, 0, [], [zN]⟩]) (by omega) (by simp; omega)
        refine ⟨z, j, zN, false, EvL.step E (EvL.step (s' := (c ++ [x] ++ [⟨50, 0, 0, [], [zN]⟩], ((t + 2 : Nat) : Int), j, true)) (Ev.sh 2 ?_) hz), EvL.done ?_, (fun h => by cases h), fun _ => rfl⟩
        · simp only [eMrgB]
          simp only [qs, Option.bind_some, Option.map_some, joinK, qb, ↓reduceIte, if_true, if_false, eq_self, Int.reduceBEq, Int.reduceBNe, hm2, m2', h2, m3', room1 (m := (c ++ [x]).length) ⟨50, 0, 0, [], [zN]⟩ (by simp; omega)]; exact Ev.pure
        · simp only [rFunB]
          refine Ev.bind e2 ?_
          simp only [qs, Option.bind_some, Option.map_some, joinK, qb, ↓reduceIte, if_true, if_false, eq_self, Int.reduceBEq, Int.reduceBNe, r1, hl3, hl3i, h2]; exact Ev.pure
theorem mrg_R {l : List TToken} (W : WF l) (a : Int) {s : List UInt8} (hs : Nm s) (p : Int) : RG GD l p (fun k => stmt_cursor_merge_v2 k 54 a 0 s [] l p false) (fun k => ref14_fun_v2 k l p 54 a 0 s []) := by
  by_cases h1 : isT (tk l p) 4 [40] = true
  · obtain ⟨n1, n2, n3⟩ := W.next (i := p) (by rw [(isT_kind h1).1]; decide)
    obtain ⟨x, j, y, ok, e1, e2, e3, e4⟩ := mrg_loop W a hs 2 0 p [] [40] rfl rfl (by simp) rfl h1
    refine ⟨x, j, y, ok, ?_, ?_, e3, e4⟩
    · simp only [eMrg_eq]
      exact Ev.loop e1
    · simp only [rFun_eq]
      simp only [qs, Option.bind_some, Option.map_some, joinK, qb, ↓reduceIte, if_true, if_false, eq_self, Int.reduceBEq, Int.reduceBNe, h1, n3]
      exact Ev.loop e2
  · have h1 : isT (tk l p) 4 [40] = false := by simpa using h1
    obtain ⟨z, hz⟩ := eMrg_end l a p s 2 1 [⟨50, 0, 0, [], [zN]⟩] rfl rfl
    refine RG.bad (j := p) (n := z) ?_ ?_
    · simp only [eMrg_eq]
      refine Ev.loop (EvL.step (s' := ([⟨50, 0, 0, [], [zN]⟩], ((1 : Nat) : Int), p, true)) (Ev.sh 2 ?_) hz)
      simp only [eMrgB]
      simp only [qs, Option.bind_some, Option.map_some, joinK, qb, ↓reduceIte, if_true, if_false, eq_self, Int.reduceBEq, Int.reduceBNe, show ix mmarks 0 = some [40] from rfl, show decide ((0 : Int) < (mmarks.length : Int)) = true from rfl, h1, room1 (m := ([] : List TNode).length) ⟨50, 0, 0, [], [zN]⟩ (by simp)]
      exact Ev.pure
    · simp only [rFun_eq]
      simp only [qs, Option.bind_some, Option.map_some, joinK, qb, ↓reduceIte, if_true, if_false, eq_self, Int.reduceBEq, Int.reduceBNe, h1]; exact Ev.pure
end Go.Proofs.YtjakhfaodfaimaaDoor.F
