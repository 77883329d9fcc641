/- Tokens, looked at: the reader's and the document's. No condition. -/
import Derived.Test.YtbhncegmohnfhaaDoorZAF
import Derived.Test.YtbhncegmohnfhaaDoorZEv
set_option linter.unusedVariables false
set_option linter.unusedSimpArgs false
namespace Go.Proofs.YtbhncegmohnfhaaDoor.F
open Go

def tk (l : List TToken) (i : Int) : TToken := if 0 ≤ i then (l[i.toNat]?).getD ⟨0, 0, 0, []⟩ else ⟨0, 0, 0, []⟩
def isT (t : TToken) (kind : Int) (s : List UInt8) : Bool := (t.Kind == kind) && (t.Text == s)
theorem tk_in {l : List TToken} {i : Int} (h : (tk l i).Kind ≠ 0) : 0 ≤ i ∧ i < l.length := by
  unfold tk at h
  split at h
  · rename_i h0
    refine ⟨h0, ?_⟩
    cases hx : l[i.toNat]? with
    | none => rw [hx] at h; exact (h rfl).elim
    | some x => have := (List.getElem?_eq_some_iff.1 hx).1; omega
  · exact (h rfl).elim
theorem tok_body (l : List TToken) (i : Int) {k : Nat} : (if ((decide (i < 0)) || (decide (i ≥ ((l.length : Int))))) then some (TToken.mk 0 0 0 []) else (ix l i).bind fun x => some x) = some (tk l i) := by
  unfold tk
  by_cases h0 : 0 ≤ i
  · rw [if_pos h0]
    by_cases h1 : i < l.length
    · rw [if_neg (by simp; omega)]
      have : l[i.toNat]? = some l[i.toNat] := List.getElem?_eq_getElem (by omega)
      rw [ix_of h0 this, this]; rfl
    · rw [if_pos (by simp; omega), List.getElem?_eq_none (by omega)]; rfl
  · rw [if_neg h0, if_pos (by simp; omega)]
theorem Tok_eq (k : Nat) (l : List TToken) (i : Int) : ref13_Tok k l i = some (tk l i) := tok_body l i (k := k)
theorem look_eq (k : Nat) (l : List TToken) (i : Int) (b : Bool) : expr_reader_look k l i b = some (tk l i) := tok_body l i (k := k)
theorem Says_eq (k : Nat) (l : List TToken) (i : Int) (s : List UInt8) : ref13_Says k l i s = some (isT (tk l i) 3 s) := by unfold ref13_Says; rw [Tok_eq]; rfl
theorem Is_eq (k : Nat) (l : List TToken) (i : Int) (s : List UInt8) : ref13_Is k l i s = some (isT (tk l i) 4 s) := by unfold ref13_Is; rw [Tok_eq]; rfl
theorem is_eq (k : Nat) (kd : Int) (s : List UInt8) (l : List TToken) (i : Int) (b : Bool) : expr_reader_is k kd s l i b = some (isT (tk l i) kd s) := by unfold expr_reader_is; rw [look_eq]; rfl
theorem takes_bad (k : Nat) (s : List UInt8) (l : List TToken) (i : Int) : expr_reader_takes k s l i true = some (false, i) := rfl
theorem takes_eq (k : Nat) (s : List UInt8) (l : List TToken) (i : Int) : expr_reader_takes k s l i false = some (if isT (tk l i) 4 s then (true, IntKind.i64.wrap (i + 1)) else (false, i)) := by
  unfold expr_reader_takes joinK
  simp only [Bool.false_eq_true, if_false, is_eq, Option.bind_some]
  cases isT (tk l i) 4 s <;> rfl
theorem wants_bad (k : Nat) (s : List UInt8) (l : List TToken) (i : Int) : expr_reader_wants k s l i true = some (i, true) := rfl
theorem wants_eq (k : Nat) (s : List UInt8) (l : List TToken) (i : Int) : expr_reader_wants k s l i false = some (if isT (tk l i) 4 s then (IntKind.i64.wrap (i + 1), false) else (i, true)) := by
  unfold expr_reader_wants
  rw [takes_eq]
  cases isT (tk l i) 4 s <;> rfl
theorem name_bad (k : Nat) (l : List TToken) (i : Int) : expr_reader_name k l i true = some ([], i, true) := by unfold expr_reader_name; rw [look_eq]; rfl
theorem name_eq (k : Nat) (l : List TToken) (i : Int) : expr_reader_name k l i false = some (if (tk l i).Kind != 1 then ([], i, true) else ((tk l i).Text, IntKind.i64.wrap (i + 1), false)) := by
  unfold expr_reader_name
  rw [look_eq]
  simp only [Option.bind_some, Bool.false_or]
  cases h : (tk l i).Kind != 1 <;> simp [h]

theorem Ev.succ1 {α : Type} {f : Nat → Option α} {x : α} (h : Ev (fun k => f (k + 1)) x) : Ev f x := Ev.succ (fun _ => rfl) h
/-- What the lexer gives. -/
structure WF (l : List TToken) : Prop where
  len : l.length ≤ 100000
  last : ∀ p : Int, p + 1 = l.length → (tk l p).Kind = 0
  names : ∀ p : Int, (tk l p).Kind = 1 → Ev (fun k => ref11_Named k (tk l p).Text) true
  nums : ∀ p : Int, (tk l p).Kind = 2 → 0 ≤ (tk l p).N
theorem WF.next {l : List TToken} (h : WF l) {i : Int} (hk : (tk l i).Kind ≠ 0) : 0 ≤ i ∧ i + 1 < l.length ∧ IntKind.i64.wrap (i + 1) = i + 1 := by
  obtain ⟨h1, h2⟩ := tk_in hk
  have h3 : i + 1 ≠ l.length := fun e => hk (h.last i e)
  have := h.len
  exact ⟨h1, by omega, wrap64_id (by omega) (by omega)⟩
theorem isT_kind {t : TToken} {k : Int} {s : List UInt8} (h : isT t k s = true) : t.Kind = k ∧ t.Text = s := by unfold isT at h; simpa using h
theorem isT_of {t : TToken} {k : Int} {s : List UInt8} (h : t.Kind = k) (h2 : t.Text = s) : isT t k s = true := by unfold isT; simp [h, h2]
theorem isT_ne {t : TToken} {k : Int} {s : List UInt8} (h : t.Kind ≠ k) : isT t k s = false := by unfold isT; simp [h]
theorem isT_txt {t : TToken} {k : Int} {s : List UInt8} (h : t.Text ≠ s) : isT t k s = false := by unfold isT; simp [h]

/-! ### the good -/
abbrev GE (n : TNode) : Prop := Ev (fun k => ref11_Expr k n) true
abbrev GT (n : TNode) : Prop := Ev (fun k => ref11_Type k n) true
theorem exprs_good : ∀ (l m : List TNode), (∀ n ∈ l, GE n) → m.length + l.length ≤ 1000000 → EvL (σ := Int) (ρ := Bool) (fun k (l1_3 : Int) =>
    if (decide (l1_3 < (((m ++ l).length : Int)))) then
    (ix (m ++ l) l1_3).bind fun x4_2 =>
    (ref11_Expr k x4_2).bind fun x4_4 =>
    if (!x4_4) then
    some (.inr false)
    else
    some (.inl (IntKind.i64.wrap (l1_3 + 1)))
    else
    (some true).map .inr) (m.length : Int) true
  | [], m, _, _ => EvL.done (Ev.ite_f (by simp) (Ev.of fun _ => rfl))
  | n :: l, m, h, hl => by
    have ih := exprs_good l (m ++ [n]) (fun x hx => h x (by simp [hx])) (by simp at hl ⊢; omega)
    refine EvL.step (Ev.ite_t (by simp; omega) ?_) (s' := ((m ++ [n]).length : Int)) ?_
    · refine Ev.bindS (x := n) (fun k => ix_of (by omega) (by simp)) ?_
      refine Ev.bind (h n (by simp)) (Ev.ite_f rfl (Ev.eq Ev.pure ?_))
      rw [wrap64_id (by omega) (by simp at hl; omega)]; simp
    · simpa using ih
theorem exprs_all {l : List TNode} (h : ∀ n ∈ l, GE n) (hl : l.length ≤ 1000000) : Ev (fun k => ref11_exprs k l) true := by
  refine Ev.succ (fun k => by rw [ref11_exprs]) ?_
  refine Ev.joinK (Ev.loop ?_)
  have := exprs_good l [] h (by simpa using hl)
  simpa using this
end Go.Proofs.YtbhncegmohnfhaaDoor.F
