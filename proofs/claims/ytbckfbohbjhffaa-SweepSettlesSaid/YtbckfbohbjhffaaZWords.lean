/- Words of the functions that are printed: plain Lean, no memory. No condition. -/
import GoSem.Core.View
set_option linter.unusedVariables false
namespace Go.Proofs.Ytbckfbohbjhffaa.F
open Go

/-- Ways that meet again: what goes on behind is told once. -/
def joinK {α ρ : Type} (J : α → Option ρ) (B : (α → Option ρ) → Option ρ) : Option ρ := B J
/-- Rounds: the next state, or an answer. -/
def loopM {σ ρ : Type} : Nat → (σ → Option (σ ⊕ ρ)) → σ → Option ρ
  | 0, _, _ => none
  | k + 1, body, s => match body s with
    | some (.inl s') => loopM k body s'
    | some (.inr r) => some r
    | none => none
def ix {α : Type} (l : List α) (i : Int) : Option α := if 0 ≤ i then l[i.toNat]? else none
def sub {α : Type} (l : List α) (lo hi : Int) : Option (List α) := if 0 ≤ lo ∧ lo ≤ hi ∧ hi ≤ l.length then some ((l.take hi.toNat).drop lo.toNat) else none
/-- Is there room for so many, each of so many bytes? -/
def room (bytes n : Nat) : Bool := decide (0 < bytes ∧ (2 * n + 1024) * bytes ≤ 140737488355328)
def iand (k : IntKind) (x y : Int) : Int := k.wrap ((BitVec.ofInt k.bits x) &&& (BitVec.ofInt k.bits y)).toNat
def ior (k : IntKind) (x y : Int) : Int := k.wrap ((BitVec.ofInt k.bits x) ||| (BitVec.ofInt k.bits y)).toNat
def ixor (k : IntKind) (x y : Int) : Int := k.wrap ((BitVec.ofInt k.bits x) ^^^ (BitVec.ofInt k.bits y)).toNat
def iandNot (k : IntKind) (x y : Int) : Int := k.wrap ((BitVec.ofInt k.bits x) &&& ~~~(BitVec.ofInt k.bits y)).toNat
def inot (k : IntKind) (x : Int) : Int := ixor k (if k.signed then -1 else k.max) x
def mx (a b : Int) : Int := if (if true = true then b > a else b < a) then b else a
def mn (a b : Int) : Int := if (if false = true then b > a else b < a) then b else a
theorem mx_eq (a b : Int) : mx a b = max a b := by unfold mx; simp only [if_true]; omega
theorem mn_eq (a b : Int) : mn a b = min a b := by unfold mn; simp only [Bool.false_eq_true, if_false]; omega

theorem Opt.t {α : Type} {c : Bool} {A B : Option α} {r : α} (h : (if c = true then A else B) = some r) (hc : c = true) : A = some r := by rw [if_pos hc] at h; exact h
theorem Opt.f {α : Type} {c : Bool} {A B : Option α} {r : α} (h : (if c = true then A else B) = some r) (hc : c = false) : B = some r := by rw [if_neg (by rw [hc]; simp)] at h; exact h
theorem Opt.g {α : Type} {c : Bool} {A : Option α} {r : α} (h : (if c = true then A else none) = some r) : c = true ∧ A = some r := by
  cases c with
  | true => exact ⟨rfl, h⟩
  | false => cases h
theorem Opt.gn {α : Type} {c : Bool} {A : Option α} {r : α} (h : (if c = true then none else A) = some r) : c = false ∧ A = some r := by
  cases c with
  | false => exact ⟨rfl, h⟩
  | true => cases h
theorem Opt.ex {α β : Type} {m : Option α} {f : α → Option β} {r : β} (h : m.bind f = some r) : ∃ x, m = some x ∧ f x = some r := Option.bind_eq_some_iff.1 h
theorem Opt.inr {σ ρ : Type} {m : Option ρ} {x : σ ⊕ ρ} (h : m.map Sum.inr = some x) : ∃ r, m = some r ∧ x = .inr r := by
  cases m with
  | none => cases h
  | some r => cases h; exact ⟨r, rfl, rfl⟩
theorem loopM_step {σ ρ : Type} (k : Nat) (body : σ → Option (σ ⊕ ρ)) (s : σ) : loopM (k + 1) body s = match body s with
    | some (.inl s') => loopM k body s'
    | some (.inr r) => some r
    | none => none := rfl

theorem wrap64_id {x : Int} (h1 : -9223372036854775808 ≤ x) (h2 : x ≤ 9223372036854775807) : IntKind.i64.wrap x = x := by
  simp only [IntKind.wrap, IntKind.bits, IntKind.signed]
  simp
  omega
end Go.Proofs.Ytbckfbohbjhffaa.F
