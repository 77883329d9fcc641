/- The plain law. No condition. -/
import Derived.Test.YtjakhfaodfaimaaDoorZA1
import Derived.Test.YtjakhfaodfaimaaDoorZF0
import Derived.KernelRfl
set_option linter.unusedVariables false
namespace Go.Proofs.YtjakhfaodfaimaaDoor.F
open Go
def Ev {α : Type} (g : Nat → Option α) (x : α) : Prop := ∃ k0, ∀ k, k0 ≤ k → g k = some x
def EvL {σ ρ : Type} (body : Nat → σ → Option (σ ⊕ ρ)) (s : σ) (r : ρ) : Prop := ∃ k0, ∀ k j, k0 ≤ k → k0 ≤ j → loopM j (body k) s = some r
section
variable {α β σ ρ : Type}
theorem Ev.of {g : Nat → Option α} {x : α} (h : ∀ k, g k = some x) : Ev g x := ⟨0, fun k _ => h k⟩
theorem Ev.at {g : Nat → Option α} {x : α} (n : Nat) (h : ∀ k, g (k + n) = some x) : Ev g x := ⟨n, fun k hk => by have := h (k - n); rwa [show k - n + n = k by omega] at this⟩
theorem Ev.pure {x : α} : Ev (fun _ => some x) x := ⟨0, fun _ _ => rfl⟩
theorem Ev.bind {g : Nat → Option α} {f : Nat → α → Option β} {x : α} {y : β} (h : Ev g x) (h2 : Ev (fun k => f k x) y) : Ev (fun k => (g k).bind (f k)) y := by
  obtain ⟨k1, h1⟩ := h
  obtain ⟨k2, h2⟩ := h2
  exact ⟨max k1 k2, fun k hk => by show (g k).bind (f k) = _; rw [h1 k (by omega)]; exact h2 k (by omega)⟩
theorem Ev.bindS {g : Nat → Option α} {f : Nat → α → Option β} {x : α} {y : β} (h : ∀ k, g k = some x) (h2 : Ev (fun k => f k x) y) : Ev (fun k => (g k).bind (f k)) y := Ev.bind (Ev.of h) h2
theorem Ev.ite_t {c : Bool} {A B : Nat → Option α} {x : α} (hc : c = true) (h : Ev A x) : Ev (fun k => if c = true then A k else B k) x := by
  obtain ⟨k1, h1⟩ := h
  exact ⟨k1, fun k hk => by show (if c = true then A k else B k) = _; rw [if_pos hc]; exact h1 k hk⟩
theorem Ev.ite_f {c : Bool} {A B : Nat → Option α} {x : α} (hc : c = false) (h : Ev B x) : Ev (fun k => if c = true then A k else B k) x := by
  obtain ⟨k1, h1⟩ := h
  exact ⟨k1, fun k hk => by show (if c = true then A k else B k) = _; rw [if_neg (by rw [hc]; simp)]; exact h1 k hk⟩
theorem Ev.map {g : Nat → Option ρ} {r : ρ} (h : Ev g r) : Ev (fun k => (g k).map (Sum.inr (α := σ))) (.inr r) := by
  obtain ⟨k1, h1⟩ := h
  exact ⟨k1, fun k hk => by show (g k).map _ = _; rw [h1 k hk]; rfl⟩
theorem Ev.succ {g h : Nat → Option α} {x : α} (e : ∀ k, g (k + 1) = h k) (hh : Ev h x) : Ev g x := by
  obtain ⟨k1, h1⟩ := hh
  refine ⟨k1 + 1, fun k hk => ?_⟩
  obtain ⟨k, rfl⟩ : ∃ j, k = j + 1 := ⟨k - 1, by omega⟩
  rw [e]; exact h1 k (by omega)
theorem Ev.congr {g h : Nat → Option α} {x : α} (e : ∀ k, g k = h k) (hh : Ev h x) : Ev g x := by
  obtain ⟨k1, h1⟩ := hh
  exact ⟨k1, fun k hk => by rw [e]; exact h1 k hk⟩
theorem Ev.eq {g : Nat → Option α} {x y : α} (h : Ev g x) (e : x = y) : Ev g y := e ▸ h
theorem EvL.done {body : Nat → σ → Option (σ ⊕ ρ)} {s : σ} {r : ρ} (h : Ev (fun k => body k s) (.inr r)) : EvL body s r := by
  obtain ⟨k1, h1⟩ := h
  refine ⟨k1 + 1, fun k j hk hj => ?_⟩
  obtain ⟨j, rfl⟩ : ∃ i, j = i + 1 := ⟨j - 1, by omega⟩
  have := h1 k (by omega)
  simp only at this
  rw [loopM_step, this]
theorem EvL.step {body : Nat → σ → Option (σ ⊕ ρ)} {s s' : σ} {r : ρ} (h : Ev (fun k => body k s) (.inl s')) (h2 : EvL body s' r) : EvL body s r := by
  obtain ⟨k1, h1⟩ := h
  obtain ⟨k2, h2⟩ := h2
  refine ⟨k1 + k2 + 1, fun k j hk hj => ?_⟩
  obtain ⟨j, rfl⟩ : ∃ i, j = i + 1 := ⟨j - 1, by omega⟩
  have := h1 k (by omega)
  simp only at this
  rw [loopM_step, this]
  exact h2 k j (by omega) (by omega)
theorem Ev.loop {body : Nat → σ → Option (σ ⊕ ρ)} {s : σ} {r : ρ} (h : EvL body s r) : Ev (fun k => loopM k (body k) s) r := by
  obtain ⟨k1, h1⟩ := h
  exact ⟨k1, fun k hk => h1 k k hk hk⟩
theorem Ev.joinK {J : Nat → α → Option ρ} {B : Nat → (α → Option ρ) → Option ρ} {r : ρ} (h : Ev (fun k => B k (J k)) r) : Ev (fun k => F.joinK (J k) (B k)) r := h
theorem Ev.uniq {g : Nat → Option α} {x y : α} (h : Ev g x) (h2 : Ev g y) : x = y := by
  obtain ⟨k1, h1⟩ := h
  obtain ⟨k2, h2⟩ := h2
  have a := h1 (max k1 k2) (by omega)
  have b := h2 (max k1 k2) (by omega)
  rw [a] at b; exact Option.some.inj b
end
theorem loop_ex {σ ρ : Type} {body : Nat → σ → Option (σ ⊕ ρ)} (Inv : σ → Prop) (m : σ → Nat) (Q : ρ → Prop)
    (h : ∀ s, Inv s → (∃ r, Ev (fun k => body k s) (.inr r) ∧ Q r) ∨ (∃ s', Ev (fun k => body k s) (.inl s') ∧ Inv s' ∧ m s' < m s)) :
    ∀ s, Inv s → ∃ r, EvL body s r ∧ Q r := by
  intro s
  induction hn : m s using Nat.strongRecOn generalizing s with
  | _ n ih =>
  intro hs
  rcases h s hs with ⟨r, h1, h2⟩ | ⟨s', h1, h2, h3⟩
  · exact ⟨r, EvL.done h1, h2⟩
  · obtain ⟨r, g1, g2⟩ := ih (m s') (by omega) s' rfl h2
    exact ⟨r, EvL.step h1 g1, g2⟩
theorem ix_of {α : Type} {l : List α} {i : Int} {x : α} (h0 : 0 ≤ i) (h : l[i.toNat]? = some x) : ix l i = some x := by unfold ix; rw [if_pos h0]; exact h
theorem ix_nat {α : Type} {l : List α} {i : Nat} (h : i < l.length) : ix l (i : Int) = some l[i] := by unfold ix; rw [if_pos (by omega)]; simp [h]
theorem room_of {b n : Nat} (h0 : 0 < b) (h : (2 * n + 1024) * b ≤ 140737488355328) : room b n = true := by unfold room; exact decide_eq_true ⟨h0, h⟩
end Go.Proofs.YtjakhfaodfaimaaDoor.F
set_option linter.unusedSimpArgs false
namespace Go.Proofs.YtjakhfaodfaimaaDoor.F
open Go
def tk (l : List TToken) (i : Int) : TToken := if 0 ≤ i then (l[i.toNat]?).getD ⟨0, 0, 0, []⟩ else ⟨0, 0, 0, []⟩
def isT (t : TToken) (kind : Int) (s : List UInt8) : Bool := (t.Kind == kind) && (t.Text == s)
theorem tk_in {l : List TToken} {i : Int} (h : (tk l i).Kind ≠ 0) : 0 ≤ i ∧ i < l.length := by
  unfold tk at h
  split at h
  · rename_i h0
    refine ⟨h0, ?_⟩
    cases hx : l[i.toNat]? with
    | none => rw [hx] at h; exact (h rfl).elim
    | some x => have := (List.getElem?_eq_some_iff.1 hx).1; omega
  · exact (h rfl).elim
structure WF (l : List TToken) : Prop where
  len : l.length ≤ 100000
  last : ∀ p : Int, p + 1 = l.length → (tk l p).Kind = 0
  names : ∀ p : Int, (tk l p).Kind = 1 → Ev (fun k => ref11_Named k (tk l p).Text) true
  nums : ∀ p : Int, (tk l p).Kind = 2 → 0 ≤ (tk l p).N
theorem WF.next {l : List TToken} (h : WF l) {i : Int} (hk : (tk l i).Kind ≠ 0) : 0 ≤ i ∧ i + 1 < l.length ∧ IntKind.i64.wrap (i + 1) = i + 1 := by
  obtain ⟨h1, h2⟩ := tk_in hk
  have h3 : i + 1 ≠ l.length := fun e => hk (h.last i e)
  have := h.len
  exact ⟨h1, by omega, wrap64_id (by omega) (by omega)⟩
abbrev GE (n : TNode) : Prop := Ev (fun k => ref11_Expr k n) true
abbrev GT (n : TNode) : Prop := Ev (fun k => ref11_Type k n) true
end Go.Proofs.YtjakhfaodfaimaaDoor.F
namespace Go.Proofs.YtjakhfaodfaimaaDoor.F
open Go
abbrev Nm (s : List UInt8) : Prop := Ev (fun k => ref11_Named k s) true
inductive Wide : TNode → Prop
  | mk {n : TNode} (h : ∀ x ∈ n.Kids, Wide x) (hl : n.Kids.length ≤ 1000000) : Wide n
end Go.Proofs.YtjakhfaodfaimaaDoor.F
set_option maxRecDepth 100000
namespace Go.Proofs.YtjakhfaodfaimaaDoor.F
open Go
def bindOf : Nat → Int
  | 1 => 4 | 2 => 4 | 3 => 5 | 4 => 5 | 5 => 5 | 6 => 3 | 7 => 3 | 8 => 3 | 9 => 3 | 10 => 3 | 11 => 3 | 12 => 2 | 13 => 1 | _ => 0
theorem binds : ∀ s : Nat, 1 ≤ s → s ≤ 14 → ∀ k, ref09_Bind k (s : Int) = some (bindOf s) ∧ word_Bind k (s : Int) = some (bindOf s) := by
  intro s h1 h2 k
  match s, h1, h2 with
  | 1, _, _ => exact ⟨rfl, rfl⟩
  | 2, _, _ => exact ⟨rfl, rfl⟩
  | 3, _, _ => exact ⟨rfl, rfl⟩
  | 4, _, _ => exact ⟨rfl, rfl⟩
  | 5, _, _ => exact ⟨rfl, rfl⟩
  | 6, _, _ => exact ⟨rfl, rfl⟩
  | 7, _, _ => exact ⟨rfl, rfl⟩
  | 8, _, _ => exact ⟨rfl, rfl⟩
  | 9, _, _ => exact ⟨rfl, rfl⟩
  | 10, _, _ => exact ⟨rfl, rfl⟩
  | 11, _, _ => exact ⟨rfl, rfl⟩
  | 12, _, _ => exact ⟨rfl, rfl⟩
  | 13, _, _ => exact ⟨rfl, rfl⟩
  | 14, _, _ => exact ⟨rfl, rfl⟩
end Go.Proofs.YtjakhfaodfaimaaDoor.F
namespace Go.Proofs.YtjakhfaodfaimaaDoor.F
open Go
abbrev zN : TNode := ⟨0, 0, 0, [], []⟩
def R (G : TNode → Prop) (l : List TToken) (i : Int) (e r : Nat → Option (TNode × Int × Bool)) : Prop :=
  ∃ n j m ok, Ev e (n, j, !ok) ∧ Ev r (m, j, ok) ∧ (ok = true → n = m ∧ i < j ∧ j < l.length ∧ G m) ∧ (ok = false → m = zN)
theorem R.bad {G : TNode → Prop} {l : List TToken} {i : Int} {e r : Nat → Option (TNode × Int × Bool)} {n : TNode} {j : Int} (h1 : Ev e (n, j, true)) (h2 : Ev r (zN, j, false)) : R G l i e r := ⟨n, j, zN, false, h1, h2, (fun h => by cases h), fun _ => rfl⟩
theorem R.good {G : TNode → Prop} {l : List TToken} {i : Int} {e r : Nat → Option (TNode × Int × Bool)} {n : TNode} {j : Int} (h1 : Ev e (n, j, false)) (h2 : Ev r (n, j, true)) (hj : i < j ∧ j < l.length) (hg : G n) : R G l i e r := ⟨n, j, n, true, h1, h2, (fun _ => ⟨rfl, hj.1, hj.2, hg⟩), fun h => by cases h⟩
structure GEx (n : TNode) : Prop where
  ge : GE n
  wide : Wide n
structure GTy (n : TNode) : Prop where
  gt : GT n
  wide : Wide n
structure GAr (l : List TNode) : Prop where
  all : ∀ n ∈ l, GEx n
  len : l.length ≤ 100000
theorem wide0 {k a n : Int} {s : List UInt8} : Wide ⟨k, a, n, s, []⟩ := ⟨by simp, by simp⟩
end Go.Proofs.YtjakhfaodfaimaaDoor.F
namespace Go.Proofs.YtjakhfaodfaimaaDoor.F
open Go
abbrev eFactor (l : List TToken) (i : Int) (k : Nat) := expr_reader_factor k l i false
abbrev rFactor (l : List TToken) (i : Int) (k : Nat) := ref13_factor k l i
abbrev eLevel (l : List TToken) (i lev : Int) (k : Nat) := expr_reader_level k lev l i false
abbrev rLevel (l : List TToken) (i lev : Int) (k : Nat) := ref13_level k l i lev
structure IH (l : List TToken) (i : Int) : Prop where
  lev : ∀ q, 1 ≤ q → q ≤ 6 → ∀ j, i < j → j ≤ l.length → R GEx l j (eLevel l j q) (rLevel l j q)
  fac : ∀ j, i < j → j ≤ l.length → R GEx l j (eFactor l j) (rFactor l j)
theorem IH.mono {l : List TToken} {i j : Int} (H : IH l i) (h : i ≤ j) : IH l j := ⟨fun q a b p h1 => H.lev q a b p (by omega), fun p h1 => H.fac p (by omega)⟩
end Go.Proofs.YtjakhfaodfaimaaDoor.F
set_option maxHeartbeats 4000000
namespace Go.Proofs.YtjakhfaodfaimaaDoor.F
open Go
end Go.Proofs.YtjakhfaodfaimaaDoor.F
namespace Go.Proofs.YtjakhfaodfaimaaDoor.F
open Go
end Go.Proofs.YtjakhfaodfaimaaDoor.F
namespace Go.Proofs.YtjakhfaodfaimaaDoor.F
open Go
end Go.Proofs.YtjakhfaodfaimaaDoor.F
namespace Go.Proofs.YtjakhfaodfaimaaDoor.F
open Go
theorem Ev.sh {α : Type} (n : Nat) {f : Nat → Option α} {x : α} (h : Ev (fun k => f (k + n)) x) : Ev f x := by
  obtain ⟨k0, h⟩ := h
  refine ⟨k0 + n, fun k hk => ?_⟩
  have h2 : f (k - n + n) = some x := h (k - n) (by omega)
  rwa [show k - n + n = k by omega] at h2
theorem Ev.up {α : Type} {n : Nat} {f : Nat → Option α} {x : α} (h : Ev f x) : Ev (fun k => f (k + n)) x := by
  obtain ⟨k0, h⟩ := h
  exact ⟨k0, fun k hk => h (k + n) (by omega)⟩
def RG (G : TNode → Prop) (l : List TToken) (i : Int) (e : Nat → Option (TNode × Int × Bool)) (r : Nat → Option Tref14_Got) : Prop :=
  ∃ n j m ok, Ev e (n, j, !ok) ∧ Ev r ⟨m, j, ok⟩ ∧ (ok = true → n = m ∧ i < j ∧ j < l.length ∧ G m) ∧ (ok = false → m = zN)
theorem RG.bad {G : TNode → Prop} {l : List TToken} {i : Int} {e : Nat → Option (TNode × Int × Bool)} {r : Nat → Option Tref14_Got} {n : TNode} {j : Int} (h1 : Ev e (n, j, true)) (h2 : Ev r ⟨zN, j, false⟩) : RG G l i e r := ⟨n, j, zN, false, h1, h2, (fun h => by cases h), fun _ => rfl⟩
theorem RG.good {G : TNode → Prop} {l : List TToken} {i : Int} {e : Nat → Option (TNode × Int × Bool)} {r : Nat → Option Tref14_Got} {n : TNode} {j : Int} (h1 : Ev e (n, j, false)) (h2 : Ev r ⟨n, j, true⟩) (hj : i < j ∧ j < l.length) (hg : G n) : RG G l i e r := ⟨n, j, n, true, h1, h2, (fun _ => ⟨rfl, hj.1, hj.2, hg⟩), fun h => by cases h⟩
end Go.Proofs.YtjakhfaodfaimaaDoor.F
namespace Go.Proofs.YtjakhfaodfaimaaDoor.F
open Go
abbrev SGood (n : TNode) : Prop := Ev (fun k => ref11_Stmt k n) true
structure GS (n : TNode) : Prop where
  gs : SGood n
  wide : Wide n
structure GP (n : TNode) : Prop where
  gp : Ev (fun k => ref11_place k n) true
  ge : GE n
  wide : Wide n
structure GB (n : TNode) : Prop where
  gs : GS n
  kd : n.Kind = 30
structure GI (n : TNode) : Prop where
  gs : GS n
  kd : n.Kind = 33
end Go.Proofs.YtjakhfaodfaimaaDoor.F
namespace Go.Proofs.YtjakhfaodfaimaaDoor.F
open Go
end Go.Proofs.YtjakhfaodfaimaaDoor.F
namespace Go.Proofs.YtjakhfaodfaimaaDoor.F
open Go
abbrev eStmt (l : List TToken) (i : Int) (k : Nat) := stmt_cursor_stmt k l i false
abbrev rStmt (l : List TToken) (i : Int) (k : Nat) := ref14_Stmt k l i
abbrev eBlock (l : List TToken) (i : Int) (k : Nat) := stmt_cursor_block k l i false
abbrev rBlock (l : List TToken) (i : Int) (k : Nat) := ref14_Block k l i
abbrev eChoice (l : List TToken) (i : Int) (k : Nat) := stmt_cursor_choice_v2 k 0 (tk l i).At 0 [] [] l (i + 1) false
abbrev rChoice (l : List TToken) (i : Int) (k : Nat) := ref14_choice k l i
structure IS (l : List TToken) (i : Int) : Prop where
  st : RG GS l i (eStmt l i) (rStmt l i)
  bl : RG GB l i (eBlock l i) (rBlock l i)
  ch : isT (tk l i) 3 [105, 102] = true → RG GI l i (eChoice l i) (rChoice l i)
abbrev HT := Int × Int × Int × List UInt8 × Bool × List TNode × Int × Bool
end Go.Proofs.YtjakhfaodfaimaaDoor.F
namespace Go.Proofs.YtjakhfaodfaimaaDoor.F
open Go
end Go.Proofs.YtjakhfaodfaimaaDoor.F
namespace Go.Proofs.YtjakhfaodfaimaaDoor.F
open Go
structure GPa (n : TNode) : Prop where
  gp : Ev (fun k => ref11_param k n) true
  wide : Wide n
structure GD (n : TNode) : Prop where
  gd : Ev (fun k => ref11_Decl k n) true
  wide : Wide n
def TyO (t : TNode) : Prop := GTy t ∨ t = zN
theorem TyO.wide {t : TNode} (h : TyO t) : Wide t := by rcases h with h | rfl; exact h.wide; exact wide0
end Go.Proofs.YtjakhfaodfaimaaDoor.F
namespace Go.Proofs.YtjakhfaodfaimaaDoor.F
open Go
theorem RG.mono {G : TNode → Prop} {l : List TToken} {i p : Int} {e : Nat → Option (TNode × Int × Bool)} {r : Nat → Option Tref14_Got} (h : RG G l p e r) (hp : i ≤ p) : RG G l i e r := by
  obtain ⟨x, j, y, ok, e1, e2, e3, e4⟩ := h
  exact ⟨x, j, y, ok, e1, e2, fun h => by obtain ⟨g1, g2, g3, g4⟩ := e3 h; exact ⟨g1, by omega, g3, g4⟩, e4⟩
theorem RG.congr {G : TNode → Prop} {l : List TToken} {i : Int} {e e' : Nat → Option (TNode × Int × Bool)} {r r' : Nat → Option Tref14_Got} (he : ∀ x, Ev e' x → Ev e x) (hr : ∀ x, Ev r' x → Ev r x) (h : RG G l i e' r') : RG G l i e r := by
  obtain ⟨x, j, y, ok, e1, e2, e3, e4⟩ := h
  exact ⟨x, j, y, ok, he _ e1, hr _ e2, e3, e4⟩
end Go.Proofs.YtjakhfaodfaimaaDoor.F
namespace Go.Proofs.YtjakhfaodfaimaaDoor.F
open Go
end Go.Proofs.YtjakhfaodfaimaaDoor.F
namespace Go.Proofs.YtjakhfaodfaimaaDoor.F
open Go
end Go.Proofs.YtjakhfaodfaimaaDoor.F
namespace Go.Proofs.YtjakhfaodfaimaaDoor.F
open Go
def S {α : Type} (π : α → Int) (i m M : Int) (f f' : Option α) : Prop := ∀ r, f = some r → i ≤ π r ∧ (i ≤ M → π r ≤ M) ∧ (π r < m → f' = some r)
section
variable {α β σ ρ : Type} {i m M : Int}
theorem S.bind {π : α → Int} {π2 : β → Int} {f f' : Option α} {g g' : α → Option β} (h : S π i m M f f') (h2 : ∀ x, f = some x → i ≤ π x → S π2 (π x) m M (g x) (g' x)) : S π2 i m M (f.bind g) (f'.bind g') := by
  intro r hr
  obtain ⟨x, h3, h4⟩ := Opt.ex hr
  obtain ⟨a1, a3, a2⟩ := h x h3
  obtain ⟨b1, b3, b2⟩ := h2 x h3 a1 r h4
  refine ⟨by omega, fun hM => b3 (a3 hM), fun hm => ?_⟩
  rw [a2 (by omega)]
  exact b2 hm
theorem S.pure {π : α → Int} {x : α} (h : i ≤ π x ∧ (i ≤ M → π x ≤ M)) : S π i m M (some x) (some x) := by
  intro r hr
  cases hr
  exact ⟨h.1, h.2, fun _ => rfl⟩
theorem S.here {π : α → Int} {x : α} (h : π x = i) : S π i m M (some x) (some x) := S.pure ⟨by omega, by omega⟩
theorem S.none {π : α → Int} {f' : Option α} : S π i m M none f' := fun r hr => by cases hr
theorem S.le {π : α → Int} {j : Int} {f f' : Option α} (h : S π j m M f f') (hj : i ≤ j ∧ (i ≤ M → j ≤ M)) : S π i m M f f' := fun r hr => ⟨by have := (h r hr).1; omega, fun hM => (h r hr).2.1 (hj.2 hM), (h r hr).2.2⟩
theorem S.map {πs : σ → Int} {πr : ρ → Int} {f f' : Option ρ} (h : S πr i m M f f') : S (Sum.elim πs πr) i m M (f.map (Sum.inr (α := σ))) (f'.map Sum.inr) := by
  intro r hr
  obtain ⟨x, h3, rfl⟩ := Opt.inr hr
  obtain ⟨a1, a3, a2⟩ := h x h3
  exact ⟨a1, a3, fun hm => by rw [a2 hm]; rfl⟩
theorem S.loop {πs : σ → Int} {πr : ρ → Int} {body body' : σ → Option (σ ⊕ ρ)} (h : ∀ s, S (Sum.elim πs πr) (πs s) m M (body s) (body' s)) : ∀ (k : Nat) (s : σ), S πr (πs s) m M (loopM k body s) (loopM k body' s)
  | 0, s => by intro r hr; cases hr
  | k + 1, s => by
    intro r hr
    rw [loopM_step] at hr
    rw [loopM_step]
    cases hb : body s with
    | none => rw [hb] at hr; cases hr
    | some x =>
      rw [hb] at hr
      obtain ⟨a1, a3, a2⟩ := h s x hb
      cases x with
      | inl s' =>
        obtain ⟨b1, b3, b2⟩ := S.loop h k s' r hr
        simp only [Sum.elim_inl] at a1 a2 a3
        exact ⟨by omega, fun hM => b3 (a3 hM), fun hm => by rw [a2 (by omega)]; exact b2 hm⟩
      | inr r' =>
        cases hr
        simp only [Sum.elim_inr] at a1 a2 a3
        exact ⟨a1, a3, fun hm => by rw [a2 hm]⟩
theorem S.same {f : Option α} : S (fun _ => i) i m M f f := fun r hr => ⟨Int.le_refl _, fun h => h, fun _ => hr⟩
end
abbrev lm (l : List TToken) : Int := (l.length : Int) - 1
def p3 {α β : Type} (x : α × Int × β) : Int := x.2.1
section
variable {l l' : List TToken} {m : Int}
structure SA (l l' : List TToken) (m : Int) (k : Nat) : Prop where
  args : ∀ (i : Int) (b : Bool), S p3 i m (lm l) (expr_reader_args k l i b) (expr_reader_args k l' i b)
  word : ∀ (n : TNode) (s : List UInt8) (i : Int) (b : Bool), (i ≤ IntKind.i64.wrap (i + 1) ∧ (i ≤ lm l → IntKind.i64.wrap (i + 1) ≤ lm l)) → S p3 i m (lm l) (expr_reader_word k n s l i b) (expr_reader_word k n s l' i b)
  first : ∀ (i : Int) (b : Bool), S p3 i m (lm l) (expr_reader_first k l i b) (expr_reader_first k l' i b)
  part : ∀ (i : Int) (b : Bool), S p3 i m (lm l) (expr_reader_part k l i b) (expr_reader_part k l' i b)
  factor : ∀ (i : Int) (b : Bool), S p3 i m (lm l) (expr_reader_factor k l i b) (expr_reader_factor k l' i b)
  level : ∀ (q i : Int) (b : Bool), S p3 i m (lm l) (expr_reader_level k q l i b) (expr_reader_level k q l' i b)
end
end Go.Proofs.YtjakhfaodfaimaaDoor.F
namespace Go.Proofs.YtjakhfaodfaimaaDoor.F
open Go
section
variable {l l' : List TToken} {m : Int}
abbrev p4 {α β γ : Type} (x : α × β × Int × γ) : Int := x.2.2.1
structure SB (l l' : List TToken) (m : Int) (k : Nat) : Prop where
  st : ∀ i, S p3 i m (lm l) (stmt_cursor_stmt k l i false) (stmt_cursor_stmt k l' i false)
  bl : ∀ i b, S p3 i m (lm l) (stmt_cursor_block k l i b) (stmt_cursor_block k l' i b)
  wd : ∀ a0 a1 a2 a3 a4 s i b, (tk l i).Kind ≠ 0 → S p3 i m (lm l) (stmt_cursor_word_v2 k a0 a1 a2 a3 a4 s l i b) (stmt_cursor_word_v2 k a0 a1 a2 a3 a4 s l' i b)
  ch : ∀ a0 a1 a2 a3 a4 i b, S p3 i m (lm l) (stmt_cursor_choice_v2 k a0 a1 a2 a3 a4 l i b) (stmt_cursor_choice_v2 k a0 a1 a2 a3 a4 l' i b)
end
end Go.Proofs.YtjakhfaodfaimaaDoor.F
namespace Go.Proofs.YtjakhfaodfaimaaDoor.F
open Go
end Go.Proofs.YtjakhfaodfaimaaDoor.F
namespace Go.Proofs.YtjakhfaodfaimaaDoor.F
open Go
theorem scan_to {ρ : Type} {body : Nat → Int → Option (Int ⊕ ρ)} {r : ρ} : ∀ (d i : Nat), (∀ p : Nat, i ≤ p → p < i + d → Ev (fun k => body k (p : Int)) (.inl ((p + 1 : Nat) : Int))) → Ev (fun k => body k ((i + d : Nat) : Int)) (.inr r) → EvL body (i : Int) r
  | 0, i, _, h2 => EvL.done h2
  | d + 1, i, h, h2 => EvL.step (h i (by omega) (by omega)) (scan_to d (i + 1) (fun p a b => h p (by omega) (by omega)) (by rw [show i + 1 + d = i + (d + 1) by omega]; exact h2))
theorem stretch (P : Nat → Bool) (n : Nat) : ∀ (e i : Nat), i + e = n → ∃ d, i + d ≤ n ∧ (∀ p, i ≤ p → p < i + d → P p = true) ∧ (i + d = n ∨ P (i + d) = false)
  | 0, i, h => ⟨0, by omega, fun p a b => by omega, .inl (by omega)⟩
  | e + 1, i, h => by
    cases hp : P i with
    | false => exact ⟨0, by omega, fun p a b => by omega, .inr hp⟩
    | true =>
      obtain ⟨d, h1, h2, h3⟩ := stretch P n e (i + 1) (by omega)
      refine ⟨d + 1, by omega, fun p a b => ?_, ?_⟩
      · by_cases hpi : p = i
        · rw [hpi]; exact hp
        · exact h2 p (by omega) (by omega)
      · rw [show i + (d + 1) = i + 1 + d by omega]; exact h3
def bt (s : List UInt8) (p : Nat) : UInt8 := (s[p]?).getD 0
theorem ix_bt {s : List UInt8} {p : Nat} (h : p < s.length) : ix s (p : Int) = some (bt s p) := by
  rw [ix_nat h]; unfold bt; simp [h]
def cls (a0 : Int) : Int :=
    if (((a0 == 95) || ((decide (a0 ≥ 97)) && (decide (a0 ≤ 122)))) || ((decide (a0 ≥ 65)) && (decide (a0 ≤ 90)))) then 1 else
    if ((decide (a0 ≥ 48)) && (decide (a0 ≤ 57))) then 2 else
    if ((((a0 == 32) || (a0 == 9)) || (a0 == 10)) || (a0 == 13)) then 3 else
    if (a0 == 35) then 4 else 0
abbrev cl (s : List UInt8) (p : Nat) : Int := cls ((bt s p).toNat : Int)
def isW (s : List UInt8) (p : Nat) : Bool := (cl s p == 1) || (cl s p == 2)
def cut (s : List UInt8) (i d : Nat) : List UInt8 := (s.take (i + d)).drop i
theorem sub_cut {s : List UInt8} {i d : Nat} (h : i + d ≤ s.length) : sub s (i : Int) ((i + d : Nat) : Int) = some (cut s i d) := by
  unfold sub cut
  rw [if_pos ⟨by omega, by omega, by omega⟩]
  rw [Int.toNat_natCast, Int.toNat_natCast]
def wordsL : List (List UInt8) := [[114, 101, 99], [105, 115, 111], [102, 117, 110], [109, 101, 114, 103, 101], [109, 97, 105, 110], [118, 97, 114], [105, 102], [101, 108, 115, 101], [119, 104, 105, 108, 101], [114, 101, 116, 117, 114, 110], [102, 111, 114, 107], [106, 111, 105, 110], [112, 114, 105, 110, 116], [110, 101, 119], [98, 121], [105, 110, 116], [98, 111, 111, 108], [114, 101, 118], [116, 114, 117, 101], [102, 97, 108, 115, 101]]
theorem wordsL_len : wordsL.length = 20 := rfl
end Go.Proofs.YtjakhfaodfaimaaDoor.F
namespace Go.Proofs.YtjakhfaodfaimaaDoor.F
open Go
end Go.Proofs.YtjakhfaodfaimaaDoor.F
namespace Go.Proofs.YtjakhfaodfaimaaDoor.F
open Go
structure TokG (t : TToken) : Prop where
  name : t.Kind = 1 → Nm t.Text
  num : t.Kind = 2 → 0 ≤ t.N
end Go.Proofs.YtjakhfaodfaimaaDoor.F
namespace Go.Proofs.YtjakhfaodfaimaaDoor.F
open Go
theorem letter_tab : ∀ n : Fin 256, (((n.1 : Int) == 95) || ((decide ((ior .u8 (n.1 : Int) 32) ≥ 97)) && (decide ((ior .u8 (n.1 : Int) 32) ≤ 122)))) = (cls (n.1 : Int) == 1) := by decide +kernel
theorem digit_tab : ∀ n : Fin 256, ((decide ((n.1 : Int) ≥ 48)) && (decide ((n.1 : Int) ≤ 57))) = (cls (n.1 : Int) == 2) := by decide +kernel
theorem blank_tab : ∀ n : Fin 256, ((((n.1 : Int) == 32) || ((n.1 : Int) == 9)) || ((n.1 : Int) == 10) || ((n.1 : Int) == 13)) = (cls (n.1 : Int) == 3) := by decide +kernel
theorem hash_tab : ∀ n : Fin 256, ((n.1 : Int) == 35) = (cls (n.1 : Int) == 4) := by decide +kernel
theorem letter_eq (k : Nat) (b : UInt8) : lex_letter k (b.toNat : Int) = some (cls (b.toNat : Int) == 1) := congrArg some (letter_tab ⟨b.toNat, b.toNat_lt⟩)
theorem digit_eq (k : Nat) (b : UInt8) : lex_digit k (b.toNat : Int) = some (cls (b.toNat : Int) == 2) := congrArg some (digit_tab ⟨b.toNat, b.toNat_lt⟩)
theorem blank_eq (b : UInt8) : ((((b.toNat : Int) == 32) || ((b.toNat : Int) == 9)) || ((b.toNat : Int) == 10) || ((b.toNat : Int) == 13)) = (cls (b.toNat : Int) == 3) := blank_tab ⟨b.toNat, b.toNat_lt⟩
theorem hash_eq (b : UInt8) : ((b.toNat : Int) == 35) = (cls (b.toNat : Int) == 4) := hash_tab ⟨b.toNat, b.toNat_lt⟩
theorem wordc_eq (k : Nat) (b : UInt8) : lex_lexer_next_1 k (b.toNat : Int) = some ((cls (b.toNat : Int) == 1) || (cls (b.toNat : Int) == 2)) := by
  unfold lex_lexer_next_1
  rw [letter_eq, digit_eq]
  simp only [Option.bind_some, joinK]
  cases cls (b.toNat : Int) == 1 <;> rfl
def runB (P : Nat → Int → Option Bool) (s : List UInt8) (i : Int) (k : Nat) (l : Int) : Option (Int ⊕ Int) :=
    joinK (fun (g2_26_32 : Bool) =>
    if g2_26_32 then
    some (.inl (IntKind.i64.wrap (l + 1)))
    else
    (some l).map .inr) fun j_g2_26 =>
    if (decide ((IntKind.i64.wrap (i + l)) < (s.length : Int))) then
    (ix s (IntKind.i64.wrap (i + l))).bind fun x2_24 =>
    (P k (x2_24.toNat : Int)).bind fun x2_25 =>
    j_g2_26 x2_25
    else
    j_g2_26 false
theorem run_to {P : Nat → Int → Option Bool} {Q : Nat → Bool} {s : List UInt8} (hl : s.length ≤ 16384) (hP : ∀ k p, P k ((bt s p).toNat : Int) = some (Q p)) {i d : Nat} (h : i + d ≤ s.length) (hall : ∀ p, i ≤ p → p < i + d → Q p = true) (hend : i + d = s.length ∨ Q (i + d) = false) :
    Ev (fun k => loopM k (runB P s (i : Int) k) 0) (d : Int) := by
  have hw : ∀ p : Nat, p ≤ 16384 → IntKind.i64.wrap ((i : Int) + (p : Int)) = ((i + p : Nat) : Int) := fun p hp => by rw [wrap64_id (by omega) (by omega)]; omega
  have key := scan_to (body := fun k => runB P s (i : Int) k) (r := (d : Int)) d 0 (fun p _ h2 => ?_) ?_
  · exact Ev.loop key
  · have hd : decide (((i + p : Nat) : Int) < (s.length : Int)) = true := by simp; omega
    have hwr : IntKind.i64.wrap ((p : Int) + 1) = ((p + 1 : Nat) : Int) := by rw [wrap64_id (by omega) (by omega)]; simp
    refine Ev.of fun k => ?_
    simp only [runB, joinK]
    rw [hw p (by omega), hd, if_pos rfl, ix_bt (by omega), Option.bind_some, hP, Option.bind_some, hall (i + p) (by omega) (by omega), if_pos rfl, hwr]
  · refine Ev.of fun k => ?_
    simp only [runB, joinK, Nat.zero_add]
    rw [hw d (by omega)]
    by_cases he : i + d = s.length
    · have hd : decide (((i + d : Nat) : Int) < (s.length : Int)) = false := by simp; omega
      rw [hd]; rfl
    · have hd : decide (((i + d : Nat) : Int) < (s.length : Int)) = true := by simp; omega
      have hq : Q (i + d) = false := hend.resolve_left he
      rw [hd, if_pos rfl, ix_bt (by omega), Option.bind_some, hP, Option.bind_some, hq]; rfl
theorem words_all (k : Nat) : word_All k = some wordsL := by kernel_rfl
theorem is_both (t : List UInt8) : ∃ b, Ev (fun k => word_Is k t) b ∧ Ev (fun k => ref09_Is k t) b := by
  obtain ⟨d, d1, d2, d3⟩ := stretch (fun p => !((wordsL[p]?).getD [] == t)) 20 20 0 rfl
  have hix : ∀ p : Nat, p < 20 → ix wordsL (p : Int) = some ((wordsL[p]?).getD []) := fun p hp => by
    rw [ix_nat (by rw [wordsL_len]; exact hp), List.getElem?_eq_getElem (by rw [wordsL_len]; exact hp)]; rfl
  have hlt : ∀ p : Nat, decide ((p : Int) < (wordsL.length : Int)) = decide (p < 20) := fun p => by
    rw [wordsL_len]
    by_cases h : p < 20
    · rw [decide_eq_true h]; exact decide_eq_true (by omega)
    · rw [decide_eq_false h]; exact decide_eq_false (by omega)
  have hsy : ∀ a : List UInt8, (a == t) = (t == a) := fun a => by
    by_cases h : a = t
    · subst h; rfl
    · have h2 : ¬ t = a := fun e => h e.symm
      rw [beq_eq_false_iff_ne.2 h, beq_eq_false_iff_ne.2 h2]
  refine ⟨decide (d < 20), ?_, ?_⟩
  · unfold word_Is
    refine Ev.bindS words_all ?_
    have hI : Ev (fun k => slices_Index_string k wordsL t) (if d < 20 then (d : Int) else -1) := by
      unfold slices_Index_string
      refine Ev.joinK (Ev.loop (scan_to d 0 (fun p _ h2 => ?_) ?_))
      · have hx := d2 p (by omega) (by omega)
        have hd : decide ((p : Int) < (wordsL.length : Int)) = true := by rw [hlt]; simp; omega
        have hne : (t == (wordsL[p]?).getD []) = false := by rw [← hsy]; simpa using hx
        refine Ev.ite_t hd (Ev.bindS (fun _ => hix p (by omega)) (Ev.ite_f hne (Ev.of fun _ => ?_)))
        rw [wrap64_id (by omega) (by omega)]; simp
      · rw [Nat.zero_add] at d1 d3 ⊢
        by_cases hd : d < 20
        · have hdd : decide ((d : Int) < (wordsL.length : Int)) = true := by rw [hlt]; simp; omega
          have heq : (t == (wordsL[d]?).getD []) = true := by
            rcases d3 with h | h
            · omega
            · rw [← hsy]; simpa using h
          rw [if_pos hd]
          exact Ev.ite_t hdd (Ev.bindS (fun _ => hix d hd) (Ev.ite_t heq Ev.pure))
        · have hdd : decide ((d : Int) < (wordsL.length : Int)) = false := by rw [hlt]; simp; omega
          rw [if_neg hd]
          exact Ev.ite_f hdd (Ev.of fun _ => rfl)
    unfold slices_Contains_string
    refine Ev.bind (Ev.bind hI Ev.pure) (Ev.of fun _ => ?_)
    by_cases hd : d < 20
    · simp [hd]
    · simp [hd]
  · refine Ev.bindS (x := wordsL) (fun _ => rfl) (Ev.joinK (Ev.loop (scan_to d 0 (fun p _ h2 => ?_) ?_)))
    · have hx := d2 p (by omega) (by omega)
      have hd : decide ((p : Int) < (wordsL.length : Int)) = true := by rw [hlt]; simp; omega
      refine Ev.ite_t hd (Ev.bindS (fun _ => hix p (by omega)) (Ev.ite_f (by simpa using hx) (Ev.of fun _ => ?_)))
      rw [wrap64_id (by omega) (by omega)]; simp
    · rw [Nat.zero_add] at d1 d3 ⊢
      by_cases hd : d < 20
      · have hdd : decide ((d : Int) < (wordsL.length : Int)) = true := by rw [hlt]; simp; omega
        have heq : ((wordsL[d]?).getD [] == t) = true := by
          rcases d3 with h | h
          · omega
          · simpa using h
        rw [decide_eq_true hd]
        exact Ev.ite_t hdd (Ev.bindS (fun _ => hix d hd) (Ev.ite_t heq Ev.pure))
      · have hdd : decide ((d : Int) < (wordsL.length : Int)) = false := by rw [hlt]; simp; omega
        rw [decide_eq_false hd]
        exact Ev.ite_f hdd (Ev.of fun _ => rfl)
end Go.Proofs.YtjakhfaodfaimaaDoor.F
namespace Go.Proofs.YtjakhfaodfaimaaDoor.F
open Go
structure Next (s : List UInt8) (i : Nat) (t : TToken) (e q : Int) : Prop where
  at_ : t.At = i
  err : e = 0 ∨ e = 1 ∨ e = 2 ∨ e = 3
  ok : e = 0 → t.Kind ≠ 0 ∧ TokG t ∧ ∃ n : Nat, q = ((i + n : Nat) : Int) ∧ 1 ≤ n ∧ i + n ≤ s.length
theorem next_end (k : Nat) (s : List UInt8) : lex_lexer_next k s (s.length : Int) = some (TToken.mk 0 (s.length : Int) 0 [], 0, (s.length : Int)) := by
  unfold lex_lexer_next
  rw [if_pos (by simp)]
def lexB (s : List UInt8) (k : Nat) (st : List TToken × Int) : Option ((List TToken × Int) ⊕ (List TToken × Int × Int)) :=
  match st with
  | (l0_6, l0_oloc5_1) =>
    (lex_lexer_skip k s l0_oloc5_1).bind fun x5_0 =>
    (lex_lexer_next k s x5_0).bind fun (x6_0_0, x6_0_1, x6_0_2) =>
    if (x6_0_1 != 0) then
    some (.inr ([], x6_0_0.At, x6_0_1))
    else
    if (room 40 (l0_6.length + [x6_0_0].length)) then
    if (x6_0_0.Kind == 0) then
    some (.inr ((l0_6 ++ [x6_0_0]), 0, 0))
    else
    some (.inl ((l0_6 ++ [x6_0_0]), x6_0_2))
    else none
theorem lexAll_eq (k : Nat) (s : List UInt8) : lex_All k s = (if decide ((s.length : Int) > 16384) then some ([], 16384, 3) else loopM k (lexB s k) ([], 0)) := rfl
structure LexG (s : List UInt8) (r : List TToken × Int × Int) : Prop where
  ok : r.2.2 = 0 → WF r.1 ∧ 0 < r.1.length ∧ ∀ t ∈ r.1, 0 ≤ t.At ∧ t.At ≤ s.length
  bad : r.2.2 ≠ 0 → 0 ≤ r.2.1 ∧ r.2.1 ≤ s.length ∧ (r.2.2 = 1 ∨ r.2.2 = 2 ∨ r.2.2 = 3)
end Go.Proofs.YtjakhfaodfaimaaDoor.F
set_option maxHeartbeats 1000000
namespace Go.Proofs.YtjakhfaodfaimaaDoor.F
open Go
def ofB (s : List UInt8) (st : List Int × Int) : Option ((List Int × Int) ⊕ Option Tplace_Lines) :=
  match st with
  | (l1_bclloc81, l1_11) =>
    if (decide (l1_11 < (s.length : Int))) then
    joinK (fun (j2_bclloc81 : List Int) =>
    some (.inl (j2_bclloc81, (IntKind.i64.wrap (l1_11 + 1))))) fun j_j2 =>
    (ix s l1_11).bind fun x5_2 =>
    if ((x5_2.toNat : Int) == 10) then
    if (room 8 (l1_bclloc81.length + [(IntKind.i64.wrap (l1_11 + 1))].length)) then
    j_j2 (l1_bclloc81 ++ [(IntKind.i64.wrap (l1_11 + 1))])
    else none
    else
    j_j2 l1_bclloc81
    else
    (some (some (Tplace_Lines.mk s l1_bclloc81))).map .inr
theorem of_eq (k : Nat) (s : List UInt8) : place_Of k s = loopM k (ofB s) ([0], 0) := rfl
theorem half {a b : Int} (h0 : 0 ≤ a) (h1 : a < b) (h2 : b ≤ 100000) : IntKind.i64.wrap (Int.fdiv (IntKind.u64.wrap (IntKind.i64.wrap (a + b))) (2 ^ (Int.toNat 1))) = (a + b) / 2 := by
  have e1 : IntKind.i64.wrap (a + b) = a + b := wrap64_id (by omega) (by omega)
  have e2 : IntKind.u64.wrap (a + b) = a + b := by
    simp only [IntKind.wrap, IntKind.bits, IntKind.signed]
    simp
    omega
  rw [e1, e2, show ((2 : Int) ^ (Int.toNat 1)) = 2 from rfl, Int.fdiv_eq_ediv_of_nonneg _ (by omega)]
  exact wrap64_id (by omega) (by omega)
theorem search_ex (s : List UInt8) (r : List Int) (off : Int) (hr : r.length ≤ 20000) (h0 : 0 ≤ off) : ∃ n : Nat, Ev (fun k => sort_Search k (((0 :: r).length : Nat) : Int) (some ⟨s, 0 :: r⟩) off) ((n + 1 : Nat) : Int) ∧ ∃ b, (0 :: r)[n]? = some b ∧ b ≤ off := by
  have hat : ∀ (k : Nat) (p : Nat) (h : p < (0 :: r).length), place_Lines_At_1 k (p : Int) (some ⟨s, 0 :: r⟩) off = some (decide ((0 :: r)[p] > off)) := by
    intro k p h
    unfold place_Lines_At_1
    simp only [Option.bind_some]
    rw [ix_nat h]; rfl
  obtain ⟨x, h1, n, rfl, h2⟩ := loop_ex (σ := Int × Int) (ρ := Int) (body := fun k (st : Int × Int) => 
    match st with
    | (l1_5, l1_6) =>
    (if (decide (l1_5 < l1_6)) then
    (place_Lines_At_1 k (IntKind.i64.wrap (Int.fdiv (IntKind.u64.wrap (IntKind.i64.wrap (l1_5 + l1_6))) (2 ^ (Int.toNat 1)))) (some ⟨s, 0 :: r⟩) off).bind fun x4_2 =>
    if (!x4_2) then
    some (.inl ((IntKind.i64.wrap ((IntKind.i64.wrap (Int.fdiv (IntKind.u64.wrap (IntKind.i64.wrap (l1_5 + l1_6))) (2 ^ (Int.toNat 1)))) + 1)), l1_6))
    else
    some (.inl (l1_5, (IntKind.i64.wrap (Int.fdiv (IntKind.u64.wrap (IntKind.i64.wrap (l1_5 + l1_6))) (2 ^ (Int.toNat 1))))))
    else
    (some l1_5).map .inr))
    (fun st => 0 ≤ st.1 ∧ st.1 ≤ st.2 ∧ st.2 ≤ (0 :: r).length ∧ (∀ p : Nat, st.1 = ((p + 1 : Nat) : Int) → ∃ b, (0 :: r)[p]? = some b ∧ b ≤ off) ∧ 1 ≤ st.2) (fun st => (st.2 - st.1).toNat) (fun x => ∃ n : Nat, x = ((n + 1 : Nat) : Int) ∧ ∃ b, (0 :: r)[n]? = some b ∧ b ≤ off) (by
    rintro ⟨a, b⟩ ⟨i1, i2, i3, i4, i5⟩
    simp only at i1 i2 i3 i4 i5
    have hlen : (0 :: r).length = r.length + 1 := rfl
    by_cases hab : a < b
    · right
      have hd : decide (a < b) = true := by simpa using hab
      have hh := half i1 hab (by omega)
      obtain ⟨m, hm⟩ : ∃ m : Nat, (a + b) / 2 = m := ⟨((a + b) / 2).toNat, by omega⟩
      rw [hm] at hh
      have hml : m < (0 :: r).length := by omega
      cases hc : decide ((0 :: r)[m] > off) with
      | false =>
        refine ⟨((m : Int) + 1, b), Ev.of fun k => ?_, ⟨by simp only; omega, by simp only; omega, i3, ?_, i5⟩, by simp only; omega⟩
        · simp only
          rw [hd, if_pos rfl, hh, hat k m hml, hc, wrap64_id (x := (m : Int) + 1) (by omega) (by omega)]; rfl
        · intro p hp
          simp only at hp
          have : p = m := by omega
          subst this
          exact ⟨_, List.getElem?_eq_getElem hml, by simpa using hc⟩
      | true =>
        have hm0 : m ≠ 0 := by
          intro e
          subst e
          have : ((0 :: r)[0] > off) := by simpa using hc
          simp at this; omega
        refine ⟨(a, (m : Int)), Ev.of fun k => ?_, ⟨i1, by simp only; omega, by simp only; omega, i4, by simp only; omega⟩, by simp only; omega⟩
        simp only
        rw [hd, if_pos rfl, hh, hat k m hml, hc]; rfl
    · left
      have hd : decide (a < b) = false := by simpa using hab
      refine ⟨a, Ev.of fun k => ?_, (a - 1).toNat, by omega, i4 _ (by omega)⟩
      simp only
      rw [hd]; rfl) (0, (((0 :: r).length : Nat) : Int)) ⟨by omega, by simp only [List.length_cons]; omega, by omega, fun p hp => by simp only at hp; omega, by simp only [List.length_cons]; omega⟩
  exact ⟨n, Ev.joinK (Ev.loop h1), h2⟩
def bd (d : Tnest_depth) (m : List UInt8) : Tnest_depth :=
  if (m == [45]) || (m == [33]) then ⟨d.open_, IntKind.i64.wrap (d.row + 1)⟩
  else if (m == [40]) || (m == [91]) || (m == [123]) then ⟨IntKind.i64.wrap (d.open_ + 1), 0⟩
  else if (m == [41]) || (m == [93]) || (m == [125]) then ⟨mx 0 (IntKind.i64.wrap (d.open_ - 1)), 0⟩
  else ⟨d.open_, 0⟩
theorem behind_eq (k : Nat) (d : Tnest_depth) (t : TToken) : nest_depth_behind k d t = some (bd d (if t.Kind != 4 then [] else t.Text)) := by
  have key : ∀ m : List UInt8, (joinK (fun (j1_12 : Bool) =>
    if j1_12 then
    some (Tnest_depth.mk d.open_ (IntKind.i64.wrap (d.row + 1)))
    else
    joinK (fun (j2_21 : Bool) =>
    if j2_21 then
    some (Tnest_depth.mk (IntKind.i64.wrap (d.open_ + 1)) 0)
    else
    joinK (fun (j3_29 : Bool) =>
    if j3_29 then
    some (Tnest_depth.mk (mx 0 (IntKind.i64.wrap (d.open_ - 1))) 0)
    else
    some (Tnest_depth.mk d.open_ 0)) fun j_j3 =>
    if (m == [41]) then
    j_j3 (m == [41])
    else
    if (m == [93]) then
    j_j3 (m == [93])
    else
    j_j3 (m == [125])) fun j_j2 =>
    if (m == [40]) then
    j_j2 (m == [40])
    else
    if (m == [91]) then
    j_j2 (m == [91])
    else
    j_j2 (m == [123])) fun j_j1 =>
    if (m == [45]) then
    j_j1 (m == [45])
    else
    j_j1 (m == [33])) = some (bd d m) := by
    intro m
    unfold bd
    simp only [joinK]
    generalize (m == [45]) = a1
    generalize (m == [33]) = a2
    generalize (m == [40]) = b1
    generalize (m == [91]) = b2
    generalize (m == [123]) = b3
    generalize (m == [41]) = c1
    generalize (m == [93]) = c2
    generalize (m == [125]) = c3
    cases a1
    · cases a2
      · cases b1
        · cases b2
          · cases b3
            · cases c1
              · cases c2
                · cases c3 <;> rfl
                · rfl
              · rfl
            · rfl
          · rfl
        · rfl
      · rfl
    · rfl
  unfold nest_depth_behind
  cases h : t.Kind != 4 with
  | true => exact key []
  | false => exact key t.Text
def nestB (l : List TToken) (k : Nat) (st : Int × Tnest_depth) : Option ((Int × Tnest_depth) ⊕ (Int × Int)) :=
  match st with
  | (l1_9, l1_oloc4) =>
    if (decide (l1_9 < (l.length : Int))) then
    (ix l l1_9).bind fun x4_0 =>
    (nest_depth_behind k l1_oloc4 x4_0).bind fun x5_2 =>
    if ((decide (x5_2.open_ > 60)) || (decide (x5_2.row > 60))) then
    some (.inr (x4_0.At, 4))
    else
    some (.inl ((IntKind.i64.wrap (l1_9 + 1)), x5_2))
    else
    (some (0, 0)).map .inr
theorem nest_eq (k : Nat) (l : List TToken) : nest_Check k l = loopM k (nestB l k) (0, ⟨0, 0⟩) := rfl
end Go.Proofs.YtjakhfaodfaimaaDoor.F
namespace Go.Proofs.YtjakhfaodfaimaaDoor.F
open Go
abbrev PGoodP (n : TNode) : Prop := Ev (fun k => ref11_Prog k n) true
structure RdG (s : List UInt8) (n : TNode) (f : Tparse_Fault) : Prop where
  or : (f = ⟨0, 0, 0, 0⟩ ∧ PGoodP n) ∨ (n = zN ∧ 0 ≤ f.At ∧ f.At ≤ s.length ∧ 1 ≤ f.Line ∧ 1 ≤ f.Col ∧ (f.Why = 1 ∨ f.Why = 2 ∨ f.Why = 3 ∨ f.Why = 4))
theorem works15 (k : Nat) : law15_works (k + 80) = some true := by kernel_rfl
theorem works15_ev : Ev law15_works true := Ev.at 80 works15
end Go.Proofs.YtjakhfaodfaimaaDoor.F
namespace Go.Proofs.YtjakhfaodfaimaaDoor.F
open Go
def skipB (s : List UInt8) (k : Nat) (l0_oext0_1 : Int) : Option (Int ⊕ Int) :=
    if (decide (l0_oext0_1 < (s.length : Int))) then
    (ix s l0_oext0_1).bind fun x1_8 =>
    joinK (fun (j1_21 : Bool) =>
    if j1_21 then
    some (.inl (IntKind.i64.wrap (l0_oext0_1 + 1)))
    else
    if ((x1_8.toNat : Int) == 35) then
    (lex_lexer_run k s l0_oext0_1).bind fun x8_5 =>
    some (.inl (IntKind.i64.wrap (l0_oext0_1 + x8_5)))
    else
    some (.inr l0_oext0_1)) fun j_j1 =>
    if ((x1_8.toNat : Int) == 32) then
    j_j1 ((x1_8.toNat : Int) == 32)
    else
    if ((x1_8.toNat : Int) == 9) then
    j_j1 ((x1_8.toNat : Int) == 9)
    else
    if ((x1_8.toNat : Int) == 10) then
    j_j1 ((x1_8.toNat : Int) == 10)
    else
    j_j1 ((x1_8.toNat : Int) == 13)
    else
    some (.inr l0_oext0_1)
theorem skipB_at {s : List UInt8} {p : Nat} (hp : p < s.length) (k : Nat) : skipB s k (p : Int) = if (cl s p == 3) = true then some (.inl (IntKind.i64.wrap ((p : Int) + 1))) else if (cl s p == 4) = true then (lex_lexer_run k s (p : Int)).bind fun x8_5 => some (.inl (IntKind.i64.wrap ((p : Int) + x8_5))) else some (.inr (p : Int)) := by
  unfold skipB
  rw [if_pos (show decide ((p : Int) < (s.length : Int)) = true by simpa using hp), ix_bt hp]
  unfold cl
  rw [← blank_eq, ← hash_eq]
  simp only [Option.bind_some, joinK]
  cases h1 : ((bt s p).toNat : Int) == 32
  · cases h2 : ((bt s p).toNat : Int) == 9
    · cases h3 : ((bt s p).toNat : Int) == 10
      · simp
      · simp
    · simp
  · simp
theorem skip_here {s : List UInt8} {p : Nat} (hp : p < s.length) (h3 : cl s p ≠ 3) (h4 : cl s p ≠ 4) : Ev (fun k => lex_lexer_skip k s (p : Int)) (p : Int) := by
  refine Ev.loop (body := fun k => skipB s k) (EvL.done (Ev.of fun k => ?_))
  rw [skipB_at hp, if_neg (by simpa using h3), if_neg (by simpa using h4)]
theorem skip_one {s : List UInt8} (hl : s.length ≤ 16384) {p : Nat} (hp : p + 1 < s.length) (hb : cl s p = 3) (h3 : cl s (p + 1) ≠ 3) (h4 : cl s (p + 1) ≠ 4) : Ev (fun k => lex_lexer_skip k s (p : Int)) ((p + 1 : Nat) : Int) := by
  refine Ev.loop (body := fun k => skipB s k) (EvL.step (s' := ((p + 1 : Nat) : Int)) (Ev.of fun k => ?_) (EvL.done (Ev.of fun k => ?_)))
  · rw [skipB_at (by omega), if_pos (by simpa using hb), wrap64_id (by omega) (by omega)]; simp
  · rw [skipB_at hp, if_neg (by simpa using h3), if_neg (by simpa using h4)]
def S6 : List UInt8 := [40, 41, 45, 59, 123, 125]
theorem cut_cons {s : List UInt8} {i d : Nat} (h : i + (d + 1) ≤ s.length) : cut s i (d + 1) = bt s i :: cut s (i + 1) d := by
  unfold cut bt
  have hi : i < s.length := by omega
  rw [show i + (d + 1) = i + 1 + d by omega, List.drop_eq_getElem_cons (by simp; omega)]
  simp [hi]
theorem sign6 (k : Nat) (x : UInt8) : ∀ c ∈ S6, word_Sign (k + 20) [c, x] = some (0, false) := by
  have h1 : word_Sign (k + 20) [40, x] = some (0, false) := by kernel_rfl
  have h2 : word_Sign (k + 20) [41, x] = some (0, false) := by kernel_rfl
  have h3 : word_Sign (k + 20) [45, x] = some (0, false) := by kernel_rfl
  have h4 : word_Sign (k + 20) [59, x] = some (0, false) := by kernel_rfl
  have h5 : word_Sign (k + 20) [123, x] = some (0, false) := by kernel_rfl
  have h6 : word_Sign (k + 20) [125, x] = some (0, false) := by kernel_rfl
  intro c hc
  simp only [S6, List.mem_cons, List.not_mem_nil, or_false] at hc
  rcases hc with rfl | rfl | rfl | rfl | rfl | rfl <;> assumption
theorem tab6 : ∀ c ∈ S6, cls (c.toNat : Int) = 0 ∧ decide (Lib.indexByte [40, 41, 123, 125, 91, 93, 44, 59, 46, 61, 60, 62, 43, 45, 42, 47, 37, 33] ((c.toNat : Int)).toNat.toUInt8 ≥ 0) = true := by decide +kernel
theorem mark6 {c : UInt8} (hc : c ∈ S6) (r : List UInt8) : Ev (fun k => word_Mark k (c :: r)) [c] := by
  have hI := (tab6 c hc).2
  have one : Ev (fun k => (joinK (fun (g5_7_24 : Bool) =>
    if g5_7_24 then
    (sub (c :: r) 0 1).bind fun x6_1 =>
    some x6_1
    else
    some []) fun j_g5_7 =>
    if (!((c :: r) == [])) then
    (ix (c :: r) 0).bind fun x5_4 =>
    (strings_IndexByte k [40, 41, 123, 125, 91, 93, 44, 59, 46, 61, 60, 62, 43, 45, 42, 47, 37, 33] (x5_4.toNat : Int)).bind fun x5_5 =>
    j_g5_7 (decide (x5_5 ≥ 0))
    else
    j_g5_7 false)) [c] := by
    have hs : sub (c :: r) 0 1 = some [c] := by unfold sub; rw [if_pos ⟨by omega, by omega, by simp; omega⟩]; rfl
    refine Ev.joinK (Ev.ite_t rfl (Ev.bindS (x := c) (fun _ => rfl) (Ev.bindS (fun _ => rfl) (Ev.of fun _ => ?_))))
    simp only [hI, hs, if_true, Option.bind_some]
  cases r with
  | nil => exact Ev.joinK (Ev.ite_f rfl one)
  | cons x r =>
    have hd : decide (((c :: x :: r).length : Int) > 1) = true := by simp; omega
    have hs : sub (c :: x :: r) 0 2 = some [c, x] := by unfold sub; rw [if_pos ⟨by omega, by omega, by simp; omega⟩]; rfl
    exact Ev.joinK (Ev.ite_t hd (Ev.bindS (fun _ => hs) (Ev.bind (Ev.at 20 (fun k => sign6 k x c hc)) (Ev.ite_f rfl one))))
theorem next_mark {s : List UInt8} (hl : s.length ≤ 16384) {i : Nat} (hi : i < s.length) {c : UInt8} (hb : bt s i = c) (hc : c ∈ S6) : Ev (fun k => lex_lexer_next k s (i : Int)) (⟨4, i, 0, [c]⟩, 0, ((i + 1 : Nat) : Int)) := by
  have hne : ((i : Int) == (s.length : Int)) = false := by simp; omega
  have hcl : cl s i = 0 := by unfold cl; rw [hb]; exact (tab6 c hc).1
  have hrest : i + (s.length - i) = s.length := by omega
  have hsub : sub s (i : Int) (s.length : Int) = some (cut s i (s.length - i)) := by
    have := sub_cut (s := s) (i := i) (d := s.length - i) (by omega)
    rwa [hrest] at this
  obtain ⟨d, hd⟩ : ∃ d, s.length - i = d + 1 := ⟨s.length - i - 1, by omega⟩
  have hcut : cut s i (s.length - i) = c :: cut s (i + 1) d := by rw [hd, cut_cons (by omega), hb]
  have hw : IntKind.i64.wrap ((i : Int) + ((1 : Nat) : Int)) = ((i + 1 : Nat) : Int) := by rw [wrap64_id (by omega) (by omega)]; omega
  have hc1 : cut s i 1 = [c] := by rw [cut_cons (by omega), hb]; unfold cut; simp
  unfold lex_lexer_next
  refine Ev.ite_f hne (Ev.joinK (Ev.bindS (fun _ => ix_bt hi) (Ev.bindS (fun k => letter_eq k _) (Ev.ite_f (by simp [hcl]) (Ev.bindS (fun k => digit_eq k _) (Ev.ite_f (by simp [hcl]) (Ev.bindS (fun _ => hsub) (Ev.bind (by rw [hcut]; exact mark6 hc _) (Ev.of fun k => ?_)))))))))
  simp only [List.length_cons, List.length_nil, show (((0 + 1 : Nat) : Int) == 0) = false from rfl, Bool.false_eq_true, if_false]
  have := sub_cut (s := s) (i := i) (d := 1) (by omega)
  rw [show ((0 + 1 : Nat) : Int) = ((1 : Nat) : Int) from rfl, hw, this, hc1]; rfl
def LS (s : List UInt8) (a b : List TToken × Int) : Prop := ∀ r, EvL (lexB s) b r → EvL (lexB s) a r
theorem LS.refl (s : List UInt8) (a : List TToken × Int) : LS s a a := fun _ h => h
theorem LS.trans {s : List UInt8} {a b c : List TToken × Int} (h : LS s a b) (k : LS s b c) : LS s a c := fun r hr => h r (k r hr)
theorem ls_tok {s : List UInt8} {out : List TToken} {i j q : Int} {t : TToken} (ho : out.length ≤ 20000) (hs : Ev (fun k => lex_lexer_skip k s i) j) (hn : Ev (fun k => lex_lexer_next k s j) (t, 0, q)) (hk : t.Kind ≠ 0) : LS s (out, i) (out ++ [t], q) := by
  intro r hr
  have hroom : room 40 (out.length + [t].length) = true := room_of (by omega) (by simp; omega)
  exact EvL.step (Ev.bind hs (Ev.bind hn (Ev.ite_f rfl (Ev.ite_t hroom (Ev.ite_f (by simpa using hk) Ev.pure))))) hr
def mks (c : UInt8) : Nat → Nat → List TToken
  | _, 0 => []
  | i, m + 1 => ⟨4, i, 0, [c]⟩ :: mks c (i + 1) m
theorem mks_len (c : UInt8) : ∀ i m, (mks c i m).length = m
  | _, 0 => rfl
  | i, m + 1 => by simp [mks, mks_len c (i + 1) m]
theorem ls_marks {s : List UInt8} (hl : s.length ≤ 16384) {c : UInt8} (hc : c ∈ S6) : ∀ (m i : Nat) (out : List TToken), i + m ≤ s.length → out.length + m ≤ 20000 → (∀ q, q < m → bt s (i + q) = c) → LS s (out, (i : Int)) (out ++ mks c i m, ((i + m : Nat) : Int))
  | 0, i, out, _, _, _ => by simp [mks]; exact LS.refl _ _
  | m + 1, i, out, h, ho, hb => by
    have h0 : bt s i = c := by have := hb 0 (by omega); simpa using this
    have hcl : cl s i = 0 := by unfold cl; rw [h0]; exact (tab6 c hc).1
    refine (ls_tok (by omega) (skip_here (by omega) (by omega) (by omega)) (next_mark hl (by omega) h0 hc) (by simp)).trans ?_
    have := ls_marks hl hc m (i + 1) (out ++ [⟨4, i, 0, [c]⟩]) (by omega) (by simp; omega) (fun q hq => by rw [show i + 1 + q = i + (q + 1) by omega]; exact hb (q + 1) (by omega))
    rw [show i + (m + 1) = i + 1 + m by omega]
    simpa [mks] using this
theorem ls_bmark {s : List UInt8} (hl : s.length ≤ 16384) {c : UInt8} (hc : c ∈ S6) {i : Nat} {out : List TToken} (h : i + 1 < s.length) (ho : out.length ≤ 20000) (hb : bt s i = 32) (hb2 : bt s (i + 1) = c) : LS s (out, (i : Int)) (out ++ [⟨4, ((i + 1 : Nat) : Int), 0, [c]⟩], ((i + 1 + 1 : Nat) : Int)) := by
  have hcl : cl s (i + 1) = 0 := by unfold cl; rw [hb2]; exact (tab6 c hc).1
  exact ls_tok ho (skip_one hl h (by unfold cl; rw [hb]; rfl) (by omega) (by omega)) (next_mark hl (by omega) hb2 hc) (by simp)
theorem ls_end {s : List UInt8} {out : List TToken} (ho : out.length ≤ 20000) : EvL (lexB s) (out, (s.length : Int)) (out ++ [⟨0, s.length, 0, []⟩], 0, 0) := by
  have hs : Ev (fun k => lex_lexer_skip k s (s.length : Int)) (s.length : Int) := by
    refine Ev.loop (body := fun k => skipB s k) (EvL.done (Ev.of fun k => ?_))
    unfold skipB
    rw [if_neg (by simp)]
  have hroom : room 40 (out.length + [(TToken.mk 0 (s.length : Int) 0 [])].length) = true := room_of (by omega) (by simp; omega)
  exact EvL.done (Ev.bind hs (Ev.bindS (fun k => next_end k s) (Ev.ite_f rfl (Ev.ite_t hroom (Ev.ite_t rfl Ev.pure)))))
theorem next_word {s : List UInt8} (hl : s.length ≤ 16384) {i d : Nat} {w : List UInt8} (hd : 1 ≤ d) (h32 : d ≤ 32) (d1 : i + d ≤ s.length) (hw : cut s i d = w) (h1 : cl s i = 1) (d2 : ∀ p, i ≤ p → p < i + d → isW s p = true) (d3 : i + d = s.length ∨ isW s (i + d) = false)
    (hb : ∀ k, ref09_Is (k + 40) w = some true) : Ev (fun k => lex_lexer_next k s (i : Int)) (⟨3, i, 0, w⟩, 0, ((i + d : Nat) : Int)) := by
  have hne : ((i : Int) == (s.length : Int)) = false := by simp; omega
  have hwr : IntKind.i64.wrap ((i : Int) + (d : Int)) = ((i + d : Nat) : Int) := by rw [wrap64_id (by omega) (by omega)]; omega
  have hr : Ev (fun k => lex_lexer_run_v2 k s (i : Int)) (d : Int) := run_to hl (P := lex_lexer_next_1) (Q := isW s) (fun k p => wordc_eq k _) d1 d2 d3
  obtain ⟨b, b1, b2⟩ := is_both (cut s i d)
  have hbt : b = true := Ev.uniq b2 (by rw [hw]; exact Ev.at 40 hb)
  subst hbt
  have hdd : decide ((d : Int) > 32) = false := by simp; omega
  unfold lex_lexer_next
  refine Ev.ite_f hne (Ev.joinK (Ev.bindS (fun _ => ix_bt (by omega)) (Ev.bindS (fun k => letter_eq k _) (Ev.ite_t (by simpa using h1) (Ev.bind hr (Ev.joinK ?_))))))
  rw [hwr]
  refine Ev.bindS (fun _ => sub_cut d1) (Ev.bind b1 (Ev.of fun k => ?_))
  simp only [hdd, if_true, Bool.false_eq_true, if_false]
  rw [hwr, sub_cut d1, hw]; rfl
theorem next_num1 {s : List UInt8} (hl : s.length ≤ 16384) {i : Nat} (hi : i < s.length) (hb : bt s i = 49) (d3 : i + 1 = s.length ∨ (cl s (i + 1) == 2) = false) : Ev (fun k => lex_lexer_next k s (i : Int)) (⟨2, i, 1, [49]⟩, 0, ((i + 1 : Nat) : Int)) := by
  have hne : ((i : Int) == (s.length : Int)) = false := by simp; omega
  have hcl : cl s i = 2 := by unfold cl; rw [hb]; rfl
  have hwr : IntKind.i64.wrap ((i : Int) + ((1 : Nat) : Int)) = ((i + 1 : Nat) : Int) := by rw [wrap64_id (by omega) (by omega)]; omega
  have hall : ∀ p, i ≤ p → p < i + 1 → (cl s p == 2) = true := fun p a b => by
    have : p = i := by omega
    subst this; simp [hcl]
  have hr : Ev (fun k => lex_lexer_run_v3 k s (i : Int)) ((1 : Nat) : Int) := run_to hl (P := lex_digit) (Q := fun p => cl s p == 2) (fun k p => digit_eq k _) (by omega) hall d3
  have hc1 : cut s i 1 = [49] := by rw [cut_cons (by omega), hb]; unfold cut; simp
  have hn : Ev (fun k => whole_Read k [49]) (1, 0) := Ev.at 5 (fun k => by kernel_rfl)
  unfold lex_lexer_next
  refine Ev.ite_f hne (Ev.joinK (Ev.bindS (fun _ => ix_bt (by omega)) (Ev.bindS (fun k => letter_eq k _) (Ev.ite_f (by simp [hcl]) (Ev.bindS (fun k => digit_eq k _) (Ev.ite_t (by simpa using hcl) (Ev.bind hr ?_)))))))
  rw [hwr]
  refine Ev.bindS (fun _ => sub_cut (d := 1) (by omega)) (Ev.bind (by rw [hc1]; exact hn) (Ev.of fun k => ?_))
  have := sub_cut (s := s) (i := i) (d := 1) (by omega)
  show (sub s (i : Int) (IntKind.i64.wrap ((i : Int) + ((1 : Nat) : Int)))).bind _ = _
  rw [hwr, this, hc1]; rfl
end Go.Proofs.YtjakhfaodfaimaaDoor.F
namespace Go.Proofs.YtjakhfaodfaimaaDoor.F
open Go
def P0 : List UInt8 := [109, 97, 105, 110, 32, 123, 32, 112, 114, 105, 110, 116, 32]
def P2 : List UInt8 := [109, 97, 105, 110, 32]
def src0 (m : Nat) : List UInt8 := P0 ++ (List.replicate m 40 ++ (49 :: (List.replicate m 41 ++ [59, 32, 125])))
def src1 (m : Nat) : List UInt8 := P0 ++ (List.replicate m 45 ++ [49, 59, 32, 125])
def src2 (m : Nat) : List UInt8 := P2 ++ (List.replicate m 123 ++ List.replicate m 125)
def rt0 (m : Nat) : List TToken := [⟨2, ((13 + (m + 1) : Nat) : Int), 1, [49]⟩] ++ (mks 41 (13 + (m + 1) + 1) (m + 1) ++ (mks 59 (13 + (m + 1) + 1 + (m + 1)) 1 ++ ([⟨4, ((13 + (m + 1) + 1 + (m + 1) + 1 + 1 : Nat) : Int), 0, [125]⟩] ++ [⟨0, ((13 + (m + 1) + 1 + (m + 1) + 3 : Nat) : Int), 0, []⟩])))
def rt1 (m : Nat) : List TToken := [⟨2, ((13 + (m + 1) : Nat) : Int), 1, [49]⟩] ++ (mks 59 (13 + (m + 1) + 1) 1 ++ ([⟨4, ((13 + (m + 1) + 1 + 1 + 1 : Nat) : Int), 0, [125]⟩] ++ [⟨0, ((13 + (m + 1) + 4 : Nat) : Int), 0, []⟩]))
def rt2 (m : Nat) : List TToken := mks 125 (5 + (m + 1)) (m + 1) ++ [⟨0, ((5 + (m + 1) + (m + 1) : Nat) : Int), 0, []⟩]
theorem bt_app {P T : List UInt8} {c : UInt8} {m q : Nat} (hq : q < m) : bt (P ++ (List.replicate m c ++ T)) (P.length + q) = c := by
  unfold bt
  rw [List.getElem?_append_right (by omega), Nat.add_sub_cancel_left, List.getElem?_append_left (by simpa using hq)]
  simp [hq]
theorem bt_tail {P T : List UInt8} {c : UInt8} {m q : Nat} : bt (P ++ (List.replicate m c ++ T)) (P.length + m + q) = bt T q := by
  unfold bt
  rw [List.getElem?_append_right (by omega), List.getElem?_append_right (by simp; omega)]
  congr 2
  simp; omega
theorem tk_main : ∀ k, ref09_Is (k + 40) [109, 97, 105, 110] = some true := fun k => by kernel_rfl
theorem tk_print : ∀ k, ref09_Is (k + 40) [112, 114, 105, 110, 116] = some true := fun k => by kernel_rfl
abbrev tMain : TToken := ⟨3, ((0 : Nat) : Int), 0, [109, 97, 105, 110]⟩
abbrev tOpen : TToken := ⟨4, ((4 + 1 : Nat) : Int), 0, [123]⟩
abbrev tPrint : TToken := ⟨3, ((7 : Nat) : Int), 0, [112, 114, 105, 110, 116]⟩
theorem ls_main {X : List UInt8} (hl : (P2 ++ X).length ≤ 16384) : LS (P2 ++ X) ([], 0) ([tMain], ((4 : Nat) : Int)) := by
  have hlen : (P2 ++ X).length = 5 + X.length := by simp [P2]; omega
  refine ls_tok (out := []) (by simp) (skip_here (p := 0) (by omega) (by rw [show cl (P2 ++ X) 0 = 1 from rfl]; decide) (by rw [show cl (P2 ++ X) 0 = 1 from rfl]; decide)) (next_word hl (i := 0) (d := 4) (by omega) (by omega) (by omega) rfl (by rfl) (fun p a b => ?_) (.inr rfl) tk_main) (by simp)
  have : p = 0 ∨ p = 1 ∨ p = 2 ∨ p = 3 := by omega
  rcases this with rfl | rfl | rfl | rfl <;> rfl
theorem ls_p0 {X : List UInt8} (hl : (P0 ++ X).length ≤ 16384) : LS (P0 ++ X) ([], 0) ([tMain, tOpen, tPrint], ((12 : Nat) : Int)) := by
  have hlen : (P0 ++ X).length = 13 + X.length := by simp [P0]; omega
  have h1 : LS (P0 ++ X) ([], 0) ([tMain], ((4 : Nat) : Int)) := by
    have e : P0 ++ X = P2 ++ ([123, 32, 112, 114, 105, 110, 116, 32] ++ X) := by simp [P0, P2]
    rw [e] at hl ⊢; exact ls_main hl
  have h2 := ls_bmark (s := P0 ++ X) hl (c := 123) (by decide) (i := 4) (out := [tMain]) (by omega) (by simp) rfl rfl
  have h3 : LS (P0 ++ X) ([tMain] ++ [tOpen], ((6 : Nat) : Int)) (([tMain] ++ [tOpen]) ++ [tPrint], ((7 + 5 : Nat) : Int)) := by
    refine ls_tok (by simp) (skip_one hl (p := 6) (by omega) (by rfl) (by rw [show cl (P0 ++ X) 7 = 1 from rfl]; decide) (by rw [show cl (P0 ++ X) 7 = 1 from rfl]; decide)) (next_word hl (i := 7) (d := 5) (by omega) (by omega) (by omega) rfl (by rfl) (fun p a b => ?_) (.inr rfl) tk_print) (by simp)
    have : p = 7 ∨ p = 8 ∨ p = 9 ∨ p = 10 ∨ p = 11 := by omega
    rcases this with rfl | rfl | rfl | rfl | rfl <;> rfl
  exact (h1.trans h2).trans h3
theorem ls_many {P T : List UInt8} {c : UInt8} (hc : c ∈ S6) {m n : Nat} {out : List TToken} (hP : P.length = n + 1) (hl : (P ++ (List.replicate (m + 1) c ++ T)).length ≤ 16384) (ho : out.length ≤ 10) (hb : bt (P ++ (List.replicate (m + 1) c ++ T)) n = 32) (hm : m ≤ 3000) :
    LS (P ++ (List.replicate (m + 1) c ++ T)) (out, (n : Int)) (out ++ mks c (n + 1) (m + 1), ((n + 1 + (m + 1) : Nat) : Int)) := by
  have hlen : (P ++ (List.replicate (m + 1) c ++ T)).length = n + 1 + (m + 1) + T.length := by simp [hP]; omega
  have h0 : bt (P ++ (List.replicate (m + 1) c ++ T)) (n + 1) = c := by
    have := bt_app (P := P) (T := T) (c := c) (m := m + 1) (q := 0) (by omega)
    rwa [hP] at this
  refine (ls_bmark hl hc (i := n) (out := out) (by omega) (by omega) hb h0).trans ?_
  have := ls_marks hl hc m (n + 1 + 1) (out ++ [⟨4, ((n + 1 : Nat) : Int), 0, [c]⟩]) (by omega) (by simp; omega) (fun q hq => by
    have := bt_app (P := P) (T := T) (c := c) (m := m + 1) (q := q + 1) (by omega)
    rw [hP] at this
    rw [show n + 1 + 1 + q = n + 1 + (q + 1) by omega]; exact this)
  rw [show n + 1 + (m + 1) = n + 1 + 1 + m by omega]
  simpa [mks] using this
theorem lex_of {s : List UInt8} (hl : s.length ≤ 16384) {r : List TToken × Int × Int} (h : EvL (lexB s) ([], 0) r) : Ev (fun k => lex_All k s) r :=
  Ev.congr (fun k => lexAll_eq k s) (Ev.ite_f (by simp; omega) (Ev.loop h))
theorem lex0 (m : Nat) (hm : m ≤ 2998) : Ev (fun k => lex_All k (src0 (m + 1))) ([tMain, tOpen, tPrint] ++ (mks 40 13 (m + 1) ++ rt0 m), 0, 0) := by
  unfold src0
  generalize hs : P0 ++ (List.replicate (m + 1) (40 : UInt8) ++ (49 :: (List.replicate (m + 1) 41 ++ [59, 32, 125]))) = s
  have hlen : s.length = 13 + (m + 1) + 1 + (m + 1) + 3 := by rw [← hs]; simp [P0]; omega
  have hl : s.length ≤ 16384 := by omega
  have h1 : LS s ([], 0) ([tMain, tOpen, tPrint], ((12 : Nat) : Int)) := by rw [← hs] at hl ⊢; exact ls_p0 hl
  have h2 : LS s ([tMain, tOpen, tPrint], ((12 : Nat) : Int)) ([tMain, tOpen, tPrint] ++ mks 40 13 (m + 1), ((12 + 1 + (m + 1) : Nat) : Int)) := by
    rw [← hs] at hl ⊢; exact ls_many (by decide) rfl hl (by simp) rfl (by omega)
  have hT : ∀ q, bt s (13 + (m + 1) + q) = bt (49 :: (List.replicate (m + 1) 41 ++ [59, 32, 125])) q := fun q => by
    rw [← hs]; exact bt_tail (P := P0)
  have hT2 : ∀ q, q < m + 1 → bt s (13 + (m + 1) + 1 + q) = 41 := fun q hq => by
    have := hT (1 + q)
    rw [show 13 + (m + 1) + 1 + q = 13 + (m + 1) + (1 + q) by omega, this]
    exact (show bt ([49] ++ (List.replicate (m + 1) 41 ++ [59, 32, 125])) ([49].length + q) = 41 from bt_app hq)
  have hT3 : ∀ q, bt s (13 + (m + 1) + 1 + (m + 1) + q) = bt [59, 32, 125] q := fun q => by
    have := hT (1 + (m + 1) + q)
    rw [show 13 + (m + 1) + 1 + (m + 1) + q = 13 + (m + 1) + (1 + (m + 1) + q) by omega, this]
    exact (show bt ([49] ++ (List.replicate (m + 1) 41 ++ [59, 32, 125])) ([49].length + (m + 1) + q) = bt [59, 32, 125] q from bt_tail)
  have h49 : bt s (13 + (m + 1)) = 49 := hT 0
  have h41 : bt s (13 + (m + 1) + 1) = 41 := hT2 0 (by omega)
  have hA : cl s (13 + (m + 1)) = 2 := by unfold cl; rw [h49]; rfl
  have hB : (cl s (13 + (m + 1) + 1) == 2) = false := by unfold cl; rw [h41]; rfl
  have h3 := ls_tok (s := s) (out := [tMain, tOpen, tPrint] ++ mks 40 13 (m + 1)) (by simp [mks_len]; omega) (skip_here (p := 13 + (m + 1)) (by omega) (by omega) (by omega)) (next_num1 hl (by omega) h49 (.inr hB)) (by simp)
  have h4 := ls_marks hl (c := 41) (by decide) (m + 1) (13 + (m + 1) + 1) (([tMain, tOpen, tPrint] ++ mks 40 13 (m + 1)) ++ [⟨2, ((13 + (m + 1) : Nat) : Int), 1, [49]⟩]) (by omega) (by simp [mks_len]; omega) hT2
  have h5 := ls_marks hl (c := 59) (by decide) 1 (13 + (m + 1) + 1 + (m + 1)) ((([tMain, tOpen, tPrint] ++ mks 40 13 (m + 1)) ++ [⟨2, ((13 + (m + 1) : Nat) : Int), 1, [49]⟩]) ++ mks 41 (13 + (m + 1) + 1) (m + 1)) (by omega) (by simp [mks_len]; omega) (fun q hq => by rw [hT3 q, show q = 0 by omega]; rfl)
  have h6 := ls_bmark hl (c := 125) (by decide) (i := 13 + (m + 1) + 1 + (m + 1) + 1) (out := ((([tMain, tOpen, tPrint] ++ mks 40 13 (m + 1)) ++ [⟨2, ((13 + (m + 1) : Nat) : Int), 1, [49]⟩]) ++ mks 41 (13 + (m + 1) + 1) (m + 1)) ++ mks 59 (13 + (m + 1) + 1 + (m + 1)) 1) (by omega) (by simp [mks_len]; omega) (by rw [hT3 1]; rfl) (by rw [show 13 + (m + 1) + 1 + (m + 1) + 1 + 1 = 13 + (m + 1) + 1 + (m + 1) + 2 by omega, hT3 2]; rfl)
  have hend : (13 + (m + 1) + 1 + (m + 1) + 1 + 1 + 1) = s.length := by omega
  rw [hend] at h6
  have all := ((((h1.trans h2).trans h3).trans h4).trans h5).trans h6
  have := lex_of hl (all _ (ls_end (by simp [mks_len]; omega)))
  rw [hlen] at this
  simp only [List.append_assoc] at this
  exact this
theorem lex1 (m : Nat) (hm : m ≤ 2998) : Ev (fun k => lex_All k (src1 (m + 1))) ([tMain, tOpen, tPrint] ++ (mks 45 13 (m + 1) ++ rt1 m), 0, 0) := by
  unfold src1
  generalize hs : P0 ++ (List.replicate (m + 1) (45 : UInt8) ++ [49, 59, 32, 125]) = s
  have hlen : s.length = 13 + (m + 1) + 4 := by rw [← hs]; simp [P0]; omega
  have hl : s.length ≤ 16384 := by omega
  have h1 : LS s ([], 0) ([tMain, tOpen, tPrint], ((12 : Nat) : Int)) := by rw [← hs] at hl ⊢; exact ls_p0 hl
  have h2 : LS s ([tMain, tOpen, tPrint], ((12 : Nat) : Int)) ([tMain, tOpen, tPrint] ++ mks 45 13 (m + 1), ((12 + 1 + (m + 1) : Nat) : Int)) := by
    rw [← hs] at hl ⊢; exact ls_many (by decide) rfl hl (by simp) rfl (by omega)
  have hT : ∀ q, bt s (13 + (m + 1) + q) = bt [49, 59, 32, 125] q := fun q => by
    rw [← hs]; exact bt_tail (P := P0)
  have h49 : bt s (13 + (m + 1)) = 49 := hT 0
  have hA : cl s (13 + (m + 1)) = 2 := by unfold cl; rw [h49]; rfl
  have hB : (cl s (13 + (m + 1) + 1) == 2) = false := by unfold cl; rw [hT 1]; rfl
  have h3 := ls_tok (s := s) (out := [tMain, tOpen, tPrint] ++ mks 45 13 (m + 1)) (by simp [mks_len]; omega) (skip_here (p := 13 + (m + 1)) (by omega) (by omega) (by omega)) (next_num1 hl (by omega) h49 (.inr hB)) (by simp)
  have h5 := ls_marks hl (c := 59) (by decide) 1 (13 + (m + 1) + 1) (([tMain, tOpen, tPrint] ++ mks 45 13 (m + 1)) ++ [⟨2, ((13 + (m + 1) : Nat) : Int), 1, [49]⟩]) (by omega) (by simp [mks_len]; omega) (fun q hq => by rw [show 13 + (m + 1) + 1 + q = 13 + (m + 1) + (1 + q) by omega, hT, show q = 0 by omega]; rfl)
  have h6 := ls_bmark hl (c := 125) (by decide) (i := 13 + (m + 1) + 1 + 1) (out := (([tMain, tOpen, tPrint] ++ mks 45 13 (m + 1)) ++ [⟨2, ((13 + (m + 1) : Nat) : Int), 1, [49]⟩]) ++ mks 59 (13 + (m + 1) + 1) 1) (by omega) (by simp [mks_len]; omega) (by rw [show 13 + (m + 1) + 1 + 1 = 13 + (m + 1) + 2 by omega, hT 2]; rfl) (by rw [show 13 + (m + 1) + 1 + 1 + 1 = 13 + (m + 1) + 3 by omega, hT 3]; rfl)
  have hend : (13 + (m + 1) + 1 + 1 + 1 + 1) = s.length := by omega
  rw [hend] at h6
  have all := (((h1.trans h2).trans h3).trans h5).trans h6
  have := lex_of hl (all _ (ls_end (by simp [mks_len]; omega)))
  rw [hlen] at this
  simp only [List.append_assoc] at this
  exact this
theorem lex2 (m : Nat) (hm : m ≤ 2998) : Ev (fun k => lex_All k (src2 (m + 1))) ([tMain] ++ (mks 123 5 (m + 1) ++ rt2 m), 0, 0) := by
  unfold src2
  generalize hs : P2 ++ (List.replicate (m + 1) (123 : UInt8) ++ List.replicate (m + 1) 125) = s
  have hlen : s.length = 5 + (m + 1) + (m + 1) := by rw [← hs]; simp [P2]; omega
  have hl : s.length ≤ 16384 := by omega
  have h1 : LS s ([], 0) ([tMain], ((4 : Nat) : Int)) := by rw [← hs] at hl ⊢; exact ls_main hl
  have h2 : LS s ([tMain], ((4 : Nat) : Int)) ([tMain] ++ mks 123 5 (m + 1), ((4 + 1 + (m + 1) : Nat) : Int)) := by
    rw [← hs] at hl ⊢; exact ls_many (by decide) rfl hl (by simp) rfl (by omega)
  have hT : ∀ q, q < m + 1 → bt s (5 + (m + 1) + q) = 125 := fun q hq => by
    rw [← hs, show 5 + (m + 1) + q = P2.length + (m + 1) + q from rfl, bt_tail]
    have := bt_app (P := []) (T := []) (c := (125 : UInt8)) hq
    simpa using this
  have h3 := ls_marks hl (c := 125) (by decide) (m + 1) (5 + (m + 1)) ([tMain] ++ mks 123 5 (m + 1)) (by omega) (by simp [mks_len]; omega) hT
  rw [show 5 + (m + 1) + (m + 1) = s.length by omega] at h3
  have all := (h1.trans h2).trans h3
  have := lex_of hl (all _ (ls_end (by simp [mks_len]; omega)))
  rw [hlen] at this
  simp only [List.append_assoc] at this
  exact this
theorem nest_tok {l A B : List TToken} {t : TToken} (hl : l = A ++ t :: B) (hn : l.length ≤ 100000) {d d2 : Tnest_depth} (hd : bd d (if t.Kind != 4 then [] else t.Text) = d2) (hc : (decide (d2.open_ > 60) || decide (d2.row > 60)) = false) {r : Int × Int} (h : EvL (nestB l) (((A ++ [t]).length : Int), d2) r) : EvL (nestB l) ((A.length : Int), d) r := by
  have hlt : A.length < l.length := by rw [hl]; simp
  have hx : ix l (A.length : Int) = some t := ix_of (by omega) (by rw [hl]; simp)
  refine EvL.step (s' := (((A ++ [t]).length : Int), d2)) (Ev.ite_t (by simpa using hlt) (Ev.bindS (fun _ => hx) (Ev.bindS (fun k => by rw [behind_eq, hd]) (Ev.ite_f hc (Ev.of fun _ => ?_))))) h
  rw [wrap64_id (by omega) (by omega)]; simp
theorem nest_bad {l A B : List TToken} {t : TToken} (hl : l = A ++ t :: B) {d d2 : Tnest_depth} (hd : bd d (if t.Kind != 4 then [] else t.Text) = d2) (hc : (decide (d2.open_ > 60) || decide (d2.row > 60)) = true) : EvL (nestB l) ((A.length : Int), d) (t.At, 4) := by
  have hlt : A.length < l.length := by rw [hl]; simp
  have hx : ix l (A.length : Int) = some t := ix_of (by omega) (by rw [hl]; simp)
  exact EvL.done (Ev.ite_t (by simpa using hlt) (Ev.bindS (fun _ => hx) (Ev.bindS (fun k => by rw [behind_eq, hd]) (Ev.ite_t hc Ev.pure))))
theorem nest_opens {l : List TToken} (hn : l.length ≤ 100000) {c : UInt8} (hc : c = 40 ∨ c = 123) : ∀ (q i : Nat) (A R : List TToken) (o : Int), l = A ++ (mks c i q ++ R) → 0 ≤ o → o ≤ 60 → 60 < o + q → ∃ a, EvL (nestB l) ((A.length : Int), ⟨o, 0⟩) (a, 4)
  | 0, i, A, R, o, hl, h1, h2, h3 => by omega
  | q + 1, i, A, R, o, hl, h1, h2, h3 => by
    have hw : IntKind.i64.wrap (o + 1) = o + 1 := wrap64_id (by omega) (by omega)
    have hd : bd ⟨o, 0⟩ (if (TToken.mk 4 (i : Int) 0 [c]).Kind != 4 then [] else (TToken.mk 4 (i : Int) 0 [c]).Text) = ⟨o + 1, 0⟩ := by
      rcases hc with rfl | rfl <;> (show Tnest_depth.mk (IntKind.i64.wrap (o + 1)) 0 = _; rw [hw])
    have hl2 : l = A ++ (TToken.mk 4 (i : Int) 0 [c]) :: (mks c (i + 1) q ++ R) := by rw [hl]; rfl
    by_cases h60 : o + 1 > 60
    · exact ⟨_, nest_bad hl2 hd (by simp; omega)⟩
    · obtain ⟨a, ha⟩ := nest_opens hn hc q (i + 1) (A ++ [TToken.mk 4 (i : Int) 0 [c]]) R (o + 1) (by rw [hl2]; simp) (by omega) (by omega) (by omega)
      exact ⟨a, nest_tok hl2 hn hd (by simp; omega) ha⟩
theorem nest_rows {l : List TToken} (hn : l.length ≤ 100000) {o : Int} (ho : o ≤ 60) : ∀ (q i : Nat) (A R : List TToken) (w : Int), l = A ++ (mks 45 i q ++ R) → 0 ≤ w → w ≤ 60 → 60 < w + q → ∃ a, EvL (nestB l) ((A.length : Int), ⟨o, w⟩) (a, 4)
  | 0, i, A, R, w, hl, h1, h2, h3 => by omega
  | q + 1, i, A, R, w, hl, h1, h2, h3 => by
    have hw : IntKind.i64.wrap (w + 1) = w + 1 := wrap64_id (by omega) (by omega)
    have hd : bd ⟨o, w⟩ (if (TToken.mk 4 (i : Int) 0 [45]).Kind != 4 then [] else (TToken.mk 4 (i : Int) 0 [45]).Text) = ⟨o, w + 1⟩ := by
      show Tnest_depth.mk o (IntKind.i64.wrap (w + 1)) = _; rw [hw]
    have hl2 : l = A ++ (TToken.mk 4 (i : Int) 0 [45]) :: (mks 45 (i + 1) q ++ R) := by rw [hl]; rfl
    by_cases h60 : w + 1 > 60
    · exact ⟨_, nest_bad hl2 hd (by simp; omega)⟩
    · obtain ⟨a, ha⟩ := nest_rows hn ho q (i + 1) (A ++ [TToken.mk 4 (i : Int) 0 [45]]) R (w + 1) (by rw [hl2]; simp) (by omega) (by omega) (by omega)
      exact ⟨a, nest_tok hl2 hn hd (by simp; omega) ha⟩
theorem of_one (s : List UInt8) (hl : s.length ≤ 20000) (hn : ∀ p, p < s.length → bt s p ≠ 10) : Ev (fun k => place_Of k s) (some ⟨s, [0]⟩) := by
  obtain ⟨x, h1, rfl⟩ := loop_ex (body := fun _ => ofB s) (fun st => 0 ≤ st.2 ∧ st.2 ≤ s.length ∧ st.1 = [0]) (fun st => (s.length - st.2).toNat) (fun x => x = some ⟨s, [0]⟩) (by
    rintro ⟨b, p⟩ ⟨i1, i2, i3⟩
    simp only at i1 i2 i3
    subst i3
    obtain ⟨p, rfl⟩ : ∃ q : Nat, p = q := ⟨p.toNat, by omega⟩
    by_cases hp : p < s.length
    · right
      have hd : decide ((p : Int) < (s.length : Int)) = true := by simpa using hp
      have hwr : IntKind.i64.wrap ((p : Int) + 1) = ((p + 1 : Nat) : Int) := by rw [wrap64_id (by omega) (by omega)]; simp
      have hc : (((bt s p).toNat : Int) == 10) = false := by
        have := hn p hp
        simp only [beq_eq_false_iff_ne, ne_eq]
        intro e
        exact this (UInt8.toNat_inj.1 (by show (bt s p).toNat = 10; omega))
      refine ⟨([0], ((p + 1 : Nat) : Int)), Ev.of fun _ => ?_, ⟨by simp; omega, by simp; omega, rfl⟩, by simp; omega⟩
      simp only [ofB, joinK]
      rw [hd, if_pos rfl, ix_bt hp, Option.bind_some, hc, hwr]; rfl
    · left
      refine ⟨_, Ev.of fun _ => ?_, rfl⟩
      simp only [ofB]
      rw [show decide ((p : Int) < (s.length : Int)) = false by simp; omega]; rfl) ([0], 0) (by simp)
  exact Ev.congr (fun k => of_eq k s) (Ev.loop h1)
theorem fault_one (s : List UInt8) (hl : s.length ≤ 20000) (hn : ∀ p, p < s.length → bt s p ≠ 10) (a e : Int) : ∃ co : Int, Ev (fun k => parse_fault k s a e) (zN, ⟨a, 1, co, e⟩) := by
  have h1 := of_one s hl hn
  have hoff : 0 ≤ mx 0 (mn a (s.length : Int)) := by rw [mx_eq, mn_eq]; omega
  obtain ⟨n, h3, b, h4, h5⟩ := search_ex s [] (mx 0 (mn a (s.length : Int))) (by simp) hoff
  have hn0 : n = 0 := by
    have := (List.getElem?_eq_some_iff.1 h4).1
    simp at this; omega
  subst hn0
  have hw : IntKind.i64.wrap (((0 + 1 : Nat) : Int) - 1) = ((0 : Nat) : Int) := rfl
  have hix : ix [0] ((0 : Nat) : Int) = some b := ix_of (by omega) (by rw [Int.toNat_natCast]; exact h4)
  generalize ho : mx 0 (mn a (s.length : Int)) = off at h3 h5 hoff
  generalize hco : IntKind.i64.wrap (IntKind.i64.wrap (off - b) + 1) = co
  have hA : Ev (fun k => place_Lines_At k (some ⟨s, [0]⟩) a) (1, co) := by
    refine Ev.ite_f rfl (Ev.bindS (x := ⟨s, [0]⟩) (fun _ => rfl) (Ev.bindS (x := ⟨s, [0]⟩) (fun _ => rfl) (Ev.bind (by rw [ho]; exact h3) (Ev.bindS (x := ⟨s, [0]⟩) (fun _ => rfl) (Ev.bindS (x := b) (fun _ => by rw [hw]; exact hix) (Ev.of fun _ => ?_))))))
    rw [ho, hco]; rfl
  exact ⟨co, Ev.bind h1 (Ev.bind hA Ev.pure)⟩
theorem parse_bad {s : List UInt8} (hl : s.length ≤ 16384) (hn : ∀ p, p < s.length → bt s p ≠ 10) {l : List TToken} (h1 : Ev (fun k => lex_All k s) (l, 0, 0)) {a : Int} (h2 : EvL (nestB l) (0, ⟨0, 0⟩) (a, 4)) : ∃ co : Int, Ev (fun k => parse_Prog k s) (zN, ⟨a, 1, co, 4⟩) := by
  obtain ⟨co, h3⟩ := fault_one s (by omega) hn a 4
  exact ⟨co, Ev.bind (Ev.bind h1 (Ev.ite_f rfl (Ev.bind (Ev.congr (fun k => nest_eq k l) (Ev.loop h2)) (Ev.ite_t rfl (Ev.bind h3 Ev.pure))))) Ev.pure⟩
end Go.Proofs.YtjakhfaodfaimaaDoor.F
namespace Go.Proofs.YtjakhfaodfaimaaDoor.F
open Go
def restOk (k : Nat) (l : List TToken) : Bool :=
  match nest_Check k l with
  | some (_, c) => c == 0 && (match stmt_Prog k l with
    | some (n, _, c2) => c2 == 0 && (match ref11_Prog k n with | some b => b | none => false)
    | none => false)
  | none => false
def tk0 (m : Nat) : List TToken := [tMain, tOpen, tPrint] ++ (mks 40 13 (m + 1) ++ rt0 m)
def tk1 (m : Nat) : List TToken := [tMain, tOpen, tPrint] ++ (mks 45 13 (m + 1) ++ rt1 m)
def tk2 (m : Nat) : List TToken := [tMain] ++ (mks 123 5 (m + 1) ++ rt2 m)
theorem d0_0 (k : Nat) : (List.range 10).all (fun m => restOk (k + 1200) (tk0 (0 + m))) = true := by kernel_rfl
theorem d0_10 (k : Nat) : (List.range 10).all (fun m => restOk (k + 1200) (tk0 (10 + m))) = true := by kernel_rfl
theorem d0_20 (k : Nat) : (List.range 10).all (fun m => restOk (k + 1200) (tk0 (20 + m))) = true := by kernel_rfl
theorem d0_30 (k : Nat) : (List.range 10).all (fun m => restOk (k + 1200) (tk0 (30 + m))) = true := by kernel_rfl
theorem d0_40 (k : Nat) : (List.range 10).all (fun m => restOk (k + 1200) (tk0 (40 + m))) = true := by kernel_rfl
theorem d0_50 (k : Nat) : (List.range 9).all (fun m => restOk (k + 1200) (tk0 (50 + m))) = true := by kernel_rfl
theorem d1_0 (k : Nat) : (List.range 10).all (fun m => restOk (k + 1200) (tk1 (0 + m))) = true := by kernel_rfl
theorem d1_10 (k : Nat) : (List.range 10).all (fun m => restOk (k + 1200) (tk1 (10 + m))) = true := by kernel_rfl
theorem d1_20 (k : Nat) : (List.range 10).all (fun m => restOk (k + 1200) (tk1 (20 + m))) = true := by kernel_rfl
theorem d1_30 (k : Nat) : (List.range 10).all (fun m => restOk (k + 1200) (tk1 (30 + m))) = true := by kernel_rfl
theorem d1_40 (k : Nat) : (List.range 10).all (fun m => restOk (k + 1200) (tk1 (40 + m))) = true := by kernel_rfl
theorem d1_50 (k : Nat) : (List.range 10).all (fun m => restOk (k + 1200) (tk1 (50 + m))) = true := by kernel_rfl
theorem d2_0 (k : Nat) : (List.range 10).all (fun m => restOk (k + 1200) (tk2 (0 + m))) = true := by kernel_rfl
theorem d2_10 (k : Nat) : (List.range 10).all (fun m => restOk (k + 1200) (tk2 (10 + m))) = true := by kernel_rfl
theorem d2_20 (k : Nat) : (List.range 10).all (fun m => restOk (k + 1200) (tk2 (20 + m))) = true := by kernel_rfl
theorem d2_30 (k : Nat) : (List.range 10).all (fun m => restOk (k + 1200) (tk2 (30 + m))) = true := by kernel_rfl
theorem d2_40 (k : Nat) : (List.range 10).all (fun m => restOk (k + 1200) (tk2 (40 + m))) = true := by kernel_rfl
theorem d2_50 (k : Nat) : (List.range 10).all (fun m => restOk (k + 1200) (tk2 (50 + m))) = true := by kernel_rfl
end Go.Proofs.YtjakhfaodfaimaaDoor.F
namespace Go.Proofs.YtjakhfaodfaimaaDoor.F
open Go
def Few (s : List UInt8) : Prop := ∃ k0, ∀ k, k0 ≤ k → ∃ n, parse_Prog k s = some (n, ⟨0, 0, 0, 0⟩) ∧ ref11_Prog k n = some true
theorem few_of {s : List UInt8} {l : List TToken} (h : Ev (fun k => lex_All k s) (l, 0, 0)) (h2 : ∀ k, restOk (k + 1200) l = true) : Few s := by
  obtain ⟨k1, h1⟩ := h
  refine ⟨max k1 1200, fun k hk => ?_⟩
  have e1 := h1 k (by omega)
  have e2 := h2 (k - 1200)
  rw [show k - 1200 + 1200 = k by omega] at e2
  unfold restOk at e2
  simp only at e1
  unfold parse_Prog parse_read
  rw [e1]
  split at e2
  · rename_i a c hn
    rw [Bool.and_eq_true] at e2
    obtain ⟨e3, e4⟩ := e2
    have hc : (c != 0) = false := by simpa using e3
    split at e4
    · rename_i n b c2 hs
      rw [Bool.and_eq_true] at e4
      obtain ⟨e5, e6⟩ := e4
      have hc2 : (c2 != 0) = false := by simpa using e5
      split at e6
      · rename_i r hr
        subst e6
        refine ⟨n, ?_, hr⟩
        simp only [Option.bind_some]
        rw [if_neg (by simp), hn]
        simp only [Option.bind_some]
        rw [hc, if_neg (by simp), hs]
        simp only [Option.bind_some]
        rw [hc2, if_neg (by simp)]
        rfl
      · cases e6
    · cases e4
  · cases e2
theorem few_run {k : Nat} {s : List UInt8} (h : (match parse_Prog k s with | some (n, f) => f.At == 0 && (f.Line == 0 && (f.Col == 0 && f.Why == 0)) && (match ref11_Prog k n with | some b => b | none => false) | none => false) = true) : ∃ n, parse_Prog k s = some (n, ⟨0, 0, 0, 0⟩) ∧ ref11_Prog k n = some true := by
  split at h
  · rename_i n f hp
    obtain ⟨x, y, z, w⟩ := f
    simp only [Bool.and_eq_true, beq_iff_eq] at h
    obtain ⟨⟨rfl, rfl, rfl, rfl⟩, h2⟩ := h
    refine ⟨n, hp, ?_⟩
    split at h2
    · rename_i hr; rw [hr, h2]
    · cases h2
  · cases h
theorem all_lt {n a : Nat} {p : Nat → Bool} (h : (List.range n).all (fun m => p (a + m)) = true) {m : Nat} (h1 : a ≤ m) (h2 : m < a + n) : p m = true := by
  rw [List.all_eq_true] at h
  have := h (m - a) (List.mem_range.2 (by omega))
  rwa [show a + (m - a) = m by omega] at this
theorem few0 : ∀ m, m ≤ 59 → Few (src0 m)
  | 0, _ => ⟨1200, fun k hk => by
      obtain ⟨j, rfl⟩ : ∃ j, k = j + 1200 := ⟨k - 1200, by omega⟩
      have : ∀ j, (match parse_Prog (j + 1200) (src0 0) with | some (n, f) => f.At == 0 && (f.Line == 0 && (f.Col == 0 && f.Why == 0)) && (match ref11_Prog (j + 1200) n with | some b => b | none => false) | none => false) = true := fun j => by kernel_rfl
      exact few_run (this j)⟩
  | m + 1, h => by
    refine few_of (lex0 m (by omega)) fun k => ?_
    have hc : (0 ≤ m ∧ m < 10) ∨ (10 ≤ m ∧ m < 20) ∨ (20 ≤ m ∧ m < 30) ∨ (30 ≤ m ∧ m < 40) ∨ (40 ≤ m ∧ m < 50) ∨ (50 ≤ m ∧ m < 59) := by omega
    rcases hc with ⟨a, b⟩ | ⟨a, b⟩ | ⟨a, b⟩ | ⟨a, b⟩ | ⟨a, b⟩ | ⟨a, b⟩
    · exact all_lt (p := fun m => restOk (k + 1200) (tk0 m)) (d0_0 k) a b
    · exact all_lt (p := fun m => restOk (k + 1200) (tk0 m)) (d0_10 k) a b
    · exact all_lt (p := fun m => restOk (k + 1200) (tk0 m)) (d0_20 k) a b
    · exact all_lt (p := fun m => restOk (k + 1200) (tk0 m)) (d0_30 k) a b
    · exact all_lt (p := fun m => restOk (k + 1200) (tk0 m)) (d0_40 k) a b
    · exact all_lt (p := fun m => restOk (k + 1200) (tk0 m)) (d0_50 k) a b
theorem few1 : ∀ m, m ≤ 60 → Few (src1 m)
  | 0, _ => few0 0 (by omega)
  | m + 1, h => by
    refine few_of (lex1 m (by omega)) fun k => ?_
    have hc : (0 ≤ m ∧ m < 10) ∨ (10 ≤ m ∧ m < 20) ∨ (20 ≤ m ∧ m < 30) ∨ (30 ≤ m ∧ m < 40) ∨ (40 ≤ m ∧ m < 50) ∨ (50 ≤ m ∧ m < 60) := by omega
    rcases hc with ⟨a, b⟩ | ⟨a, b⟩ | ⟨a, b⟩ | ⟨a, b⟩ | ⟨a, b⟩ | ⟨a, b⟩
    · exact all_lt (p := fun m => restOk (k + 1200) (tk1 m)) (d1_0 k) a b
    · exact all_lt (p := fun m => restOk (k + 1200) (tk1 m)) (d1_10 k) a b
    · exact all_lt (p := fun m => restOk (k + 1200) (tk1 m)) (d1_20 k) a b
    · exact all_lt (p := fun m => restOk (k + 1200) (tk1 m)) (d1_30 k) a b
    · exact all_lt (p := fun m => restOk (k + 1200) (tk1 m)) (d1_40 k) a b
    · exact all_lt (p := fun m => restOk (k + 1200) (tk1 m)) (d1_50 k) a b
theorem few2 (m : Nat) (h : m < 60) : Few (src2 (m + 1)) := by
  refine few_of (lex2 m (by omega)) fun k => ?_
  have hc : (0 ≤ m ∧ m < 10) ∨ (10 ≤ m ∧ m < 20) ∨ (20 ≤ m ∧ m < 30) ∨ (30 ≤ m ∧ m < 40) ∨ (40 ≤ m ∧ m < 50) ∨ (50 ≤ m ∧ m < 60) := by omega
  rcases hc with ⟨a, b⟩ | ⟨a, b⟩ | ⟨a, b⟩ | ⟨a, b⟩ | ⟨a, b⟩ | ⟨a, b⟩
  · exact all_lt (p := fun m => restOk (k + 1200) (tk2 m)) (d2_0 k) a b
  · exact all_lt (p := fun m => restOk (k + 1200) (tk2 m)) (d2_10 k) a b
  · exact all_lt (p := fun m => restOk (k + 1200) (tk2 m)) (d2_20 k) a b
  · exact all_lt (p := fun m => restOk (k + 1200) (tk2 m)) (d2_30 k) a b
  · exact all_lt (p := fun m => restOk (k + 1200) (tk2 m)) (d2_40 k) a b
  · exact all_lt (p := fun m => restOk (k + 1200) (tk2 m)) (d2_50 k) a b
theorem bt_mem {s : List UInt8} {p : Nat} (hp : p < s.length) : bt s p ∈ s := by
  unfold bt
  rw [List.getElem?_eq_getElem hp]; exact List.getElem_mem hp
theorem no_line {s : List UInt8} (h : (10 : UInt8) ∉ s) : ∀ p, p < s.length → bt s p ≠ 10 := fun p hp e => h (e ▸ bt_mem hp)
theorem bad0 (m : Nat) (h1 : 59 ≤ m) (h2 : m ≤ 2998) : ∃ a co : Int, Ev (fun k => parse_Prog k (src0 (m + 1))) (zN, ⟨a, 1, co, 4⟩) := by
  have hlen : (src0 (m + 1)).length ≤ 16384 := by simp [src0, P0]; omega
  have h10 : (10 : UInt8) ∉ src0 (m + 1) := by simp [src0, P0, List.mem_replicate]
  have hl := lex0 m h2
  obtain ⟨a, ha⟩ : ∃ a, EvL (nestB ([tMain, tOpen, tPrint] ++ (mks 40 13 (m + 1) ++ rt0 m))) ((([tMain, tOpen, tPrint] : List TToken).length : Int), ⟨1, 0⟩) (a, 4) :=
    nest_opens (by simp [mks_len, rt0]; omega) (.inl rfl) (m + 1) 13 [tMain, tOpen, tPrint] (rt0 m) 1 rfl (by omega) (by omega) (by omega)
  have hn : (([tMain, tOpen, tPrint] ++ (mks 40 13 (m + 1) ++ rt0 m)) : List TToken).length ≤ 100000 := by simp [mks_len, rt0]; omega
  have b3 := nest_tok (l := [tMain, tOpen, tPrint] ++ (mks 40 13 (m + 1) ++ rt0 m)) (A := [tMain, tOpen]) (B := mks 40 13 (m + 1) ++ rt0 m) (t := tPrint) rfl hn (d := ⟨1, 0⟩) (d2 := ⟨1, 0⟩) rfl rfl ha
  have b2 := nest_tok (l := [tMain, tOpen, tPrint] ++ (mks 40 13 (m + 1) ++ rt0 m)) (A := [tMain]) (B := tPrint :: (mks 40 13 (m + 1) ++ rt0 m)) (t := tOpen) rfl hn (d := ⟨0, 0⟩) (d2 := ⟨1, 0⟩) rfl rfl b3
  have b1 := nest_tok (l := [tMain, tOpen, tPrint] ++ (mks 40 13 (m + 1) ++ rt0 m)) (A := []) (B := tOpen :: tPrint :: (mks 40 13 (m + 1) ++ rt0 m)) (t := tMain) rfl hn (d := ⟨0, 0⟩) (d2 := ⟨0, 0⟩) rfl rfl b2
  obtain ⟨co, h⟩ := parse_bad hlen (no_line h10) hl b1
  exact ⟨a, co, h⟩
theorem bad1 (m : Nat) (h1 : 60 ≤ m) (h2 : m ≤ 2998) : ∃ a co : Int, Ev (fun k => parse_Prog k (src1 (m + 1))) (zN, ⟨a, 1, co, 4⟩) := by
  have hlen : (src1 (m + 1)).length ≤ 16384 := by simp [src1, P0]; omega
  have h10 : (10 : UInt8) ∉ src1 (m + 1) := by simp [src1, P0, List.mem_replicate]
  have hl := lex1 m h2
  have hn : (([tMain, tOpen, tPrint] ++ (mks 45 13 (m + 1) ++ rt1 m)) : List TToken).length ≤ 100000 := by simp [mks_len, rt1]; omega
  obtain ⟨a, ha⟩ : ∃ a, EvL (nestB ([tMain, tOpen, tPrint] ++ (mks 45 13 (m + 1) ++ rt1 m))) ((([tMain, tOpen, tPrint] : List TToken).length : Int), ⟨1, 0⟩) (a, 4) :=
    nest_rows hn (by omega) (m + 1) 13 [tMain, tOpen, tPrint] (rt1 m) 0 rfl (by omega) (by omega) (by omega)
  have b3 := nest_tok (l := [tMain, tOpen, tPrint] ++ (mks 45 13 (m + 1) ++ rt1 m)) (A := [tMain, tOpen]) (B := mks 45 13 (m + 1) ++ rt1 m) (t := tPrint) rfl hn (d := ⟨1, 0⟩) (d2 := ⟨1, 0⟩) rfl rfl ha
  have b2 := nest_tok (l := [tMain, tOpen, tPrint] ++ (mks 45 13 (m + 1) ++ rt1 m)) (A := [tMain]) (B := tPrint :: (mks 45 13 (m + 1) ++ rt1 m)) (t := tOpen) rfl hn (d := ⟨0, 0⟩) (d2 := ⟨1, 0⟩) rfl rfl b3
  have b1 := nest_tok (l := [tMain, tOpen, tPrint] ++ (mks 45 13 (m + 1) ++ rt1 m)) (A := []) (B := tOpen :: tPrint :: (mks 45 13 (m + 1) ++ rt1 m)) (t := tMain) rfl hn (d := ⟨0, 0⟩) (d2 := ⟨0, 0⟩) rfl rfl b2
  obtain ⟨co, h⟩ := parse_bad hlen (no_line h10) hl b1
  exact ⟨a, co, h⟩
theorem bad2 (m : Nat) (h1 : 60 ≤ m) (h2 : m ≤ 2998) : ∃ a co : Int, Ev (fun k => parse_Prog k (src2 (m + 1))) (zN, ⟨a, 1, co, 4⟩) := by
  have hlen : (src2 (m + 1)).length ≤ 16384 := by simp [src2, P2]; omega
  have h10 : (10 : UInt8) ∉ src2 (m + 1) := by simp [src2, P2, List.mem_replicate]
  have hl := lex2 m h2
  have hn : (([tMain] ++ (mks 123 5 (m + 1) ++ rt2 m)) : List TToken).length ≤ 100000 := by simp [mks_len, rt2]; omega
  obtain ⟨a, ha⟩ : ∃ a, EvL (nestB ([tMain] ++ (mks 123 5 (m + 1) ++ rt2 m))) ((([tMain] : List TToken).length : Int), ⟨0, 0⟩) (a, 4) :=
    nest_opens hn (.inr rfl) (m + 1) 5 [tMain] (rt2 m) 0 rfl (by omega) (by omega) (by omega)
  have b1 := nest_tok (l := [tMain] ++ (mks 123 5 (m + 1) ++ rt2 m)) (A := []) (B := mks 123 5 (m + 1) ++ rt2 m) (t := tMain) rfl hn (d := ⟨0, 0⟩) (d2 := ⟨0, 0⟩) rfl rfl ha
  obtain ⟨co, h⟩ := parse_bad hlen (no_line h10) hl b1
  exact ⟨a, co, h⟩
def tailD (k : Nat) (m : Nat) (s : List UInt8) (most : Int) : Option Bool :=
    (parse_Prog k s).bind fun (x30_1_0, x30_1_1) =>
    if (decide ((m : Int) > most)) then
    some (((x30_1_1.Why == 4) && (x30_1_1.Line == 1)) && (x30_1_0.Kind == 0))
    else
    joinK (fun (g33_6_91 : Bool) =>
    some g33_6_91) fun j_g33_6 =>
    if ((x30_1_1.At == 0) && ((x30_1_1.Line == 0) && ((x30_1_1.Col == 0) && (x30_1_1.Why == 0)))) then
    (ref11_Prog k x30_1_0).bind fun x33_5 =>
    j_g33_6 x33_5
    else
    j_g33_6 false
theorem tail_few {m : Nat} {s : List UInt8} {most : Int} (hm : (m : Int) ≤ most) (h : Few s) : Ev (fun k => tailD k m s most) true := by
  obtain ⟨k0, h⟩ := h
  refine ⟨k0, fun k hk => ?_⟩
  obtain ⟨n, h1, h2⟩ := h k hk
  show tailD k m s most = some true
  unfold tailD
  rw [h1]
  simp only [Option.bind_some]
  rw [if_neg (by simpa using hm)]
  simp only [joinK]
  rw [if_pos (by simp), h2]; rfl
theorem tail_bad {m : Nat} {s : List UInt8} {most : Int} (hm : (m : Int) > most) {a co : Int} (h : Ev (fun k => parse_Prog k s) (zN, ⟨a, 1, co, 4⟩)) : Ev (fun k => tailD k m s most) true :=
  Ev.bind h (Ev.ite_t (by simpa using hm) (Ev.of fun _ => rfl))
theorem loop2 {m : Nat} (hm : m < 3000) {p q : List UInt8} (X Y : Nat → List UInt8) (hX : ∀ i, X (i + 1) = X i ++ p) (hY : ∀ i, Y (i + 1) = Y i ++ q) (lX : ∀ i, i ≤ 3000 → (X i).length + p.length ≤ 100000) (lY : ∀ i, i ≤ 3000 → (Y i).length + q.length ≤ 100000)
    {J : Nat → List UInt8 × List UInt8 → Option Bool} {r : Bool} (hJ : Ev (fun k => J k (X m, Y m)) r) :
    Ev (fun k => joinK (J k) fun jj => loopM k (fun ((l2_8, l2_9, l2_10) : List UInt8 × List UInt8 × Int) =>
    if (decide (l2_10 < (m : Int))) then
    if (decide (l2_8.length + p.length ≤ 9223372036854775807)) then
    if (decide (l2_9.length + q.length ≤ 9223372036854775807)) then
    some (.inl ((l2_8 ++ p), (l2_9 ++ q), (IntKind.i64.wrap (l2_10 + 1))))
    else none
    else none
    else
    (jj (l2_8, l2_9)).map .inr) (X 0, Y 0, 0)) r := by
  have key : ∀ d i, i + d = m → EvL (fun k ((l2_8, l2_9, l2_10) : List UInt8 × List UInt8 × Int) =>
    if (decide (l2_10 < (m : Int))) then
    if (decide (l2_8.length + p.length ≤ 9223372036854775807)) then
    if (decide (l2_9.length + q.length ≤ 9223372036854775807)) then
    some (.inl ((l2_8 ++ p), (l2_9 ++ q), (IntKind.i64.wrap (l2_10 + 1))))
    else none
    else none
    else
    (J k (l2_8, l2_9)).map .inr) (X i, Y i, (i : Int)) r := by
    intro d
    induction d with
    | zero =>
      intro i hi
      have : i = m := by omega
      subst this
      exact EvL.done (Ev.ite_f (by simp) (Ev.map hJ))
    | succ d ih =>
      intro i hi
      refine EvL.step (s' := (X (i + 1), Y (i + 1), ((i + 1 : Nat) : Int))) (Ev.ite_t (by simp; omega) (Ev.ite_t (by have := lX i (by omega); simp; omega) (Ev.ite_t (by have := lY i (by omega); simp; omega) (Ev.of fun _ => ?_)))) (ih (i + 1) (by omega))
      rw [hX, hY, wrap64_id (by omega) (by omega)]; rfl
  exact Ev.joinK (Ev.loop (key m 0 (by omega)))
theorem loop1 {m : Nat} (hm : m < 3000) {p : List UInt8} (X : Nat → List UInt8) (hX : ∀ i, X (i + 1) = X i ++ p) (lX : ∀ i, i ≤ 3000 → (X i).length + p.length ≤ 100000)
    {J : Nat → List UInt8 → Option Bool} {r : Bool} (hJ : Ev (fun k => J k (X m)) r) :
    Ev (fun k => joinK (J k) fun jj => loopM k (fun ((l2_8, l2_10) : List UInt8 × Int) =>
    if (decide (l2_10 < (m : Int))) then
    if (decide (l2_8.length + p.length ≤ 9223372036854775807)) then
    some (.inl ((l2_8 ++ p), (IntKind.i64.wrap (l2_10 + 1))))
    else none
    else
    (jj l2_8).map .inr) (X 0, 0)) r := by
  have key : ∀ d i, i + d = m → EvL (fun k ((l2_8, l2_10) : List UInt8 × Int) =>
    if (decide (l2_10 < (m : Int))) then
    if (decide (l2_8.length + p.length ≤ 9223372036854775807)) then
    some (.inl ((l2_8 ++ p), (IntKind.i64.wrap (l2_10 + 1))))
    else none
    else
    (J k l2_8).map .inr) (X i, (i : Int)) r := by
    intro d
    induction d with
    | zero =>
      intro i hi
      have : i = m := by omega
      subst this
      exact EvL.done (Ev.ite_f (by simp) (Ev.map hJ))
    | succ d ih =>
      intro i hi
      refine EvL.step (s' := (X (i + 1), ((i + 1 : Nat) : Int))) (Ev.ite_t (by simp; omega) (Ev.ite_t (by have := lX i (by omega); simp; omega) (Ev.of fun _ => ?_))) (ih (i + 1) (by omega))
      rw [hX, wrap64_id (by omega) (by omega)]; rfl
  exact Ev.joinK (Ev.loop (key m 0 (by omega)))
def put (c : UInt8) (s : List UInt8) : Nat → List UInt8
  | 0 => s
  | i + 1 => put c s i ++ [c]
theorem put_eq (c : UInt8) (s : List UInt8) : ∀ i, put c s i = s ++ List.replicate i c
  | 0 => by simp [put]
  | i + 1 => by rw [put, put_eq c s i, List.append_assoc, List.replicate_succ']
theorem deep_holds (a b : Int) (ha : 0 ≤ a ∧ a < 65536) (hb : 0 ≤ b ∧ b < 256) : Ev (fun k => law15_ParseDeep k a b) true := by
  obtain ⟨m, hm, hlt⟩ : ∃ m : Nat, IntKind.i64.wrap (Int.tmod a 3000) = (m : Int) ∧ m < 3000 := by
    refine ⟨(Int.tmod a 3000).toNat, ?_, ?_⟩
    · have : 0 ≤ Int.tmod a 3000 := Int.tmod_nonneg _ ha.1
      have h2 : Int.tmod a 3000 < 3000 := Int.tmod_lt_of_pos _ (by omega)
      rw [wrap64_id (by omega) (by omega)]; omega
    · have h2 : Int.tmod a 3000 < 3000 := Int.tmod_lt_of_pos _ (by omega)
      omega
  have hw : Int.tmod b 3 = 0 ∨ Int.tmod b 3 = 1 ∨ Int.tmod b 3 = 2 := by
    have : 0 ≤ Int.tmod b 3 := Int.tmod_nonneg _ hb.1
    have h2 : Int.tmod b 3 < 3 := Int.tmod_lt_of_pos _ (by omega)
    omega
  unfold law15_ParseDeep
  rw [hm]
  generalize Int.tmod b 3 = w at hw
  have tail0 : Ev (fun k => tailD k m (src0 m) 59) true := by
    by_cases h : m ≤ 59
    · exact tail_few (by omega) (few0 m h)
    · obtain ⟨j, rfl⟩ : ∃ j, m = j + 1 := ⟨m - 1, by omega⟩
      obtain ⟨a, co, h⟩ := bad0 j (by omega) (by omega)
      exact tail_bad (by omega) h
  have tail1 : Ev (fun k => tailD k m (src1 m) 60) true := by
    by_cases h : m ≤ 60
    · exact tail_few (by omega) (few1 m h)
    · obtain ⟨j, rfl⟩ : ∃ j, m = j + 1 := ⟨m - 1, by omega⟩
      obtain ⟨a, co, h⟩ := bad1 j (by omega) (by omega)
      exact tail_bad (by omega) h
  have tail2 : m ≠ 0 → Ev (fun k => tailD k m (src2 m) 60) true := fun h0 => by
    obtain ⟨j, rfl⟩ : ∃ j, m = j + 1 := ⟨m - 1, by omega⟩
    by_cases h : j < 60
    · exact tail_few (by omega) (few2 j h)
    · obtain ⟨a, co, h⟩ := bad2 j (by omega) (by omega)
      exact tail_bad (by omega) h
  refine Ev.bind works15_ev (Ev.ite_f rfl ?_)
  have hR : ∀ (c : UInt8) (i : Nat), List.replicate (i + 1) c = List.replicate i c ++ [c] := fun c i => List.replicate_succ'
  have r40 : ∀ (c : UInt8) (i : Nat), i ≤ 3000 → (List.replicate i c).length + [c].length ≤ 100000 := fun c i hi => by simp; omega
  rcases hw with rfl | rfl | rfl
  · refine Ev.joinK (Ev.ite_f rfl ?_)
    refine loop2 hlt (fun i => List.replicate i 40) (fun i => List.replicate i 41) (hR 40) (hR 41) (r40 40) (r40 41) (p := [40]) (q := [41]) ?_
    refine Ev.ite_t (by simp; omega) (Ev.ite_t (by simp; omega) (Ev.ite_t (by simp; omega) (Ev.ite_t (by simp; omega) ?_)))
    refine Ev.joinK (Ev.ite_f rfl (Ev.joinK (Ev.ite_f rfl ?_)))
    have e : ((([109, 97, 105, 110, 32, 123, 32, 112, 114, 105, 110, 116, 32] ++ List.replicate m (40 : UInt8)) ++ [49]) ++ List.replicate m 41) ++ [59, 32, 125] = src0 m := by simp [src0, P0]
    rw [e]; exact tail0
  · refine Ev.joinK (Ev.ite_t rfl ?_)
    refine loop2 hlt (fun i => List.replicate i 45) (fun i => []) (hR 45) (fun _ => rfl) (r40 45) (fun _ _ => by simp) (p := [45]) (q := []) ?_
    refine Ev.ite_t (by simp; omega) (Ev.ite_t (by simp; omega) (Ev.ite_t (by simp; omega) (Ev.ite_t (by simp; omega) ?_)))
    refine Ev.joinK (Ev.ite_t rfl (Ev.joinK (Ev.ite_f rfl ?_)))
    have e : ((([109, 97, 105, 110, 32, 123, 32, 112, 114, 105, 110, 116, 32] ++ List.replicate m (45 : UInt8)) ++ [49]) ++ []) ++ [59, 32, 125] = src1 m := by simp [src1, P0]
    rw [e]; exact tail1
  · refine Ev.joinK (Ev.ite_f rfl ?_)
    refine loop2 hlt (fun i => List.replicate i 40) (fun i => List.replicate i 41) (hR 40) (hR 41) (r40 40) (r40 41) (p := [40]) (q := [41]) ?_
    refine Ev.ite_t (by simp; omega) (Ev.ite_t (by simp; omega) (Ev.ite_t (by simp; omega) (Ev.ite_t (by simp; omega) ?_)))
    refine Ev.joinK (Ev.ite_f rfl (Ev.joinK (Ev.ite_t rfl ?_)))
    refine loop1 hlt (fun i => P2 ++ List.replicate i 123) (fun i => by rw [hR, List.append_assoc]) (fun i hi => by simp [P2]; omega) (p := [123]) ?_
    refine loop1 hlt (put 125 (P2 ++ List.replicate m 123)) (fun i => rfl) (fun i hi => by rw [put_eq]; simp [P2]; omega) (p := [125]) ?_
    by_cases h0 : m = 0
    · exact Ev.ite_t (by simp [h0]) Ev.pure
    · refine Ev.ite_f (by simp; omega) ?_
      rw [put_eq]
      have e : (P2 ++ List.replicate m 123) ++ List.replicate m 125 = src2 m := by simp [src2]
      rw [e]; exact tail2 h0
end Go.Proofs.YtjakhfaodfaimaaDoor.F
