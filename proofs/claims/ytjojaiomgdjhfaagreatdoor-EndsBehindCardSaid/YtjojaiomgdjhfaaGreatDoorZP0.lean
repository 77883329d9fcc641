/- The plain law. No condition. -/
import Derived.Test.YtjojaiomgdjhfaaGreatDoorZA1
import Derived.Test.YtjojaiomgdjhfaaGreatDoorZF0
import Derived.KernelRfl
import Derived.Test.YtjojaiomgdjhfaaGreatDoorZY0
import Derived.Test.YtjojaiomgdjhfaaGreatDoorZA2
set_option linter.unusedVariables false
namespace Go.Proofs.YtjojaiomgdjhfaaGreatDoor.F
open Go
def Ev {α : Type} (g : Nat → Option α) (x : α) : Prop := ∃ k0, ∀ k, k0 ≤ k → g k = some x
def EvL {σ ρ : Type} (body : Nat → σ → Option (σ ⊕ ρ)) (s : σ) (r : ρ) : Prop := ∃ k0, ∀ k j, k0 ≤ k → k0 ≤ j → loopM j (body k) s = some r
section
variable {α β σ ρ : Type}
theorem Ev.of {g : Nat → Option α} {x : α} (h : ∀ k, g k = some x) : Ev g x := ⟨0, fun k _ => h k⟩
theorem Ev.at {g : Nat → Option α} {x : α} (n : Nat) (h : ∀ k, g (k + n) = some x) : Ev g x := ⟨n, fun k hk => by have := h (k - n); rwa [show k - n + n = k by omega] at this⟩
theorem Ev.pure {x : α} : Ev (fun _ => some x) x := ⟨0, fun _ _ => rfl⟩
theorem Ev.bind {g : Nat → Option α} {f : Nat → α → Option β} {x : α} {y : β} (h : Ev g x) (h2 : Ev (fun k => f k x) y) : Ev (fun k => (g k).bind (f k)) y := by
  obtain ⟨k1, h1⟩ := h
  obtain ⟨k2, h2⟩ := h2
  exact ⟨max k1 k2, fun k hk => by show (g k).bind (f k) = _; rw [h1 k (by omega)]; exact h2 k (by omega)⟩
theorem Ev.ite_t {c : Bool} {A B : Nat → Option α} {x : α} (hc : c = true) (h : Ev A x) : Ev (fun k => if c = true then A k else B k) x := by
  obtain ⟨k1, h1⟩ := h
  exact ⟨k1, fun k hk => by show (if c = true then A k else B k) = _; rw [if_pos hc]; exact h1 k hk⟩
theorem Ev.ite_f {c : Bool} {A B : Nat → Option α} {x : α} (hc : c = false) (h : Ev B x) : Ev (fun k => if c = true then A k else B k) x := by
  obtain ⟨k1, h1⟩ := h
  exact ⟨k1, fun k hk => by show (if c = true then A k else B k) = _; rw [if_neg (by rw [hc]; simp)]; exact h1 k hk⟩
theorem Ev.map {g : Nat → Option ρ} {r : ρ} (h : Ev g r) : Ev (fun k => (g k).map (Sum.inr (α := σ))) (.inr r) := by
  obtain ⟨k1, h1⟩ := h
  exact ⟨k1, fun k hk => by show (g k).map _ = _; rw [h1 k hk]; rfl⟩
theorem Ev.succ {g h : Nat → Option α} {x : α} (e : ∀ k, g (k + 1) = h k) (hh : Ev h x) : Ev g x := by
  obtain ⟨k1, h1⟩ := hh
  refine ⟨k1 + 1, fun k hk => ?_⟩
  obtain ⟨k, rfl⟩ : ∃ j, k = j + 1 := ⟨k - 1, by omega⟩
  rw [e]; exact h1 k (by omega)
theorem Ev.congr {g h : Nat → Option α} {x : α} (e : ∀ k, g k = h k) (hh : Ev h x) : Ev g x := by
  obtain ⟨k1, h1⟩ := hh
  exact ⟨k1, fun k hk => by rw [e]; exact h1 k hk⟩
theorem Ev.eq {g : Nat → Option α} {x y : α} (h : Ev g x) (e : x = y) : Ev g y := e ▸ h
theorem EvL.done {body : Nat → σ → Option (σ ⊕ ρ)} {s : σ} {r : ρ} (h : Ev (fun k => body k s) (.inr r)) : EvL body s r := by
  obtain ⟨k1, h1⟩ := h
  refine ⟨k1 + 1, fun k j hk hj => ?_⟩
  obtain ⟨j, rfl⟩ : ∃ i, j = i + 1 := ⟨j - 1, by omega⟩
  have := h1 k (by omega)
  simp only at this
  rw [loopM_step, this]
theorem EvL.step {body : Nat → σ → Option (σ ⊕ ρ)} {s s' : σ} {r : ρ} (h : Ev (fun k => body k s) (.inl s')) (h2 : EvL body s' r) : EvL body s r := by
  obtain ⟨k1, h1⟩ := h
  obtain ⟨k2, h2⟩ := h2
  refine ⟨k1 + k2 + 1, fun k j hk hj => ?_⟩
  obtain ⟨j, rfl⟩ : ∃ i, j = i + 1 := ⟨j - 1, by omega⟩
  have := h1 k (by omega)
  simp only at this
  rw [loopM_step, this]
  exact h2 k j (by omega) (by omega)
theorem Ev.loop {body : Nat → σ → Option (σ ⊕ ρ)} {s : σ} {r : ρ} (h : EvL body s r) : Ev (fun k => loopM k (body k) s) r := by
  obtain ⟨k1, h1⟩ := h
  exact ⟨k1, fun k hk => h1 k k hk hk⟩
theorem Ev.joinK {J : Nat → α → Option ρ} {B : Nat → (α → Option ρ) → Option ρ} {r : ρ} (h : Ev (fun k => B k (J k)) r) : Ev (fun k => F.joinK (J k) (B k)) r := h
theorem Ev.uniq {g : Nat → Option α} {x y : α} (h : Ev g x) (h2 : Ev g y) : x = y := by
  obtain ⟨k1, h1⟩ := h
  obtain ⟨k2, h2⟩ := h2
  have a := h1 (max k1 k2) (by omega)
  have b := h2 (max k1 k2) (by omega)
  rw [a] at b; exact Option.some.inj b
end
theorem Ev.succ1 {α : Type} {f : Nat → Option α} {x : α} (h : Ev (fun k => f (k + 1)) x) : Ev f x := Ev.succ (fun _ => rfl) h
theorem ix_nat {α : Type} {l : List α} {i : Nat} (h : i < l.length) : ix l (i : Int) = some l[i] := by unfold ix; rw [if_pos (by omega)]; simp [h]
theorem room_of {b n : Nat} (h0 : 0 < b) (h : (2 * n + 1024) * b ≤ 140737488355328) : room b n = true := by unfold room; exact decide_eq_true ⟨h0, h⟩
end Go.Proofs.YtjojaiomgdjhfaaGreatDoor.F
set_option linter.unusedSimpArgs false
set_option maxRecDepth 100000
namespace Go.Proofs.YtjojaiomgdjhfaaGreatDoor.F
open Go
theorem w64 {x : Int} (h : -9223372036854775808 ≤ x) (h2 : x ≤ 9223372036854775807) : IntKind.i64.wrap x = x := by
  simp only [IntKind.wrap, IntKind.bits, IntKind.signed]
  simp
  omega
theorem wu64 {x : Int} (h : 0 ≤ x) (h2 : x < 18446744073709551616) : IntKind.u64.wrap x = x := by
  simp only [IntKind.wrap, IntKind.bits, IntKind.signed]
  simp
  omega
theorem u64nn (x : Int) : 0 ≤ IntKind.u64.wrap x := by
  simp only [IntKind.wrap, IntKind.bits, IntKind.signed]
  simp
  omega
def EB (n : TNode) (b : Bool) : Prop := Ev (fun k => ends_Stmt k n) b
def Fin (n : TNode) : Prop := ∃ b, EB n b
noncomputable def en (n : TNode) : Bool := by
  classical exact if h : ∃ b, EB n b then h.choose else false
theorem Fin.en {n : TNode} (h : Fin n) : EB n (en n) := by
  have h' : ∃ b, EB n b := h
  unfold F.en
  rw [dif_pos h']
  exact h'.choose_spec
theorem EB.en {n : TNode} {b : Bool} (h : EB n b) : en n = b := Ev.uniq (Fin.en ⟨b, h⟩) h
theorem eb_ret {n : TNode} (h : n.Kind = 35) : EB n true := by
  refine Ev.succ1 ?_
  simp only [ends_Stmt, h]
  exact Ev.pure
theorem eb_other {n : TNode} (h : n.Kind ≠ 35) (h2 : n.Kind ≠ 30) (h3 : n.Kind ≠ 33) : EB n false := by
  refine Ev.succ1 ?_
  have e1 : (n.Kind == 35) = false := by simpa using h
  have e2 : (n.Kind == 30) = false := by simpa using h2
  have e3 : (n.Kind == 33) = false := by simpa using h3
  simp only [ends_Stmt, e1, e2, e3]
  exact Ev.pure
theorem eb_if0 {n : TNode} (h : n.Kind = 33) (h2 : n.Kids.length ≠ 3) : EB n false := by
  refine Ev.succ1 ?_
  have e1 : ((n.Kids.length : Int) == 3) = false := by
    simp only [beq_eq_false_iff_ne, ne_eq]; omega
  simp only [ends_Stmt, h, e1, joinK]
  exact Ev.pure
theorem eb_if {n a b c : TNode} {x y : Bool} (h : n.Kind = 33) (h2 : n.Kids = [a, b, c]) (hb : EB b x) (hc : EB c y) : EB n (x && y) := by
  refine Ev.succ1 ?_
  have e1 : ix [a, b, c] 1 = some b := rfl
  have e2 : ix [a, b, c] 2 = some c := rfl
  have e3 : ((([a, b, c] : List TNode).length : Int) == 3) = true := rfl
  have e4 : ((33 : Int) == 35) = false := rfl
  have e5 : ((33 : Int) == 30) = false := rfl
  have e6 : ((33 : Int) == 33) = true := rfl
  simp only [ends_Stmt, h, h2, e1, e2, e3, e4, e5, e6, joinK, Option.bind_some, Bool.false_eq_true, if_false, if_true]
  refine Ev.bind hb ?_
  cases x with
  | false => simp only [Bool.false_eq_true, if_false]; exact Ev.pure
  | true =>
    simp only [if_true]
    exact Ev.bind hc Ev.pure
theorem ix_loop (l : List TNode) (hl : l.length ≤ 1000000000) (hf : ∀ x ∈ l, Fin x) : ∀ m i : Nat, i + m = l.length → ∃ r : Int, EvL (fun k (l1_8 : Int) =>
    if (decide (l1_8 < (l.length : Int))) then
    (ix l l1_8).bind fun x4_3 =>
    (ends_Stmt k x4_3).bind fun x4_5 =>
    if x4_5 then
    some (.inr l1_8)
    else
    some (.inl (IntKind.i64.wrap (l1_8 + 1)))
    else
    ((some (-1) : Option Int)).map .inr) (i : Int) r ∧ decide (r ≥ 0) = (l.drop i).any en
  | 0, i, h => by
    refine ⟨-1, EvL.done ?_, ?_⟩
    · rw [show (decide ((i : Int) < (l.length : Int))) = false by simp; omega]
      exact Ev.pure
    · rw [List.drop_of_length_le (by omega)]; rfl
  | m + 1, i, h => by
    have hi : i < l.length := by omega
    have e1 : (decide ((i : Int) < (l.length : Int))) = true := by simp; omega
    have hF := (hf l[i] (List.getElem_mem hi)).en
    rw [List.drop_eq_getElem_cons hi, List.any_cons]
    cases he : F.en l[i] with
    | true =>
      rw [he] at hF
      refine ⟨i, EvL.done ?_, by simp⟩
      simp only [e1, if_true, ix_nat hi, Option.bind_some]
      refine Ev.bind hF ?_
      exact Ev.pure
    | false =>
      rw [he] at hF
      obtain ⟨r, r1, r2⟩ := ix_loop l hl hf m (i + 1) (by omega)
      refine ⟨r, EvL.step (s' := ((i + 1 : Nat) : Int)) ?_ r1, by rw [r2]; simp⟩
      simp only [e1, if_true, ix_nat hi, Option.bind_some]
      refine Ev.bind hF ?_
      simp only [Bool.false_eq_true, if_false]
      rw [w64 (by omega) (by omega)]
      exact Ev.pure
theorem eb_block {n : TNode} (h : n.Kind = 30) (hl : n.Kids.length ≤ 1000000000) (hf : ∀ x ∈ n.Kids, Fin x) : EB n (n.Kids.any en) := by
  obtain ⟨r, r1, r2⟩ := ix_loop n.Kids hl hf n.Kids.length 0 (by omega)
  have hi : Ev (fun k => slices_IndexFunc_Node k n.Kids) r := by
    refine Ev.succ1 ?_
    simp only [slices_IndexFunc_Node, joinK]
    exact Ev.loop r1
  have hc : Ev (fun k => slices_ContainsFunc_Node k n.Kids) (n.Kids.any en) := by
    refine Ev.succ1 ?_
    simp only [slices_ContainsFunc_Node]
    refine Ev.bind hi ?_
    rw [r2]; exact Ev.pure
  refine Ev.succ1 ?_
  have e4 : ((30 : Int) == 35) = false := rfl
  have e5 : ((30 : Int) == 30) = true := rfl
  simp only [ends_Stmt, h, e4, e5, Bool.false_eq_true, if_false, if_true]
  exact Ev.bind hc Ev.pure
end Go.Proofs.YtjojaiomgdjhfaaGreatDoor.F
namespace Go.Proofs.YtjojaiomgdjhfaaGreatDoor.F
open Go
theorem next_ex {a : Int} (ha : 0 < a) (ha2 : a ≤ 1000) (L : List Int) {u : Int} (hu : 0 ≤ u) (hu2 : u ≤ 100000000) : ∃ x, (∀ k, ref11_Seeds_Next k a L u = some (x, u + 1)) ∧ 0 ≤ x ∧ x < a := by
  have ea : (IntKind.u64.wrap a == 0) = false := by rw [wu64 (by omega) (by omega)]; simp; omega
  have one : ∀ y : Int, ∃ x, (if (IntKind.u64.wrap a == 0) = true then none else some (IntKind.i64.wrap (Int.tmod (IntKind.u64.wrap y) (IntKind.u64.wrap a)), IntKind.i64.wrap (u + 1))) = some (x, u + 1) ∧ 0 ≤ x ∧ x < a := by
    intro y
    have h1 := u64nn y
    have h2 : 0 ≤ Int.tmod (IntKind.u64.wrap y) a := Int.tmod_nonneg _ h1
    have h3 : Int.tmod (IntKind.u64.wrap y) a < a := Int.tmod_lt_of_pos _ ha
    refine ⟨Int.tmod (IntKind.u64.wrap y) a, ?_, h2, h3⟩
    rw [ea, wu64 (x := a) (by omega) (by omega), w64 (x := Int.tmod _ _) (by omega) (by omega), w64 (x := u + 1) (by omega) (by omega)]
    rfl
  unfold ref11_Seeds_Next
  simp only [joinK]
  by_cases h : u < (L.length : Int)
  · have e1 : decide (u < (L.length : Int)) = true := decide_eq_true h
    simp only [e1, if_true]
    rw [show ix L u = some L[u.toNat] from by unfold ix; rw [if_pos hu, List.getElem?_eq_getElem (by omega)]]
    simp only [Option.bind_some]
    obtain ⟨x, h1, h2, h3⟩ := one L[u.toNat]
    exact ⟨x, fun k => h1, h2, h3⟩
  · have e1 : decide (u < (L.length : Int)) = false := decide_eq_false h
    simp only [e1, Bool.false_eq_true, if_false]
    obtain ⟨x, h1, h2, h3⟩ := one 0
    exact ⟨x, fun k => h1, h2, h3⟩
def G1 {α : Type} (P : α → Prop) (c u : Int) (g : Nat → Option (α × Int)) : Prop :=
  0 ≤ u → u + c ≤ 100000000 → ∃ n u', Ev g (n, u') ∧ P n ∧ u ≤ u' ∧ u' ≤ u + c
def G {α : Type} (P : α → Prop) (c : Int) (g : Nat → Int → Option (α × Int)) : Prop := ∀ u, G1 P c u (fun k => g k u)
section
variable {α β : Type} {P : α → Prop} {Q : β → Prop} {c c' c1 c2 u : Int}
theorem G1.mono {P' : α → Prop} {g : Nat → Option (α × Int)} (h : G1 P c u g) (hp : ∀ n, P n → P' n) (hc : c ≤ c') : G1 P' c' u g := by
  intro h1 h2
  obtain ⟨n, u', k1, k2, k3, k4⟩ := h h1 (by omega)
  exact ⟨n, u', k1, hp n k2, k3, by omega⟩
theorem G1.more {g : Nat → Option (α × Int)} (h : G1 P c u g) (hc : c ≤ c') : G1 P c' u g := h.mono (fun _ h => h) hc
theorem G1.pure {x : α} (h : P x) (hc : 0 ≤ c) : G1 P c u (fun _ => some (x, u)) := fun _ _ => ⟨x, u, Ev.pure, h, by omega, by omega⟩
theorem G1.bind {g : Nat → Int → Option (α × Int)} {f : Nat → α × Int → Option (β × Int)} (h : G P c1 g) (h0 : 0 ≤ c2) (h2 : ∀ n, P n → ∀ u, G1 Q c2 u (fun k => f k (n, u))) : G1 Q (c1 + c2) u (fun k => (g k u).bind (f k)) := by
  intro k1 k2
  obtain ⟨n, u1, a1, a2, a3, a4⟩ := h u k1 (by omega)
  obtain ⟨m, u2, b1, b2, b3, b4⟩ := h2 n a2 u1 (by omega) (by omega)
  exact ⟨m, u2, Ev.bind a1 b1, b2, by omega, by omega⟩
theorem G1.ite {b : Bool} {inst : Nat → Decidable (b = true)} {g1 g2 : Nat → Option (α × Int)} (h1 : b = true → G1 P c u g1) (h2 : b = false → G1 P c u g2) : G1 P c u (fun k => @_root_.ite _ (b = true) (inst k) (g1 k) (g2 k)) := by
  cases b with
  | true => rw [show (fun k => @_root_.ite _ (true = true) (inst k) (g1 k) (g2 k)) = g1 from by funext k; exact if_pos rfl]; exact h1 rfl
  | false => rw [show (fun k => @_root_.ite _ (false = true) (inst k) (g1 k) (g2 k)) = g2 from by funext k; exact if_neg (by simp)]; exact h2 rfl
theorem G1.succ {g h : Nat → Option (α × Int)} (e : ∀ k, g (k + 1) = h k) (hh : G1 P c u h) : G1 P c u g := by
  intro k1 k2
  obtain ⟨n, u1, a1, a2⟩ := hh k1 k2
  exact ⟨n, u1, Ev.succ e a1, a2⟩
end
variable (L : List Int)
theorem g_next {a : Int} (ha : 0 < a) (ha2 : a ≤ 1000) : G (fun x => 0 ≤ x ∧ x < a) 1 (fun k u => ref11_Seeds_Next k a L u) := by
  intro u h1 h2
  obtain ⟨x, k1, k2, k3⟩ := next_ex ha ha2 L h1 (by omega)
  exact ⟨x, u + 1, Ev.of k1, ⟨k2, k3⟩, by omega, by omega⟩
theorem g_word : G (fun _ => True) 1 (fun k u => ref11_Seeds_Word k L u) := by
  intro u
  unfold ref11_Seeds_Word
  refine G1.more (G1.bind (c2 := 0) (g_next L (a := 10) (by omega) (by omega)) (by omega) fun x hx u => ?_) (by omega)
  dsimp only
  obtain ⟨m, rfl⟩ : ∃ m : Nat, x = (m : Int) := ⟨x.toNat, by omega⟩
  have hm : m < ([[97], [98], [99, 49], [95, 120], [108, 101, 110], [102], [103], [80], [109], [81]] : List (List UInt8)).length := by
    show m < 10; omega
  rw [ix_nat hm]
  exact G1.pure trivial (by omega)
def cT (d : Nat) : Int := 2 * d + 2
theorem g_type : ∀ d : Nat, d ≤ 100 → G (fun _ => True) (cT d) (fun k u => ref11_GrowType k (d : Int) L u)
  | 0, hd => by
    intro u
    refine G1.succ (fun k => rfl) ?_
    refine G1.more (G1.bind (c2 := 1) (g_next L (a := 6) (by omega) (by omega)) (by omega) fun x hx u => ?_) (by decide)
    dsimp only
    refine G1.ite (fun h => by simp at h) (fun _ => ?_)
    refine G1.ite (fun h => ?_) (fun _ => G1.pure trivial (by omega))
    refine G1.more (G1.bind (c2 := 0) (g_word L) (by omega) fun s _ u => ?_) (by omega)
    exact G1.pure trivial (by omega)
  | d + 1, hd => by
    have ih := g_type d (by omega)
    have hT : 0 ≤ cT d := by unfold cT; omega
    intro u
    refine G1.succ (fun k => rfl) ?_
    refine G1.more (G1.bind (c2 := 1 + cT d) (g_next L (a := 6) (by omega) (by omega)) (by omega) fun x hx u => ?_) (by unfold cT; omega)
    dsimp only
    refine G1.ite (fun h => ?_) (fun _ => ?_)
    · rw [w64 (x := ((d + 1 : Nat) : Int) - 1) (by omega) (by omega), show ((d + 1 : Nat) : Int) - 1 = d by omega]
      refine G1.more (G1.bind (c2 := 0) ih (by omega) fun s _ u => ?_) (by omega)
      exact G1.pure trivial (by omega)
    refine G1.ite (fun h => ?_) (fun _ => G1.pure trivial (by omega))
    refine G1.more (G1.bind (c2 := 0) (g_word L) (by omega) fun s _ u => ?_) (by omega)
    exact G1.pure trivial (by omega)
theorem g_loop {g : Nat → Int → Option (TNode × Int)} {P : TNode → Prop} {c : Int} (hc : 0 ≤ c) (hg : G P c g) {β : Type} (J : List TNode → β) (x : Int) (hx : x ≤ 10) : ∀ (m : Nat) (l : List TNode) (i u : Int), 0 ≤ i → i + m = max i x → (∀ n ∈ l, P n) → l.length + m ≤ 1000 → 0 ≤ u → u + m * c ≤ 100000000 →
    ∃ l' u', EvL (fun k (s : List TNode × Int × Int) => match s with
      | (l1_5, l1_7, l1_oext0_1) =>
        if (decide (l1_7 < x)) then
        (g k l1_oext0_1).bind fun (x6_3_0, x6_3_1) =>
        if (room 64 (l1_5.length + [x6_3_0].length)) then
        some (.inl ((l1_5 ++ [x6_3_0]), (IntKind.i64.wrap (l1_7 + 1)), x6_3_1))
        else none
        else
        ((some (J l1_5, l1_oext0_1) : Option (β × Int))).map .inr) (l, i, u) (J l', u') ∧ (∀ n ∈ l', P n) ∧ l'.length = l.length + m ∧ u ≤ u' ∧ u' ≤ u + m * c
  | 0, l, i, u, hi, hm, hP, hl, hu, hb => by
    refine ⟨l, u, EvL.done ?_, hP, by omega, by omega, by omega⟩
    dsimp only
    rw [show decide (i < x) = false from decide_eq_false (by omega)]
    exact Ev.pure
  | m + 1, l, i, u, hi, hm, hP, hl, hu, hb => by
    have e : ((m + 1 : Nat) : Int) * c = m * c + c := by
      rw [show ((m + 1 : Nat) : Int) = (m : Int) + 1 by omega, Int.add_mul, Int.one_mul]
    have hmc : 0 ≤ (m : Int) * c := Int.mul_nonneg (by omega) hc
    rw [e] at hb
    obtain ⟨n, u1, a1, a2, a3, a4⟩ := hg u hu (by omega)
    obtain ⟨l', u', b1, b2, b3, b4, b5⟩ := g_loop hc hg J x hx m (l ++ [n]) (i + 1) u1 (by omega) (by omega) (fun y hy => by
      rcases List.mem_append.1 hy with hy | hy
      · exact hP y hy
      · simp only [List.mem_singleton] at hy; subst hy; exact a2) (by simp; omega) (by omega) (by omega)
    refine ⟨l', u', EvL.step (s' := (l ++ [n], i + 1, u1)) ?_ b1, b2, by rw [b3]; simp; omega, by omega, by rw [e]; omega⟩
    dsimp only
    rw [show decide (i < x) = true from decide_eq_true (by omega)]
    simp only [if_true]
    refine Ev.bind a1 ?_
    dsimp only
    rw [room_of (by omega) (by simp; omega), w64 (by omega) (by omega)]
    exact Ev.pure
end Go.Proofs.YtjojaiomgdjhfaaGreatDoor.F
namespace Go.Proofs.YtjojaiomgdjhfaaGreatDoor.F
open Go
variable (L : List Int)
theorem g_exprs {a e : Int} (he : 0 ≤ e) (hg : G (fun _ => True) e (fun k u => ref11_GrowExpr k a L u)) : G (fun l : List TNode => l.length ≤ 2) (1 + 2 * e) (fun k u => ref11_GrowExprs k a L u) := by
  intro u
  refine G1.succ (fun k => rfl) ?_
  refine G1.bind (g_next L (a := 3) (by omega) (by omega)) (by omega) fun x hx u => ?_
  intro hu hb
  have hm : (x.toNat : Int) = x := by omega
  have hme : (x.toNat : Int) * e ≤ 2 * e := Int.mul_le_mul_of_nonneg_right (by omega) he
  obtain ⟨l', u', e1, e2, e3, e4, e5⟩ := g_loop he hg (fun l => l) x (by omega) x.toNat [] 0 u (by omega) (by omega) (fun n hn => by cases hn) (by simp; omega) hu (by omega)
  exact ⟨l', u', Ev.loop e1, by show l'.length ≤ 2; rw [e3]; simp; omega, e4, by omega⟩
theorem g_expr_step (d : Nat) (hd : d ≤ 100) (e : Int) (he : 0 ≤ e) (hr : 1 ≤ d → G (fun _ => True) e (fun k u => ref11_GrowExpr k ((d : Int) - 1) L u)) : G (fun _ => True) (20 + 2 * e) (fun k u => ref11_GrowExpr k (d : Int) L u) := by
  intro u
  refine G1.succ (fun k => rfl) ?_
  refine G1.more (G1.bind (c2 := 10 + 2 * e) (g_next L (a := 14) (by omega) (by omega)) (by omega) fun x hx u => ?_) (by omega)
  have hw : IntKind.i64.wrap ((d : Int) - 1) = (d : Int) - 1 := w64 (by omega) (by omega)
  dsimp only [joinK]
  simp only [hw]
  have hx3 : 0 ≤ Int.tmod x 3 := Int.tmod_nonneg _ hx.1
  have hx4 : Int.tmod x 3 < 3 := Int.tmod_lt_of_pos _ (by omega)
  have hj : ∀ j : Int, (decide ((d : Int) < 1) = true → j < 3) → 3 ≤ j → 1 ≤ d := by
    intro j h1 h2
    rcases Nat.eq_zero_or_pos d with h | h
    · subst h
      have := h1 (by decide)
      omega
    · exact h
  refine G1.ite (fun hd1 => ?_) (fun hd1 => ?_)
  · have h3 := hj (Int.tmod x 3) (fun _ => hx4)
    generalize Int.tmod x 3 = j at *
    refine G1.ite (fun h0 => ?_) (fun n0 => ?_)
    · refine G1.more (G1.bind (c2 := 0) (g_next L (a := 100) (by omega) (by omega)) (by omega) fun y _ u => ?_) (by omega)
      exact G1.pure trivial (by omega)
    refine G1.ite (fun h0 => ?_) (fun n1 => ?_)
    · refine G1.more (G1.bind (c2 := 0) (g_next L (a := 2) (by omega) (by omega)) (by omega) fun y _ u => ?_) (by omega)
      exact G1.pure trivial (by omega)
    refine G1.ite (fun h0 => ?_) (fun n2 => ?_)
    · refine G1.more (G1.bind (c2 := 0) (g_word L) (by omega) fun y _ u => ?_) (by omega)
      exact G1.pure trivial (by omega)
    exfalso
    simp only [beq_eq_false_iff_ne, ne_eq] at n0 n1 n2
    omega
  · have hd2 : 1 ≤ d := by simp at hd1; omega
    have hr := hr hd2
    have hrs := g_exprs L he hr
    refine G1.ite (fun h0 => ?_) (fun n0 => ?_)
    · refine G1.more (G1.bind (c2 := 0) (g_next L (a := 100) (by omega) (by omega)) (by omega) fun y _ u => ?_) (by omega)
      exact G1.pure trivial (by omega)
    refine G1.ite (fun h0 => ?_) (fun n1 => ?_)
    · refine G1.more (G1.bind (c2 := 0) (g_next L (a := 2) (by omega) (by omega)) (by omega) fun y _ u => ?_) (by omega)
      exact G1.pure trivial (by omega)
    refine G1.ite (fun h0 => ?_) (fun n2 => ?_)
    · refine G1.more (G1.bind (c2 := 0) (g_word L) (by omega) fun y _ u => ?_) (by omega)
      exact G1.pure trivial (by omega)
    refine G1.ite (fun h0 => ?_) (fun n3 => ?_)
    · refine G1.more (G1.bind (c2 := e) hr (by omega) fun y _ u => ?_) (by omega)
      refine G1.more (G1.bind (c2 := 0) hr (by omega) fun y _ u => ?_) (by omega)
      exact G1.pure trivial (by omega)
    refine G1.ite (fun h0 => ?_) (fun n4 => ?_)
    · refine G1.more (G1.bind (c2 := e) (g_word L) (by omega) fun y _ u => ?_) (by omega)
      refine G1.more (G1.bind (c2 := 0) hr (by omega) fun y _ u => ?_) (by omega)
      exact G1.pure trivial (by omega)
    refine G1.ite (fun h0 => ?_) (fun n5 => ?_)
    · refine G1.more (G1.bind (c2 := e) (g_next L (a := 2) (by omega) (by omega)) (by omega) fun y _ u => ?_) (by omega)
      refine G1.more (G1.bind (c2 := 0) hr (by omega) fun y _ u => ?_) (by omega)
      exact G1.pure trivial (by omega)
    refine G1.ite (fun h0 => ?_) (fun n6 => ?_)
    · refine G1.more (G1.bind (c2 := 1 + 2 * e) (g_word L) (by omega) fun y _ u => ?_) (by omega)
      refine G1.more (G1.bind (c2 := 0) hrs (by omega) fun y _ u => ?_) (by omega)
      exact G1.pure trivial (by omega)
    refine G1.ite (fun h0 => ?_) (fun n7 => ?_)
    · refine G1.more (G1.bind (c2 := 1 + 2 * e) (g_type L 2 (by omega)) (by omega) fun y _ u => ?_) (by unfold cT; omega)
      refine G1.more (G1.bind (c2 := 0) hrs (by omega) fun z hz u => ?_) (by omega)
      dsimp only
      rw [show room 64 ([y].length + z.length) = true from room_of (by omega) (by simp; omega)]
      exact G1.pure trivial (by omega)
    refine G1.more (G1.bind (c2 := 2 * e) (g_next L (a := 13) (by omega) (by omega)) (by omega) fun y _ u => ?_) (by omega)
    refine G1.more (G1.bind (c2 := e) hr (by omega) fun y _ u => ?_) (by omega)
    refine G1.more (G1.bind (c2 := 0) hr (by omega) fun y _ u => ?_) (by omega)
    exact G1.pure trivial (by omega)
def cX : Nat → Int
  | 0 => 20
  | d + 1 => 20 + 2 * cX d
theorem cX_nn : ∀ d, 0 ≤ cX d
  | 0 => by decide
  | d + 1 => by have := cX_nn d; unfold cX; omega
theorem g_expr : ∀ d : Nat, d ≤ 100 → G (fun _ => True) (cX d) (fun k u => ref11_GrowExpr k (d : Int) L u)
  | 0, hd => g_expr_step L 0 hd 0 (by omega) (fun h => by omega)
  | d + 1, hd => g_expr_step L (d + 1) hd (cX d) (cX_nn d) (fun _ => by
      have := g_expr d (by omega)
      rw [show ((d + 1 : Nat) : Int) - 1 = d by omega]; exact this)
def cP : Nat → Int
  | 0 => 70
  | d + 1 => 70 + cP d
theorem cP_nn : ∀ d, 0 ≤ cP d
  | 0 => by decide
  | d + 1 => by have := cP_nn d; unfold cP; omega
theorem g_place : ∀ d : Nat, d ≤ 100 → G (fun _ => True) (cP d) (fun k u => ref11_growPlace k (d : Int) L u)
  | 0, hd => by
    intro u
    refine G1.succ (fun k => rfl) ?_
    refine G1.more (G1.bind (c2 := 1) (g_next L (a := 4) (by omega) (by omega)) (by omega) fun x hx u => ?_) (by decide)
    dsimp only
    refine G1.ite (fun h => ?_) (fun h => by simp at h)
    refine G1.more (G1.bind (c2 := 0) (g_word L) (by omega) fun s _ u => ?_) (by omega)
    exact G1.pure trivial (by omega)
  | d + 1, hd => by
    have ih := g_place d (by omega)
    have hP := cP_nn d
    have h1 := g_expr L 1 (by omega)
    intro u
    refine G1.succ (fun k => rfl) ?_
    refine G1.more (G1.bind (c2 := 65 + cP d) (g_next L (a := 4) (by omega) (by omega)) (by omega) fun x hx u => ?_) (by show _ ≤ 70 + cP d; omega)
    have hw : IntKind.i64.wrap (((d + 1 : Nat) : Int) - 1) = (d : Int) := by rw [w64 (by omega) (by omega)]; omega
    dsimp only
    simp only [hw]
    refine G1.ite (fun h => ?_) (fun h => ?_)
    · refine G1.more (G1.bind (c2 := 0) (g_word L) (by omega) fun s _ u => ?_) (by omega)
      exact G1.pure trivial (by omega)
    refine G1.ite (fun h => ?_) (fun h => ?_)
    · refine G1.more (G1.bind (c2 := cP d) (g_word L) (by omega) fun s _ u => ?_) (by omega)
      refine G1.more (G1.bind (c2 := 0) ih (by omega) fun s _ u => ?_) (by omega)
      exact G1.pure trivial (by omega)
    refine G1.more (G1.bind (c2 := 60) ih (by omega) fun s _ u => ?_) (by omega)
    refine G1.more (G1.bind (c2 := 0) h1 (by omega) fun s _ u => ?_) (by decide)
    exact G1.pure trivial (by omega)
end Go.Proofs.YtjojaiomgdjhfaaGreatDoor.F
namespace Go.Proofs.YtjojaiomgdjhfaaGreatDoor.F
open Go
def IsB (n : TNode) : Prop := ∃ l, n = TNode.mk 30 0 0 [] l ∧ l.length ≤ 3 ∧ ∀ x ∈ l, Fin x
theorem IsB.eb {n : TNode} (h : IsB n) : EB n (n.Kids.any en) := by
  obtain ⟨l, rfl, h1, h2⟩ := h
  exact eb_block rfl (by show l.length ≤ _; omega) h2
theorem IsB.fin {n : TNode} (h : IsB n) : Fin n := ⟨_, h.eb⟩
variable (L : List Int)
theorem g_block {a s : Int} (hs : 0 ≤ s) (hg : G Fin s (fun k u => ref11_GrowStmt k a L u)) : G IsB (1 + 3 * s) (fun k u => ref11_GrowBlock k a L u) := by
  intro u
  refine G1.succ (fun k => rfl) ?_
  refine G1.bind (g_next L (a := 4) (by omega) (by omega)) (by omega) fun x hx u => ?_
  intro hu hb
  have hm : (x.toNat : Int) = x := by omega
  have hme : (x.toNat : Int) * s ≤ 3 * s := Int.mul_le_mul_of_nonneg_right (by omega) hs
  obtain ⟨l', u', e1, e2, e3, e4, e5⟩ := g_loop hs hg (fun l => TNode.mk 30 0 0 [] l) x (by omega) x.toNat [] 0 u (by omega) (by omega) (fun n hn => by cases hn) (by simp; omega) hu (by omega)
  exact ⟨_, u', Ev.loop e1, ⟨l', rfl, by rw [e3]; simp; omega, e2⟩, e4, by omega⟩
theorem g_stmt_step (d : Nat) (hd : d ≤ 100) (e : Int) (he : 0 ≤ e) (hr : 1 ≤ d → G IsB e (fun k u => ref11_GrowBlock k ((d : Int) - 1) L u)) : G Fin (600 + 3 * e) (fun k u => ref11_GrowStmt k (d : Int) L u) := by
  have x1 := g_expr L 1 (by omega)
  have x2 := g_expr L 2 (by omega)
  have x3 := g_expr L 3 (by omega)
  have p2 := g_place L 2 (by omega)
  rw [show cX 1 = 60 from rfl] at x1
  rw [show cX 2 = 140 from rfl] at x2
  rw [show cX 3 = 300 from rfl] at x3
  rw [show cP 2 = 210 from rfl] at p2
  have xs := g_exprs L (by omega) x2
  intro u
  refine G1.succ (fun k => rfl) ?_
  refine G1.more (G1.bind (c2 := 580 + 3 * e) (g_next L (a := 10) (by omega) (by omega)) (by omega) fun x hx u => ?_) (by omega)
  have hw : IntKind.i64.wrap ((d : Int) - 1) = (d : Int) - 1 := w64 (by omega) (by omega)
  have hw4 : IntKind.i64.wrap (x + 4) = x + 4 := w64 (by omega) (by omega)
  dsimp only [joinK]
  simp only [hw, hw4]
  refine G1.ite (fun hc => ?_) (fun hc => ?_)
  · have hjd : x + 4 < 4 → 1 ≤ d := fun h => by omega
    generalize x + 4 = j at hjd ⊢
    clear hx hc hw4
    refine G1.ite (fun h0 => ?_) (fun n0 => ?_)
    · have hr := hr (hjd (by simp at h0; omega))
      refine G1.more (G1.bind (c2 := 0) hr (by omega) fun y hy u => ?_) (by omega)
      exact G1.pure hy.fin (by omega)
    refine G1.ite (fun h0 => ?_) (fun n1 => ?_)
    · have hr := hr (hjd (by simp at h0; omega))
      refine G1.more (G1.bind (c2 := e) x2 (by omega) fun y _ u => ?_) (by omega)
      refine G1.more (G1.bind (c2 := 0) hr (by omega) fun z hz u => ?_) (by omega)
      exact G1.pure ⟨_, eb_other (by simp) (by simp) (by simp)⟩ (by omega)
    refine G1.ite (fun h0 => ?_) (fun n2 => ?_)
    · have hr := hr (hjd (by simp at h0; omega))
      refine G1.more (G1.bind (c2 := 100 + 3 * e) x2 (by omega) fun y _ u => ?_) (by omega)
      refine G1.more (G1.bind (c2 := 100 + 2 * e) hr (by omega) fun z hz u => ?_) (by omega)
      refine G1.ite (fun h3 => ?_) (fun n3 => ?_)
      · refine G1.more (G1.bind (c2 := 100 + e) hr (by omega) fun v hv u => ?_) (by omega)
        refine G1.more (G1.bind (c2 := 90 + e) (g_next L (a := 2) (by omega) (by omega)) (by omega) fun w _ u => ?_) (by omega)
        refine G1.ite (fun h4 => ?_) (fun n4 => ?_)
        · refine G1.more (G1.bind (c2 := e) x1 (by omega) fun y2 _ u => ?_) (by omega)
          refine G1.more (G1.bind (c2 := 0) hr (by omega) fun z2 hz2 u => ?_) (by omega)
          refine G1.ite (fun _ => ?_) (fun h => by simp [room] at h)
          exact G1.pure ⟨_, eb_if rfl rfl hz.eb (eb_if0 rfl (by simp))⟩ (by omega)
        · refine G1.ite (fun _ => ?_) (fun h => by simp [room] at h)
          exact G1.pure ⟨_, eb_if rfl rfl hz.eb hv.eb⟩ (by omega)
      · exact G1.pure ⟨_, eb_if0 rfl (by simp)⟩ (by omega)
    refine G1.ite (fun h0 => ?_) (fun n4 => ?_)
    · refine G1.more (G1.bind (c2 := 300) (g_word L) (by omega) fun y _ u => ?_) (by omega)
      refine G1.more (G1.bind (c2 := 0) x3 (by omega) fun z hz u => ?_) (by omega)
      exact G1.pure ⟨_, eb_other (by simp) (by simp) (by simp)⟩ (by omega)
    refine G1.ite (fun h0 => ?_) (fun n5 => ?_)
    · refine G1.more (G1.bind (c2 := 300) p2 (by omega) fun y _ u => ?_) (by omega)
      refine G1.more (G1.bind (c2 := 0) x3 (by omega) fun z hz u => ?_) (by omega)
      exact G1.pure ⟨_, eb_other (by simp) (by simp) (by simp)⟩ (by omega)
    refine G1.ite (fun h0 => ?_) (fun n6 => ?_)
    · refine G1.more (G1.bind (c2 := 140) (g_next L (a := 2) (by omega) (by omega)) (by omega) fun y _ u => ?_) (by omega)
      refine G1.ite (fun h0 => ?_) (fun n6 => ?_)
      · exact G1.pure ⟨_, eb_ret rfl⟩ (by omega)
      refine G1.more (G1.bind (c2 := 0) x2 (by omega) fun z hz u => ?_) (by omega)
      exact G1.pure ⟨_, eb_ret rfl⟩ (by omega)
    refine G1.ite (fun h0 => ?_) (fun n7 => ?_)
    · refine G1.more (G1.bind (c2 := 0) (g_word L) (by omega) fun y _ u => ?_) (by omega)
      exact G1.pure ⟨_, eb_other (by simp) (by simp) (by simp)⟩ (by omega)
    refine G1.ite (fun h0 => ?_) (fun n8 => ?_)
    · refine G1.more (G1.bind (c2 := 0) x2 (by omega) fun y _ u => ?_) (by omega)
      exact G1.pure ⟨_, eb_other (by simp) (by simp) (by simp)⟩ (by omega)
    refine G1.more (G1.bind (c2 := 1 + 2 * 140) (g_word L) (by omega) fun y _ u => ?_) (by omega)
    refine G1.more (G1.bind (c2 := 0) xs (by omega) fun z hz u => ?_) (by omega)
    exact G1.pure ⟨_, eb_other (by simp) (by simp) (by simp)⟩ (by omega)
  · have hjd : x < 4 → 1 ≤ d := fun h => by
      simp only [Bool.and_eq_false_iff, decide_eq_false_iff_not] at hc
      omega
    generalize x = j at hjd ⊢
    clear hc
    refine G1.ite (fun h0 => ?_) (fun n0 => ?_)
    · have hr := hr (hjd (by simp at h0; omega))
      refine G1.more (G1.bind (c2 := 0) hr (by omega) fun y hy u => ?_) (by omega)
      exact G1.pure hy.fin (by omega)
    refine G1.ite (fun h0 => ?_) (fun n1 => ?_)
    · have hr := hr (hjd (by simp at h0; omega))
      refine G1.more (G1.bind (c2 := e) x2 (by omega) fun y _ u => ?_) (by omega)
      refine G1.more (G1.bind (c2 := 0) hr (by omega) fun z hz u => ?_) (by omega)
      exact G1.pure ⟨_, eb_other (by simp) (by simp) (by simp)⟩ (by omega)
    refine G1.ite (fun h0 => ?_) (fun n2 => ?_)
    · have hr := hr (hjd (by simp at h0; omega))
      refine G1.more (G1.bind (c2 := 100 + 3 * e) x2 (by omega) fun y _ u => ?_) (by omega)
      refine G1.more (G1.bind (c2 := 100 + 2 * e) hr (by omega) fun z hz u => ?_) (by omega)
      refine G1.ite (fun h3 => ?_) (fun n3 => ?_)
      · refine G1.more (G1.bind (c2 := 100 + e) hr (by omega) fun v hv u => ?_) (by omega)
        refine G1.more (G1.bind (c2 := 90 + e) (g_next L (a := 2) (by omega) (by omega)) (by omega) fun w _ u => ?_) (by omega)
        refine G1.ite (fun h4 => ?_) (fun n4 => ?_)
        · refine G1.more (G1.bind (c2 := e) x1 (by omega) fun y2 _ u => ?_) (by omega)
          refine G1.more (G1.bind (c2 := 0) hr (by omega) fun z2 hz2 u => ?_) (by omega)
          refine G1.ite (fun _ => ?_) (fun h => by simp [room] at h)
          exact G1.pure ⟨_, eb_if rfl rfl hz.eb (eb_if0 rfl (by simp))⟩ (by omega)
        · refine G1.ite (fun _ => ?_) (fun h => by simp [room] at h)
          exact G1.pure ⟨_, eb_if rfl rfl hz.eb hv.eb⟩ (by omega)
      · exact G1.pure ⟨_, eb_if0 rfl (by simp)⟩ (by omega)
    refine G1.ite (fun h0 => ?_) (fun n4 => ?_)
    · refine G1.more (G1.bind (c2 := 300) (g_word L) (by omega) fun y _ u => ?_) (by omega)
      refine G1.more (G1.bind (c2 := 0) x3 (by omega) fun z hz u => ?_) (by omega)
      exact G1.pure ⟨_, eb_other (by simp) (by simp) (by simp)⟩ (by omega)
    refine G1.ite (fun h0 => ?_) (fun n5 => ?_)
    · refine G1.more (G1.bind (c2 := 300) p2 (by omega) fun y _ u => ?_) (by omega)
      refine G1.more (G1.bind (c2 := 0) x3 (by omega) fun z hz u => ?_) (by omega)
      exact G1.pure ⟨_, eb_other (by simp) (by simp) (by simp)⟩ (by omega)
    refine G1.ite (fun h0 => ?_) (fun n6 => ?_)
    · refine G1.more (G1.bind (c2 := 140) (g_next L (a := 2) (by omega) (by omega)) (by omega) fun y _ u => ?_) (by omega)
      refine G1.ite (fun h0 => ?_) (fun n6 => ?_)
      · exact G1.pure ⟨_, eb_ret rfl⟩ (by omega)
      refine G1.more (G1.bind (c2 := 0) x2 (by omega) fun z hz u => ?_) (by omega)
      exact G1.pure ⟨_, eb_ret rfl⟩ (by omega)
    refine G1.ite (fun h0 => ?_) (fun n7 => ?_)
    · refine G1.more (G1.bind (c2 := 0) (g_word L) (by omega) fun y _ u => ?_) (by omega)
      exact G1.pure ⟨_, eb_other (by simp) (by simp) (by simp)⟩ (by omega)
    refine G1.ite (fun h0 => ?_) (fun n8 => ?_)
    · refine G1.more (G1.bind (c2 := 0) x2 (by omega) fun y _ u => ?_) (by omega)
      exact G1.pure ⟨_, eb_other (by simp) (by simp) (by simp)⟩ (by omega)
    refine G1.more (G1.bind (c2 := 1 + 2 * 140) (g_word L) (by omega) fun y _ u => ?_) (by omega)
    refine G1.more (G1.bind (c2 := 0) xs (by omega) fun z hz u => ?_) (by omega)
    exact G1.pure ⟨_, eb_other (by simp) (by simp) (by simp)⟩ (by omega)
def cS : Nat → Int
  | 0 => 600
  | d + 1 => 600 + 3 * (1 + 3 * cS d)
theorem cS_nn : ∀ d, 0 ≤ cS d
  | 0 => by decide
  | d + 1 => by have := cS_nn d; show 0 ≤ 600 + 3 * (1 + 3 * cS d); omega
theorem g_stmt : ∀ d : Nat, d ≤ 100 → G Fin (cS d) (fun k u => ref11_GrowStmt k (d : Int) L u)
  | 0, hd => g_stmt_step L 0 hd 0 (by omega) (fun h => by omega)
  | d + 1, hd => g_stmt_step L (d + 1) hd (1 + 3 * cS d) (by have := cS_nn d; omega) (fun _ => by
      have := g_block L (cS_nn d) (g_stmt d (by omega))
      rw [show ((d + 1 : Nat) : Int) - 1 = d by omega]; exact this)
end Go.Proofs.YtjojaiomgdjhfaaGreatDoor.F
namespace Go.Proofs.YtjojaiomgdjhfaaGreatDoor.F
open Go
theorem works21 (k : Nat) : law21_works (k + 100) = some true := by kernel_rfl
theorem iand16 (a : Int) : 0 ≤ iand .i64 a 65535 ∧ iand .i64 a 65535 ≤ 65535 := by
  have h : ((BitVec.ofInt 64 a) &&& (BitVec.ofInt 64 65535)).toNat ≤ 65535 := by
    rw [BitVec.toNat_and]
    exact Nat.le_trans Nat.and_le_right (by decide)
  have w : IntKind.i64.wrap ((((BitVec.ofInt 64 a) &&& (BitVec.ofInt 64 65535)).toNat : Nat) : Int) = (((BitVec.ofInt 64 a) &&& (BitVec.ofInt 64 65535)).toNat : Int) := w64 (by omega) (by omega)
  have e : iand .i64 a 65535 = (((BitVec.ofInt 64 a) &&& (BitVec.ofInt 64 65535)).toNat : Int) := w
  rw [e]
  omega
theorem behind_ev (l : List Int) (a : Int) : Ev (fun k => law21_EndsBehind k l a) true := by
  have hw : Ev (fun k => law21_works k) true := Ev.at 100 works21
  unfold law21_EndsBehind
  refine Ev.bind hw ?_
  by_cases hl : (l.length : Int) > 200
  · refine Ev.ite_t (by simp; omega) ?_
    exact Ev.bind hw Ev.pure
  refine Ev.ite_f (by simp; omega) ?_
  have hS : G Fin (cS 3) (fun k u => ref11_GrowStmt k 3 l u) := g_stmt l 3 (by omega)
  rw [show cS 3 = 492273 from rfl] at hS
  obtain ⟨b, u1, hb, ⟨lb, rfl, hlen, hfin⟩, _, hu1⟩ := g_block l (by omega) hS 0 (by omega) (by omega)
  obtain ⟨one, u2, ho, hone, _, _⟩ := hS u1 (by omega) (by omega)
  refine Ev.bind hb ?_
  dsimp only
  refine Ev.bind ho ?_
  dsimp only
  have hwr : IntKind.i64.wrap ((lb.length : Int) + 1) = (lb.length : Int) + 1 := w64 (by omega) (by omega)
  rw [hwr]
  refine Ev.ite_f (by simp; omega) ?_
  obtain ⟨ha1, ha2⟩ := iand16 a
  have hi1 : 0 ≤ Int.tmod (iand .i64 a 65535) ((lb.length : Int) + 1) := Int.tmod_nonneg _ ha1
  have hi2 : Int.tmod (iand .i64 a 65535) ((lb.length : Int) + 1) < (lb.length : Int) + 1 := Int.tmod_lt_of_pos _ (by omega)
  generalize Int.tmod (iand .i64 a 65535) ((lb.length : Int) + 1) = i at hi1 hi2
  have s1 : sub lb 0 i = some (lb.take i.toNat) := by unfold sub; rw [if_pos (by omega)]; simp
  have s2 : sub lb i (lb.length : Int) = some (lb.drop i.toNat) := by unfold sub; rw [if_pos (by omega)]; simp
  rw [s1, s2]
  simp only [Option.bind_some]
  have l1 : (lb.take i.toNat).length ≤ 3 := by rw [List.length_take]; omega
  have l2 : (lb.drop i.toNat).length ≤ 3 := by rw [List.length_drop]; omega
  refine Ev.ite_t (room_of (by omega) (by simp only [List.length_nil]; omega)) ?_
  refine Ev.ite_t (room_of (by omega) (by simp only [List.length_nil, List.length_append, List.length_cons]; omega)) ?_
  refine Ev.ite_t (room_of (by omega) (by simp only [List.length_nil, List.length_append, List.length_cons]; omega)) ?_
  have hd : ∀ x ∈ lb.drop i.toNat, Fin x := fun x hx => hfin x (List.mem_of_mem_drop hx)
  have ht : ∀ x ∈ lb.take i.toNat, Fin x := fun x hx => hfin x (List.mem_of_mem_take hx)
  have hB : EB (TNode.mk 30 0 0 [] lb) (lb.any en) := eb_block rfl (by show lb.length ≤ _; omega) hfin
  have hO := hone.en
  have hany : lb.any en = ((lb.take i.toNat).any en || (lb.drop i.toNat).any en) := by
    rw [← List.any_append, List.take_append_drop]
  have hX : EB (TNode.mk 30 0 0 [] (([] ++ lb.take i.toNat) ++ [one] ++ lb.drop i.toNat)) (lb.any en || en one) := by
    have := eb_block (n := TNode.mk 30 0 0 [] (([] ++ lb.take i.toNat) ++ [one] ++ lb.drop i.toNat)) rfl (by simp only [List.nil_append, List.length_append, List.length_cons, List.length_nil]; omega) (by
      intro x hx
      simp only [List.nil_append, List.mem_append, List.mem_singleton] at hx
      rcases hx with (hx | rfl) | hx
      · exact ht x hx
      · exact hone
      · exact hd x hx)
    have e : (TNode.mk 30 0 0 [] (([] ++ lb.take i.toNat) ++ [one] ++ lb.drop i.toNat)).Kids.any en = (lb.any en || en one) := by
      simp only [List.nil_append, List.any_append, List.any_cons, List.any_nil, Bool.or_false, hany]
      cases (lb.take i.toNat).any en <;> cases (lb.drop i.toNat).any en <;> cases en one <;> rfl
    rw [e] at this
    exact this
  have hblk : EB (TNode.mk 30 0 0 [] [one]) (en one) := by
    have := eb_block (n := TNode.mk 30 0 0 [] [one]) rfl (by simp) (by intro x hx; simp only [List.mem_singleton] at hx; subst hx; exact hone)
    simpa using this
  have hI : EB (TNode.mk 33 0 0 [] [TNode.mk 11 0 0 [] [], TNode.mk 30 0 0 [] lb, TNode.mk 30 0 0 [] [one]]) (lb.any en && en one) := eb_if rfl rfl hB hblk
  have hW : EB (TNode.mk 34 0 0 [] [TNode.mk 11 0 0 [] [], TNode.mk 30 0 0 [] lb]) false := eb_other (by simp) (by simp) (by simp)
  generalize lb.any en = B at hB hX hI
  generalize en one = O at hO hX hI
  refine Ev.bind hX ?_
  refine Ev.bind hB ?_
  simp only [joinK]
  cases B with
  | true =>
    simp only [if_true, Bool.true_or, beq_self_eq_true, Bool.true_and] at hI ⊢
    refine Ev.bind hI ?_
    refine Ev.bind hB ?_
    simp only [if_true]
    refine Ev.bind hO ?_
    simp only [beq_self_eq_true, if_true]
    refine Ev.bind hW ?_
    exact Ev.pure
  | false =>
    simp only [Bool.false_eq_true, if_false, Bool.false_or, Bool.false_and] at hI ⊢
    refine Ev.bind hO ?_
    simp only [beq_self_eq_true, if_true]
    refine Ev.bind hI ?_
    refine Ev.bind hB ?_
    simp only [Bool.false_eq_true, if_false, beq_self_eq_true, if_true]
    refine Ev.bind hW ?_
    exact Ev.pure
theorem behind_ex (l : List Int) (a : Int) : ∃ k, law21_EndsBehind k l a = some true := by
  obtain ⟨k, h⟩ := behind_ev l a
  exact ⟨k, h k (Nat.le_refl k)⟩
end Go.Proofs.YtjojaiomgdjhfaaGreatDoor.F
namespace Go.Proofs.YtjojaiomgdjhfaaGreatDoor.AE
open Go
section
variable {H : Type}
theorem Dwf.inv_int {tb : List TI} {t : TypeId} {d : DataW H} {k : IntKind} (h : Dwf tb t d) (hd : descOf tb t = some (.int k)) : ∃ n, d = .lit (.int k n) ∧ (Lit.int k n).wf = true := by
  cases h with
  | int h hw => rw [hd] at h; cases h; exact ⟨_, rfl, hw⟩
  | bool h => rw [hd] at h; cases h
  | str h _ => rw [hd] at h; cases h
  | nilp h => rw [hd] at h; cases h
  | nils h => rw [hd] at h; cases h
  | ptr h _ => rw [hd] at h; cases h
  | slice h _ _ => rw [hd] at h; cases h
  | struct h _ _ => rw [hd] at h; cases h
  | array h _ _ => rw [hd] at h; cases h
theorem Dwf.inv_slice {tb : List TI} {t e : TypeId} {d : DataW H} (h : Dwf tb t d) (hd : descOf tb t = some (.slice e)) : d = .nil ∨ ∃ es rest, d = .slice es rest ∧ es.length ≤ maxLen ∧ ∀ d ∈ es, Dwf tb e d := by
  cases h with
  | int h hw => rw [hd] at h; cases h
  | bool h => rw [hd] at h; cases h
  | str h _ => rw [hd] at h; cases h
  | nilp h => rw [hd] at h; cases h
  | nils h => exact .inl rfl
  | ptr h _ => rw [hd] at h; cases h
  | slice h hl he => rw [hd] at h; cases h; exact .inr ⟨_, _, rfl, hl, he⟩
  | struct h _ _ => rw [hd] at h; cases h
  | array h _ _ => rw [hd] at h; cases h
def dI : DataW H → Int
  | .lit (.int _ n) => n
  | _ => 0
def dIs : DataW H → List Int
  | .slice es _ => es.map dI
  | _ => []
theorem t22 : descOf tab 22 = some (.slice 3) := by kernel_rfl
theorem t3 : descOf tab 3 = some (.int .i64) := by kernel_rfl
theorem s3 : sizeD tab 3 = 1 := by kernel_rfl
theorem p22 (cs : List AV) : pack tab 22 cs = cs.headD .undef := by kernel_rfl
theorem p3 (cs : List AV) : pack tab 3 cs = cs.headD .undef := by kernel_rfl
theorem packs_ints : ∀ es : List (DataW H), (∀ d ∈ es, Dwf tab 3 d) → packs tab 3 es = (es.map dI).map fun x => AV.int .i64 x
  | [], _ => rfl
  | d :: r, h => by
    obtain ⟨n, rfl, _⟩ := (h d (by simp)).inv_int t3
    rw [packs, packs_ints r (fun d hd => h d (by simp [hd])), p3]
    rfl
theorem ints_av {d : DataW H} (h : Dwf tab 22 d) : av tab 22 d = .slice .none 1 ((dIs d).map fun x => AV.int .i64 x) := by
  unfold av
  rw [p22]
  rcases h.inv_slice t22 with rfl | ⟨es, rest, rfl, _, he⟩
  · simp only [avs, t22, nilA, s3, dIs]
    rfl
  · simp only [avs, t22, s3, dIs, packs_ints es he]
    rfl
end
end Go.Proofs.YtjojaiomgdjhfaaGreatDoor.AE
