/- The plain law. No condition. -/
import Derived.Test.YtjakhfaodfaimaaDoorZP0
import Derived.KernelRfl
set_option linter.unusedVariables false
set_option linter.unusedSimpArgs false
set_option maxRecDepth 100000
set_option maxHeartbeats 4000000
namespace Go.Proofs.YtjakhfaodfaimaaDoor.F
open Go
theorem eFun_bad (l : List TToken) (a : Int) (s : List UInt8) (p : Int) : ∃ n, Ev (fun k => stmt_cursor_fun_v2 k 53 a 0 s [] l p true) (n, p, true) := by
  obtain ⟨z, hz⟩ := eFun_end l a p s [] (by simp)
  refine ⟨z, Ev.sh 2 ?_⟩
  simp only [eFun_eq]
  simp only [qs, Option.bind_some, Option.map_some, joinK, qb, ↓reduceIte, if_true, if_false, eq_self, Int.reduceBEq, Int.reduceBNe]
  exact (Ev.loop hz).up (n := 2)
theorem eMrg_bad (l : List TToken) (a : Int) (s : List UInt8) (p : Int) : ∃ n, Ev (fun k => stmt_cursor_merge_v2 k 54 a 0 s [] l p true) (n, p, true) := by
  obtain ⟨z, hz⟩ := eMrg_end l a p s 3 0 [] rfl rfl
  exact ⟨z, Ev.congr (fun k => eMrg_eq k l a s p true) (Ev.loop hz)⟩
def dwords : List (List UInt8) := [[114, 101, 99], [105, 115, 111], [102, 117, 110], [109, 101, 114, 103, 101]]
def eDeclB (l : List TToken) (a : Int) (k : Nat) (st : Int × Int) : Option ((Int × Int) ⊕ (TNode × Int × Bool)) :=
  match st with
  | (t, p) =>
    if (decide (t < (dwords.length : Int))) then
    (ix dwords t).bind fun x5_1 =>
    (stmt_cursor_takes k 3 x5_1 l p false).bind fun (x6_2_0, x6_2_1) =>
    if (!x6_2_0) then
    some (.inl ((IntKind.i64.wrap (t + 1)), x6_2_1))
    else
    (stmt_cursor_name k l x6_2_1 false).bind fun (x8_1_0, x8_1_1, x8_1_2, x8_1_3) =>
    if ((IntKind.i64.wrap (51 + t)) == 51) then
    (stmt_cursor_rec_v2 k (IntKind.i64.wrap (51 + t)) a 0 x8_1_0 [] l x8_1_2 x8_1_3).bind fun (x11_2_0, x11_2_1, x11_2_2) =>
    some (.inr (x11_2_0, x11_2_1, x11_2_2))
    else
    if ((IntKind.i64.wrap (51 + t)) == 52) then
    (stmt_cursor_iso_v2 k (IntKind.i64.wrap (51 + t)) a 0 x8_1_0 [] l x8_1_2 x8_1_3).bind fun (x13_2_0, x13_2_1, x13_2_2) =>
    some (.inr (x13_2_0, x13_2_1, x13_2_2))
    else
    if ((IntKind.i64.wrap (51 + t)) == 53) then
    (stmt_cursor_fun_v2 k (IntKind.i64.wrap (51 + t)) a 0 x8_1_0 [] l x8_1_2 x8_1_3).bind fun (x15_2_0, x15_2_1, x15_2_2) =>
    some (.inr (x15_2_0, x15_2_1, x15_2_2))
    else
    (stmt_cursor_merge_v2 k (IntKind.i64.wrap (51 + t)) a 0 x8_1_0 [] l x8_1_2 x8_1_3).bind fun (x16_2_0, x16_2_1, x16_2_2) =>
    some (.inr (x16_2_0, x16_2_1, x16_2_2))
    else
    (some ((TNode.mk 0 a 0 [] []), p, true)).map .inr
theorem eDecl_eq (k : Nat) (l : List TToken) (i : Int) : stmt_cursor_decl k l i false = loopM k (eDeclB l (tk l i).At k) (0, i) := by
  unfold stmt_cursor_decl
  rw [slook_eq]
  rfl
def rDeclJ (l : List TToken) (i : Int) (k : Nat) (q : Int) : Option Tref14_Got :=
    if (q == 4) then
    (ref14_fail k i).bind fun x6_1 =>
    some x6_1
    else
    (ref13_Tok k l (IntKind.i64.wrap (i + 1))).bind fun x7_3 =>
    if (x7_3.Kind != 1) then
    (ref14_fail k (IntKind.i64.wrap (i + 1))).bind fun x9_2 =>
    some x9_2
    else
    (ref13_Tok k l i).bind fun x10_4 =>
    if (q == 0) then
    (ref14_rec_v2 k l (IntKind.i64.wrap (i + 2)) (IntKind.i64.wrap (51 + q)) x10_4.At 0 x7_3.Text []).bind fun x12_4 =>
    some x12_4
    else
    if (q == 1) then
    (ref14_iso k l (IntKind.i64.wrap (i + 2)) (TNode.mk (IntKind.i64.wrap (51 + q)) x10_4.At 0 x7_3.Text [])).bind fun x14_4 =>
    some x14_4
    else
    (ref14_fun_v2 k l (IntKind.i64.wrap (i + 2)) (IntKind.i64.wrap (51 + q)) x10_4.At 0 x7_3.Text []).bind fun x15_4 =>
    some x15_4
def rDeclB (l : List TToken) (i : Int) (k : Nat) (t : Int) : Option (Int ⊕ Tref14_Got) :=
    joinK (fun (g3_11_21 : Bool) =>
    if g3_11_21 then
    some (.inl (IntKind.i64.wrap (t + 1)))
    else
    (rDeclJ l i k t).map .inr) fun j_g3_11 =>
    if (decide (t < 4)) then
    (ix dwords t).bind fun x3_7 =>
    (ref13_Says k l i x3_7).bind fun x3_9 =>
    j_g3_11 (!x3_9)
    else
    j_g3_11 false
theorem rDecl_eq (k : Nat) (l : List TToken) (i : Int) : ref14_Decl k l i = loopM k (rDeclB l i k) 0 := rfl
theorem decl_skip {l : List TToken} {i a : Int} {t : Nat} {w : List UInt8} (ht : t < 4) (hw : ix dwords (t : Int) = some w) (h : isT (tk l i) 3 w = false) :
    Ev (fun k => eDeclB l a k ((t : Int), i)) (.inl (((t + 1 : Nat) : Int), i)) ∧ Ev (fun k => rDeclB l i k (t : Int)) (.inl ((t + 1 : Nat) : Int)) := by
  have h1 : decide ((t : Int) < (dwords.length : Int)) = true := by simp [dwords]; omega
  have h2 : decide ((t : Int) < 4) = true := by simp; omega
  have h3 : IntKind.i64.wrap ((t : Int) + 1) = ((t + 1 : Nat) : Int) := wrap64_id (by omega) (by omega)
  constructor
  · simp only [eDeclB]
    simp only [qs, Option.bind_some, Option.map_some, joinK, qb, ↓reduceIte, if_true, if_false, eq_self, Int.reduceBEq, Int.reduceBNe, h1, hw, h, h3]; exact Ev.pure
  · simp only [rDeclB]
    simp only [qs, Option.bind_some, Option.map_some, joinK, qb, ↓reduceIte, if_true, if_false, eq_self, Int.reduceBEq, Int.reduceBNe, h2, hw, h, h3]; exact Ev.pure
abbrev eDecl (l : List TToken) (i : Int) (k : Nat) := stmt_cursor_decl k l i false
abbrev rDecl (l : List TToken) (i : Int) (k : Nat) := ref14_Decl k l i
theorem decl_hit {l : List TToken} (W : WF l) {i a : Int} {t : Nat} {w : List UInt8} (ht : t < 4) (hw : ix dwords (t : Int) = some w) (h : isT (tk l i) 3 w = true) :
    ∃ n j m ok, Ev (fun k => eDeclB l (tk l i).At k ((t : Int), i)) (.inr (n, j, !ok)) ∧ Ev (fun k => rDeclB l i k (t : Int)) (.inr ⟨m, j, ok⟩) ∧ (ok = true → n = m ∧ i < j ∧ j < l.length ∧ GD m) ∧ (ok = false → m = zN) := by
  have hlen := W.len
  have h1 : decide ((t : Int) < (dwords.length : Int)) = true := by simp [dwords]; omega
  have h2 : decide ((t : Int) < 4) = true := by simp; omega
  have h4 : ((t : Int) == 4) = false := by simp; omega
  obtain ⟨n1, n2, n3⟩ := W.next (i := i) (by rw [(isT_kind h).1]; decide)
  by_cases hn : (tk l (i + 1)).Kind = 1
  · obtain ⟨m1, m2, m3⟩ := W.next (i := i + 1) (by omega)
    have w2 : IntKind.i64.wrap (i + 2) = i + 2 := wrap64_id (by omega) (by omega)
    have a2 : i + 1 + 1 = i + 2 := by omega
    have hs := W.names _ hn
    match t, ht with
    | 0, _ =>
      obtain ⟨x, j, y, ok, e1, e2, e3, e4⟩ := rec_R W (tk l i).At hs (i + 2)
      refine ⟨x, j, y, ok, ?_, ?_, fun h => by obtain ⟨g1, g2, g3, g4⟩ := e3 h; exact ⟨g1, by omega, g3, g4⟩, e4⟩
      · simp only [eDeclB]
        simp only [qs, Option.bind_some, Option.map_some, joinK, qb, ↓reduceIte, if_true, if_false, eq_self, Int.reduceBEq, Int.reduceBNe, h1, hw, h, n3, hn, a2, w2, show IntKind.i64.wrap (51 + ((0 : Nat) : Int)) = 51 from rfl]
        exact Ev.bind e1 Ev.pure
      · simp only [rDeclB, rDeclJ]
        simp only [qs, Option.bind_some, Option.map_some, joinK, qb, ↓reduceIte, if_true, if_false, eq_self, Int.reduceBEq, Int.reduceBNe, h2, h4, hw, h, n3, hn, w2, show IntKind.i64.wrap (51 + ((0 : Nat) : Int)) = 51 from rfl, show (((0 : Nat) : Int) == 0) = true from rfl]
        exact Ev.map (Ev.bind e2 Ev.pure)
    | 1, _ =>
      obtain ⟨x, j, y, ok, e1, e2, e3, e4⟩ := iso_R W (tk l i).At hs (i + 2)
      refine ⟨x, j, y, ok, ?_, ?_, fun h => by obtain ⟨g1, g2, g3, g4⟩ := e3 h; exact ⟨g1, by omega, g3, g4⟩, e4⟩
      · simp only [eDeclB]
        simp only [qs, Option.bind_some, Option.map_some, joinK, qb, ↓reduceIte, if_true, if_false, eq_self, Int.reduceBEq, Int.reduceBNe, h1, hw, h, n3, hn, a2, w2, show IntKind.i64.wrap (51 + ((1 : Nat) : Int)) = 52 from rfl]
        exact Ev.bind e1 Ev.pure
      · simp only [rDeclB, rDeclJ]
        simp only [qs, Option.bind_some, Option.map_some, joinK, qb, ↓reduceIte, if_true, if_false, eq_self, Int.reduceBEq, Int.reduceBNe, h2, h4, hw, h, n3, hn, w2, show IntKind.i64.wrap (51 + ((1 : Nat) : Int)) = 52 from rfl, show (((1 : Nat) : Int) == 0) = false from rfl, show (((1 : Nat) : Int) == 1) = true from rfl]
        exact Ev.map (Ev.bind e2 Ev.pure)
    | 2, _ =>
      obtain ⟨x, j, y, ok, e1, e2, e3, e4⟩ := fun_R W (tk l i).At hs (i + 2)
      refine ⟨x, j, y, ok, ?_, ?_, fun h => by obtain ⟨g1, g2, g3, g4⟩ := e3 h; exact ⟨g1, by omega, g3, g4⟩, e4⟩
      · simp only [eDeclB]
        simp only [qs, Option.bind_some, Option.map_some, joinK, qb, ↓reduceIte, if_true, if_false, eq_self, Int.reduceBEq, Int.reduceBNe, h1, hw, h, n3, hn, a2, w2, show IntKind.i64.wrap (51 + ((2 : Nat) : Int)) = 53 from rfl]
        exact Ev.bind e1 Ev.pure
      · simp only [rDeclB, rDeclJ]
        simp only [qs, Option.bind_some, Option.map_some, joinK, qb, ↓reduceIte, if_true, if_false, eq_self, Int.reduceBEq, Int.reduceBNe, h2, h4, hw, h, n3, hn, w2, show IntKind.i64.wrap (51 + ((2 : Nat) : Int)) = 53 from rfl, show (((2 : Nat) : Int) == 0) = false from rfl, show (((2 : Nat) : Int) == 1) = false from rfl]
        exact Ev.map (Ev.bind e2 Ev.pure)
    | 3, _ =>
      obtain ⟨x, j, y, ok, e1, e2, e3, e4⟩ := mrg_R W (tk l i).At hs (i + 2)
      refine ⟨x, j, y, ok, ?_, ?_, fun h => by obtain ⟨g1, g2, g3, g4⟩ := e3 h; exact ⟨g1, by omega, g3, g4⟩, e4⟩
      · simp only [eDeclB]
        simp only [qs, Option.bind_some, Option.map_some, joinK, qb, ↓reduceIte, if_true, if_false, eq_self, Int.reduceBEq, Int.reduceBNe, h1, hw, h, n3, hn, a2, w2, show IntKind.i64.wrap (51 + ((3 : Nat) : Int)) = 54 from rfl]
        exact Ev.bind e1 Ev.pure
      · simp only [rDeclB, rDeclJ]
        simp only [qs, Option.bind_some, Option.map_some, joinK, qb, ↓reduceIte, if_true, if_false, eq_self, Int.reduceBEq, Int.reduceBNe, h2, h4, hw, h, n3, hn, w2, show IntKind.i64.wrap (51 + ((3 : Nat) : Int)) = 54 from rfl, show (((3 : Nat) : Int) == 0) = false from rfl, show (((3 : Nat) : Int) == 1) = false from rfl]
        exact Ev.map (Ev.bind e2 Ev.pure)
  · have hn : ((tk l (i + 1)).Kind != 1) = true := by simpa using hn
    have Rr : Ev (fun k => rDeclB l i k (t : Int)) (.inr ⟨zN, i + 1, false⟩) := by
      simp only [rDeclB, rDeclJ]
      simp only [qs, Option.bind_some, Option.map_some, joinK, qb, ↓reduceIte, if_true, if_false, eq_self, Int.reduceBEq, Int.reduceBNe, h2, h4, hw, h, n3, hn, Option.map_some]; exact Ev.pure
    have fin : ∀ {n}, Ev (fun k => eDeclB l (tk l i).At k ((t : Int), i)) (.inr (n, i + 1, true)) → ∃ n j m ok, Ev (fun k => eDeclB l (tk l i).At k ((t : Int), i)) (.inr (n, j, !ok)) ∧ Ev (fun k => rDeclB l i k (t : Int)) (.inr ⟨m, j, ok⟩) ∧ (ok = true → n = m ∧ i < j ∧ j < l.length ∧ GD m) ∧ (ok = false → m = zN) := fun {n} hE => ⟨n, i + 1, zN, false, hE, Rr, (fun h => by cases h), fun _ => rfl⟩
    match t, ht with
    | 0, _ =>
      refine fin ?_ (n := ⟨51, (tk l i).At, 0, [], []⟩)
      simp only [eDeclB]
      simp only [qs, Option.bind_some, Option.map_some, joinK, qb, ↓reduceIte, if_true, if_false, eq_self, Int.reduceBEq, Int.reduceBNe, h1, hw, h, n3, hn, show IntKind.i64.wrap (51 + ((0 : Nat) : Int)) = 51 from rfl]
      exact Ev.bind (eRec_bad l _ [] (i + 1)) Ev.pure
    | 1, _ =>
      obtain ⟨n, hb⟩ := eIso_bad0 l (tk l i).At [] (i + 1)
      refine fin ?_ (n := n)
      simp only [eDeclB]
      simp only [qs, Option.bind_some, Option.map_some, joinK, qb, ↓reduceIte, if_true, if_false, eq_self, Int.reduceBEq, Int.reduceBNe, h1, hw, h, n3, hn, show IntKind.i64.wrap (51 + ((1 : Nat) : Int)) = 52 from rfl]
      exact Ev.bind hb Ev.pure
    | 2, _ =>
      obtain ⟨n, hb⟩ := eFun_bad l (tk l i).At [] (i + 1)
      refine fin ?_ (n := n)
      simp only [eDeclB]
      simp only [qs, Option.bind_some, Option.map_some, joinK, qb, ↓reduceIte, if_true, if_false, eq_self, Int.reduceBEq, Int.reduceBNe, h1, hw, h, n3, hn, show IntKind.i64.wrap (51 + ((2 : Nat) : Int)) = 53 from rfl]
      exact Ev.bind hb Ev.pure
    | 3, _ =>
      obtain ⟨n, hb⟩ := eMrg_bad l (tk l i).At [] (i + 1)
      refine fin ?_ (n := n)
      simp only [eDeclB]
      simp only [qs, Option.bind_some, Option.map_some, joinK, qb, ↓reduceIte, if_true, if_false, eq_self, Int.reduceBEq, Int.reduceBNe, h1, hw, h, n3, hn, show IntKind.i64.wrap (51 + ((3 : Nat) : Int)) = 54 from rfl]
      exact Ev.bind hb Ev.pure
theorem decl_from {l : List TToken} (W : WF l) (i : Int) : ∀ (d t : Nat), t + d = 4 →
    ∃ n j m ok, EvL (eDeclB l (tk l i).At) ((t : Int), i) (n, j, !ok) ∧ EvL (rDeclB l i) (t : Int) ⟨m, j, ok⟩ ∧ (ok = true → n = m ∧ i < j ∧ j < l.length ∧ GD m) ∧ (ok = false → m = zN)
  | 0, t, h => by
    have h : t = 4 := by omega
    subst h
    refine ⟨⟨0, (tk l i).At, 0, [], []⟩, i, zN, false, EvL.done ?_, EvL.done ?_, (fun h => by cases h), fun _ => rfl⟩
    · simp only [eDeclB]
      simp only [qs, Option.bind_some, Option.map_some, joinK, qb, ↓reduceIte, if_true, if_false, eq_self, Int.reduceBEq, Int.reduceBNe, show decide (((4 : Nat) : Int) < (dwords.length : Int)) = false from rfl, Option.map_some]; exact Ev.pure
    · simp only [rDeclB, rDeclJ]
      simp only [qs, Option.bind_some, Option.map_some, joinK, qb, ↓reduceIte, if_true, if_false, eq_self, Int.reduceBEq, Int.reduceBNe, show decide (((4 : Nat) : Int) < 4) = false from rfl, show (((4 : Nat) : Int) == 4) = true from rfl, Option.map_some]; exact Ev.pure
  | d + 1, t, h => by
    have hw : ∃ w, ix dwords (t : Int) = some w := by
      match t, (show t < 4 by omega) with
      | 0, _ => exact ⟨_, rfl⟩
      | 1, _ => exact ⟨_, rfl⟩
      | 2, _ => exact ⟨_, rfl⟩
      | 3, _ => exact ⟨_, rfl⟩
    obtain ⟨w, hw⟩ := hw
    by_cases hx : isT (tk l i) 3 w = true
    · obtain ⟨n, j, m, ok, e1, e2, e3, e4⟩ := decl_hit W (a := 0) (show t < 4 by omega) hw hx
      exact ⟨n, j, m, ok, EvL.done e1, EvL.done e2, e3, e4⟩
    · obtain ⟨s1, s2⟩ := decl_skip (a := (tk l i).At) (show t < 4 by omega) hw (show isT (tk l i) 3 w = false by simpa using hx)
      obtain ⟨n, j, m, ok, e1, e2, e3, e4⟩ := decl_from W i d (t + 1) (by omega)
      exact ⟨n, j, m, ok, EvL.step s1 e1, EvL.step s2 e2, e3, e4⟩
theorem decl_R {l : List TToken} (W : WF l) (i : Int) : RG GD l i (eDecl l i) (rDecl l i) := by
  obtain ⟨n, j, m, ok, e1, e2, e3, e4⟩ := decl_from W i 4 0 rfl
  exact ⟨n, j, m, ok, Ev.congr (fun k => eDecl_eq k l i) (Ev.loop e1), Ev.congr (fun k => rDecl_eq k l i) (Ev.loop e2), e3, e4⟩
end Go.Proofs.YtjakhfaodfaimaaDoor.F
namespace Go.Proofs.YtjakhfaodfaimaaDoor.F
open Go
def S {α : Type} (π : α → Int) (i m M : Int) (f f' : Option α) : Prop := ∀ r, f = some r → i ≤ π r ∧ (i ≤ M → π r ≤ M) ∧ (π r < m → f' = some r)
section
variable {α β σ ρ : Type} {i m M : Int}
theorem S.bind {π : α → Int} {π2 : β → Int} {f f' : Option α} {g g' : α → Option β} (h : S π i m M f f') (h2 : ∀ x, f = some x → i ≤ π x → S π2 (π x) m M (g x) (g' x)) : S π2 i m M (f.bind g) (f'.bind g') := by
  intro r hr
  obtain ⟨x, h3, h4⟩ := Opt.ex hr
  obtain ⟨a1, a3, a2⟩ := h x h3
  obtain ⟨b1, b3, b2⟩ := h2 x h3 a1 r h4
  refine ⟨by omega, fun hM => b3 (a3 hM), fun hm => ?_⟩
  rw [a2 (by omega)]
  exact b2 hm
theorem S.ite {π : α → Int} {c : Bool} {A A' B B' : Option α} (h1 : c = true → S π i m M A A') (h2 : c = false → S π i m M B B') : S π i m M (if c = true then A else B) (if c = true then A' else B') := by
  cases c with
  | true => exact h1 rfl
  | false => exact h2 rfl
theorem S.pure {π : α → Int} {x : α} (h : i ≤ π x ∧ (i ≤ M → π x ≤ M)) : S π i m M (some x) (some x) := by
  intro r hr
  cases hr
  exact ⟨h.1, h.2, fun _ => rfl⟩
theorem S.here {π : α → Int} {x : α} (h : π x = i) : S π i m M (some x) (some x) := S.pure ⟨by omega, by omega⟩
theorem S.none {π : α → Int} {f' : Option α} : S π i m M none f' := fun r hr => by cases hr
theorem S.le {π : α → Int} {j : Int} {f f' : Option α} (h : S π j m M f f') (hj : i ≤ j ∧ (i ≤ M → j ≤ M)) : S π i m M f f' := fun r hr => ⟨by have := (h r hr).1; omega, fun hM => (h r hr).2.1 (hj.2 hM), (h r hr).2.2⟩
theorem S.map {πs : σ → Int} {πr : ρ → Int} {f f' : Option ρ} (h : S πr i m M f f') : S (Sum.elim πs πr) i m M (f.map (Sum.inr (α := σ))) (f'.map Sum.inr) := by
  intro r hr
  obtain ⟨x, h3, rfl⟩ := Opt.inr hr
  obtain ⟨a1, a3, a2⟩ := h x h3
  exact ⟨a1, a3, fun hm => by rw [a2 hm]; rfl⟩
theorem S.loop {πs : σ → Int} {πr : ρ → Int} {body body' : σ → Option (σ ⊕ ρ)} (h : ∀ s, S (Sum.elim πs πr) (πs s) m M (body s) (body' s)) : ∀ (k : Nat) (s : σ), S πr (πs s) m M (loopM k body s) (loopM k body' s)
  | 0, s => by intro r hr; cases hr
  | k + 1, s => by
    intro r hr
    rw [loopM_step] at hr
    rw [loopM_step]
    cases hb : body s with
    | none => rw [hb] at hr; cases hr
    | some x =>
      rw [hb] at hr
      obtain ⟨a1, a3, a2⟩ := h s x hb
      cases x with
      | inl s' =>
        obtain ⟨b1, b3, b2⟩ := S.loop h k s' r hr
        simp only [Sum.elim_inl] at a1 a2 a3
        exact ⟨by omega, fun hM => b3 (a3 hM), fun hm => by rw [a2 (by omega)]; exact b2 hm⟩
      | inr r' =>
        cases hr
        simp only [Sum.elim_inr] at a1 a2 a3
        exact ⟨a1, a3, fun hm => by rw [a2 hm]⟩
theorem S.ofLoop {πs : σ → Int} {πr : ρ → Int} {body body' : σ → Option (σ ⊕ ρ)} {k : Nat} {s : σ} (h : ∀ s, S (Sum.elim πs πr) (πs s) m M (body s) (body' s)) (hi : i = πs s) : S πr i m M (loopM k body s) (loopM k body' s) := hi ▸ S.loop h k s
theorem S.same {f : Option α} : S (fun _ => i) i m M f f := fun r hr => ⟨Int.le_refl _, fun h => h, fun _ => hr⟩
end
abbrev lm (l : List TToken) : Int := (l.length : Int) - 1
theorem adv {l : List TToken} (W : WF l) {i : Int} (hk : (tk l i).Kind ≠ 0) : i ≤ IntKind.i64.wrap (i + 1) ∧ (i ≤ lm l → IntKind.i64.wrap (i + 1) ≤ lm l) := by
  obtain ⟨n1, n2, n3⟩ := W.next hk
  rw [n3]
  exact ⟨by omega, fun _ => by show i + 1 ≤ (l.length : Int) - 1; omega⟩
def p3 {α β : Type} (x : α × Int × β) : Int := x.2.1
section
variable {l l' : List TToken} {m : Int}
theorem s_look (ag : ∀ p, p < m → tk l' p = tk l p) (k : Nat) (i : Int) (b : Bool) : S (fun _ => i) i m (lm l) (expr_reader_look k l i b) (expr_reader_look k l' i b) := by
  rw [look_eq, look_eq]
  intro r hr
  exact ⟨Int.le_refl _, fun h => h, fun hm => by rw [ag i hm]; exact hr⟩
theorem s_is (ag : ∀ p, p < m → tk l' p = tk l p) (k : Nat) (kd : Int) (s : List UInt8) (i : Int) (b : Bool) : S (fun _ => i) i m (lm l) (expr_reader_is k kd s l i b) (expr_reader_is k kd s l' i b) := by
  rw [is_eq, is_eq]
  intro r hr
  exact ⟨Int.le_refl _, fun h => h, fun hm => by rw [ag i hm]; exact hr⟩
theorem s_sign (ag : ∀ p, p < m → tk l' p = tk l p) (k : Nat) (q i : Int) (b : Bool) : S (fun _ => i) i m (lm l) (expr_reader_sign k q l i b) (expr_reader_sign k q l' i b) := by
  intro r hr
  refine ⟨Int.le_refl _, fun h => h, fun hm => ?_⟩
  unfold expr_reader_sign at hr ⊢
  rw [look_eq] at hr ⊢
  rw [ag i hm]
  exact hr
theorem s_takes (W : WF l) (ag : ∀ p, p < m → tk l' p = tk l p) (k : Nat) (s : List UInt8) (i : Int) (b : Bool) : S (fun x : Bool × Int => x.2) i m (lm l) (expr_reader_takes k s l i b) (expr_reader_takes k s l' i b) := by
  cases b with
  | true => rw [takes_bad, takes_bad]; exact S.here rfl
  | false =>
    rw [takes_eq, takes_eq]
    intro r hr
    have both : i ≤ r.2 ∧ (i ≤ lm l → r.2 ≤ lm l) := by
      cases h : isT (tk l i) 4 s with
      | true =>
        rw [h] at hr; cases hr
        exact adv W (by rw [(isT_kind h).1]; omega)
      | false => rw [h] at hr; cases hr; exact ⟨Int.le_refl _, fun h => h⟩
    refine ⟨both.1, both.2, fun hm => ?_⟩
    · have hle : i < m := by
        cases h : isT (tk l i) 4 s with
        | true =>
          rw [h] at hr; cases hr
          have := (W.next (i := i) (by rw [(isT_kind h).1]; omega)).2.2
          simp only [if_true] at hm; omega
        | false => rw [h] at hr; cases hr; simpa using hm
      rw [ag i hle]; exact hr
theorem s_wants (W : WF l) (ag : ∀ p, p < m → tk l' p = tk l p) (k : Nat) (s : List UInt8) (i : Int) (b : Bool) : S (fun x : Int × Bool => x.1) i m (lm l) (expr_reader_wants k s l i b) (expr_reader_wants k s l' i b) := by
  unfold expr_reader_wants
  refine S.bind (s_takes W ag k s i b) fun x _ hx => ?_
  exact S.here rfl
theorem s_name (W : WF l) (ag : ∀ p, p < m → tk l' p = tk l p) (k : Nat) (i : Int) (b : Bool) : S p3 i m (lm l) (expr_reader_name k l i b) (expr_reader_name k l' i b) := by
  unfold expr_reader_name
  refine S.bind (s_look ag k i b) fun t ht _ => ?_
  rw [look_eq] at ht; cases ht
  refine S.ite (fun _ => S.here rfl) (fun hc => S.pure ?_)
  have hk : (tk l i).Kind = 1 := by
    cases b <;> simp at hc
    exact hc
  exact adv W (by omega)
theorem s_kind (W : WF l) (ag : ∀ p, p < m → tk l' p = tk l p) : ∀ (k : Nat) (i : Int) (b : Bool), S p3 i m (lm l) (expr_reader_kind k l i b) (expr_reader_kind k l' i b)
  | 0, i, b => by rw [expr_reader_kind]; exact S.none
  | k + 1, i, b => by
    rw [expr_reader_kind, expr_reader_kind]
    refine S.bind (s_look ag k i b) fun t ht _ => ?_
    simp only [joinK]
    refine S.ite (fun _ => S.bind (s_name W ag k i b) fun x _ hx => S.here rfl) (fun _ => ?_)
    refine S.bind (s_takes W ag k _ i b) fun x hx hxi => ?_
    obtain ⟨x1, x2⟩ := x
    simp only at hxi ⊢
    refine S.ite (fun _ => ?_) (fun _ => ?_)
    · refine S.bind (s_wants W ag k _ x2 b) fun y _ hy => ?_
      obtain ⟨y1, y2⟩ := y
      simp only at hy ⊢
      refine S.ite (fun _ => S.here rfl) (fun _ => ?_)
      exact S.bind (s_kind W ag k y1 y2) fun z _ hz => S.here rfl
    · have fin : ∀ (kd : Int) (s : List UInt8), expr_reader_is k kd s l x2 b = some true → kd ≠ 0 → x2 ≤ IntKind.i64.wrap (x2 + 1) ∧ (x2 ≤ lm l → IntKind.i64.wrap (x2 + 1) ≤ lm l) := by
        intro kd s h hk
        rw [is_eq] at h
        have h := Option.some.inj h
        exact adv W (by rw [(isT_kind h).1]; exact hk)
      refine S.bind (s_is ag k _ _ x2 b) fun y hy _ => ?_
      refine S.ite (fun hc => S.pure (fin _ _ (by rw [hy, hc]) (by omega))) (fun _ => ?_)
      refine S.bind (s_is ag k _ _ x2 b) fun y hy _ => ?_
      refine S.ite (fun hc => S.pure (fin _ _ (by rw [hy, hc]) (by omega))) (fun _ => ?_)
      refine S.bind (s_is ag k _ _ x2 b) fun y hy _ => ?_
      refine S.ite (fun hc => S.pure (fin _ _ (by rw [hy, hc]) (by omega))) (fun _ => ?_)
      exact S.here rfl
theorem sign_kind {k : Nat} {q i : Int} {b : Bool} {s : Int} (h : expr_reader_sign k q l i b = some s) (hs : s ≠ 0) : (tk l i).Kind = 4 := by
  unfold expr_reader_sign at h
  rw [look_eq] at h
  simp only [Option.bind_some, joinK] at h
  obtain ⟨⟨y1, y2⟩, _, h⟩ := Opt.ex h
  simp only at h
  cases hc : (y2 && ((tk l i).Kind == 4)) with
  | true => simp at hc; exact hc.2
  | false => rw [hc] at h; simp at h; exact (hs h.symm).elim
structure SA (l l' : List TToken) (m : Int) (k : Nat) : Prop where
  args : ∀ (i : Int) (b : Bool), S p3 i m (lm l) (expr_reader_args k l i b) (expr_reader_args k l' i b)
  word : ∀ (n : TNode) (s : List UInt8) (i : Int) (b : Bool), (i ≤ IntKind.i64.wrap (i + 1) ∧ (i ≤ lm l → IntKind.i64.wrap (i + 1) ≤ lm l)) → S p3 i m (lm l) (expr_reader_word k n s l i b) (expr_reader_word k n s l' i b)
  first : ∀ (i : Int) (b : Bool), S p3 i m (lm l) (expr_reader_first k l i b) (expr_reader_first k l' i b)
  part : ∀ (i : Int) (b : Bool), S p3 i m (lm l) (expr_reader_part k l i b) (expr_reader_part k l' i b)
  factor : ∀ (i : Int) (b : Bool), S p3 i m (lm l) (expr_reader_factor k l i b) (expr_reader_factor k l' i b)
  level : ∀ (q i : Int) (b : Bool), S p3 i m (lm l) (expr_reader_level k q l i b) (expr_reader_level k q l' i b)
theorem sa_args (W : WF l) (ag : ∀ p, p < m → tk l' p = tk l p) {k : Nat} (H : SA l l' m k) (i : Int) (b : Bool) : S p3 i m (lm l) (expr_reader_args (k + 1) l i b) (expr_reader_args (k + 1) l' i b) := by
  rw [expr_reader_args, expr_reader_args]
  refine S.bind (s_wants W ag k _ i b) fun x _ hx => ?_
  obtain ⟨x1, x2⟩ := x
  simp only [joinK] at hx ⊢
  refine S.bind (s_takes W ag k _ x1 x2) fun y _ hy => ?_
  obtain ⟨y1, y2⟩ := y
  simp only at hy ⊢
  refine S.ite (fun _ => S.here rfl) (fun _ => ?_)
  refine S.ofLoop (πs := p3) (fun s => ?_) rfl
  obtain ⟨s1, s2, s3⟩ := s
  simp only
  refine S.ite (fun _ => ?_) (fun _ => S.map (S.here rfl))
  refine S.bind (H.level 1 s2 s3) fun x _ hx => ?_
  obtain ⟨x1, x2, x3⟩ := x
  simp only
  refine S.ite (fun _ => ?_) (fun _ => S.none)
  refine S.bind (s_takes W ag k _ x2 x3) fun y _ hy => ?_
  obtain ⟨y1, y2⟩ := y
  simp only
  refine S.ite (fun _ => S.here rfl) (fun _ => ?_)
  exact S.bind (s_wants W ag k _ y2 x3) fun z _ hz => S.here rfl
theorem sa_word (W : WF l) (ag : ∀ p, p < m → tk l' p = tk l p) {k : Nat} (H : SA l l' m k) (n : TNode) (s : List UInt8) (i : Int) (b : Bool) (hi : i ≤ IntKind.i64.wrap (i + 1) ∧ (i ≤ lm l → IntKind.i64.wrap (i + 1) ≤ lm l)) : S p3 i m (lm l) (expr_reader_word (k + 1) n s l i b) (expr_reader_word (k + 1) n s l' i b) := by
  rw [expr_reader_word, expr_reader_word]
  simp only [joinK]
  have main : ∀ c : Bool, S p3 i m (lm l)
      (if c then (if (s == [116, 114, 117, 101]) then some ((TNode.mk 11 n.At 1 n.Name n.Kids), (IntKind.i64.wrap (i + 1)), b) else some ((TNode.mk 11 n.At n.N n.Name n.Kids), (IntKind.i64.wrap (i + 1)), b)) else
       (if (s == [102, 111, 114, 107]) then
        (expr_reader_name k l (IntKind.i64.wrap (i + 1)) b).bind fun x => (expr_reader_args k l x.2.1 x.2.2).bind fun y => some ((TNode.mk 18 n.At n.N x.1 y.1), y.2.1, y.2.2)
        else if (s == [110, 101, 119]) then
        (expr_reader_kind k l (IntKind.i64.wrap (i + 1)) b).bind fun x => (expr_reader_args k l x.2.1 x.2.2).bind fun y => if (room 64 ([x.1].length + y.1.length)) then some ((TNode.mk 19 n.At n.N n.Name ([x.1] ++ y.1)), y.2.1, y.2.2) else none
        else some (n, i, true)))
      (if c then (if (s == [116, 114, 117, 101]) then some ((TNode.mk 11 n.At 1 n.Name n.Kids), (IntKind.i64.wrap (i + 1)), b) else some ((TNode.mk 11 n.At n.N n.Name n.Kids), (IntKind.i64.wrap (i + 1)), b)) else
       (if (s == [102, 111, 114, 107]) then
        (expr_reader_name k l' (IntKind.i64.wrap (i + 1)) b).bind fun x => (expr_reader_args k l' x.2.1 x.2.2).bind fun y => some ((TNode.mk 18 n.At n.N x.1 y.1), y.2.1, y.2.2)
        else if (s == [110, 101, 119]) then
        (expr_reader_kind k l' (IntKind.i64.wrap (i + 1)) b).bind fun x => (expr_reader_args k l' x.2.1 x.2.2).bind fun y => if (room 64 ([x.1].length + y.1.length)) then some ((TNode.mk 19 n.At n.N n.Name ([x.1] ++ y.1)), y.2.1, y.2.2) else none
        else some (n, i, true))) := by
    intro c
    refine S.ite (fun _ => S.ite (fun _ => S.pure hi) (fun _ => S.pure hi)) (fun _ => ?_)
    refine S.ite (fun _ => ?_) (fun _ => S.ite (fun _ => ?_) (fun _ => S.here rfl))
    · refine S.le (S.bind (s_name W ag k _ b) fun x _ hx => ?_) hi
      exact S.bind (H.args x.2.1 x.2.2) fun y _ hy => S.here rfl
    · refine S.le (S.bind (s_kind W ag k _ b) fun x _ hx => ?_) hi
      exact S.bind (H.args x.2.1 x.2.2) fun y _ hy => S.ite (fun _ => S.here rfl) (fun _ => S.none)
  exact S.ite (fun _ => main _) (fun _ => main _)
theorem sa_first (W : WF l) (ag : ∀ p, p < m → tk l' p = tk l p) {k : Nat} (H : SA l l' m k) (i : Int) (b : Bool) : S p3 i m (lm l) (expr_reader_first (k + 1) l i b) (expr_reader_first (k + 1) l' i b) := by
  rw [expr_reader_first, expr_reader_first]
  refine S.bind (s_look ag k i b) fun t ht _ => ?_
  rw [look_eq] at ht; cases ht
  simp only [joinK]
  refine S.ite (fun hc => S.pure ?_) (fun _ => ?_)
  · have hk : (tk l i).Kind = 2 := by simpa using hc
    exact adv W (by omega)
  refine S.ite (fun _ => ?_) (fun _ => ?_)
  · refine S.bind (s_name W ag k i b) fun x _ hx => ?_
    obtain ⟨x1, x2, x3⟩ := x
    simp only
    refine S.bind (s_is ag k _ _ x2 x3) fun y _ _ => ?_
    refine S.ite (fun _ => ?_) (fun _ => S.here rfl)
    exact S.bind (H.args x2 x3) fun z _ hz => S.here rfl
  · refine S.bind (s_takes W ag k _ i b) fun x hx0 hx => ?_
    obtain ⟨x1, x2⟩ := x
    simp only at hx ⊢
    refine S.ite (fun _ => ?_) (fun hx1 => ?_)
    · refine S.bind (H.level 1 x2 b) fun y _ hy => ?_
      obtain ⟨y1, y2, y3⟩ := y
      simp only
      exact S.bind (s_wants W ag k _ y2 y3) fun z _ hz => S.here rfl
    · refine S.ite (fun hc => ?_) (fun _ => S.here rfl)
      have hx2 : x2 = i := by
        subst hx1
        cases b with
        | true => rw [takes_bad] at hx0; cases hx0; rfl
        | false =>
          rw [takes_eq] at hx0
          cases h : isT (tk l i) 4 [40] with
          | true => rw [h] at hx0; cases hx0
          | false => rw [h] at hx0; cases hx0; rfl
      subst hx2
      have hk : (tk l x2).Kind = 3 := by simpa using hc
      exact S.bind (H.word _ _ x2 b (adv W (by omega))) fun z _ hz => S.here rfl
theorem sa_part (W : WF l) (ag : ∀ p, p < m → tk l' p = tk l p) {k : Nat} (H : SA l l' m k) (i : Int) (b : Bool) : S p3 i m (lm l) (expr_reader_part (k + 1) l i b) (expr_reader_part (k + 1) l' i b) := by
  rw [expr_reader_part, expr_reader_part]
  refine S.bind (H.first i b) fun x _ hx => ?_
  obtain ⟨x1, x2, x3⟩ := x
  simp only [joinK]
  refine S.ofLoop (πs := fun s : Int × Bool × TNode => s.1) (fun s => ?_) rfl
  obtain ⟨s1, s2, s3⟩ := s
  simp only
  refine S.ite (fun _ => ?_) (fun _ => S.map (S.here rfl))
  refine S.bind (s_look ag k s1 s2) fun t _ _ => ?_
  refine S.bind (s_takes W ag k _ s1 s2) fun x _ hx => ?_
  obtain ⟨x1, x2⟩ := x
  simp only
  refine S.ite (fun _ => ?_) (fun _ => ?_)
  · refine S.bind (H.level 1 x2 s2) fun y _ hy => ?_
    obtain ⟨y1, y2, y3⟩ := y
    simp only
    exact S.bind (s_wants W ag k _ y2 y3) fun z _ hz => S.here rfl
  · refine S.bind (s_takes W ag k _ x2 s2) fun y _ hy => ?_
    obtain ⟨y1, y2⟩ := y
    simp only
    refine S.ite (fun _ => ?_) (fun _ => S.here rfl)
    exact S.bind (s_name W ag k y2 s2) fun z _ hz => S.here rfl
theorem sa_factor (W : WF l) (ag : ∀ p, p < m → tk l' p = tk l p) {k : Nat} (H : SA l l' m k) (i : Int) (b : Bool) : S p3 i m (lm l) (expr_reader_factor (k + 1) l i b) (expr_reader_factor (k + 1) l' i b) := by
  rw [expr_reader_factor, expr_reader_factor]
  refine S.bind (s_look ag k i b) fun t _ _ => ?_
  simp only [joinK]
  refine S.ofLoop (πs := fun s : Int × Int => s.2) (fun s => ?_) rfl
  obtain ⟨s1, s2⟩ := s
  simp only
  refine S.ite (fun _ => ?_) (fun _ => S.map (S.bind (H.part s2 b) fun z _ hz => S.here rfl))
  refine S.bind (π := fun _ => s2) S.same fun x _ _ => ?_
  refine S.bind (π := fun _ => s2) S.same fun y _ _ => ?_
  refine S.bind (s_takes W ag k _ s2 b) fun z _ hz => ?_
  obtain ⟨z1, z2⟩ := z
  simp only
  refine S.ite (fun _ => ?_) (fun _ => S.here rfl)
  exact S.bind (H.factor z2 b) fun u _ hu => S.here rfl
theorem sa_level (W : WF l) (ag : ∀ p, p < m → tk l' p = tk l p) {k : Nat} (H : SA l l' m k) (q i : Int) (b : Bool) : S p3 i m (lm l) (expr_reader_level (k + 1) q l i b) (expr_reader_level (k + 1) q l' i b) := by
  rw [expr_reader_level, expr_reader_level]
  refine S.ite (fun _ => S.bind (H.factor i b) fun z _ hz => S.here rfl) (fun _ => ?_)
  refine S.bind (H.level _ i b) fun x _ hx => ?_
  obtain ⟨x1, x2, x3⟩ := x
  simp only [joinK]
  refine S.ofLoop (πs := fun s : Int × Bool × TNode => s.1) (fun s => ?_) rfl
  obtain ⟨s1, s2, s3⟩ := s
  simp only
  refine S.ite (fun _ => ?_) (fun _ => S.map (S.here rfl))
  refine S.bind (s_sign ag k q s1 s2) fun y hy _ => ?_
  refine S.ite (fun _ => S.map (S.here rfl)) (fun hc => ?_)
  have hk := sign_kind hy (by simpa using hc)
  have hw := adv W (i := s1) (by omega)
  refine S.bind (s_look ag k s1 s2) fun t _ _ => ?_
  refine S.le (S.bind (H.level _ _ s2) fun z _ hz => ?_) hw
  obtain ⟨z1, z2, z3⟩ := z
  simp only
  exact S.ite (fun _ => S.map (S.here rfl)) (fun _ => S.here rfl)
theorem sa_all (W : WF l) (ag : ∀ p, p < m → tk l' p = tk l p) : ∀ k, SA l l' m k
  | 0 => by
    refine ⟨fun i b => ?_, fun n s i b _ => ?_, fun i b => ?_, fun i b => ?_, fun i b => ?_, fun q i b => ?_⟩
    · rw [expr_reader_args]; exact S.none
    · rw [expr_reader_word]; exact S.none
    · rw [expr_reader_first]; exact S.none
    · rw [expr_reader_part]; exact S.none
    · rw [expr_reader_factor]; exact S.none
    · rw [expr_reader_level]; exact S.none
  | k + 1 => by
    have H := sa_all W ag k
    exact ⟨sa_args W ag H, sa_word W ag H, sa_first W ag H, sa_part W ag H, sa_factor W ag H, sa_level W ag H⟩
end
theorem tk_app {l l1 : List TToken} {n : Nat} (hn : n ≤ l.length) {p : Int} (hp : p < n) : tk (l.take n ++ l1) p = tk l p := by
  unfold tk
  split
  · rename_i h0
    have h1 : p.toNat < n := by omega
    rw [List.getElem?_append_left (by simp; omega), List.getElem?_take, if_pos h1]
  · rfl
end Go.Proofs.YtjakhfaodfaimaaDoor.F
namespace Go.Proofs.YtjakhfaodfaimaaDoor.F
open Go
theorem S.ite2 {α : Type} {π : α → Int} {j m M : Int} {c c' : Bool} {A A' B B' : Option α} (hc : j < m → c' = c) (hA : c = true → S π j m M A A') (hB : c = false → S π j m M B B') : S π j m M (if c = true then A else B) (if c' = true then A' else B') := by
  intro r hr
  cases c with
  | true =>
    obtain ⟨h1, h2, h3⟩ := hA rfl r hr
    exact ⟨h1, h2, fun hm => by rw [hc (by omega)]; exact h3 hm⟩
  | false =>
    obtain ⟨h1, h2, h3⟩ := hB rfl r hr
    exact ⟨h1, h2, fun hm => by rw [hc (by omega)]; exact h3 hm⟩
section
variable {l l' : List TToken} {m : Int}
theorem t_look (ag : ∀ p, p < m → tk l' p = tk l p) (k : Nat) (i : Int) (b : Bool) {j : Int} (hj : i ≤ j) : S (fun _ => j) j m (lm l) (stmt_cursor_look k l i b) (stmt_cursor_look k l' i b) := by
  rw [slook_eq, slook_eq]
  intro r hr
  exact ⟨Int.le_refl _, fun h => h, fun hm => by have hm : j < m := hm; rw [ag i (by omega)]; exact hr⟩
theorem t_is (ag : ∀ p, p < m → tk l' p = tk l p) (k : Nat) (kd : Int) (s : List UInt8) (i : Int) (b : Bool) : S (fun _ => i) i m (lm l) (stmt_cursor_is k kd s l i b) (stmt_cursor_is k kd s l' i b) := by
  cases b with
  | true => rw [sis_bad, sis_bad]; exact S.here rfl
  | false =>
    rw [sis_eq, sis_eq]
    intro r hr
    exact ⟨Int.le_refl _, fun h => h, fun hm => by rw [ag i hm]; exact hr⟩
theorem t_takes (W : WF l) (ag : ∀ p, p < m → tk l' p = tk l p) (k : Nat) (kd : Int) (s : List UInt8) (i : Int) (b : Bool) (h0 : kd ≠ 0) : S (fun x : Bool × Int => x.2) i m (lm l) (stmt_cursor_takes k kd s l i b) (stmt_cursor_takes k kd s l' i b) := by
  cases b with
  | true => rw [stakes_bad, stakes_bad]; exact S.here rfl
  | false =>
    rw [stakes_eq, stakes_eq]
    intro r hr
    have both : i ≤ r.2 ∧ (i ≤ lm l → r.2 ≤ lm l) := by
      cases h : isT (tk l i) kd s with
      | true =>
        rw [h] at hr; cases hr
        exact adv W (by rw [(isT_kind h).1]; exact h0)
      | false => rw [h] at hr; cases hr; exact ⟨Int.le_refl _, fun h => h⟩
    refine ⟨both.1, both.2, fun hm => ?_⟩
    have hm : r.2 < m := hm
    rw [ag i (by omega)]; exact hr
theorem t_wants (W : WF l) (ag : ∀ p, p < m → tk l' p = tk l p) (k : Nat) (s : List (List UInt8)) (i : Int) (b : Bool) : S (fun x : Int × Bool => x.1) i m (lm l) (stmt_cursor_wants k s l i b) (stmt_cursor_wants k s l' i b) := by
  unfold stmt_cursor_wants
  refine S.ofLoop (πs := fun s : Int × Int × Bool => s.2.1) (fun s => ?_) rfl
  obtain ⟨s1, s2, s3⟩ := s
  simp only
  refine S.ite (fun _ => ?_) (fun _ => S.here rfl)
  refine S.bind (π := fun _ => s2) S.same fun x _ _ => ?_
  exact S.bind (t_takes W ag k 4 x s2 s3 (by decide)) fun y _ hy => S.here rfl
abbrev p4 {α β γ : Type} (x : α × β × Int × γ) : Int := x.2.2.1
theorem t_name (W : WF l) (ag : ∀ p, p < m → tk l' p = tk l p) (k : Nat) (i : Int) (b : Bool) : S p4 i m (lm l) (stmt_cursor_name k l i b) (stmt_cursor_name k l' i b) := by
  unfold stmt_cursor_name
  refine S.bind (t_look ag k i b (Int.le_refl _)) fun t ht _ => ?_
  rw [slook_eq] at ht; cases ht
  refine S.ite (fun _ => S.here rfl) (fun hc => S.pure ?_)
  have hk : (tk l i).Kind = 1 := by
    cases b <;> simp at hc
    exact hc
  exact adv W (by omega)
theorem t_expr (W : WF l) (ag : ∀ p, p < m → tk l' p = tk l p) (k : Nat) (i : Int) (b : Bool) : S p3 i m (lm l) (stmt_cursor_expr k l i b) (stmt_cursor_expr k l' i b) := by
  unfold stmt_cursor_expr stmt_cursor_part_v2
  refine S.bind (π := p3) (S.ite (fun _ => S.here rfl) (fun _ => ?_)) fun x _ hx => S.here rfl
  refine S.bind (π := p3) ?_ fun x _ hx => S.here rfl
  unfold expr_Expr
  refine S.bind ((sa_all W ag k).level 1 i false) fun x _ hx => ?_
  refine S.bind (π := p3) ?_ fun x _ hx => S.here rfl
  unfold expr_reader_end
  exact S.ite (fun _ => S.here rfl) (fun _ => S.here rfl)
theorem t_partAt (ag : ∀ p, p < m → tk l' p = tk l p) (k : Nat) (i j : Int) (h : S p3 j m (lm l) (expr_reader_kind k l i false) (expr_reader_kind k l' i false)) : S p3 j m (lm l) (stmt_cursor_part k l i false) (stmt_cursor_part k l' i false) := by
  unfold stmt_cursor_part
  refine S.ite (fun hc => by cases hc) (fun _ => ?_)
  refine S.bind (π := p3) ?_ fun x _ hx => S.here rfl
  unfold expr_Type
  refine S.bind h fun x _ hx => ?_
  refine S.bind (π := p3) ?_ fun x _ hx => S.here rfl
  unfold expr_reader_end
  exact S.ite (fun _ => S.here rfl) (fun _ => S.here rfl)
theorem t_part (W : WF l) (ag : ∀ p, p < m → tk l' p = tk l p) (k : Nat) (i : Int) (b : Bool) : S p3 i m (lm l) (stmt_cursor_part k l i b) (stmt_cursor_part k l' i b) := by
  cases b with
  | true => rw [spart_bad, spart_bad]; exact S.here rfl
  | false => exact t_partAt ag k i i (s_kind W ag k i false)
theorem t_partB (W : WF l) (ag : ∀ p, p < m → tk l' p = tk l p) (k : Nat) (i : Int) (h : isT (tk l i) 4 [91] = true) : S p3 (i + 1) m (lm l) (stmt_cursor_part k l i false) (stmt_cursor_part k l' i false) := by
  refine t_partAt ag k i (i + 1) ?_
  obtain ⟨n1, n2, n3⟩ := W.next (i := i) (by rw [(isT_kind h).1]; decide)
  cases k with
  | zero => rw [expr_reader_kind]; exact S.none
  | succ k =>
    rw [kind_step, kind_step]
    simp only [joinK]
    refine S.ite2 (fun hm => by rw [ag i (by omega)]) (fun hc => ?_) (fun _ => ?_)
    · have hc : (tk l i).Kind = 1 := by simpa using hc
      have := (isT_kind h).1
      omega
    · refine S.ite2 (fun hm => by rw [ag i (by omega)]) (fun _ => ?_) (fun hc => by rw [h] at hc; cases hc)
      rw [n3]
      refine S.bind (s_wants W ag k _ (i + 1) false) fun y _ hy => ?_
      obtain ⟨y1, y2⟩ := y
      simp only at hy ⊢
      have hag : y1 < m → tk l' i = tk l i := fun hm => ag i (by omega)
      refine S.ite (fun _ => ?_) (fun _ => ?_)
      · intro r hr
        cases hr
        exact ⟨Int.le_refl _, fun h => h, fun hm => by rw [hag hm]⟩
      · refine S.bind (s_kind W ag k y1 y2) fun z _ hz => ?_
        intro r hr
        cases hr
        exact ⟨Int.le_refl _, fun h => h, fun hm => by have hm : z.2.1 < m := hm; have hz : y1 ≤ z.2.1 := hz; rw [ag i (by omega)]⟩
theorem t_param (W : WF l) (ag : ∀ p, p < m → tk l' p = tk l p) (k : Nat) (i : Int) (b : Bool) : S p3 i m (lm l) (stmt_cursor_param k l i b) (stmt_cursor_param k l' i b) := by
  unfold stmt_cursor_param
  refine S.bind (t_name W ag k i b) fun x _ hx => ?_
  exact S.bind (t_part W ag k _ _) fun y _ hy => S.here rfl
theorem t_place (W : WF l) (ag : ∀ p, p < m → tk l' p = tk l p) (k : Nat) (i j : Int) (b : Bool) (hn : S p4 j m (lm l) (stmt_cursor_name k l i b) (stmt_cursor_name k l' i b)) : S p3 j m (lm l) (stmt_cursor_place k l i b) (stmt_cursor_place k l' i b) := by
  unfold stmt_cursor_place
  refine S.bind hn fun x _ hx => ?_
  obtain ⟨x1, x2, x3, x4⟩ := x
  simp only [joinK]
  refine S.ofLoop (πs := fun s : Int × Bool × TNode => s.1) (fun s => ?_) rfl
  obtain ⟨s1, s2, s3⟩ := s
  simp only
  refine S.ite (fun _ => ?_) (fun _ => S.map (S.here rfl))
  refine S.bind (t_look ag k s1 s2 (Int.le_refl _)) fun t _ _ => ?_
  refine S.bind (t_takes W ag k _ _ s1 s2 (by decide)) fun x _ hx => ?_
  obtain ⟨x1, x2⟩ := x
  simp only
  refine S.ite (fun _ => ?_) (fun _ => ?_)
  · refine S.bind (t_expr W ag k x2 s2) fun y _ hy => ?_
    obtain ⟨y1, y2, y3⟩ := y
    simp only
    exact S.bind (t_wants W ag k _ y2 y3) fun z _ hz => S.here rfl
  · refine S.bind (t_takes W ag k _ _ x2 s2 (by decide)) fun y _ hy => ?_
    obtain ⟨y1, y2⟩ := y
    simp only
    refine S.ite (fun _ => ?_) (fun _ => S.here rfl)
    exact S.bind (t_name W ag k y2 s2) fun z _ hz => S.here rfl
def nA (k : Nat) (l : List TToken) (i : Int) : Option (TNode × Int × Bool) :=
    (stmt_cursor_look k l i false).bind fun x2_1 =>
    (expr_Args k l (i + 1)).bind fun (x3_9_0, x3_9_1, x3_9_2) =>
    (stmt_cursor_wants k [[59]] l x3_9_1 (x3_9_2 != 0)).bind fun (x5_2_0, x5_2_1) =>
    some ((TNode.mk 38 x2_1.At 0 [] [(TNode.mk 17 x2_1.At 0 x2_1.Text x3_9_0)]), x5_2_0, x5_2_1)
def nB (k : Nat) (l : List TToken) (i : Int) : Option (TNode × Int × Bool) :=
    (stmt_cursor_place k l i false).bind fun (x7_1_0, x7_1_1, x7_1_2) =>
    (stmt_cursor_look k l x7_1_1 x7_1_2).bind fun x8_1 =>
    (stmt_cursor_wants k [[61]] l x7_1_1 x7_1_2).bind fun (x9_2_0, x9_2_1) =>
    (stmt_cursor_expr k l x9_2_0 x9_2_1).bind fun (x10_1_0, x10_1_1, x10_1_2) =>
    (stmt_cursor_wants k [[59]] l x10_1_1 x10_1_2).bind fun (x11_2_0, x11_2_1) =>
    some ((TNode.mk 32 x8_1.At 0 [] [x7_1_0, x10_1_0]), x11_2_0, x11_2_1)
theorem named_if (k : Nat) (l : List TToken) (i : Int) (h0 : 0 ≤ i + 1) (n3 : IntKind.i64.wrap (i + 1) = i + 1) : stmt_cursor_named k l i false = if isT (tk l (i + 1)) 4 [40] then nA k l i else nB k l i := by
  have e : stmt_cursor_named k l i false = joinK (fun (g1_25_35 : Bool) =>
      joinK (fun (g1_40_50 : Bool) => if g1_40_50 then nA k l i else nB k l i) fun j_g1_40 =>
      if g1_25_35 then (ix l (i + 1)).bind fun x1_36 => j_g1_40 (x1_36.Text == [40]) else j_g1_40 false) fun j_g1_25 =>
      if (decide ((i + 1) < (l.length : Int))) then (ix l (i + 1)).bind fun x1_21 => j_g1_25 (x1_21.Kind == 4) else j_g1_25 false := by
    unfold stmt_cursor_named nA nB
    rw [n3]
  rw [e]
  simp only [joinK]
  by_cases h1 : i + 1 < l.length
  · simp only [ix_tk h0 h1, show decide (i + 1 < (l.length : Int)) = true by simpa using h1, if_true, Option.bind_some]
    cases hk : (tk l (i + 1)).Kind == 4
    · simp only [isT, hk, Bool.false_and, Bool.false_eq_true, if_false]
    · cases ht : (tk l (i + 1)).Text == [40]
      · simp only [isT, hk, ht, Bool.and_false, Bool.false_eq_true, if_false, if_true]
      · simp only [isT, hk, ht, Bool.and_true, if_true]
  · have hz : (tk l (i + 1)).Kind = 0 := by
      unfold tk
      rw [if_pos h0, List.getElem?_eq_none (by omega)]; rfl
    simp only [show decide (i + 1 < (l.length : Int)) = false by simpa using h1, Bool.false_eq_true, if_false, isT_ne (t := tk l (i + 1)) (k := 4) (s := [40]) (by omega)]
theorem t_named (W : WF l) (ag : ∀ p, p < m → tk l' p = tk l p) (k : Nat) (i : Int) (hk : (tk l i).Kind = 1) : S p3 i m (lm l) (stmt_cursor_named k l i false) (stmt_cursor_named k l' i false) := by
  obtain ⟨n1, n2, n3⟩ := W.next (i := i) (by omega)
  have ha := adv W (i := i) (by omega)
  rw [n3] at ha
  rw [named_if k l i (by omega) n3, named_if k l' i (by omega) n3]
  refine S.le (j := i + 1) (S.ite2 (fun hm => by rw [ag (i + 1) hm]) (fun _ => ?_) (fun _ => ?_)) ha
  · unfold nA
    refine S.bind (t_look ag k i false (j := i + 1) (by omega)) fun t _ _ => ?_
    refine S.bind (π := p3) ?_ fun x _ hx => ?_
    · unfold expr_Args
      refine S.bind ((sa_all W ag k).args (i + 1) false) fun x _ hx => ?_
      obtain ⟨x1, x2, x3⟩ := x
      simp only [joinK]
      exact S.ite (fun _ => S.here rfl) (fun _ => S.here rfl)
    · obtain ⟨x1, x2, x3⟩ := x
      simp only
      exact S.bind (t_wants W ag k _ x2 _) fun y _ hy => S.here rfl
  · unfold nB
    refine S.bind (t_place W ag k i (i + 1) false ?_) fun x _ hx => ?_
    · rw [sname_eq, sname_eq, hk]
      intro r hr
      cases hr
      rw [n3]
      refine ⟨Int.le_refl _, fun h => h, fun hm => ?_⟩
      have : i + 1 < m := hm
      rw [ag i (by omega), hk]
    · obtain ⟨x1, x2, x3⟩ := x
      simp only
      refine S.bind (t_look ag k x2 x3 (Int.le_refl _)) fun t _ _ => ?_
      refine S.bind (t_wants W ag k _ x2 x3) fun y _ hy => ?_
      obtain ⟨y1, y2⟩ := y
      simp only
      refine S.bind (t_expr W ag k y1 y2) fun z _ hz => ?_
      obtain ⟨z1, z2, z3⟩ := z
      simp only
      exact S.bind (t_wants W ag k _ z2 z3) fun u _ hu => S.here rfl
structure SB (l l' : List TToken) (m : Int) (k : Nat) : Prop where
  st : ∀ i, S p3 i m (lm l) (stmt_cursor_stmt k l i false) (stmt_cursor_stmt k l' i false)
  bl : ∀ i b, S p3 i m (lm l) (stmt_cursor_block k l i b) (stmt_cursor_block k l' i b)
  wd : ∀ a0 a1 a2 a3 a4 s i b, (tk l i).Kind ≠ 0 → S p3 i m (lm l) (stmt_cursor_word_v2 k a0 a1 a2 a3 a4 s l i b) (stmt_cursor_word_v2 k a0 a1 a2 a3 a4 s l' i b)
  ch : ∀ a0 a1 a2 a3 a4 i b, S p3 i m (lm l) (stmt_cursor_choice_v2 k a0 a1 a2 a3 a4 l i b) (stmt_cursor_choice_v2 k a0 a1 a2 a3 a4 l' i b)
theorem sb_stmt (W : WF l) (ag : ∀ p, p < m → tk l' p = tk l p) {k : Nat} (H : SB l l' m k) (i : Int) : S p3 i m (lm l) (stmt_cursor_stmt (k + 1) l i false) (stmt_cursor_stmt (k + 1) l' i false) := by
  rw [stmt_cursor_stmt, stmt_cursor_stmt]
  refine S.bind (t_look ag k i false (Int.le_refl _)) fun t ht _ => ?_
  rw [slook_eq] at ht; cases ht
  refine S.ite (fun hc => S.bind (t_named W ag k i (by simpa using hc)) fun x _ hx => S.here rfl) (fun _ => ?_)
  refine S.bind (t_is ag k _ _ i false) fun y _ _ => ?_
  refine S.ite (fun _ => S.bind (H.bl i false) fun x _ hx => S.here rfl) (fun _ => ?_)
  refine S.ite (fun _ => S.here rfl) (fun hc => ?_)
  have hk : (tk l i).Kind = 3 := by simpa using hc
  exact S.bind (H.wd _ _ _ _ _ _ i false (by omega)) fun x _ hx => S.here rfl
theorem sb_block (W : WF l) (ag : ∀ p, p < m → tk l' p = tk l p) {k : Nat} (H : SB l l' m k) (i : Int) (b : Bool) : S p3 i m (lm l) (stmt_cursor_block (k + 1) l i b) (stmt_cursor_block (k + 1) l' i b) := by
  rw [stmt_cursor_block, stmt_cursor_block]
  refine S.bind (t_look ag k i b (Int.le_refl _)) fun t ht _ => ?_
  refine S.bind (t_wants W ag k _ i b) fun x _ hx => ?_
  obtain ⟨x1, x2⟩ := x
  simp only [joinK]
  refine S.ofLoop (πs := fun s : List TNode × Int × Bool => s.2.1) (fun s => ?_) rfl
  obtain ⟨s1, s2, s3⟩ := s
  cases s3 with
  | true => simp only [Bool.not_true, Bool.false_eq_true, if_false]; exact S.map (S.here rfl)
  | false =>
    simp only [Bool.not_false, if_true]
    refine S.bind (t_takes W ag k _ _ s2 false (by decide)) fun y _ hy => ?_
    obtain ⟨y1, y2⟩ := y
    simp only
    refine S.ite (fun _ => ?_) (fun _ => S.map (S.here rfl))
    refine S.bind (H.st y2) fun z _ hz => ?_
    exact S.ite (fun _ => S.here rfl) (fun _ => S.none)
theorem sb_word (W : WF l) (ag : ∀ p, p < m → tk l' p = tk l p) {k : Nat} (H : SB l l' m k) (a0 a1 a2 : Int) (a3 : List UInt8) (a4 : List TNode) (s : List UInt8) (i : Int) (b : Bool) (hk : (tk l i).Kind ≠ 0) : S p3 i m (lm l) (stmt_cursor_word_v2 (k + 1) a0 a1 a2 a3 a4 s l i b) (stmt_cursor_word_v2 (k + 1) a0 a1 a2 a3 a4 s l' i b) := by
  obtain ⟨n1, n2, n3⟩ := W.next hk
  have hlen := W.len
  have hi := adv W hk
  have wb : IntKind.i64.wrap (i + 1 - 1) = i := by rw [show i + 1 - 1 = i by omega]; exact wrap64_id (by omega) (by omega)
  rw [n3] at hi
  rw [stmt_cursor_word_v2, stmt_cursor_word_v2]
  simp only [joinK, n3, wb]
  refine S.ite (fun _ => ?_) (fun _ => ?_)
  · refine S.le (S.bind (t_name W ag k _ b) fun x _ hx => ?_) hi
    refine S.bind (t_wants W ag k _ _ _) fun y _ hy => ?_
    refine S.bind (t_expr W ag k _ _) fun z _ hz => ?_
    exact S.bind (t_wants W ag k _ _ _) fun u _ hu => S.here rfl
  refine S.ite (fun _ => ?_) (fun _ => ?_)
  · exact S.le (S.bind (H.ch _ _ _ _ _ _ b) fun x _ hx => S.here rfl) hi
  refine S.ite (fun _ => ?_) (fun _ => ?_)
  · refine S.le (S.bind (t_expr W ag k _ b) fun x _ hx => ?_) hi
    refine S.ite (fun _ => ?_) (fun _ => S.none)
    refine S.bind (H.bl _ _) fun y _ hy => ?_
    exact S.ite (fun _ => S.here rfl) (fun _ => S.none)
  refine S.ite (fun _ => ?_) (fun _ => ?_)
  · refine S.le (S.bind (t_takes W ag k _ _ _ b (by decide)) fun x _ hx => ?_) hi
    refine S.ite (fun _ => ?_) (fun _ => S.here rfl)
    refine S.bind (t_expr W ag k _ _) fun z _ hz => ?_
    exact S.bind (t_wants W ag k _ _ _) fun u _ hu => S.here rfl
  refine S.ite (fun _ => ?_) (fun _ => ?_)
  · refine S.le (S.bind (t_name W ag k _ b) fun x _ hx => ?_) hi
    exact S.bind (t_wants W ag k _ _ _) fun y _ hy => S.here rfl
  refine S.ite (fun _ => ?_) (fun _ => S.here rfl)
  · refine S.le (S.bind (t_expr W ag k _ b) fun z _ hz => ?_) hi
    exact S.bind (t_wants W ag k _ _ _) fun u _ hu => S.here rfl
theorem sb_choice (W : WF l) (ag : ∀ p, p < m → tk l' p = tk l p) {k : Nat} (H : SB l l' m k) (a0 a1 a2 : Int) (a3 : List UInt8) (a4 : List TNode) (i : Int) (b : Bool) : S p3 i m (lm l) (stmt_cursor_choice_v2 (k + 1) a0 a1 a2 a3 a4 l i b) (stmt_cursor_choice_v2 (k + 1) a0 a1 a2 a3 a4 l' i b) := by
  rw [stmt_cursor_choice_v2, stmt_cursor_choice_v2]
  simp only [joinK]
  refine S.bind (t_expr W ag k _ b) fun x _ hx => ?_
  refine S.ite (fun _ => ?_) (fun _ => S.none)
  refine S.bind (H.bl _ _) fun y _ hy => ?_
  refine S.ite (fun _ => ?_) (fun _ => S.none)
  refine S.bind (t_takes W ag k _ _ _ _ (by decide)) fun z _ hz => ?_
  refine S.ite (fun _ => S.here rfl) (fun _ => ?_)
  refine S.bind (t_look ag k _ _ (Int.le_refl _)) fun t _ _ => ?_
  refine S.bind (t_takes W ag k _ _ _ _ (by decide)) fun u _ hu => ?_
  refine S.ite (fun _ => ?_) (fun _ => ?_)
  · refine S.bind (H.ch _ _ _ _ _ _ _) fun v _ hv => ?_
    exact S.ite (fun _ => S.here rfl) (fun _ => S.none)
  · refine S.bind (H.bl _ _) fun v _ hv => ?_
    exact S.ite (fun _ => S.here rfl) (fun _ => S.none)
theorem sb_all (W : WF l) (ag : ∀ p, p < m → tk l' p = tk l p) : ∀ k, SB l l' m k
  | 0 => by
    refine ⟨fun i => ?_, fun i b => ?_, fun a0 a1 a2 a3 a4 s i b _ => ?_, fun a0 a1 a2 a3 a4 i b => ?_⟩
    · rw [stmt_cursor_stmt]; exact S.none
    · rw [stmt_cursor_block]; exact S.none
    · rw [stmt_cursor_word_v2]; exact S.none
    · rw [stmt_cursor_choice_v2]; exact S.none
  | k + 1 => by
    have H := sb_all W ag k
    exact ⟨sb_stmt W ag H, sb_block W ag H, sb_word W ag H, sb_choice W ag H⟩
theorem t_rec (W : WF l) (ag : ∀ p, p < m → tk l' p = tk l p) (k : Nat) (a0 a1 a2 : Int) (a3 : List UInt8) (a4 : List TNode) (i : Int) (b : Bool) : S p3 i m (lm l) (stmt_cursor_rec_v2 k a0 a1 a2 a3 a4 l i b) (stmt_cursor_rec_v2 k a0 a1 a2 a3 a4 l' i b) := by
  unfold stmt_cursor_rec_v2
  simp only [joinK]
  refine S.bind (t_wants W ag k _ i b) fun x _ hx => ?_
  refine S.ofLoop (πs := fun s : List TNode × Int × Bool => s.2.1) (fun s => ?_) rfl
  obtain ⟨s1, s2, s3⟩ := s
  simp only
  refine S.ite (fun _ => ?_) (fun _ => S.map (S.here rfl))
  refine S.bind (t_param W ag k s2 s3) fun y _ hy => ?_
  refine S.ite (fun _ => ?_) (fun _ => S.none)
  refine S.bind (t_wants W ag k _ _ _) fun z _ hz => ?_
  refine S.bind (t_takes W ag k _ _ _ _ (by decide)) fun u _ hu => ?_
  exact S.ite (fun _ => S.map (S.here rfl)) (fun _ => S.here rfl)
theorem t_isoT (W : WF l) (ag : ∀ p, p < m → tk l' p = tk l p) (k : Nat) (a v q j : Int) (s : List UInt8) (b : Bool) (hp : S p3 j m (lm l) (stmt_cursor_part k l q b) (stmt_cursor_part k l' q b)) : S p3 j m (lm l) (eIsoT l a s v q b k) (eIsoT l' a s v q b k) := by
  unfold eIsoT
  simp only [joinK]
  refine S.bind hp fun x _ hx => ?_
  refine S.ite (fun _ => ?_) (fun _ => S.none)
  refine S.bind (t_takes W ag k _ _ _ _ (by decide)) fun u _ hu => ?_
  refine S.ite (fun _ => ?_) (fun _ => S.bind (t_wants W ag k _ _ _) fun y _ hy => S.here rfl)
  refine S.bind (t_name W ag k _ _) fun y _ hy => ?_
  refine S.ite (fun _ => ?_) (fun _ => S.none)
  exact S.bind (t_wants W ag k _ _ _) fun y _ hy => S.here rfl
theorem t_iso (W : WF l) (ag : ∀ p, p < m → tk l' p = tk l p) (k : Nat) (a : Int) (s : List UInt8) (i : Int) (b : Bool) : S p3 i m (lm l) (stmt_cursor_iso_v2 k 52 a 0 s [] l i b) (stmt_cursor_iso_v2 k 52 a 0 s [] l' i b) := by
  cases b with
  | true =>
    have e : ∀ l : List TToken, stmt_cursor_iso_v2 k 52 a 0 s [] l i true = eIsoT l a s 0 i true k := fun l => by simp only [stmt_cursor_iso_v2, sis_bad]; rfl
    rw [e, e]
    exact t_isoT W ag k a 0 i i s true (t_part W ag k i true)
  | false =>
    have e := fun l => eIso_eq k l a s i
    simp only [eIso] at e
    rw [e, e]
    cases hb : isT (tk l i) 4 [91] with
    | false =>
      refine S.ite2 (fun hm => by rw [ag i hm, hb]; rfl) (fun hc => by cases hc) (fun _ => ?_)
      exact t_isoT W ag k a 0 i i s false (t_part W ag k i false)
    | true =>
      obtain ⟨n1, n2, n3⟩ := W.next (i := i) (by rw [(isT_kind hb).1]; decide)
      have ha := adv W (i := i) (by rw [(isT_kind hb).1]; decide)
      rw [n3] at ha ⊢
      refine S.le (j := i + 1) (S.ite2 (fun hm => by rw [ag i (by omega), ag (i + 1) hm, hb]) (fun _ => ?_) (fun _ => ?_)) ha
      · refine S.ite2 (fun hm => by rw [ag (i + 1) hm]) (fun _ => ?_) (fun hc => ?_)
        · refine S.bind (t_wants W ag k _ (i + 1) true) fun y _ hy => ?_
          exact t_isoT W ag k a 0 _ _ s _ (t_part W ag k _ _)
        · have hk : (tk l (i + 1)).Kind = 2 := by simp at hc; exact hc.1
          refine S.le (S.bind (t_wants W ag k _ _ false) fun y _ hy => ?_) (adv W (i := i + 1) (by omega))
          have hv : y.1 < m → (tk l' (i + 1)).N = (tk l (i + 1)).N := fun hm => by
            have := (adv W (i := i + 1) (by omega)).1
            rw [ag (i + 1) (by omega)]
          intro r hr
          have := t_isoT W ag k a (tk l (i + 1)).N y.1 y.1 s y.2 (t_part W ag k _ _) r hr
          exact ⟨this.1, this.2.1, fun hm => by rw [hv (by have := this.1; omega)]; exact this.2.2 hm⟩
      · exact t_isoT W ag k a 0 i (i + 1) s false (t_partB W ag k i hb)
theorem t_funT (W : WF l) (ag : ∀ p, p < m → tk l' p = tk l p) (k : Nat) (a : Int) (s : List UInt8) (c : List TNode) (q : Int) (b : Bool) : S p3 q m (lm l) (eFunT l a s c q b k) (eFunT l' a s c q b k) := by
  unfold eFunT
  simp only [joinK]
  refine S.bind (t_is ag k _ _ q b) fun x _ _ => ?_
  refine S.ite (fun _ => ?_) (fun _ => ?_)
  · refine S.ite (fun _ => ?_) (fun _ => S.none)
    refine S.bind ((sb_all W ag k).bl _ _) fun y _ hy => ?_
    exact S.ite (fun _ => S.here rfl) (fun _ => S.none)
  · refine S.bind (t_part W ag k _ _) fun x _ hx => ?_
    refine S.ite (fun _ => ?_) (fun _ => S.none)
    refine S.bind ((sb_all W ag k).bl _ _) fun y _ hy => ?_
    exact S.ite (fun _ => S.here rfl) (fun _ => S.none)
theorem t_fun (W : WF l) (ag : ∀ p, p < m → tk l' p = tk l p) (k : Nat) (a : Int) (s : List UInt8) (i : Int) (b : Bool) : S p3 i m (lm l) (stmt_cursor_fun_v2 k 53 a 0 s [] l i b) (stmt_cursor_fun_v2 k 53 a 0 s [] l' i b) := by
  rw [eFun_eq, eFun_eq]
  refine S.bind (t_wants W ag k _ i b) fun x _ hx => ?_
  refine S.bind (t_takes W ag k _ _ _ _ (by decide)) fun y _ hy => ?_
  refine S.ite (fun _ => ?_) (fun _ => t_funT W ag k _ _ _ _ _)
  refine S.ofLoop (πs := fun s : List TNode × Int × Bool => s.2.1) (fun s => ?_) rfl
  obtain ⟨s1, s2, s3⟩ := s
  simp only [eFunB]
  refine S.ite (fun _ => ?_) (fun _ => S.map (t_funT W ag k _ _ _ _ _))
  refine S.bind (t_param W ag k s2 s3) fun y _ hy => ?_
  refine S.ite (fun _ => ?_) (fun _ => S.none)
  refine S.bind (t_takes W ag k _ _ _ _ (by decide)) fun u _ hu => ?_
  refine S.ite (fun _ => S.map (t_funT W ag k _ _ _ _ _)) (fun _ => ?_)
  exact S.bind (t_wants W ag k _ _ _) fun y _ hy => S.here rfl
theorem t_merge (W : WF l) (ag : ∀ p, p < m → tk l' p = tk l p) (k : Nat) (a0 a1 a2 : Int) (a3 : List UInt8) (a4 : List TNode) (i : Int) (b : Bool) : S p3 i m (lm l) (stmt_cursor_merge_v2 k a0 a1 a2 a3 a4 l i b) (stmt_cursor_merge_v2 k a0 a1 a2 a3 a4 l' i b) := by
  unfold stmt_cursor_merge_v2
  simp only [joinK]
  refine S.ofLoop (πs := fun s : List TNode × Int × Int × Bool => s.2.2.1) (fun s => ?_) rfl
  obtain ⟨s1, s2, s3, s4⟩ := s
  simp only
  refine S.ite (fun _ => ?_) (fun _ => S.map ?_)
  · refine S.bind (π := fun _ => s3) S.same fun x _ _ => ?_
    refine S.bind (t_wants W ag k _ s3 s4) fun y _ hy => ?_
    refine S.bind (t_param W ag k _ _) fun z _ hz => ?_
    exact S.ite (fun _ => S.here rfl) (fun _ => S.none)
  · refine S.bind (t_wants W ag k _ s3 s4) fun y _ hy => ?_
    refine S.bind ((sb_all W ag k).bl _ _) fun z _ hz => ?_
    exact S.ite (fun _ => S.here rfl) (fun _ => S.none)
theorem t_decl (W : WF l) (ag : ∀ p, p < m → tk l' p = tk l p) (k : Nat) (i : Int) (b : Bool) : S p3 i m (lm l) (stmt_cursor_decl k l i b) (stmt_cursor_decl k l' i b) := by
  unfold stmt_cursor_decl
  simp only [joinK]
  refine S.bind (t_look ag k i b (Int.le_refl _)) fun t ht _ => ?_
  refine S.ofLoop (πs := fun s : Int × Int => s.2) (fun s => ?_) rfl
  obtain ⟨s1, s2⟩ := s
  simp only
  refine S.ite (fun _ => ?_) (fun _ => S.map (S.here rfl))
  refine S.bind (π := fun _ => s2) S.same fun x _ _ => ?_
  refine S.bind (t_takes W ag k _ _ _ _ (by decide)) fun u _ hu => ?_
  refine S.ite (fun _ => S.here rfl) (fun _ => ?_)
  refine S.bind (t_name W ag k _ _) fun y _ hy => ?_
  refine S.ite (fun _ => S.bind (t_rec W ag k _ _ _ _ _ _ _) fun z _ hz => S.here rfl) (fun _ => ?_)
  refine S.ite (fun hc => ?_) (fun _ => ?_)
  · rw [show IntKind.i64.wrap (51 + s1) = 52 by simpa using hc]
    exact S.bind (t_iso W ag k _ _ _ _) fun z _ hz => S.here rfl
  refine S.ite (fun hc => ?_) (fun _ => ?_)
  · rw [show IntKind.i64.wrap (51 + s1) = 53 by simpa using hc]
    exact S.bind (t_fun W ag k _ _ _ _) fun z _ hz => S.here rfl
  exact S.bind (t_merge W ag k _ _ _ _ _ _ _) fun z _ hz => S.here rfl
end
end Go.Proofs.YtjakhfaodfaimaaDoor.F
namespace Go.Proofs.YtjakhfaodfaimaaDoor.F
open Go
theorem loop_sim {σ τ ρ : Type} {body : σ → Option (σ ⊕ ρ)} {body' : τ → Option (τ ⊕ ρ)} (φ : τ → σ) (h : ∀ s, body (φ s) = (body' s).map (Sum.map φ id)) : ∀ (j : Nat) (s : τ), loopM j body (φ s) = loopM j body' s
  | 0, s => rfl
  | j + 1, s => by
    rw [loopM_step, loopM_step, h]
    cases body' s with
    | none => rfl
    | some x =>
      cases x with
      | inl s' => exact loop_sim φ h j s'
      | inr r => rfl
def postL {σ ρ ρ' : Type} (F : ρ' → Option ρ) : σ ⊕ ρ' → Option (σ ⊕ ρ)
  | .inl s => some (.inl s)
  | .inr r => (F r).map .inr
theorem loop_post {σ ρ ρ' : Type} {body' : σ → Option (σ ⊕ ρ')} (F : ρ' → Option ρ) : ∀ (j : Nat) (s : σ), loopM j (fun s => (body' s).bind (postL F)) s = (loopM j body' s).bind F
  | 0, s => rfl
  | j + 1, s => by
    rw [loopM_step, loopM_step]
    cases body' s with
    | none => rfl
    | some x =>
      cases x with
      | inl s' => exact loop_post F j s'
      | inr r =>
        simp only [Option.bind_some, postL]
        cases F r <;> rfl
def pT (l : List TToken) (k : Nat) (c : List TNode) (p : Int) (b : Bool) : Option (TNode × Int × Bool) :=
    (stmt_cursor_block (k + 1) l p b).bind fun (x, q, d) =>
    if (room 64 (c.length + [x].length)) then some (TNode.mk 55 0 0 [] (c ++ [x]), q, d) else none
def pB (l : List TToken) (k : Nat) (s : List TNode × Int × Bool) : Option ((List TNode × Int × Bool) ⊕ (TNode × Int × Bool)) :=
  match s with
  | (c, p, b) =>
    joinK (fun ((g3_6_16, g3_6_oloc5_1) : Bool × Int) =>
    if g3_6_16 then
    (stmt_cursor_decl k l g3_6_oloc5_1 b).bind fun (x4_2_0, x4_2_1, x4_2_2) =>
    if (room 64 (c.length + [x4_2_0].length)) then
    some (.inl ((c ++ [x4_2_0]), x4_2_1, x4_2_2))
    else none
    else
    (pT l k c g3_6_oloc5_1 b).map .inr) fun j_g3_6 =>
    if (!b) then
    (stmt_cursor_takes k 3 [109, 97, 105, 110] l p b).bind fun (x3_4_0, x3_4_1) =>
    j_g3_6 ((!x3_4_0), x3_4_1)
    else
    j_g3_6 (false, p)
def pF (l : List TToken) (r : TNode × Int × Bool) : Option (TNode × Int × Int) :=
    if r.2.2 || (r.2.1 != IntKind.i64.wrap ((l.length : Int) - 1) || (tk l r.2.1).Kind != 0) then some (zN, r.2.1, 1) else some (r.1, r.2.1, 0)
def pP (l : List TToken) (k : Nat) : Option (TNode × Int × Bool) := loopM k (pB l k) ([], 0, false)
theorem block2_eq (k : Nat) (c : Tstmt_cursor) : stmt_cursor_block_v2 k c = stmt_cursor_block (k + 1) c.l c.at_ c.bad := by
  rw [stmt_cursor_block]; rfl
theorem takes2_eq (k : Nat) (kd : Int) (s : List UInt8) (c : Tstmt_cursor) : stmt_cursor_takes_v2 k kd s c = stmt_cursor_takes k kd s c.l c.at_ c.bad := rfl
def pJ (a0 : List TToken) (k : Nat) (c : List TNode) (o : Tstmt_cursor) : Option (TNode × Int × Int) :=
    (stmt_cursor_block_v2 k o).bind fun (x5_2_0, x5_2_1, x5_2_2) =>
    if (room 64 (c.length + [x5_2_0].length)) then
    joinK (fun (j2_oloc5_2 : Bool) =>
    (stmt_cursor_end k (TNode.mk 55 0 0 [] (c ++ [x5_2_0])) o.l x5_2_1 j2_oloc5_2).bind fun (x8_1_0, x8_1_1, x8_1_2) =>
    some (x8_1_0, x8_1_1, x8_1_2)) fun j_j2 =>
    joinK (fun (g6_15_44 : Bool) =>
    if g6_15_44 then
    j_j2 true
    else
    j_j2 x5_2_2) fun j_g6_15 =>
    if (!x5_2_2) then
    joinK (fun (g6_14_43 : Bool) =>
    j_g6_15 g6_14_43) fun j_g6_14 =>
    if (x5_2_1 != (IntKind.i64.wrap ((a0.length : Int) - 1))) then
    j_g6_14 true
    else
    (stmt_cursor_look k o.l x5_2_1 x5_2_2).bind fun x6_11 =>
    j_g6_14 (x6_11.Kind != 0)
    else
    j_g6_15 false
    else none
def pCB (a0 : List TToken) (k : Nat) (s : List TNode × Tstmt_cursor) : Option ((List TNode × Tstmt_cursor) ⊕ (TNode × Int × Int)) :=
  match s with
  | (c, o) =>
    joinK (fun ((g3_6_16, g3_6_oloc5_1) : Bool × Int) =>
    if g3_6_16 then
    (stmt_cursor_decl k o.l g3_6_oloc5_1 o.bad).bind fun (x4_2_0, x4_2_1, x4_2_2) =>
    if (room 64 (c.length + [x4_2_0].length)) then
    some (.inl ((c ++ [x4_2_0]), (Tstmt_cursor.mk o.l x4_2_1 x4_2_2)))
    else none
    else
    (pJ a0 k c (Tstmt_cursor.mk o.l g3_6_oloc5_1 o.bad)).map .inr) fun j_g3_6 =>
    if (!o.bad) then
    (stmt_cursor_takes_v2 k 3 [109, 97, 105, 110] o).bind fun (x3_4_0, x3_4_1) =>
    j_g3_6 ((!x3_4_0), x3_4_1)
    else
    j_g3_6 (false, o.at_)
theorem pJ_eq (l : List TToken) (k : Nat) (c : List TNode) (q : Int) (b : Bool) : pJ l k c ⟨l, q, b⟩ = (pT l k c q b).bind (pF l) := by
  unfold pJ pT
  rw [block2_eq]
  cases stmt_cursor_block (k + 1) l q b with
  | none => rfl
  | some y =>
    obtain ⟨y1, y2, y3⟩ := y
    simp only [Option.bind_some, slook_eq]
    cases room 64 (c.length + [y1].length) with
    | false => rfl
    | true =>
      simp only [if_true, Option.bind_some, pF]
      cases y3 with
      | true => rfl
      | false =>
        cases h1 : (y2 != IntKind.i64.wrap ((l.length : Int) - 1)) with
        | true => rfl
        | false =>
          cases h2 : ((tk l y2).Kind != 0) with
          | true => rfl
          | false => rfl
theorem prog_eq (l : List TToken) (k : Nat) : stmt_Prog k l = (pP l k).bind (pF l) := by
  have e : stmt_Prog k l = loopM k (pCB l k) ([], ⟨l, 0, false⟩) := rfl
  rw [e]
  refine (loop_sim (body' := fun s => (pB l k s).bind (postL (pF l))) (fun s : List TNode × Int × Bool => (s.1, (⟨l, s.2.1, s.2.2⟩ : Tstmt_cursor))) (fun s => ?_) k ([], 0, false)).trans (loop_post (body' := pB l k) (pF l) k ([], 0, false))
  obtain ⟨c, p, b⟩ := s
  simp only [pCB, pB, joinK, takes2_eq, pJ_eq]
  have tl : ∀ q b, Option.map Sum.inr ((pT l k c q b).bind (pF l)) = Option.map (Sum.map (fun s : List TNode × Int × Bool => (s.1, (⟨l, s.2.1, s.2.2⟩ : Tstmt_cursor))) id) ((Option.map Sum.inr (pT l k c q b)).bind (postL (pF l))) := by
    intro q b
    cases pT l k c q b with
    | none => rfl
    | some r =>
      simp only [Option.bind_some, Option.map_some, postL]
      cases pF l r <;> rfl
  cases b with
  | true => exact tl p true
  | false =>
    simp only [Bool.not_false, if_true]
    cases stmt_cursor_takes k 3 [109, 97, 105, 110] l p false with
    | none => rfl
    | some y =>
      obtain ⟨y1, y2⟩ := y
      simp only [Option.bind_some]
      cases y1 with
      | true => exact tl y2 false
      | false =>
        simp only [Bool.not_false, if_true]
        cases stmt_cursor_decl k l y2 false with
        | none => rfl
        | some z =>
          obtain ⟨z1, z2, z3⟩ := z
          simp only [Option.bind_some]
          cases room 64 (c.length + [z1].length) <;> rfl
theorem s_prog {l l' : List TToken} {m : Int} (W : WF l) (ag : ∀ p, p < m → tk l' p = tk l p) (k : Nat) : S p3 0 m (lm l) (pP l k) (pP l' k) := by
  unfold pP
  refine S.ofLoop (πs := fun s : List TNode × Int × Bool => s.2.1) (fun s => ?_) rfl
  obtain ⟨c, p, b⟩ := s
  have tl : ∀ q, S p3 q m (lm l) (pT l k c q b) (pT l' k c q b) := by
    intro q
    unfold pT
    refine S.bind ((sb_all W ag (k + 1)).bl _ _) fun y _ hy => ?_
    exact S.ite (fun _ => S.here rfl) (fun _ => S.none)
  simp only [pB, joinK]
  refine S.ite (fun _ => ?_) (fun _ => S.ite (fun hc => by cases hc) (fun _ => S.map (tl p)))
  refine S.bind (t_takes W ag k _ _ p b (by decide)) fun x _ hx => ?_
  refine S.ite (fun _ => ?_) (fun _ => S.map (tl _))
  refine S.bind (t_decl W ag k _ _) fun y _ hy => ?_
  exact S.ite (fun _ => S.here rfl) (fun _ => S.none)
theorem prog_ex {l : List TToken} (W : WF l) : ∃ r, Ev (pP l) r := by
  have hlen := W.len
  obtain ⟨r, h, _⟩ := loop_ex (body := fun k s => pB l k s) (fun s : List TNode × Int × Bool => (s.2.2 = false → 0 ≤ s.2.1 ∧ (s.1.length : Int) ≤ s.2.1 ∧ s.2.1 ≤ l.length) ∧ s.1.length ≤ l.length + 1)
    (fun s => if s.2.2 then 0 else (l.length - s.2.1).toNat + 1) (fun _ => True) (by
    rintro ⟨c, p, b⟩ ⟨i2, i3⟩
    simp only at i2 i3
    have tl : ∀ q b, ∃ r, Ev (fun k => pT l k c q b) r := by
      intro q b
      have hb : ∃ x, Ev (fun k => stmt_cursor_block k l q b) x := by
        cases b with
        | true => exact ⟨_, block_bad l q⟩
        | false => obtain ⟨x, j, y, ok, e1, _⟩ := (is_at W q).bl; exact ⟨_, e1⟩
      obtain ⟨⟨x1, x2, x3⟩, hx⟩ := hb
      refine ⟨(TNode.mk 55 0 0 [] (c ++ [x1]), x2, x3), ?_⟩
      unfold pT
      exact Ev.bind hx.up (Ev.ite_t (room1 x1 (by omega)) Ev.pure)
    cases b with
    | true =>
      obtain ⟨r, hr⟩ := tl p true
      refine Or.inl ⟨r, ?_, trivial⟩
      simp only [pB]
      simp only [qs, Option.bind_some, Option.map_some, joinK, qb, ↓reduceIte, if_true, if_false, eq_self, Int.reduceBEq, Int.reduceBNe]
      exact Ev.map hr
    | false =>
      obtain ⟨i1, i4, i5⟩ := i2 rfl
      cases hm : isT (tk l p) 3 [109, 97, 105, 110] with
      | true =>
        obtain ⟨n1, n2, n3⟩ := W.next (i := p) (by rw [(isT_kind hm).1]; decide)
        obtain ⟨r, hr⟩ := tl (p + 1) false
        refine Or.inl ⟨r, ?_, trivial⟩
        simp only [pB]
        simp only [qs, Option.bind_some, Option.map_some, joinK, qb, ↓reduceIte, if_true, if_false, eq_self, Int.reduceBEq, Int.reduceBNe, hm, n3]
        exact Ev.map hr
      | false =>
        obtain ⟨x, j, y, ok, e1, e2, e3, e4⟩ := decl_R W p
        refine Or.inr ⟨(c ++ [x], j, !ok), ?_, ?_, ?_⟩
        · simp only [pB]
          simp only [qs, Option.bind_some, Option.map_some, joinK, qb, ↓reduceIte, if_true, if_false, eq_self, Int.reduceBEq, Int.reduceBNe, hm]
          refine Ev.bind e1 ?_
          simp only [qs, Option.bind_some, Option.map_some, joinK, qb, ↓reduceIte, if_true, if_false, eq_self, Int.reduceBEq, Int.reduceBNe, room1 x (show c.length ≤ 1000000 by omega)]; exact Ev.pure
        · refine ⟨fun h => ?_, by simp; omega⟩
          have h : ok = true := by cases ok; exact absurd h (by simp); rfl
          obtain ⟨_, q2, q3, _⟩ := e3 h
          exact ⟨by show 0 ≤ j; omega, by simp; omega, by show j ≤ l.length; omega⟩
        · cases ok with
          | false => simp
          | true =>
            obtain ⟨_, q2, q3, _⟩ := e3 rfl
            simp; omega) ([], 0, false) (by simp)
  exact ⟨r, Ev.loop h⟩
theorem wf_cut {l l1 : List TToken} (W : WF l) (W1 : WF l1) {n : Nat} (hn : n < l.length) {x : TToken} (hx : tk l1 ((l1.length : Int) - 1) = x) (h1 : 0 < l1.length) : WF (l.take n ++ [x]) := by
  have hlen := W.len
  have hk : x.Kind = 0 := by rw [← hx]; exact W1.last _ (by omega)
  have hlast : ∀ p : Int, p = n → tk (l.take n ++ [x]) p = x := by
    intro p hp
    subst hp
    unfold tk
    rw [if_pos (by omega), List.getElem?_append_right (by simp; omega)]
    simp [Nat.min_eq_left (Nat.le_of_lt hn)]
  have hout : ∀ p : Int, (n : Int) < p → (tk (l.take n ++ [x]) p).Kind = 0 := by
    intro p hp
    unfold tk
    rw [if_pos (by omega), List.getElem?_eq_none (by simp; omega)]; rfl
  have split : ∀ p : Int, p < n ∨ p = n ∨ (n : Int) < p := fun p => by omega
  refine ⟨by simp; omega, fun p hp => ?_, fun p hp => ?_, fun p hp => ?_⟩
  · have : p = n := by simp at hp; omega
    rw [hlast p this]; exact hk
  · rcases split p with h | h | h
    · rw [tk_app (by omega) h] at hp ⊢; exact W.names p hp
    · rw [hlast p h] at hp; omega
    · have := hout p h; omega
  · rcases split p with h | h | h
    · rw [tk_app (by omega) h] at hp ⊢; exact W.nums p hp
    · rw [hlast p h] at hp; omega
    · have := hout p h; omega
theorem prog_of {l : List TToken} {r : TNode × Int × Bool} (h : Ev (pP l) r) : ∃ n e, Ev (fun k => stmt_Prog k l) (n, r.2.1, e) ∧ ((e = 1 ∧ (r.2.2 || (r.2.1 != IntKind.i64.wrap ((l.length : Int) - 1) || (tk l r.2.1).Kind != 0)) = true) ∨ (e = 0 ∧ (r.2.2 || (r.2.1 != IntKind.i64.wrap ((l.length : Int) - 1) || (tk l r.2.1).Kind != 0)) = false)) := by
  cases hc : (r.2.2 || (r.2.1 != IntKind.i64.wrap ((l.length : Int) - 1) || (tk l r.2.1).Kind != 0)) with
  | true =>
    refine ⟨zN, 1, Ev.congr (prog_eq l) (Ev.bind h (Ev.of fun _ => ?_)), Or.inl ⟨rfl, rfl⟩⟩
    unfold pF; rw [hc]; rfl
  | false =>
    refine ⟨r.1, 0, Ev.congr (prog_eq l) (Ev.bind h (Ev.of fun _ => ?_)), Or.inr ⟨rfl, rfl⟩⟩
    unfold pF; rw [hc]; rfl
theorem prog_same {l l' : List TToken} {m : Int} (W : WF l) (ag : ∀ p, p < m → tk l' p = tk l p) {r : TNode × Int × Bool} (h : Ev (pP l) r) (hr : r.2.1 < m) : Ev (pP l') r := by
  obtain ⟨k0, h⟩ := h
  exact ⟨k0, fun k hk => (s_prog W ag k r (h k hk)).2.2 hr⟩
theorem prog_le {l : List TToken} (W : WF l) (h0 : 0 < l.length) {r : TNode × Int × Bool} (h : Ev (pP l) r) : 0 ≤ r.2.1 ∧ r.2.1 ≤ lm l := by
  obtain ⟨k0, h⟩ := h
  have := s_prog (l' := l) (m := 0) W (fun _ _ => rfl) k0 r (h k0 (Nat.le_refl _))
  exact ⟨this.1, this.2.1 (by unfold lm; omega)⟩
end Go.Proofs.YtjakhfaodfaimaaDoor.F
namespace Go.Proofs.YtjakhfaodfaimaaDoor.F
open Go
theorem scan_to {ρ : Type} {body : Nat → Int → Option (Int ⊕ ρ)} {r : ρ} : ∀ (d i : Nat), (∀ p : Nat, i ≤ p → p < i + d → Ev (fun k => body k (p : Int)) (.inl ((p + 1 : Nat) : Int))) → Ev (fun k => body k ((i + d : Nat) : Int)) (.inr r) → EvL body (i : Int) r
  | 0, i, _, h2 => EvL.done h2
  | d + 1, i, h, h2 => EvL.step (h i (by omega) (by omega)) (scan_to d (i + 1) (fun p a b => h p (by omega) (by omega)) (by rw [show i + 1 + d = i + (d + 1) by omega]; exact h2))
theorem stretch (P : Nat → Bool) (n : Nat) : ∀ (e i : Nat), i + e = n → ∃ d, i + d ≤ n ∧ (∀ p, i ≤ p → p < i + d → P p = true) ∧ (i + d = n ∨ P (i + d) = false)
  | 0, i, h => ⟨0, by omega, fun p a b => by omega, .inl (by omega)⟩
  | e + 1, i, h => by
    cases hp : P i with
    | false => exact ⟨0, by omega, fun p a b => by omega, .inr hp⟩
    | true =>
      obtain ⟨d, h1, h2, h3⟩ := stretch P n e (i + 1) (by omega)
      refine ⟨d + 1, by omega, fun p a b => ?_, ?_⟩
      · by_cases hpi : p = i
        · rw [hpi]; exact hp
        · exact h2 p (by omega) (by omega)
      · rw [show i + (d + 1) = i + 1 + d by omega]; exact h3
def bt (s : List UInt8) (p : Nat) : UInt8 := (s[p]?).getD 0
theorem ix_bt {s : List UInt8} {p : Nat} (h : p < s.length) : ix s (p : Int) = some (bt s p) := by
  rw [ix_nat h]; unfold bt; simp [h]
def cls (a0 : Int) : Int :=
    if (((a0 == 95) || ((decide (a0 ≥ 97)) && (decide (a0 ≤ 122)))) || ((decide (a0 ≥ 65)) && (decide (a0 ≤ 90)))) then 1 else
    if ((decide (a0 ≥ 48)) && (decide (a0 ≤ 57))) then 2 else
    if ((((a0 == 32) || (a0 == 9)) || (a0 == 10)) || (a0 == 13)) then 3 else
    if (a0 == 35) then 4 else 0
theorem class_eq (k : Nat) (a : Int) : ref10_class k a = some (cls a) := by
  unfold ref10_class cls
  repeat' split
  all_goals first | rfl | simp_all
abbrev cl (s : List UInt8) (p : Nat) : Int := cls ((bt s p).toNat : Int)
def isW (s : List UInt8) (p : Nat) : Bool := (cl s p == 1) || (cl s p == 2)
def cut (s : List UInt8) (i d : Nat) : List UInt8 := (s.take (i + d)).drop i
theorem cut_len {s : List UInt8} {i d : Nat} (h : i + d ≤ s.length) : (cut s i d).length = d := by unfold cut; simp; omega
theorem sub_cut {s : List UInt8} {i d : Nat} (h : i + d ≤ s.length) : sub s (i : Int) ((i + d : Nat) : Int) = some (cut s i d) := by
  unfold sub cut
  rw [if_pos ⟨by omega, by omega, by omega⟩]
  rw [Int.toNat_natCast, Int.toNat_natCast]
theorem bt_cut {s : List UInt8} {i d p : Nat} (h : i + d ≤ s.length) (hp : p < d) : bt (cut s i d) p = bt s (i + p) := by
  unfold bt cut
  rw [List.getElem?_drop, List.getElem?_take]
  rw [if_pos (by omega)]
theorem cut_all (s : List UInt8) : cut s 0 s.length = s := by unfold cut; simp
def wordsL : List (List UInt8) := [[114, 101, 99], [105, 115, 111], [102, 117, 110], [109, 101, 114, 103, 101], [109, 97, 105, 110], [118, 97, 114], [105, 102], [101, 108, 115, 101], [119, 104, 105, 108, 101], [114, 101, 116, 117, 114, 110], [102, 111, 114, 107], [106, 111, 105, 110], [112, 114, 105, 110, 116], [110, 101, 119], [98, 121], [105, 110, 116], [98, 111, 111, 108], [114, 101, 118], [116, 114, 117, 101], [102, 97, 108, 115, 101]]
theorem wordsL_eq (k : Nat) : ref09_All k = some wordsL := rfl
theorem wordsL_len : wordsL.length = 20 := rfl
theorem is_ex (t : List UInt8) : ∃ b, Ev (fun k => ref09_Is k t) b := by
  have h : ∃ r, EvL (σ := Int) (ρ := Bool) (fun k (l1_4 : Int) =>
    if (decide (l1_4 < ((wordsL.length : Int)))) then
    (ix wordsL l1_4).bind fun x5_2 =>
    if (x5_2 == t) then
    some (.inr true)
    else
    some (.inl (IntKind.i64.wrap (l1_4 + 1)))
    else
    (some false).map .inr) 0 r ∧ True := by
    refine loop_ex (fun i => 0 ≤ i ∧ i ≤ 20) (fun i => (20 - i).toNat) (fun _ => True) ?_ 0 (by omega)
    intro i hi
    have hlen := wordsL_len
    by_cases h20 : i < 20
    · obtain ⟨y, hy⟩ : ∃ y, ix wordsL i = some y := by
        refine ⟨wordsL[i.toNat]'(by omega), ?_⟩
        unfold ix; rw [if_pos hi.1]; exact List.getElem?_eq_getElem (by omega)
      have hd : decide (i < (wordsL.length : Int)) = true := by simp; omega
      cases hyt : (y == t) with
      | true => exact .inl ⟨true, Ev.ite_t hd (Ev.bindS (fun _ => hy) (Ev.ite_t hyt Ev.pure)), trivial⟩
      | false => exact .inr ⟨i + 1, Ev.ite_t hd (Ev.bindS (fun _ => hy) (Ev.ite_f hyt (Ev.of fun _ => by rw [wrap64_id (by omega) (by omega)]))), by omega, by omega⟩
    · exact .inl ⟨false, Ev.ite_f (by simp; omega) (Ev.of fun _ => rfl), trivial⟩
  obtain ⟨r, h, _⟩ := h
  exact ⟨r, Ev.bindS (x := wordsL) (fun _ => rfl) (Ev.joinK (Ev.loop h))⟩
theorem word_one {s : List UInt8} {i d : Nat} (hl : s.length ≤ 16384) (hd : 1 ≤ d) (h : i + d ≤ s.length) (hc : cl s i = 1) (hall : ∀ p, i ≤ p → p < i + d → isW s p = true) (hend : i + d = s.length ∨ isW s (i + d) = false) {b : Bool} (hb : Ev (fun k => ref09_Is k (cut s i d)) b) :
    Ev (fun k => ref10_one k s (i : Int)) (⟨if b then 3 else 1, i, 0, cut s i d⟩, if 32 < d then 3 else 0) := by
  unfold ref10_one
  simp only [class_eq]
  refine Ev.bindS (fun _ => ix_bt (by omega)) ?_
  simp only [qe, Option.bind_some, Option.map_some, joinK, qb, ↓reduceIte, if_true, if_false, eq_self, Int.reduceBEq, Int.reduceBNe, hc]
  refine Ev.loop (scan_to d i (fun p h1 h2 => ?_) ?_)
  · have hw := hall p h1 h2
    have hp : decide ((p : Int) < (s.length : Int)) = true := by simp; omega
    have hwr : IntKind.i64.wrap ((p : Int) + 1) = ((p + 1 : Nat) : Int) := by rw [wrap64_id (by omega) (by omega)]; simp
    unfold isW at hw
    by_cases h1 : cl s p = 1
    · have : (cl s p == 1) = true := by simpa using h1
      simp only [qe, Option.bind_some, Option.map_some, joinK, qb, ↓reduceIte, if_true, if_false, eq_self, Int.reduceBEq, Int.reduceBNe, hp, ix_bt (show p < s.length by omega), this, hwr]; exact Ev.pure
    · have h1b : (cl s p == 1) = false := by simpa using h1
      have h2b : (cl s p == 2) = true := by simpa [h1b] using hw
      simp only [qe, Option.bind_some, Option.map_some, joinK, qb, ↓reduceIte, if_true, if_false, eq_self, Int.reduceBEq, Int.reduceBNe, hp, ix_bt (show p < s.length by omega), h1b, h2b, hwr]; exact Ev.pure
  · have fin : ∀ {σ : Type}, Ev (fun k => Option.map (Sum.inr (α := σ)) ((sub s (i : Int) ((i + d : Nat) : Int)).bind fun x6_4 => (ref09_Is k x6_4).bind fun x7_2 => if x7_2 then (if (decide (((x6_4.length : Int)) > 32)) then some ((TToken.mk 3 i 0 x6_4), 3) else some ((TToken.mk 3 i 0 x6_4), (0 : Int))) else (if (decide (((x6_4.length : Int)) > 32)) then some ((TToken.mk 1 i 0 x6_4), 3) else some ((TToken.mk 1 i 0 x6_4), 0)))) (.inr (⟨if b then 3 else 1, i, 0, cut s i d⟩, if 32 < d then 3 else 0)) := by
      intro σ
      refine Ev.map (Ev.bindS (fun _ => sub_cut h) (Ev.bind hb ?_))
      rw [cut_len h]
      refine Ev.of fun _ => ?_
      cases b
      · by_cases h32 : 32 < d
        · rw [if_pos h32]; simp; omega
        · rw [if_neg h32]; simp; omega
      · by_cases h32 : 32 < d
        · rw [if_pos h32]; simp; omega
        · rw [if_neg h32]; simp; omega
    rcases hend with he | he
    · have hp : decide (((i + d : Nat) : Int) < (s.length : Int)) = false := by simp; omega
      simp only [qe, Option.bind_some, Option.map_some, joinK, qb, ↓reduceIte, if_true, if_false, eq_self, Int.reduceBEq, Int.reduceBNe, hp]; exact fin
    · by_cases he2 : i + d = s.length
      · have hp : decide (((i + d : Nat) : Int) < (s.length : Int)) = false := by simp; omega
        simp only [qe, Option.bind_some, Option.map_some, joinK, qb, ↓reduceIte, if_true, if_false, eq_self, Int.reduceBEq, Int.reduceBNe, hp]; exact fin
      · have hp : decide (((i + d : Nat) : Int) < (s.length : Int)) = true := by simp; omega
        unfold isW at he
        have h1b : (cl s (i + d) == 1) = false := by
          cases hx : (cl s (i + d) == 1) with
          | false => rfl
          | true => rw [hx] at he; cases he
        have h2b : (cl s (i + d) == 2) = false := by simpa [h1b] using he
        simp only [qe, Option.bind_some, Option.map_some, joinK, qb, ↓reduceIte, if_true, if_false, eq_self, Int.reduceBEq, Int.reduceBNe, hp, ix_bt (show i + d < s.length by omega), h1b, h2b]; exact fin
end Go.Proofs.YtjakhfaodfaimaaDoor.F
namespace Go.Proofs.YtjakhfaodfaimaaDoor.F
open Go
def allB (k : Nat) (s : List UInt8) (st : List TToken × Int) : Option ((List TToken × Int) ⊕ (List TToken × Int × Int)) :=
  match st with
  | (l1_5, l1_6) =>
    if (decide (l1_6 < ((s.length : Int)))) then
    (ix s l1_6).bind fun x6_2 =>
    (ref10_class k (x6_2.toNat : Int)).bind fun x6_3 =>
    if (x6_3 == 3) then
    some (.inl (l1_5, (IntKind.i64.wrap (l1_6 + 1))))
    else
    if (x6_3 == 4) then
    joinK (fun (j2_6 : Int) =>
    some (.inl (l1_5, j2_6))) fun j_j2 =>
    loopM k (fun (l3_6 : Int) =>
    joinK (fun (g10_9_36 : Bool) =>
    if g10_9_36 then
    some (.inl (IntKind.i64.wrap (l3_6 + 1)))
    else
    (j_j2 l3_6).map .inr) fun j_g10_9 =>
    if (decide (l3_6 < ((s.length : Int)))) then
    (ix s l3_6).bind fun x10_7 =>
    j_g10_9 ((x10_7.toNat : Int) != 10)
    else
    j_g10_9 false) l1_6
    else
    (ref10_one k s l1_6).bind fun (x12_2_0, x12_2_1) =>
    if (x12_2_1 != 0) then
    some (.inr ([], l1_6, x12_2_1))
    else
    if (room 40 (l1_5.length + [x12_2_0].length)) then
    some (.inl ((l1_5 ++ [x12_2_0]), (IntKind.i64.wrap (l1_6 + ((x12_2_0.Text.length : Int))))))
    else none
    else
    (if (room 40 (l1_5.length + [(TToken.mk 0 ((s.length : Int)) 0 [])].length)) then
    some ((l1_5 ++ [(TToken.mk 0 ((s.length : Int)) 0 [])]), (0 : Int), (0 : Int))
    else none).map .inr
theorem all_eq (k : Nat) (s : List UInt8) (h : s.length ≤ 16384) : ref10_All k s = loopM k (allB k s) ([], 0) := by
  unfold ref10_All
  rw [if_neg (by simp; omega)]
  rfl
theorem all_long (k : Nat) (s : List UInt8) (h : 16384 < s.length) : ref10_All k s = some ([], 16384, 3) := by
  unfold ref10_All
  rw [if_pos (by simp; omega)]
theorem allB_one {s : List UInt8} {i : Nat} {out : List TToken} {t : TToken} {e : Int} (hi : i < s.length) (h3 : cl s i ≠ 3) (h4 : cl s i ≠ 4) (h : Ev (fun k => ref10_one k s i) (t, e)) {x : (List TToken × Int) ⊕ (List TToken × Int × Int)}
    (hx : (if (e != 0) then some (.inr ([], (i : Int), e)) else if (room 40 (out.length + [t].length)) then some (.inl ((out ++ [t]), (IntKind.i64.wrap ((i : Int) + ((t.Text.length : Int)))))) else none) = some x) : Ev (fun k => allB k s (out, (i : Int))) x := by
  have hd : decide ((i : Int) < (s.length : Int)) = true := by simp; omega
  have h3b : (cl s i == 3) = false := by simpa using h3
  have h4b : (cl s i == 4) = false := by simpa using h4
  simp only [allB, class_eq]
  refine Ev.ite_t hd (Ev.bindS (fun _ => ix_bt hi) (Ev.bindS (fun _ => rfl) (Ev.ite_f h3b (Ev.ite_f h4b ?_))))
  refine Ev.bind h ?_
  exact Ev.of fun _ => hx
theorem allB_end {s : List UInt8} {out : List TToken} (h : out.length ≤ 100000) : Ev (fun k => allB k s (out, (s.length : Int))) (.inr (out ++ [⟨0, s.length, 0, []⟩], 0, 0)) := by
  have hd : decide ((s.length : Int) < (s.length : Int)) = false := by simp
  have hr : room 40 (out.length + [(TToken.mk 0 ((s.length : Int)) 0 [])].length) = true := room_of (by omega) (by simp; omega)
  simp only [allB]
  simp only [qe, Option.bind_some, Option.map_some, joinK, qb, ↓reduceIte, if_true, if_false, eq_self, Int.reduceBEq, Int.reduceBNe, hd, hr]; exact Ev.pure
theorem named_of {t : List UInt8} (h1 : 1 ≤ t.length) (h32 : t.length ≤ 32) (hc : cl t 0 = 1) (hall : ∀ p, p < t.length → isW t p = true) (hb : Ev (fun k => ref09_Is k t) false) : Nm t := by
  have ho : Ev (fun k => ref10_one k t (0 : Nat)) (⟨1, 0, 0, t⟩, 0) := by
    have := word_one (s := t) (i := 0) (d := t.length) (by omega) h1 (by omega) hc (fun p _ h => hall p (by omega)) (.inl (by omega)) (b := false) (by rw [cut_all]; exact hb)
    rw [cut_all, if_neg (c := 32 < t.length) (by omega)] at this
    simpa using this
  have ha : Ev (fun k => ref10_All k t) ([⟨1, 0, 0, t⟩, ⟨0, t.length, 0, []⟩], 0, 0) := by
    refine Ev.congr (fun k => all_eq k t (by omega)) (Ev.loop (EvL.step (s' := ([⟨1, 0, 0, t⟩], (t.length : Int))) ?_ (EvL.done (allB_end (by simp)))))
    refine allB_one (out := []) (i := 0) (by omega) (by omega) (by omega) ho ?_
    rw [if_neg (by simp), if_pos (room_of (by omega) (by simp)), wrap64_id (by simp <;> omega) (by simp <;> omega)]
    simp
  refine Ev.bind ha ?_
  simp only [qe, Option.bind_some, Option.map_some, joinK, qb, ↓reduceIte, if_true, if_false, eq_self, Int.reduceBEq, Int.reduceBNe, show decide (0 < 1) = true from rfl]
  refine Ev.ite_t rfl (Ev.bindS (fun _ => rfl) (Ev.ite_t rfl (Ev.bindS (fun _ => rfl) ?_)))
  simp only [qe, Option.bind_some, Option.map_some, joinK, qb, ↓reduceIte, if_true, if_false, eq_self, Int.reduceBEq, Int.reduceBNe]; exact Ev.pure
theorem u64_nn (x : Int) : 0 ≤ IntKind.u64.wrap x := by
  simp only [IntKind.wrap, IntKind.bits, IntKind.signed]
  simp
  omega
theorem read_ex (t : List UInt8) (hl : t.length ≤ 16384) : ∃ r : Int × Int, Ev (fun k => ref01_Read k t) r ∧ 0 ≤ r.1 := by
  unfold ref01_Read
  by_cases h0 : (t == []) = true
  · exact ⟨(0, 1), Ev.ite_t h0 Ev.pure, by simp⟩
  have h0 : (t == []) = false := by simpa using h0
  have := loop_ex (σ := Int × Bool × Int) (ρ := Int × Int) (body := fun k (s : Int × Bool × Int) => match s with
    | (l1_4, l1_5, l1_6) =>
      if (decide (l1_6 < ((t.length : Int)))) then
      joinK (fun ((j2_4, j2_5) : Int × Bool) =>
      some (.inl (j2_4, j2_5, (IntKind.i64.wrap (l1_6 + 1))))) fun j_j2 =>
      (ix t l1_6).bind fun x8_2 =>
      joinK (fun (g8_9_24 : Bool) =>
      if g8_9_24 then
      some (.inr (0, 1))
      else
      joinK (fun (j3_5 : Bool) =>
      if (!j3_5) then
      (ix t l1_6).bind fun x13_4 =>
      j_j2 ((IntKind.u64.wrap ((IntKind.u64.wrap (10 * l1_4)) + (IntKind.u64.wrap (IntKind.u8.wrap ((x13_4.toNat : Int) - 48))))), j3_5)
      else
      j_j2 (l1_4, j3_5)) fun j_j3 =>
      if (decide (l1_4 > 1000000000000000000)) then
      j_j3 true
      else
      j_j3 l1_5) fun j_g8_9 =>
      if (decide ((x8_2.toNat : Int) < 48)) then
      j_g8_9 true
      else
      (ix t l1_6).bind fun x8_7 =>
      j_g8_9 (decide ((x8_7.toNat : Int) > 57))
      else
      (if (l1_5 || (decide (l1_4 ≥ 9223372036854775808))) then
      some (0, 2)
      else
      some ((IntKind.i64.wrap l1_4), 0)).map .inr)
    (fun s => 0 ≤ s.1 ∧ 0 ≤ s.2.2 ∧ s.2.2 ≤ t.length) (fun s => (t.length - s.2.2).toNat) (fun r => 0 ≤ r.1) ?_ (0, false, 0) (by simp)
  · obtain ⟨r, h1, h2⟩ := this
    exact ⟨r, Ev.ite_f h0 (Ev.joinK (Ev.loop h1)), h2⟩
  rintro ⟨v, big, i⟩ ⟨hv, hi0, hil⟩
  simp only at hv hi0 hil
  by_cases hd : i < t.length
  · have hdb : decide (i < (t.length : Int)) = true := by simpa using hd
    obtain ⟨p, rfl⟩ : ∃ p : Nat, i = p := ⟨i.toNat, by omega⟩
    have hix : ix t (p : Int) = some (bt t p) := ix_bt (by omega)
    have hw : IntKind.i64.wrap ((p : Int) + 1) = (p : Int) + 1 := wrap64_id (by omega) (by omega)
    by_cases hlo : ((bt t p).toNat : Int) < 48
    · refine .inl ⟨(0, 1), ?_, by simp⟩
      have hlob : decide (((bt t p).toNat : Int) < 48) = true := by simpa using hlo
      simp only; simp only [qe, Option.bind_some, Option.map_some, joinK, qb, ↓reduceIte, if_true, if_false, eq_self, Int.reduceBEq, Int.reduceBNe, hdb, hix, hlob]; exact Ev.pure
    · have hlob : decide (((bt t p).toNat : Int) < 48) = false := by simpa using hlo
      cases hhi : decide (((bt t p).toNat : Int) > 57) with
      | true =>
        refine .inl ⟨(0, 1), ?_, by simp⟩
        simp only; simp only [qe, Option.bind_some, Option.map_some, joinK, qb, ↓reduceIte, if_true, if_false, eq_self, Int.reduceBEq, Int.reduceBNe, hdb, hix, hlob, hhi]; exact Ev.pure
      | false =>
        right
        cases hbig : decide (v > 1000000000000000000) with
        | true =>
          refine ⟨(v, true, (p : Int) + 1), ?_, ⟨hv, by simp; omega, by simp; omega⟩, by simp; omega⟩
          simp only; simp only [qe, Option.bind_some, Option.map_some, joinK, qb, ↓reduceIte, if_true, if_false, eq_self, Int.reduceBEq, Int.reduceBNe, hdb, hix, hlob, hhi, hbig, hw]; exact Ev.pure
        | false =>
          cases big with
          | true =>
            refine ⟨(v, true, (p : Int) + 1), ?_, ⟨hv, by simp; omega, by simp; omega⟩, by simp; omega⟩
            simp only; simp only [qe, Option.bind_some, Option.map_some, joinK, qb, ↓reduceIte, if_true, if_false, eq_self, Int.reduceBEq, Int.reduceBNe, hdb, hix, hlob, hhi, hbig, hw]; exact Ev.pure
          | false =>
            refine ⟨(IntKind.u64.wrap ((IntKind.u64.wrap (10 * v)) + (IntKind.u64.wrap (IntKind.u8.wrap (((bt t p).toNat : Int) - 48)))), false, (p : Int) + 1), ?_, ⟨u64_nn _, by simp; omega, by simp; omega⟩, by simp; omega⟩
            simp only; simp only [qe, Option.bind_some, Option.map_some, joinK, qb, ↓reduceIte, if_true, if_false, eq_self, Int.reduceBEq, Int.reduceBNe, hdb, hix, hlob, hhi, hbig, hw]; exact Ev.pure
  · have hdb : decide (i < (t.length : Int)) = false := by simpa using hd
    left
    cases hc : (big || (decide (v ≥ 9223372036854775808))) with
    | true =>
      refine ⟨(0, 2), ?_, by simp⟩
      simp only; simp only [qe, Option.bind_some, Option.map_some, joinK, qb, ↓reduceIte, if_true, if_false, eq_self, Int.reduceBEq, Int.reduceBNe, hdb, hc]; exact Ev.pure
    | false =>
      refine ⟨(IntKind.i64.wrap v, 0), ?_, ?_⟩
      · simp only; simp only [qe, Option.bind_some, Option.map_some, joinK, qb, ↓reduceIte, if_true, if_false, eq_self, Int.reduceBEq, Int.reduceBNe, hdb, hc]; exact Ev.pure
      · simp at hc
        rw [wrap64_id (by omega) (by omega)]; exact hv
end Go.Proofs.YtjakhfaodfaimaaDoor.F
namespace Go.Proofs.YtjakhfaodfaimaaDoor.F
open Go
def markB (t : List UInt8) (L : List (List UInt8)) (k : Nat) (s : List UInt8 × Int) : Option ((List UInt8 × Int) ⊕ List UInt8) :=
  match s with
  | (l3_5, l3_6) =>
    if (decide (l3_6 < ((L.length : Int)))) then
    joinK (fun (j4_5 : List UInt8) =>
    some (.inl (j4_5, (IntKind.i64.wrap (l3_6 + 1))))) fun j_j4 =>
    (ix L l3_6).bind fun x10_2 =>
    joinK (fun (g10_21_44 : Bool) =>
    joinK (fun (g10_31_54 : Bool) =>
    if g10_31_54 then
    (ix L l3_6).bind fun x11_2 =>
    j_j4 x11_2
    else
    j_j4 l3_5) fun j_g10_31 =>
    if g10_21_44 then
    (ix L l3_6).bind fun x10_25 =>
    j_g10_31 (decide (((x10_25.length : Int)) > ((l3_5.length : Int))))
    else
    j_g10_31 false) fun j_g10_21 =>
    if (decide (((x10_2.length : Int)) ≤ ((t.length : Int)))) then
    (ix L l3_6).bind fun x10_12 =>
    (sub t 0 (x10_12.length : Int)).bind fun x10_15 =>
    (ix L l3_6).bind fun x10_18 =>
    j_g10_21 (x10_15 == x10_18)
    else
    j_g10_21 false
    else
    (some l3_5).map .inr
def marks0 : List (List UInt8) := [[40], [41], [123], [125], [91], [93], [44], [59], [46], [61]]
def markA (t : List UInt8) (k : Nat) (s : List (List UInt8) × Int) : Option ((List (List UInt8) × Int) ⊕ List UInt8) :=
  match s with
  | (l1_3, l1_4) =>
    if (decide (l1_4 ≤ 14)) then
    (ref09_Spell k l1_4).bind fun x5_2 =>
    if (room 16 (l1_3.length + [x5_2].length)) then
    some (.inl ((l1_3 ++ [x5_2]), (IntKind.i64.wrap (l1_4 + 1))))
    else none
    else
    (loopM k (markB t l1_3 k) ([], 0)).map .inr
theorem mark_eq (k : Nat) (t : List UInt8) : ref09_Mark k t = loopM k (markA t k) (marks0, 1) := rfl
theorem marks_add (t : List UInt8) : ∀ (d n : Nat) (L : List (List UInt8)), n + d = 15 → 1 ≤ n → L.length = n + 9 → ∀ {r : List UInt8}, EvL (markB t (L ++ spells.drop (n - 1))) ([], 0) r → EvL (markA t) (L, (n : Int)) r
  | 0, n, L, e, h1, hl, r, h => by
    have e : n = 15 := by omega
    subst e
    refine EvL.done ?_
    simp only [markA]
    refine Ev.ite_f (by simp) (Ev.map (Ev.loop ?_))
    simpa [spells] using h
  | d + 1, n, L, e, h1, hl, r, h => by
    obtain ⟨x, hx⟩ : ∃ x, spells[n - 1]? = some x := ⟨_, List.getElem?_eq_getElem (by simp [spells]; omega)⟩
    have hdr : spells.drop (n - 1) = x :: spells.drop n := by
      have h2 := (List.getElem?_eq_some_iff.1 hx)
      rw [List.drop_eq_getElem_cons h2.1, h2.2, show n - 1 + 1 = n by omega]
    refine EvL.step (s' := (L ++ [x], ((n + 1 : Nat) : Int))) ?_ (marks_add t d (n + 1) (L ++ [x]) (by omega) (by omega) (by simp; omega) ?_)
    · have hr : room 16 (L.length + [x].length) = true := room_of (by omega) (by simp; omega)
      have hw : IntKind.i64.wrap ((n : Int) + 1) = ((n + 1 : Nat) : Int) := by rw [wrap64_id (by omega) (by omega)]; simp
      simp only [markA]
      refine Ev.ite_t (by simp; omega) (Ev.bindS (spell_at n h1 (by omega) hx) ?_)
      simp only [qe, Option.bind_some, Option.map_some, joinK, qb, ↓reduceIte, if_true, if_false, eq_self, Int.reduceBEq, Int.reduceBNe, hr, hw]; exact Ev.pure
    · rw [show n + 1 - 1 = n by omega]
      rw [hdr] at h
      simpa using h
def marksL : List (List UInt8) := marks0 ++ spells
theorem mark_ex (t : List UInt8) : ∃ r, Ev (fun k => ref09_Mark k t) r ∧ r.length ≤ t.length := by
  obtain ⟨r, h1, h2⟩ := loop_ex (body := markB t marksL) (fun s => 0 ≤ s.2 ∧ s.2 ≤ marksL.length ∧ s.1.length ≤ t.length) (fun s => (marksL.length - s.2).toNat) (fun r => r.length ≤ t.length) (by
    have hlen : marksL.length = 24 := rfl
    rintro ⟨best, i⟩ ⟨hi0, hil, hb⟩
    simp only at hi0 hil hb
    by_cases hd : i < marksL.length
    · right
      have hdb : decide (i < (marksL.length : Int)) = true := by simpa using hd
      obtain ⟨m, hm⟩ : ∃ m, ix marksL i = some m := by
        refine ⟨marksL[i.toNat]'(by omega), ?_⟩
        unfold ix; rw [if_pos hi0]; exact List.getElem?_eq_getElem (by omega)
      have hw : IntKind.i64.wrap (i + 1) = i + 1 := wrap64_id (by omega) (by omega)
      cases hle : decide ((m.length : Int) ≤ (t.length : Int)) with
      | false =>
        refine ⟨(best, i + 1), ?_, ⟨by simp; omega, by simp; omega, hb⟩, by simp; omega⟩
        simp only [markB]; simp only [qe, Option.bind_some, Option.map_some, joinK, qb, ↓reduceIte, if_true, if_false, eq_self, Int.reduceBEq, Int.reduceBNe, hdb, hm, hle, hw]; exact Ev.pure
      | true =>
        have hle' : m.length ≤ t.length := by simpa using hle
        have hs : sub t 0 (m.length : Int) = some (t.take m.length) := by
          unfold sub
          rw [if_pos ⟨by omega, by omega, by omega⟩]; simp
        cases heq : (t.take m.length == m) with
        | false =>
          refine ⟨(best, i + 1), ?_, ⟨by simp; omega, by simp; omega, hb⟩, by simp; omega⟩
          simp only [markB]; simp only [qe, Option.bind_some, Option.map_some, joinK, qb, ↓reduceIte, if_true, if_false, eq_self, Int.reduceBEq, Int.reduceBNe, hdb, hm, hle, hs, heq, hw]; exact Ev.pure
        | true =>
          cases hgt : decide ((m.length : Int) > (best.length : Int)) with
          | false =>
            refine ⟨(best, i + 1), ?_, ⟨by simp; omega, by simp; omega, hb⟩, by simp; omega⟩
            simp only [markB]; simp only [qe, Option.bind_some, Option.map_some, joinK, qb, ↓reduceIte, if_true, if_false, eq_self, Int.reduceBEq, Int.reduceBNe, hdb, hm, hle, hs, heq, hgt, hw]; exact Ev.pure
          | true =>
            refine ⟨(m, i + 1), ?_, ⟨by simp; omega, by simp; omega, hle'⟩, by simp; omega⟩
            simp only [markB]; simp only [qe, Option.bind_some, Option.map_some, joinK, qb, ↓reduceIte, if_true, if_false, eq_self, Int.reduceBEq, Int.reduceBNe, hdb, hm, hle, hs, heq, hgt, hw]; exact Ev.pure
    · have hdb : decide (i < (marksL.length : Int)) = false := by simpa using hd
      left
      refine ⟨best, ?_, hb⟩
      simp only [markB]; simp only [qe, Option.bind_some, Option.map_some, joinK, qb, ↓reduceIte, if_true, if_false, eq_self, Int.reduceBEq, Int.reduceBNe, hdb]; exact Ev.pure) ([], 0) (by simp)
  refine ⟨r, Ev.congr (fun k => mark_eq k t) (Ev.loop (marks_add t 14 1 marks0 (by omega) (by omega) rfl ?_)), h2⟩
  exact h1
theorem one_ex {s : List UInt8} (hl : s.length ≤ 16384) {i : Nat} (hi : i < s.length) : ∃ t e, Ev (fun k => ref10_one k s (i : Int)) (t, e) ∧ (e = 0 → 1 ≤ t.Text.length ∧ i + t.Text.length ≤ s.length ∧ (t.Kind = 1 → Nm t.Text) ∧ (t.Kind = 2 → 0 ≤ t.N)) := by
  by_cases h1 : cl s i = 1
  · obtain ⟨d, d1, d2, d3⟩ := stretch (isW s) s.length (s.length - i) i (by omega)
    have hd : 1 ≤ d := by
      rcases Nat.eq_zero_or_pos d with h | h
      · subst h
        rcases d3 with h | h
        · omega
        · unfold isW at h; simp only [Nat.add_zero] at h; rw [h1] at h; simp at h
      · exact h
    obtain ⟨b, hb⟩ := is_ex (cut s i d)
    refine ⟨_, _, word_one hl hd d1 h1 d2 d3 hb, fun he => ?_⟩
    have h32 : d ≤ 32 := by
      by_cases h : 32 < d
      · rw [if_pos h] at he; simp at he
      · omega
    have hcl := cut_len d1
    refine ⟨by simp only [hcl]; omega, by simp only [hcl]; omega, fun hk => ?_, fun hk => ?_⟩
    · cases b with
      | true => simp at hk
      | false =>
        refine named_of (by simp only [hcl]; omega) (by simp only [hcl]; omega) ?_ (fun p hp => ?_) hb
        · have : bt (cut s i d) 0 = bt s i := by rw [bt_cut d1 (by omega)]; rfl
          unfold cl; rw [this]; exact h1
        · simp only [hcl] at hp
          have hx := d2 (i + p) (by omega) (by omega)
          unfold isW cl at hx ⊢
          simp only [bt_cut d1 hp]; exact hx
    · cases b <;> simp at hk
  have h1b : (cl s i == 1) = false := by simpa using h1
  by_cases h2 : cl s i = 2
  · have h2b : (cl s i == 2) = true := by simpa using h2
    obtain ⟨d, d1, d2, d3⟩ := stretch (fun p => cl s p == 2) s.length (s.length - i) i (by omega)
    have hd : 1 ≤ d := by
      rcases Nat.eq_zero_or_pos d with h | h
      · subst h
        rcases d3 with h | h
        · omega
        · simp only [Nat.add_zero] at h; rw [h2b] at h; cases h
      · exact h
    have hcl := cut_len d1
    obtain ⟨⟨v, e⟩, r1, r2⟩ := read_ex (cut s i d) (by omega)
    refine ⟨⟨2, i, v, cut s i d⟩, e, ?_, fun he => ⟨by simp only [hcl]; omega, by simp only [hcl]; omega, fun hk => by simp at hk, fun _ => r2⟩⟩
    unfold ref10_one
    simp only [class_eq]
    refine Ev.bindS (fun _ => ix_bt (by omega)) ?_
    simp only [qe, Option.bind_some, Option.map_some, joinK, qb, ↓reduceIte, if_true, if_false, eq_self, Int.reduceBEq, Int.reduceBNe, h1b, h2b]
    refine Ev.loop (scan_to d i (fun p q1 q2 => ?_) ?_)
    · have hw := d2 p q1 q2
      have hp : decide ((p : Int) < (s.length : Int)) = true := by simp; omega
      have hwr : IntKind.i64.wrap ((p : Int) + 1) = ((p + 1 : Nat) : Int) := by rw [wrap64_id (by omega) (by omega)]; simp
      simp only [qe, Option.bind_some, Option.map_some, joinK, qb, ↓reduceIte, if_true, if_false, eq_self, Int.reduceBEq, Int.reduceBNe, hp, ix_bt (show p < s.length by omega), hw, hwr]; exact Ev.pure
    · have fin : ∀ {σ : Type}, Ev (fun k => Option.map (Sum.inr (α := σ)) ((sub s (i : Int) ((i + d : Nat) : Int)).bind fun x => (ref01_Read k x).bind fun y => (sub s (i : Int) ((i + d : Nat) : Int)).bind fun z => some (TToken.mk 2 i y.1 z, y.2))) (.inr (⟨2, i, v, cut s i d⟩, e)) := by
        intro σ
        exact Ev.map (Ev.bindS (fun _ => sub_cut d1) (Ev.bind r1 (Ev.bindS (fun _ => sub_cut d1) Ev.pure)))
      by_cases he2 : i + d = s.length
      · have hp : decide (((i + d : Nat) : Int) < (s.length : Int)) = false := by simp; omega
        simp only [qe, Option.bind_some, Option.map_some, joinK, qb, ↓reduceIte, if_true, if_false, eq_self, Int.reduceBEq, Int.reduceBNe, hp]; exact fin
      · have hp : decide (((i + d : Nat) : Int) < (s.length : Int)) = true := by simp; omega
        have he : (cl s (i + d) == 2) = false := by
          rcases d3 with h | h
          · exact (he2 h).elim
          · exact h
        simp only [qe, Option.bind_some, Option.map_some, joinK, qb, ↓reduceIte, if_true, if_false, eq_self, Int.reduceBEq, Int.reduceBNe, hp, ix_bt (show i + d < s.length by omega), he]; exact fin
  have h2b : (cl s i == 2) = false := by simpa using h2
  have hwr : IntKind.i64.wrap ((i : Int) + 2) = (i : Int) + 2 := wrap64_id (by omega) (by omega)
  obtain ⟨d, hd1, hd2, hm⟩ : ∃ d, 1 ≤ d ∧ i + d ≤ s.length ∧ mn ((i : Int) + 2) (s.length : Int) = ((i + d : Nat) : Int) := by
    refine ⟨min 2 (s.length - i), by omega, by omega, ?_⟩
    rw [mn_eq]; omega
  have hcl := cut_len hd2
  obtain ⟨r, r1, r2⟩ := mark_ex (cut s i d)
  cases hr : (r == []) with
  | true =>
    refine ⟨⟨0, i, 0, []⟩, 1, ?_, fun he => by simp at he⟩
    unfold ref10_one
    simp only [class_eq]
    refine Ev.bindS (fun _ => ix_bt (by omega)) ?_
    simp only [qe, Option.bind_some, Option.map_some, joinK, qb, ↓reduceIte, if_true, if_false, eq_self, Int.reduceBEq, Int.reduceBNe, h1b, h2b, hwr, hm]
    refine Ev.bindS (fun _ => sub_cut hd2) (Ev.bind r1 ?_)
    simp only [qe, Option.bind_some, Option.map_some, joinK, qb, ↓reduceIte, if_true, if_false, eq_self, Int.reduceBEq, Int.reduceBNe, hr]; exact Ev.pure
  | false =>
    have hr' : r ≠ [] := by simpa using hr
    refine ⟨⟨4, i, 0, r⟩, 0, ?_, fun he => ⟨?_, ?_, fun hk => by simp at hk, fun hk => by simp at hk⟩⟩
    · unfold ref10_one
      simp only [class_eq]
      refine Ev.bindS (fun _ => ix_bt (by omega)) ?_
      simp only [qe, Option.bind_some, Option.map_some, joinK, qb, ↓reduceIte, if_true, if_false, eq_self, Int.reduceBEq, Int.reduceBNe, h1b, h2b, hwr, hm]
      refine Ev.bindS (fun _ => sub_cut hd2) (Ev.bind r1 ?_)
      simp only [qe, Option.bind_some, Option.map_some, joinK, qb, ↓reduceIte, if_true, if_false, eq_self, Int.reduceBEq, Int.reduceBNe, hr]; exact Ev.pure
    · have := List.length_pos_iff.2 hr'; simp only; omega
    · simp only; omega
structure TokG (t : TToken) : Prop where
  name : t.Kind = 1 → Nm t.Text
  num : t.Kind = 2 → 0 ≤ t.N
theorem tk_get {l : List TToken} {p : Nat} {t : TToken} (h : l[p]? = some t) : tk l (p : Int) = t := by
  unfold tk
  rw [if_pos (by omega), Int.toNat_natCast, h]; rfl
theorem tk_cases (l : List TToken) (p : Int) : tk l p = ⟨0, 0, 0, []⟩ ∨ ∃ n : Nat, p = n ∧ l[n]? = some (tk l p) := by
  unfold tk
  split
  · rename_i h0
    cases hx : l[p.toNat]? with
    | none => left; rfl
    | some x => right; exact ⟨p.toNat, by omega, by rw [hx]; rfl⟩
  · left; rfl
theorem wf_of {out : List TToken} {n : Int} (hl : out.length ≤ 20000) (hg : ∀ t ∈ out, TokG t) : WF (out ++ [⟨0, n, 0, []⟩]) := by
  have key : ∀ p, TokG (tk (out ++ [⟨0, n, 0, []⟩]) p) := by
    intro p
    rcases tk_cases (out ++ [⟨0, n, 0, []⟩]) p with h | ⟨q, rfl, h⟩
    · rw [h]; exact ⟨fun hk => by simp at hk, fun hk => by simp at hk⟩
    · have := List.mem_of_getElem? h
      rcases List.mem_append.1 this with hx | hx
      · exact hg _ hx
      · simp at hx; rw [hx]; exact ⟨fun hk => by simp at hk, fun hk => by simp at hk⟩
  refine ⟨by simp; omega, fun p hp => ?_, fun p hk => (key p).name hk, fun p hk => (key p).num hk⟩
  have : p = (out.length : Int) := by simp at hp; omega
  rw [this, tk_get (t := ⟨0, n, 0, []⟩) (by simp)]
theorem all_loop {s : List UInt8} (hl : s.length ≤ 16384) : ∃ r, EvL (allB · s) (([] : List TToken), (0 : Int)) r ∧ (r.2.2 = 0 → WF r.1 ∧ 0 < r.1.length) := by
  refine loop_ex (body := (allB · s)) (fun st => 0 ≤ st.2 ∧ st.2 ≤ s.length ∧ (st.1.length : Int) ≤ st.2 ∧ ∀ t ∈ st.1, TokG t) (fun st => (s.length - st.2).toNat) (fun r => r.2.2 = 0 → WF r.1 ∧ 0 < r.1.length) ?_ ([], 0) (by simp)
  rintro ⟨out, i⟩ ⟨hi0, hil, ho, hg⟩
  simp only at hi0 hil ho hg
  obtain ⟨i, rfl⟩ : ∃ n : Nat, i = n := ⟨i.toNat, by omega⟩
  by_cases hd : i < s.length
  · have hdb : decide ((i : Int) < (s.length : Int)) = true := by simpa using hd
    have hw : IntKind.i64.wrap ((i : Int) + 1) = (i : Int) + 1 := wrap64_id (by omega) (by omega)
    by_cases h3 : cl s i = 3
    · right
      have h3b : (cl s i == 3) = true := by simpa using h3
      refine ⟨(out, (i : Int) + 1), ?_, ⟨by simp; omega, by simp; omega, by simp; omega, hg⟩, by simp; omega⟩
      simp only [allB, class_eq]; simp only [qe, Option.bind_some, Option.map_some, joinK, qb, ↓reduceIte, if_true, if_false, eq_self, Int.reduceBEq, Int.reduceBNe, hdb, ix_bt hd, h3b, hw]; exact Ev.pure
    have h3b : (cl s i == 3) = false := by simpa using h3
    by_cases h4 : cl s i = 4
    · right
      have h4b : (cl s i == 4) = true := by simpa using h4
      obtain ⟨d, d1, d2, d3⟩ := stretch (fun p => ((bt s p).toNat : Int) != 10) s.length (s.length - i) i (by omega)
      have hd' : 1 ≤ d := by
        rcases Nat.eq_zero_or_pos d with h | h
        · subst h
          rcases d3 with h | h
          · omega
          · simp only [Nat.add_zero] at h
            have : ((bt s i).toNat : Int) = 10 := by simpa using h
            unfold cl at h4; rw [this] at h4; exact absurd h4 (by decide)
        · exact h
      refine ⟨(out, ((i + d : Nat) : Int)), ?_, ⟨by simp; omega, by simp; omega, by simp; omega, hg⟩, by simp; omega⟩
      simp only [allB, class_eq]; simp only [qe, Option.bind_some, Option.map_some, joinK, qb, ↓reduceIte, if_true, if_false, eq_self, Int.reduceBEq, Int.reduceBNe, hdb, ix_bt hd, h3b, h4b]
      refine Ev.loop (scan_to d i (fun p q1 q2 => ?_) ?_)
      · have hp : decide ((p : Int) < (s.length : Int)) = true := by simp; omega
        have hwr : IntKind.i64.wrap ((p : Int) + 1) = ((p + 1 : Nat) : Int) := by rw [wrap64_id (by omega) (by omega)]; simp
        have hx := d2 p q1 q2
        simp only [qe, Option.bind_some, Option.map_some, joinK, qb, ↓reduceIte, if_true, if_false, eq_self, Int.reduceBEq, Int.reduceBNe, hp, ix_bt (show p < s.length by omega), hx, hwr]; exact Ev.pure
      · by_cases he2 : i + d = s.length
        · have hp : decide (((i + d : Nat) : Int) < (s.length : Int)) = false := by simp; omega
          simp only [qe, Option.bind_some, Option.map_some, joinK, qb, ↓reduceIte, if_true, if_false, eq_self, Int.reduceBEq, Int.reduceBNe, hp]; exact Ev.pure
        · have hp : decide (((i + d : Nat) : Int) < (s.length : Int)) = true := by simp; omega
          have he : (((bt s (i + d)).toNat : Int) != 10) = false := by
            rcases d3 with h | h
            · exact (he2 h).elim
            · exact h
          simp only [qe, Option.bind_some, Option.map_some, joinK, qb, ↓reduceIte, if_true, if_false, eq_self, Int.reduceBEq, Int.reduceBNe, hp, ix_bt (show i + d < s.length by omega), he]; exact Ev.pure
    · obtain ⟨t, e, h1, h2⟩ := one_ex hl hd
      by_cases he : e = 0
      · subst he
        obtain ⟨g1, g2, g3, g4⟩ := h2 rfl
        right
        have hr : room 40 (out.length + [t].length) = true := room_of (by omega) (by simp; omega)
        refine ⟨(out ++ [t], (i : Int) + (t.Text.length : Int)), allB_one hd h3 h4 h1 ?_, ⟨by simp; omega, by simp; omega, by simp; omega, ?_⟩, by simp; omega⟩
        · rw [if_neg (by simp), if_pos hr, wrap64_id (by omega) (by omega)]
        · intro x hx
          rcases List.mem_append.1 hx with hx | hx
          · exact hg x hx
          · simp at hx; subst hx; exact ⟨g3, g4⟩
      · left
        refine ⟨([], (i : Int), e), allB_one hd h3 h4 h1 ?_, fun h => (he h).elim⟩
        rw [if_pos (by simpa using he)]
  · left
    have hi : i = s.length := by omega
    subst hi
    exact ⟨_, allB_end (by omega), fun _ => ⟨wf_of (by omega) hg, by simp⟩⟩
theorem all_ex2 (s : List UInt8) : ∃ r, Ev (fun k => ref10_All k s) r ∧ (r.2.2 = 0 → WF r.1 ∧ 0 < r.1.length) := by
  by_cases h : s.length ≤ 16384
  · obtain ⟨r, h1, h2⟩ := all_loop h
    exact ⟨r, Ev.congr (fun k => all_eq k s h) (Ev.loop h1), h2⟩
  · exact ⟨([], 16384, 3), Ev.of (fun k => all_long k s (by omega)), fun h => by simp at h⟩
theorem all_ex (s : List UInt8) : ∃ r, Ev (fun k => ref10_All k s) r ∧ (r.2.2 = 0 → WF r.1) := by
  obtain ⟨r, h1, h2⟩ := all_ex2 s
  exact ⟨r, h1, fun h => (h2 h).1⟩
end Go.Proofs.YtjakhfaodfaimaaDoor.F
namespace Go.Proofs.YtjakhfaodfaimaaDoor.F
open Go
theorem letter_tab : ∀ n : Fin 256, (((n.1 : Int) == 95) || ((decide ((ior .u8 (n.1 : Int) 32) ≥ 97)) && (decide ((ior .u8 (n.1 : Int) 32) ≤ 122)))) = (cls (n.1 : Int) == 1) := by decide +kernel
theorem digit_tab : ∀ n : Fin 256, ((decide ((n.1 : Int) ≥ 48)) && (decide ((n.1 : Int) ≤ 57))) = (cls (n.1 : Int) == 2) := by decide +kernel
theorem blank_tab : ∀ n : Fin 256, ((((n.1 : Int) == 32) || ((n.1 : Int) == 9)) || ((n.1 : Int) == 10) || ((n.1 : Int) == 13)) = (cls (n.1 : Int) == 3) := by decide +kernel
theorem hash_tab : ∀ n : Fin 256, ((n.1 : Int) == 35) = (cls (n.1 : Int) == 4) := by decide +kernel
theorem letter_eq (k : Nat) (b : UInt8) : lex_letter k (b.toNat : Int) = some (cls (b.toNat : Int) == 1) := congrArg some (letter_tab ⟨b.toNat, b.toNat_lt⟩)
theorem digit_eq (k : Nat) (b : UInt8) : lex_digit k (b.toNat : Int) = some (cls (b.toNat : Int) == 2) := congrArg some (digit_tab ⟨b.toNat, b.toNat_lt⟩)
theorem blank_eq (b : UInt8) : ((((b.toNat : Int) == 32) || ((b.toNat : Int) == 9)) || ((b.toNat : Int) == 10) || ((b.toNat : Int) == 13)) = (cls (b.toNat : Int) == 3) := blank_tab ⟨b.toNat, b.toNat_lt⟩
theorem hash_eq (b : UInt8) : ((b.toNat : Int) == 35) = (cls (b.toNat : Int) == 4) := hash_tab ⟨b.toNat, b.toNat_lt⟩
theorem wordc_eq (k : Nat) (b : UInt8) : lex_lexer_next_1 k (b.toNat : Int) = some ((cls (b.toNat : Int) == 1) || (cls (b.toNat : Int) == 2)) := by
  unfold lex_lexer_next_1
  rw [letter_eq, digit_eq]
  simp only [Option.bind_some, joinK]
  cases cls (b.toNat : Int) == 1 <;> rfl
def runB (P : Nat → Int → Option Bool) (s : List UInt8) (i : Int) (k : Nat) (l : Int) : Option (Int ⊕ Int) :=
    joinK (fun (g2_26_32 : Bool) =>
    if g2_26_32 then
    some (.inl (IntKind.i64.wrap (l + 1)))
    else
    (some l).map .inr) fun j_g2_26 =>
    if (decide ((IntKind.i64.wrap (i + l)) < (s.length : Int))) then
    (ix s (IntKind.i64.wrap (i + l))).bind fun x2_24 =>
    (P k (x2_24.toNat : Int)).bind fun x2_25 =>
    j_g2_26 x2_25
    else
    j_g2_26 false
theorem run1_eq (k : Nat) (s : List UInt8) (i : Int) : lex_lexer_run k s i = loopM k (runB lex_lexer_skip_1 s i k) 0 := rfl
theorem run2_eq (k : Nat) (s : List UInt8) (i : Int) : lex_lexer_run_v2 k s i = loopM k (runB lex_lexer_next_1 s i k) 0 := rfl
theorem run3_eq (k : Nat) (s : List UInt8) (i : Int) : lex_lexer_run_v3 k s i = loopM k (runB lex_digit s i k) 0 := rfl
theorem run_to {P : Nat → Int → Option Bool} {Q : Nat → Bool} {s : List UInt8} (hl : s.length ≤ 16384) (hP : ∀ k p, P k ((bt s p).toNat : Int) = some (Q p)) {i d : Nat} (h : i + d ≤ s.length) (hall : ∀ p, i ≤ p → p < i + d → Q p = true) (hend : i + d = s.length ∨ Q (i + d) = false) :
    Ev (fun k => loopM k (runB P s (i : Int) k) 0) (d : Int) := by
  have hw : ∀ p : Nat, p ≤ 16384 → IntKind.i64.wrap ((i : Int) + (p : Int)) = ((i + p : Nat) : Int) := fun p hp => by rw [wrap64_id (by omega) (by omega)]; omega
  have key := scan_to (body := fun k => runB P s (i : Int) k) (r := (d : Int)) d 0 (fun p _ h2 => ?_) ?_
  · exact Ev.loop key
  · have hd : decide (((i + p : Nat) : Int) < (s.length : Int)) = true := by simp; omega
    have hwr : IntKind.i64.wrap ((p : Int) + 1) = ((p + 1 : Nat) : Int) := by rw [wrap64_id (by omega) (by omega)]; simp
    refine Ev.of fun k => ?_
    simp only [runB, joinK]
    rw [hw p (by omega), hd, if_pos rfl, ix_bt (by omega), Option.bind_some, hP, Option.bind_some, hall (i + p) (by omega) (by omega), if_pos rfl, hwr]
  · refine Ev.of fun k => ?_
    simp only [runB, joinK, Nat.zero_add]
    rw [hw d (by omega)]
    by_cases he : i + d = s.length
    · have hd : decide (((i + d : Nat) : Int) < (s.length : Int)) = false := by simp; omega
      rw [hd]; rfl
    · have hd : decide (((i + d : Nat) : Int) < (s.length : Int)) = true := by simp; omega
      have hq : Q (i + d) = false := hend.resolve_left he
      rw [hd, if_pos rfl, ix_bt (by omega), Option.bind_some, hP, Option.bind_some, hq]; rfl
theorem skip_ex {s : List UInt8} (hl : s.length ≤ 16384) (i : Nat) (hi : i ≤ s.length) : ∃ j : Nat, Ev (fun k => lex_lexer_skip k s (i : Int)) (j : Int) ∧ i ≤ j ∧ j ≤ s.length ∧ (j = s.length ∨ (cl s j ≠ 3 ∧ cl s j ≠ 4)) := by
  obtain ⟨r, h1, j, rfl, h2, h3, h4⟩ := loop_ex (σ := Int) (ρ := Int) (body := fun k (l0_oext0_1 : Int) =>
    if (decide (l0_oext0_1 < (s.length : Int))) then
    (ix s l0_oext0_1).bind fun x1_8 =>
    joinK (fun (j1_21 : Bool) =>
    if j1_21 then
    some (.inl (IntKind.i64.wrap (l0_oext0_1 + 1)))
    else
    if ((x1_8.toNat : Int) == 35) then
    (lex_lexer_run k s l0_oext0_1).bind fun x8_5 =>
    some (.inl (IntKind.i64.wrap (l0_oext0_1 + x8_5)))
    else
    some (.inr l0_oext0_1)) fun j_j1 =>
    if ((x1_8.toNat : Int) == 32) then
    j_j1 ((x1_8.toNat : Int) == 32)
    else
    if ((x1_8.toNat : Int) == 9) then
    j_j1 ((x1_8.toNat : Int) == 9)
    else
    if ((x1_8.toNat : Int) == 10) then
    j_j1 ((x1_8.toNat : Int) == 10)
    else
    j_j1 ((x1_8.toNat : Int) == 13)
    else
    some (.inr l0_oext0_1)) (fun p => (i : Int) ≤ p ∧ p ≤ s.length) (fun p => (s.length - p).toNat) (fun r => ∃ j : Nat, r = (j : Int) ∧ i ≤ j ∧ j ≤ s.length ∧ (j = s.length ∨ (cl s j ≠ 3 ∧ cl s j ≠ 4))) (by
      rintro p ⟨p1, p2⟩
      obtain ⟨p, rfl⟩ : ∃ n : Nat, p = n := ⟨p.toNat, by omega⟩
      by_cases hp : p < s.length
      · have hpd : decide ((p : Int) < (s.length : Int)) = true := by simpa using hp
        have step : ∀ {x : Int ⊕ Int}, Ev (fun k => if (cl s p == 3) = true then some (.inl (IntKind.i64.wrap ((p : Int) + 1))) else if (cl s p == 4) = true then (lex_lexer_run k s (p : Int)).bind fun x8_5 => some (.inl (IntKind.i64.wrap ((p : Int) + x8_5))) else some (.inr (p : Int))) x →
            Ev (fun k => if decide ((p : Int) < (s.length : Int)) = true then (ix s (p : Int)).bind fun x1_8 =>
    joinK (fun (j1_21 : Bool) =>
    if j1_21 then
    some (.inl (IntKind.i64.wrap ((p : Int) + 1)))
    else
    if ((x1_8.toNat : Int) == 35) then
    (lex_lexer_run k s (p : Int)).bind fun x8_5 =>
    some (.inl (IntKind.i64.wrap ((p : Int) + x8_5)))
    else
    some (.inr (p : Int))) fun j_j1 =>
    if ((x1_8.toNat : Int) == 32) then
    j_j1 ((x1_8.toNat : Int) == 32)
    else
    if ((x1_8.toNat : Int) == 9) then
    j_j1 ((x1_8.toNat : Int) == 9)
    else
    if ((x1_8.toNat : Int) == 10) then
    j_j1 ((x1_8.toNat : Int) == 10)
    else
    j_j1 ((x1_8.toNat : Int) == 13) else some (.inr (p : Int))) x := by
          intro x hx
          refine Ev.ite_t hpd (Ev.bindS (fun _ => ix_bt hp) ?_)
          refine Ev.congr (fun k => ?_) hx
          unfold cl
          rw [← blank_eq, ← hash_eq]
          simp only [joinK]
          cases h1 : ((bt s p).toNat : Int) == 32
          · cases h2 : ((bt s p).toNat : Int) == 9
            · cases h3 : ((bt s p).toNat : Int) == 10
              · simp
              · simp
            · simp
          · simp
        by_cases h3 : cl s p = 3
        · right
          refine ⟨((p + 1 : Nat) : Int), step (Ev.ite_t (by simpa using h3) (Ev.of fun _ => ?_)), by omega, by omega⟩
          rw [wrap64_id (by omega) (by omega)]; simp
        · by_cases h4 : cl s p = 4
          · right
            obtain ⟨d, d1, d2, d3⟩ := stretch (fun p => ((bt s p).toNat : Int) != 10) s.length (s.length - p) p (by omega)
            have hd' : 1 ≤ d := by
              rcases Nat.eq_zero_or_pos d with h | h
              · subst h
                rcases d3 with h | h
                · omega
                · simp only [Nat.add_zero] at h
                  have : ((bt s p).toNat : Int) = 10 := by simpa using h
                  unfold cl at h4; rw [this] at h4; exact absurd h4 (by decide)
              · exact h
            have hr : Ev (fun k => lex_lexer_run k s (p : Int)) (d : Int) := run_to hl (P := lex_lexer_skip_1) (Q := fun p => ((bt s p).toNat : Int) != 10) (fun k q => rfl) d1 d2 d3
            refine ⟨((p + d : Nat) : Int), step (Ev.ite_f (by simpa using h3) (Ev.ite_t (by simpa using h4) (Ev.bind hr (Ev.of fun _ => ?_)))), by omega, by omega⟩
            rw [wrap64_id (by omega) (by omega)]; simp
          · left
            exact ⟨(p : Int), step (Ev.ite_f (by simpa using h3) (Ev.ite_f (by simpa using h4) Ev.pure)), p, rfl, by omega, by omega, .inr ⟨h3, h4⟩⟩
      · left
        exact ⟨(p : Int), Ev.ite_f (by simp; omega) Ev.pure, p, rfl, by omega, by omega, .inl (by omega)⟩) (i : Int) (by omega)
  exact ⟨j, Ev.loop h1, h2, h3, h4⟩
theorem words_all (k : Nat) : word_All k = some wordsL := by kernel_rfl
theorem is_both (t : List UInt8) : ∃ b, Ev (fun k => word_Is k t) b ∧ Ev (fun k => ref09_Is k t) b := by
  obtain ⟨d, d1, d2, d3⟩ := stretch (fun p => !((wordsL[p]?).getD [] == t)) 20 20 0 rfl
  have hix : ∀ p : Nat, p < 20 → ix wordsL (p : Int) = some ((wordsL[p]?).getD []) := fun p hp => by
    rw [ix_nat (by rw [wordsL_len]; exact hp), List.getElem?_eq_getElem (by rw [wordsL_len]; exact hp)]; rfl
  have hlt : ∀ p : Nat, decide ((p : Int) < (wordsL.length : Int)) = decide (p < 20) := fun p => by
    rw [wordsL_len]
    by_cases h : p < 20
    · rw [decide_eq_true h]; exact decide_eq_true (by omega)
    · rw [decide_eq_false h]; exact decide_eq_false (by omega)
  have hsy : ∀ a : List UInt8, (a == t) = (t == a) := fun a => by
    by_cases h : a = t
    · subst h; rfl
    · have h2 : ¬ t = a := fun e => h e.symm
      rw [beq_eq_false_iff_ne.2 h, beq_eq_false_iff_ne.2 h2]
  refine ⟨decide (d < 20), ?_, ?_⟩
  · unfold word_Is
    refine Ev.bindS words_all ?_
    have hI : Ev (fun k => slices_Index_string k wordsL t) (if d < 20 then (d : Int) else -1) := by
      unfold slices_Index_string
      refine Ev.joinK (Ev.loop (scan_to d 0 (fun p _ h2 => ?_) ?_))
      · have hx := d2 p (by omega) (by omega)
        have hd : decide ((p : Int) < (wordsL.length : Int)) = true := by rw [hlt]; simp; omega
        have hne : (t == (wordsL[p]?).getD []) = false := by rw [← hsy]; simpa using hx
        refine Ev.ite_t hd (Ev.bindS (fun _ => hix p (by omega)) (Ev.ite_f hne (Ev.of fun _ => ?_)))
        rw [wrap64_id (by omega) (by omega)]; simp
      · rw [Nat.zero_add] at d1 d3 ⊢
        by_cases hd : d < 20
        · have hdd : decide ((d : Int) < (wordsL.length : Int)) = true := by rw [hlt]; simp; omega
          have heq : (t == (wordsL[d]?).getD []) = true := by
            rcases d3 with h | h
            · omega
            · rw [← hsy]; simpa using h
          rw [if_pos hd]
          exact Ev.ite_t hdd (Ev.bindS (fun _ => hix d hd) (Ev.ite_t heq Ev.pure))
        · have hdd : decide ((d : Int) < (wordsL.length : Int)) = false := by rw [hlt]; simp; omega
          rw [if_neg hd]
          exact Ev.ite_f hdd (Ev.of fun _ => rfl)
    unfold slices_Contains_string
    refine Ev.bind (Ev.bind hI Ev.pure) (Ev.of fun _ => ?_)
    by_cases hd : d < 20
    · simp [hd]
    · simp [hd]
  · refine Ev.bindS (x := wordsL) (fun _ => rfl) (Ev.joinK (Ev.loop (scan_to d 0 (fun p _ h2 => ?_) ?_)))
    · have hx := d2 p (by omega) (by omega)
      have hd : decide ((p : Int) < (wordsL.length : Int)) = true := by rw [hlt]; simp; omega
      refine Ev.ite_t hd (Ev.bindS (fun _ => hix p (by omega)) (Ev.ite_f (by simpa using hx) (Ev.of fun _ => ?_)))
      rw [wrap64_id (by omega) (by omega)]; simp
    · rw [Nat.zero_add] at d1 d3 ⊢
      by_cases hd : d < 20
      · have hdd : decide ((d : Int) < (wordsL.length : Int)) = true := by rw [hlt]; simp; omega
        have heq : ((wordsL[d]?).getD [] == t) = true := by
          rcases d3 with h | h
          · omega
          · simpa using h
        rw [decide_eq_true hd]
        exact Ev.ite_t hdd (Ev.bindS (fun _ => hix d hd) (Ev.ite_t heq Ev.pure))
      · have hdd : decide ((d : Int) < (wordsL.length : Int)) = false := by rw [hlt]; simp; omega
        rw [decide_eq_false hd]
        exact Ev.ite_f hdd (Ev.of fun _ => rfl)
end Go.Proofs.YtjakhfaodfaimaaDoor.F
namespace Go.Proofs.YtjakhfaodfaimaaDoor.F
open Go
def readB (t : List UInt8) (s : Int × Bool × Int) : Option ((Int × Bool × Int) ⊕ (Int × Int)) :=
  match s with
  | (l1_4, l1_5, l1_15) =>
    if (decide (l1_15 < ((t.map fun b => (b.toNat : Int)).length : Int))) then
    joinK (fun ((j2_4, j2_5) : Int × Bool) =>
    some (.inl (j2_4, j2_5, (IntKind.i64.wrap (l1_15 + 1))))) fun j_j2 =>
    (ix (t.map fun b => (b.toNat : Int)) l1_15).bind fun x6_0 =>
    if ((decide (x6_0 < 48)) || (decide (x6_0 > 57))) then
    some (.inr (0, 1))
    else
    if (!(l1_5 || (decide (l1_4 > (IntKind.i64.wrap (Int.tdiv (IntKind.i64.wrap (9223372036854775807 - (IntKind.i64.wrap (IntKind.u8.wrap (x6_0 - 48))))) 10)))))) then
    j_j2 ((IntKind.i64.wrap ((IntKind.i64.wrap (10 * l1_4)) + (IntKind.i64.wrap (IntKind.u8.wrap (x6_0 - 48))))), (l1_5 || (decide (l1_4 > (IntKind.i64.wrap (Int.tdiv (IntKind.i64.wrap (9223372036854775807 - (IntKind.i64.wrap (IntKind.u8.wrap (x6_0 - 48))))) 10))))))
    else
    j_j2 (l1_4, (l1_5 || (decide (l1_4 > (IntKind.i64.wrap (Int.tdiv (IntKind.i64.wrap (9223372036854775807 - (IntKind.i64.wrap (IntKind.u8.wrap (x6_0 - 48))))) 10))))))
    else
    (if l1_5 then
    some (0, 2)
    else
    some (l1_4, 0)).map .inr
theorem whole_eq (k : Nat) (t : List UInt8) : whole_Read k t = (if (t == []) then some (0, 1) else loopM k (readB t) (0, t == [], 0)) := rfl
theorem dig_wrap {x : Int} (h1 : 48 ≤ x) (h2 : x ≤ 57) : IntKind.i64.wrap (IntKind.u8.wrap (x - 48)) = x - 48 := by
  have : IntKind.u8.wrap (x - 48) = x - 48 := by
    simp only [IntKind.wrap, IntKind.bits, IntKind.signed]
    simp
    omega
  rw [this]; exact wrap64_id (by omega) (by omega)
theorem whole_ex (t : List UInt8) (hl : t.length ≤ 16384) : ∃ r : Int × Int, Ev (fun k => whole_Read k t) r ∧ 0 ≤ r.1 ∧ (r.2 = 0 ∨ r.2 = 1 ∨ r.2 = 2) := by
  by_cases h0 : (t == []) = true
  · exact ⟨(0, 1), Ev.congr (fun k => whole_eq k t) (Ev.ite_t h0 Ev.pure), by simp, by simp⟩
  have h0 : (t == []) = false := by simpa using h0
  obtain ⟨r, h1, h2⟩ := loop_ex (body := fun _ => readB t) (fun s : Int × Bool × Int => 0 ≤ s.1 ∧ 0 ≤ s.2.2 ∧ s.2.2 ≤ t.length) (fun s => (t.length - s.2.2).toNat) (fun r => 0 ≤ r.1 ∧ (r.2 = 0 ∨ r.2 = 1 ∨ r.2 = 2)) (by
    rintro ⟨n, big, p⟩ ⟨i1, i2, i3⟩
    simp only at i1 i2 i3
    obtain ⟨p, rfl⟩ : ∃ q : Nat, p = q := ⟨p.toNat, by omega⟩
    by_cases hp : p < t.length
    · have hd : decide ((p : Int) < ((t.map fun b => (b.toNat : Int)).length : Int)) = true := by simp; omega
      have hx : ix (t.map fun b => (b.toNat : Int)) (p : Int) = some ((t[p]'hp).toNat : Int) := by
        rw [ix_nat (by simpa using hp)]; simp
      have hwr : IntKind.i64.wrap ((p : Int) + 1) = ((p + 1 : Nat) : Int) := by rw [wrap64_id (by omega) (by omega)]; simp
      generalize ((t[p]'hp).toNat : Int) = x at hx
      cases hc : (decide (x < 48) || decide (x > 57)) with
      | true =>
        left
        refine ⟨(0, 1), Ev.of fun _ => ?_, by simp, by simp⟩
        simp only [readB, joinK]
        rw [hd, if_pos rfl, hx, Option.bind_some, hc]; rfl
      | false =>
        right
        simp only [Bool.or_eq_false_iff, decide_eq_false_iff_not] at hc
        have hw := dig_wrap (x := x) (by omega) (by omega)
        have hc' : (decide (x < 48) || decide (x > 57)) = false := by simp; omega
        have hq : IntKind.i64.wrap (9223372036854775807 - (x - 48)) = 9223372036854775807 - (x - 48) := wrap64_id (by omega) (by omega)
        have ht : Int.tdiv (9223372036854775807 - (x - 48)) 10 = (9223372036854775807 - (x - 48)) / 10 := Int.tdiv_eq_ediv_of_nonneg (by omega)
        have hq2 : IntKind.i64.wrap ((9223372036854775807 - (x - 48)) / 10) = (9223372036854775807 - (x - 48)) / 10 := wrap64_id (by omega) (by omega)
        cases hb : (big || decide (n > (9223372036854775807 - (x - 48)) / 10)) with
        | true =>
          refine ⟨(n, true, ((p + 1 : Nat) : Int)), Ev.of fun _ => ?_, ⟨i1, by simp; omega, by simp; omega⟩, by simp; omega⟩
          simp only [readB, joinK]
          rw [hd, if_pos rfl, hx, Option.bind_some, hc', hw, hq, ht, hq2, hb, hwr]; rfl
        | false =>
          simp only [Bool.or_eq_false_iff, decide_eq_false_iff_not] at hb
          have hb' : (big || decide (n > (9223372036854775807 - (x - 48)) / 10)) = false := by rw [hb.1]; simp; omega
          have hn1 : IntKind.i64.wrap (10 * n) = 10 * n := wrap64_id (by omega) (by omega)
          have hn2 : IntKind.i64.wrap (10 * n + (x - 48)) = 10 * n + (x - 48) := wrap64_id (by omega) (by omega)
          refine ⟨(10 * n + (x - 48), false, ((p + 1 : Nat) : Int)), Ev.of fun _ => ?_, ⟨by simp; omega, by simp; omega, by simp; omega⟩, by simp; omega⟩
          simp only [readB, joinK]
          rw [hd, if_pos rfl, hx, Option.bind_some, hc', hw, hq, ht, hq2, hb', hwr, hn1, hn2]; rfl
    · left
      have hd : decide ((p : Int) < ((t.map fun b => (b.toNat : Int)).length : Int)) = false := by simp; omega
      refine ⟨if big then (0, 2) else (n, 0), Ev.of fun _ => ?_, ?_, ?_⟩
      · simp only [readB]
        rw [hd]
        cases big <;> rfl
      · cases big <;> simp [i1]
      · cases big <;> simp) (0, t == [], 0) (by simp)
  exact ⟨r, Ev.congr (fun k => whole_eq k t) (Ev.ite_f h0 (Ev.loop h1)), h2⟩
theorem sign_ex (t : List UInt8) : ∃ r : Int × Bool, Ev (fun k => word_Sign k t) r := by
  have hg : g_word_spellings.length = 15 := rfl
  obtain ⟨r, h1, _⟩ := loop_ex (σ := Int) (ρ := Int × Bool) (body := fun k (l1_7 : Int) =>
    if (decide (l1_7 < 15)) then
    (ix g_word_spellings l1_7).bind fun x3_1 =>
    if ((decide (l1_7 > 0)) && (x3_1 == t)) then
    some (.inr (l1_7, true))
    else
    some (.inl (IntKind.i64.wrap (l1_7 + 1)))
    else
    (some (0, false)).map .inr) (fun p => 0 ≤ p ∧ p ≤ 15) (fun p => (15 - p).toNat) (fun _ => True) (by
      rintro p ⟨p1, p2⟩
      obtain ⟨p, rfl⟩ : ∃ q : Nat, p = q := ⟨p.toNat, by omega⟩
      by_cases hp : p < 15
      · have hd : decide ((p : Int) < 15) = true := by simp; omega
        have hx : ix g_word_spellings (p : Int) = some (g_word_spellings[p]'(by rw [hg]; exact hp)) := ix_nat _
        cases hc : ((decide ((p : Int) > 0)) && ((g_word_spellings[p]'(by rw [hg]; exact hp)) == t)) with
        | true => exact .inl ⟨_, Ev.ite_t hd (Ev.bindS (fun _ => hx) (Ev.ite_t hc Ev.pure)), trivial⟩
        | false => exact .inr ⟨(p : Int) + 1, Ev.ite_t hd (Ev.bindS (fun _ => hx) (Ev.ite_f hc (Ev.of fun _ => by rw [wrap64_id (by omega) (by omega)]))), by omega, by omega⟩
      · exact .inl ⟨_, Ev.ite_f (by simp; omega) (Ev.of fun _ => rfl), trivial⟩) 0 (by omega)
  exact ⟨r, Ev.joinK (Ev.loop h1)⟩
theorem pmark_ex (t : List UInt8) (h0 : t ≠ []) : ∃ m, Ev (fun k => word_Mark k t) m ∧ m.length ≤ t.length := by
  have hpos : 0 < t.length := List.length_pos_iff.2 h0
  have hne : (t == []) = false := by simpa using h0
  have one : ∃ m, Ev (fun k => (joinK (fun (g5_7_24 : Bool) =>
    if g5_7_24 then
    (sub t 0 1).bind fun x6_1 =>
    some x6_1
    else
    some []) fun j_g5_7 =>
    if (!(t == [])) then
    (ix t 0).bind fun x5_4 =>
    (strings_IndexByte k [40, 41, 123, 125, 91, 93, 44, 59, 46, 61, 60, 62, 43, 45, 42, 47, 37, 33] (x5_4.toNat : Int)).bind fun x5_5 =>
    j_g5_7 (decide (x5_5 ≥ 0))
    else
    j_g5_7 false)) m ∧ m.length ≤ t.length := by
    have hs : sub t 0 1 = some (t.take 1) := by unfold sub; rw [if_pos ⟨by omega, by omega, by omega⟩]; rfl
    have hx : ix t 0 = some (bt t 0) := ix_bt (p := 0) hpos
    cases hc : decide (Lib.indexByte [40, 41, 123, 125, 91, 93, 44, 59, 46, 61, 60, 62, 43, 45, 42, 47, 37, 33] ((bt t 0).toNat : Int).toNat.toUInt8 ≥ 0) with
    | true =>
      refine ⟨t.take 1, Ev.joinK (Ev.ite_t (by rw [hne]; rfl) (Ev.bindS (fun _ => hx) (Ev.bindS (fun _ => rfl) (Ev.of fun _ => ?_)))), by simp; omega⟩
      simp only [hc, hs, if_true, Option.bind_some]
    | false =>
      refine ⟨[], Ev.joinK (Ev.ite_t (by rw [hne]; rfl) (Ev.bindS (fun _ => hx) (Ev.bindS (fun _ => rfl) (Ev.of fun _ => ?_)))), by simp⟩
      simp only [hc, Bool.false_eq_true, if_false]
  obtain ⟨m1, e1, l1⟩ := one
  by_cases h2 : 1 < t.length
  · have hd : decide ((t.length : Int) > 1) = true := by simp; omega
    have hs : sub t 0 2 = some (t.take 2) := by unfold sub; rw [if_pos ⟨by omega, by omega, by omega⟩]; rfl
    obtain ⟨⟨n, b⟩, hb⟩ := sign_ex (t.take 2)
    cases b with
    | true => exact ⟨t.take 2, Ev.joinK (Ev.ite_t hd (Ev.bindS (fun _ => hs) (Ev.bind hb (Ev.ite_t rfl (Ev.bindS (fun _ => hs) Ev.pure))))), by simp; omega⟩
    | false => exact ⟨m1, Ev.joinK (Ev.ite_t hd (Ev.bindS (fun _ => hs) (Ev.bind hb (Ev.ite_f rfl e1)))), l1⟩
  · exact ⟨m1, Ev.joinK (Ev.ite_f (by simp; omega) e1), l1⟩
structure Next (s : List UInt8) (i : Nat) (t : TToken) (e q : Int) : Prop where
  at_ : t.At = i
  err : e = 0 ∨ e = 1 ∨ e = 2 ∨ e = 3
  ok : e = 0 → t.Kind ≠ 0 ∧ TokG t ∧ ∃ n : Nat, q = ((i + n : Nat) : Int) ∧ 1 ≤ n ∧ i + n ≤ s.length
theorem next_end (k : Nat) (s : List UInt8) : lex_lexer_next k s (s.length : Int) = some (TToken.mk 0 (s.length : Int) 0 [], 0, (s.length : Int)) := by
  unfold lex_lexer_next
  rw [if_pos (by simp)]
theorem next_ex {s : List UInt8} (hl : s.length ≤ 16384) {i : Nat} (hi : i < s.length) : ∃ t e q, Ev (fun k => lex_lexer_next k s (i : Int)) (t, e, q) ∧ Next s i t e q := by
  have hne : ((i : Int) == (s.length : Int)) = false := by simp; omega
  have hw : ∀ d : Nat, d ≤ 16384 → IntKind.i64.wrap ((i : Int) + (d : Int)) = ((i + d : Nat) : Int) := fun d hd => by rw [wrap64_id (by omega) (by omega)]; omega
  have fin : ∀ (k : Nat) (e kd n : Int) (d : Nat), i + d ≤ s.length → ((sub s (i : Int) (IntKind.i64.wrap ((i : Int) + (d : Int)))).bind fun x21_14 => some ((TToken.mk kd (i : Int) n x21_14), e, (IntKind.i64.wrap ((i : Int) + (d : Int))))) = some (⟨kd, i, n, cut s i d⟩, e, ((i + d : Nat) : Int)) := by
    intro k e kd n d hd
    rw [hw d (by omega), sub_cut hd]; rfl
  unfold lex_lexer_next
  by_cases h1 : cl s i = 1
  · obtain ⟨d, d1, d2, d3⟩ := stretch (isW s) s.length (s.length - i) i (by omega)
    have hd' : 1 ≤ d := by
      rcases Nat.eq_zero_or_pos d with h | h
      · subst h
        rcases d3 with h | h
        · omega
        · simp [isW, h1] at h
      · exact h
    have hr : Ev (fun k => lex_lexer_run_v2 k s (i : Int)) (d : Int) := run_to hl (P := lex_lexer_next_1) (Q := isW s) (fun k p => wordc_eq k _) d1 d2 d3
    obtain ⟨b, b1, b2⟩ := is_both (cut s i d)
    have hlen := cut_len d1
    refine ⟨⟨if b then 3 else 1, i, 0, cut s i d⟩, if 32 < d then 3 else 0, ((i + d : Nat) : Int), ?_, ⟨rfl, by by_cases h : 32 < d <;> simp [h], fun he => ?_⟩⟩
    · refine Ev.ite_f hne (Ev.joinK (Ev.bindS (fun _ => ix_bt hi) (Ev.bindS (fun k => letter_eq k _) (Ev.ite_t (by simpa using h1) (Ev.bind hr (Ev.joinK ?_))))))
      rw [hw d (by omega)]
      refine Ev.bindS (fun _ => sub_cut d1) (Ev.bind b1 (Ev.of fun k => ?_))
      by_cases h32 : 32 < d
      · have hdd : decide ((d : Int) > 32) = true := by simp; omega
        rw [if_pos h32]
        cases b <;> simp only [hdd, if_true, Bool.false_eq_true, if_false] <;> exact fin k _ _ _ d d1
      · have hdd : decide ((d : Int) > 32) = false := by simp; omega
        rw [if_neg h32]
        cases b <;> simp only [hdd, if_true, Bool.false_eq_true, if_false] <;> exact fin k _ _ _ d d1
    · have h32 : ¬ 32 < d := fun h => by rw [if_pos h] at he; cases he
      refine ⟨by cases b <;> simp, ⟨fun hk => ?_, fun hk => by cases b <;> simp at hk⟩, d, rfl, hd', d1⟩
      have hb : b = false := by cases b; rfl; simp at hk
      subst hb
      refine named_of (by simp only; omega) (by simp only; omega) ?_ (fun p hp => ?_) b2
      · simp only [cl]; rw [bt_cut d1 (by omega)]; exact h1
      · simp only at hp
        rw [hlen] at hp
        have := d2 (i + p) (by omega) (by omega)
        simp only [isW, cl] at this ⊢
        rw [bt_cut d1 hp]; exact this
  · by_cases h2 : cl s i = 2
    · obtain ⟨d, d1, d2, d3⟩ := stretch (fun p => cl s p == 2) s.length (s.length - i) i (by omega)
      have hd' : 1 ≤ d := by
        rcases Nat.eq_zero_or_pos d with h | h
        · subst h
          rcases d3 with h | h
          · omega
          · simp [h2] at h
        · exact h
      have hr : Ev (fun k => lex_lexer_run_v3 k s (i : Int)) (d : Int) := run_to hl (P := lex_digit) (Q := fun p => cl s p == 2) (fun k p => digit_eq k _) d1 d2 d3
      obtain ⟨⟨n, e⟩, hn, g1, g2⟩ := whole_ex (cut s i d) (by rw [cut_len d1]; omega)
      simp only at g1 g2
      refine ⟨⟨2, i, n, cut s i d⟩, e, ((i + d : Nat) : Int), ?_, ⟨rfl, by omega, fun he => ⟨by simp, ⟨fun hk => by simp at hk, fun _ => g1⟩, d, rfl, hd', d1⟩⟩⟩
      refine Ev.ite_f hne (Ev.joinK (Ev.bindS (fun _ => ix_bt hi) (Ev.bindS (fun k => letter_eq k _) (Ev.ite_f (by simpa using h1) (Ev.bindS (fun k => digit_eq k _) (Ev.ite_t (by simpa using h2) (Ev.bind hr ?_)))))))
      rw [hw d (by omega)]
      refine Ev.bindS (fun _ => sub_cut d1) (Ev.bind hn (Ev.of fun k => ?_))
      exact fin k e 2 n d d1
    · have hrest : i + (s.length - i) = s.length := by omega
      have hsub : sub s (i : Int) (s.length : Int) = some (cut s i (s.length - i)) := by
        have := sub_cut (s := s) (i := i) (d := s.length - i) (by omega)
        rwa [hrest] at this
      have hcl := cut_len (s := s) (i := i) (d := s.length - i) (by omega)
      obtain ⟨m, hm, hml⟩ := pmark_ex (cut s i (s.length - i)) (fun h => by rw [h] at hcl; simp at hcl; omega)
      rw [hcl] at hml
      refine ⟨⟨4, i, 0, cut s i m.length⟩, if m.length = 0 then 1 else 0, ((i + m.length : Nat) : Int), ?_, ⟨rfl, by by_cases h : m.length = 0 <;> simp [h], fun he => ⟨by simp, ⟨fun hk => by simp at hk, fun hk => by simp at hk⟩, m.length, rfl, ?_, by omega⟩⟩⟩
      · refine Ev.ite_f hne (Ev.joinK (Ev.bindS (fun _ => ix_bt hi) (Ev.bindS (fun k => letter_eq k _) (Ev.ite_f (by simpa using h1) (Ev.bindS (fun k => digit_eq k _) (Ev.ite_f (by simpa using h2) (Ev.bindS (fun _ => hsub) (Ev.bind hm (Ev.of fun k => ?_)))))))))
        by_cases h : m.length = 0
        · have hz : ((m.length : Int) == 0) = true := by simp [h]
          rw [if_pos h]
          simp only [hz, if_true]
          exact fin k 1 4 0 m.length (by omega)
        · have hz : ((m.length : Int) == 0) = false := by simpa using h
          rw [if_neg h]
          simp only [hz, Bool.false_eq_true, if_false]
          exact fin k 0 4 0 m.length (by omega)
      · rcases Nat.eq_zero_or_pos m.length with h | h
        · rw [if_pos h] at he; cases he
        · exact h
def lexB (s : List UInt8) (k : Nat) (st : List TToken × Int) : Option ((List TToken × Int) ⊕ (List TToken × Int × Int)) :=
  match st with
  | (l0_6, l0_oloc5_1) =>
    (lex_lexer_skip k s l0_oloc5_1).bind fun x5_0 =>
    (lex_lexer_next k s x5_0).bind fun (x6_0_0, x6_0_1, x6_0_2) =>
    if (x6_0_1 != 0) then
    some (.inr ([], x6_0_0.At, x6_0_1))
    else
    if (room 40 (l0_6.length + [x6_0_0].length)) then
    if (x6_0_0.Kind == 0) then
    some (.inr ((l0_6 ++ [x6_0_0]), 0, 0))
    else
    some (.inl ((l0_6 ++ [x6_0_0]), x6_0_2))
    else none
theorem lexAll_eq (k : Nat) (s : List UInt8) : lex_All k s = (if decide ((s.length : Int) > 16384) then some ([], 16384, 3) else loopM k (lexB s k) ([], 0)) := rfl
structure LexG (s : List UInt8) (r : List TToken × Int × Int) : Prop where
  ok : r.2.2 = 0 → WF r.1 ∧ 0 < r.1.length ∧ ∀ t ∈ r.1, 0 ≤ t.At ∧ t.At ≤ s.length
  bad : r.2.2 ≠ 0 → 0 ≤ r.2.1 ∧ r.2.1 ≤ s.length ∧ (r.2.2 = 1 ∨ r.2.2 = 2 ∨ r.2.2 = 3)
theorem lex_ex (s : List UInt8) : ∃ r, Ev (fun k => lex_All k s) r ∧ LexG s r := by
  by_cases hl : s.length ≤ 16384
  · have hd0 : decide ((s.length : Int) > 16384) = false := by simp; omega
    obtain ⟨r, h1, h2⟩ := loop_ex (body := lexB s) (fun st => 0 ≤ st.2 ∧ st.2 ≤ s.length ∧ (st.1.length : Int) ≤ st.2 ∧ (∀ t ∈ st.1, TokG t) ∧ ∀ t ∈ st.1, 0 ≤ t.At ∧ t.At ≤ s.length) (fun st => (s.length - st.2).toNat) (LexG s) (by
      rintro ⟨out, i⟩ ⟨hi0, hil, ho, hg, ha⟩
      simp only at hi0 hil ho hg ha
      obtain ⟨i, rfl⟩ : ∃ n : Nat, i = n := ⟨i.toNat, by omega⟩
      obtain ⟨j, j1, j2, j3, j4⟩ := skip_ex hl i (by omega)
      by_cases hj : j = s.length
      · left
        subst hj
        have hr : room 40 (out.length + [(TToken.mk 0 (s.length : Int) 0 [])].length) = true := room_of (by omega) (by simp; omega)
        refine ⟨(out ++ [⟨0, s.length, 0, []⟩], 0, 0), Ev.bind j1 (Ev.bindS (fun k => next_end k s) (Ev.ite_f rfl (Ev.ite_t hr (Ev.ite_t rfl Ev.pure)))), ⟨fun _ => ⟨wf_of (by omega) hg, by simp, ?_⟩, fun h => (h rfl).elim⟩⟩
        intro t ht
        rcases List.mem_append.1 ht with h | h
        · exact ha t h
        · simp at h; subst h; simp
      · obtain ⟨t, e, q, n1, n2⟩ := next_ex hl (i := j) (by omega)
        by_cases he : e = 0
        · right
          subst he
          obtain ⟨g1, g2, n, rfl, g3, g4⟩ := n2.ok rfl
          have hr : room 40 (out.length + [t].length) = true := room_of (by omega) (by simp; omega)
          refine ⟨(out ++ [t], ((j + n : Nat) : Int)), Ev.bind j1 (Ev.bind n1 (Ev.ite_f rfl (Ev.ite_t hr (Ev.ite_f (by simpa using g1) Ev.pure)))), ⟨by simp; omega, by simp; omega, by simp; omega, ?_, ?_⟩, by simp; omega⟩
          · intro x hx
            rcases List.mem_append.1 hx with hx | hx
            · exact hg x hx
            · simp at hx; subst hx; exact g2
          · intro x hx
            rcases List.mem_append.1 hx with hx | hx
            · exact ha x hx
            · simp at hx; subst hx; rw [n2.at_]; omega
        · left
          refine ⟨([], t.At, e), Ev.bind j1 (Ev.bind n1 (Ev.ite_t (by simpa using he) Ev.pure)), ⟨fun h => (he h).elim, fun _ => ?_⟩⟩
          have := n2.err
          simp only
          rw [n2.at_]
          exact ⟨by omega, by omega, by omega⟩) ([], 0) (by simp)
    exact ⟨r, Ev.congr (fun k => lexAll_eq k s) (Ev.ite_f hd0 (Ev.loop h1)), h2⟩
  · have hd0 : decide ((s.length : Int) > 16384) = true := by simp; omega
    exact ⟨([], 16384, 3), Ev.congr (fun k => lexAll_eq k s) (Ev.ite_t hd0 Ev.pure), ⟨fun h => by simp at h, fun _ => by simp; omega⟩⟩
end Go.Proofs.YtjakhfaodfaimaaDoor.F
set_option maxHeartbeats 1000000
namespace Go.Proofs.YtjakhfaodfaimaaDoor.F
open Go
def ofB (s : List UInt8) (st : List Int × Int) : Option ((List Int × Int) ⊕ Option Tplace_Lines) :=
  match st with
  | (l1_bclloc81, l1_11) =>
    if (decide (l1_11 < (s.length : Int))) then
    joinK (fun (j2_bclloc81 : List Int) =>
    some (.inl (j2_bclloc81, (IntKind.i64.wrap (l1_11 + 1))))) fun j_j2 =>
    (ix s l1_11).bind fun x5_2 =>
    if ((x5_2.toNat : Int) == 10) then
    if (room 8 (l1_bclloc81.length + [(IntKind.i64.wrap (l1_11 + 1))].length)) then
    j_j2 (l1_bclloc81 ++ [(IntKind.i64.wrap (l1_11 + 1))])
    else none
    else
    j_j2 l1_bclloc81
    else
    (some (some (Tplace_Lines.mk s l1_bclloc81))).map .inr
theorem of_eq (k : Nat) (s : List UInt8) : place_Of k s = loopM k (ofB s) ([0], 0) := rfl
theorem of_ex (s : List UInt8) (hl : s.length ≤ 20000) : ∃ r : List Int, Ev (fun k => place_Of k s) (some ⟨s, 0 :: r⟩) ∧ r.length ≤ s.length ∧ ∀ x ∈ r, 0 ≤ x := by
  obtain ⟨x, h1, r, rfl, h2⟩ := loop_ex (body := fun _ => ofB s) (fun st => 0 ≤ st.2 ∧ st.2 ≤ s.length ∧ ∃ r, st.1 = 0 :: r ∧ (r.length : Int) ≤ st.2 ∧ ∀ x ∈ r, 0 ≤ x) (fun st => (s.length - st.2).toNat) (fun x => ∃ r : List Int, x = some ⟨s, 0 :: r⟩ ∧ r.length ≤ s.length ∧ ∀ x ∈ r, 0 ≤ x) (by
    rintro ⟨b, p⟩ ⟨i1, i2, r, i3, i4, i5⟩
    simp only at i1 i2 i3 i4 i5
    subst i3
    obtain ⟨p, rfl⟩ : ∃ q : Nat, p = q := ⟨p.toNat, by omega⟩
    by_cases hp : p < s.length
    · right
      have hd : decide ((p : Int) < (s.length : Int)) = true := by simpa using hp
      have hwr : IntKind.i64.wrap ((p : Int) + 1) = ((p + 1 : Nat) : Int) := by rw [wrap64_id (by omega) (by omega)]; simp
      cases hc : ((bt s p).toNat : Int) == 10 with
      | true =>
        have hr : room 8 ((0 :: r).length + [((p + 1 : Nat) : Int)].length) = true := room_of (by omega) (by simp; omega)
        refine ⟨((0 :: r) ++ [((p + 1 : Nat) : Int)], ((p + 1 : Nat) : Int)), Ev.of fun _ => ?_, ⟨by simp; omega, by simp; omega, r ++ [((p + 1 : Nat) : Int)], rfl, by simp; omega, fun x hx => by rcases List.mem_append.1 hx with h | h; exact i5 x h; simp at h; omega⟩, by simp; omega⟩
        simp only [ofB, joinK]
        rw [hd, if_pos rfl, ix_bt hp, Option.bind_some, hc, if_pos rfl, hwr, hr]; rfl
      | false =>
        refine ⟨(0 :: r, ((p + 1 : Nat) : Int)), Ev.of fun _ => ?_, ⟨by simp; omega, by simp; omega, r, rfl, by simp; omega, i5⟩, by simp; omega⟩
        simp only [ofB, joinK]
        rw [hd, if_pos rfl, ix_bt hp, Option.bind_some, hc, hwr]; rfl
    · left
      refine ⟨_, Ev.of fun _ => ?_, r, rfl, by omega, i5⟩
      simp only [ofB]
      rw [show decide ((p : Int) < (s.length : Int)) = false by simp; omega]; rfl) ([0], 0) (by simp)
  exact ⟨r, Ev.congr (fun k => of_eq k s) (Ev.loop h1), h2⟩
theorem half {a b : Int} (h0 : 0 ≤ a) (h1 : a < b) (h2 : b ≤ 100000) : IntKind.i64.wrap (Int.fdiv (IntKind.u64.wrap (IntKind.i64.wrap (a + b))) (2 ^ (Int.toNat 1))) = (a + b) / 2 := by
  have e1 : IntKind.i64.wrap (a + b) = a + b := wrap64_id (by omega) (by omega)
  have e2 : IntKind.u64.wrap (a + b) = a + b := by
    simp only [IntKind.wrap, IntKind.bits, IntKind.signed]
    simp
    omega
  rw [e1, e2, show ((2 : Int) ^ (Int.toNat 1)) = 2 from rfl, Int.fdiv_eq_ediv_of_nonneg _ (by omega)]
  exact wrap64_id (by omega) (by omega)
theorem search_ex (s : List UInt8) (r : List Int) (off : Int) (hr : r.length ≤ 20000) (h0 : 0 ≤ off) : ∃ n : Nat, Ev (fun k => sort_Search k (((0 :: r).length : Nat) : Int) (some ⟨s, 0 :: r⟩) off) ((n + 1 : Nat) : Int) ∧ ∃ b, (0 :: r)[n]? = some b ∧ b ≤ off := by
  have hat : ∀ (k : Nat) (p : Nat) (h : p < (0 :: r).length), place_Lines_At_1 k (p : Int) (some ⟨s, 0 :: r⟩) off = some (decide ((0 :: r)[p] > off)) := by
    intro k p h
    unfold place_Lines_At_1
    simp only [Option.bind_some]
    rw [ix_nat h]; rfl
  obtain ⟨x, h1, n, rfl, h2⟩ := loop_ex (σ := Int × Int) (ρ := Int) (body := fun k (st : Int × Int) => 
    match st with
    | (l1_5, l1_6) =>
    (if (decide (l1_5 < l1_6)) then
    (place_Lines_At_1 k (IntKind.i64.wrap (Int.fdiv (IntKind.u64.wrap (IntKind.i64.wrap (l1_5 + l1_6))) (2 ^ (Int.toNat 1)))) (some ⟨s, 0 :: r⟩) off).bind fun x4_2 =>
    if (!x4_2) then
    some (.inl ((IntKind.i64.wrap ((IntKind.i64.wrap (Int.fdiv (IntKind.u64.wrap (IntKind.i64.wrap (l1_5 + l1_6))) (2 ^ (Int.toNat 1)))) + 1)), l1_6))
    else
    some (.inl (l1_5, (IntKind.i64.wrap (Int.fdiv (IntKind.u64.wrap (IntKind.i64.wrap (l1_5 + l1_6))) (2 ^ (Int.toNat 1))))))
    else
    (some l1_5).map .inr))
    (fun st => 0 ≤ st.1 ∧ st.1 ≤ st.2 ∧ st.2 ≤ (0 :: r).length ∧ (∀ p : Nat, st.1 = ((p + 1 : Nat) : Int) → ∃ b, (0 :: r)[p]? = some b ∧ b ≤ off) ∧ 1 ≤ st.2) (fun st => (st.2 - st.1).toNat) (fun x => ∃ n : Nat, x = ((n + 1 : Nat) : Int) ∧ ∃ b, (0 :: r)[n]? = some b ∧ b ≤ off) (by
    rintro ⟨a, b⟩ ⟨i1, i2, i3, i4, i5⟩
    simp only at i1 i2 i3 i4 i5
    have hlen : (0 :: r).length = r.length + 1 := rfl
    by_cases hab : a < b
    · right
      have hd : decide (a < b) = true := by simpa using hab
      have hh := half i1 hab (by omega)
      obtain ⟨m, hm⟩ : ∃ m : Nat, (a + b) / 2 = m := ⟨((a + b) / 2).toNat, by omega⟩
      rw [hm] at hh
      have hml : m < (0 :: r).length := by omega
      cases hc : decide ((0 :: r)[m] > off) with
      | false =>
        refine ⟨((m : Int) + 1, b), Ev.of fun k => ?_, ⟨by simp only; omega, by simp only; omega, i3, ?_, i5⟩, by simp only; omega⟩
        · simp only
          rw [hd, if_pos rfl, hh, hat k m hml, hc, wrap64_id (x := (m : Int) + 1) (by omega) (by omega)]; rfl
        · intro p hp
          simp only at hp
          have : p = m := by omega
          subst this
          exact ⟨_, List.getElem?_eq_getElem hml, by simpa using hc⟩
      | true =>
        have hm0 : m ≠ 0 := by
          intro e
          subst e
          have : ((0 :: r)[0] > off) := by simpa using hc
          simp at this; omega
        refine ⟨(a, (m : Int)), Ev.of fun k => ?_, ⟨i1, by simp only; omega, by simp only; omega, i4, by simp only; omega⟩, by simp only; omega⟩
        simp only
        rw [hd, if_pos rfl, hh, hat k m hml, hc]; rfl
    · left
      have hd : decide (a < b) = false := by simpa using hab
      refine ⟨a, Ev.of fun k => ?_, (a - 1).toNat, by omega, i4 _ (by omega)⟩
      simp only
      rw [hd]; rfl) (0, (((0 :: r).length : Nat) : Int)) ⟨by omega, by simp only [List.length_cons]; omega, by omega, fun p hp => by simp only at hp; omega, by simp only [List.length_cons]; omega⟩
  exact ⟨n, Ev.joinK (Ev.loop h1), h2⟩
theorem fault_ex (s : List UInt8) (hl : s.length ≤ 20000) (a e : Int) : ∃ li co : Int, Ev (fun k => parse_fault k s a e) (zN, ⟨a, li, co, e⟩) ∧ 1 ≤ li ∧ 1 ≤ co := by
  obtain ⟨r, h1, h2, h6⟩ := of_ex s hl
  have hoff : 0 ≤ mx 0 (mn a (s.length : Int)) ∧ mx 0 (mn a (s.length : Int)) ≤ s.length := by rw [mx_eq, mn_eq]; omega
  obtain ⟨n, h3, b, h4, h5⟩ := search_ex s r (mx 0 (mn a (s.length : Int))) (by omega) hoff.1
  have hb0 : 0 ≤ b := by
    rcases List.mem_cons.1 (List.mem_of_getElem? h4) with h | h
    · omega
    · exact h6 b h
  have hnl : n < (0 :: r).length := (List.getElem?_eq_some_iff.1 h4).1
  have hlen : (0 :: r).length = r.length + 1 := rfl
  have hw : IntKind.i64.wrap (((n + 1 : Nat) : Int) - 1) = (n : Int) := by rw [wrap64_id (by omega) (by omega)]; omega
  have hix : ix (0 :: r) (n : Int) = some b := ix_of (by omega) (by rw [Int.toNat_natCast]; exact h4)
  generalize ho : mx 0 (mn a (s.length : Int)) = off at h3 h5 hoff
  have hc : IntKind.i64.wrap (IntKind.i64.wrap (off - b) + 1) = off - b + 1 := by
    rw [wrap64_id (x := off - b) (by omega) (by omega), wrap64_id (by omega) (by omega)]
  have hA : Ev (fun k => place_Lines_At k (some ⟨s, 0 :: r⟩) a) (((n + 1 : Nat) : Int), off - b + 1) := by
    refine Ev.ite_f rfl (Ev.bindS (x := ⟨s, 0 :: r⟩) (fun _ => rfl) (Ev.bindS (x := ⟨s, 0 :: r⟩) (fun _ => rfl) (Ev.bind (by rw [ho]; exact h3) (Ev.bindS (x := ⟨s, 0 :: r⟩) (fun _ => rfl) (Ev.bindS (x := b) (fun _ => by rw [hw]; exact hix) (Ev.of fun _ => ?_))))))
    rw [ho, hc]
  exact ⟨_, _, Ev.bind h1 (Ev.bind hA Ev.pure), by omega, by omega⟩
def bd (d : Tnest_depth) (m : List UInt8) : Tnest_depth :=
  if (m == [45]) || (m == [33]) then ⟨d.open_, IntKind.i64.wrap (d.row + 1)⟩
  else if (m == [40]) || (m == [91]) || (m == [123]) then ⟨IntKind.i64.wrap (d.open_ + 1), 0⟩
  else if (m == [41]) || (m == [93]) || (m == [125]) then ⟨mx 0 (IntKind.i64.wrap (d.open_ - 1)), 0⟩
  else ⟨d.open_, 0⟩
theorem behind_eq (k : Nat) (d : Tnest_depth) (t : TToken) : nest_depth_behind k d t = some (bd d (if t.Kind != 4 then [] else t.Text)) := by
  have key : ∀ m : List UInt8, (joinK (fun (j1_12 : Bool) =>
    if j1_12 then
    some (Tnest_depth.mk d.open_ (IntKind.i64.wrap (d.row + 1)))
    else
    joinK (fun (j2_21 : Bool) =>
    if j2_21 then
    some (Tnest_depth.mk (IntKind.i64.wrap (d.open_ + 1)) 0)
    else
    joinK (fun (j3_29 : Bool) =>
    if j3_29 then
    some (Tnest_depth.mk (mx 0 (IntKind.i64.wrap (d.open_ - 1))) 0)
    else
    some (Tnest_depth.mk d.open_ 0)) fun j_j3 =>
    if (m == [41]) then
    j_j3 (m == [41])
    else
    if (m == [93]) then
    j_j3 (m == [93])
    else
    j_j3 (m == [125])) fun j_j2 =>
    if (m == [40]) then
    j_j2 (m == [40])
    else
    if (m == [91]) then
    j_j2 (m == [91])
    else
    j_j2 (m == [123])) fun j_j1 =>
    if (m == [45]) then
    j_j1 (m == [45])
    else
    j_j1 (m == [33])) = some (bd d m) := by
    intro m
    unfold bd
    simp only [joinK]
    generalize (m == [45]) = a1
    generalize (m == [33]) = a2
    generalize (m == [40]) = b1
    generalize (m == [91]) = b2
    generalize (m == [123]) = b3
    generalize (m == [41]) = c1
    generalize (m == [93]) = c2
    generalize (m == [125]) = c3
    cases a1
    · cases a2
      · cases b1
        · cases b2
          · cases b3
            · cases c1
              · cases c2
                · cases c3 <;> rfl
                · rfl
              · rfl
            · rfl
          · rfl
        · rfl
      · rfl
    · rfl
  unfold nest_depth_behind
  cases h : t.Kind != 4 with
  | true => exact key []
  | false => exact key t.Text
def nestB (l : List TToken) (k : Nat) (st : Int × Tnest_depth) : Option ((Int × Tnest_depth) ⊕ (Int × Int)) :=
  match st with
  | (l1_9, l1_oloc4) =>
    if (decide (l1_9 < (l.length : Int))) then
    (ix l l1_9).bind fun x4_0 =>
    (nest_depth_behind k l1_oloc4 x4_0).bind fun x5_2 =>
    if ((decide (x5_2.open_ > 60)) || (decide (x5_2.row > 60))) then
    some (.inr (x4_0.At, 4))
    else
    some (.inl ((IntKind.i64.wrap (l1_9 + 1)), x5_2))
    else
    (some (0, 0)).map .inr
theorem nest_eq (k : Nat) (l : List TToken) : nest_Check k l = loopM k (nestB l k) (0, ⟨0, 0⟩) := rfl
theorem nest_ex (l : List TToken) (hl : l.length ≤ 100000) : ∃ a e : Int, Ev (fun k => nest_Check k l) (a, e) ∧ (e = 0 ∨ (e = 4 ∧ ∃ t ∈ l, a = t.At)) := by
  obtain ⟨⟨a, e⟩, h1, h2⟩ := loop_ex (body := nestB l) (fun st => 0 ≤ st.1 ∧ st.1 ≤ l.length) (fun st => (l.length - st.1).toNat) (fun r => r.2 = 0 ∨ (r.2 = 4 ∧ ∃ t ∈ l, r.1 = t.At)) (by
    rintro ⟨p, d⟩ ⟨i1, i2⟩
    simp only at i1 i2
    obtain ⟨p, rfl⟩ : ∃ q : Nat, p = q := ⟨p.toNat, by omega⟩
    by_cases hp : p < l.length
    · have hd : decide ((p : Int) < (l.length : Int)) = true := by simpa using hp
      have hwr : IntKind.i64.wrap ((p : Int) + 1) = ((p + 1 : Nat) : Int) := by rw [wrap64_id (by omega) (by omega)]; simp
      generalize hbd : bd d (if (l[p]'hp).Kind != 4 then [] else (l[p]'hp).Text) = d2
      have hbh : ∀ k, nest_depth_behind k d (l[p]'hp) = some d2 := fun k => by rw [behind_eq, hbd]
      cases hc : (decide (d2.open_ > 60) || decide (d2.row > 60)) with
      | true => exact .inl ⟨_, Ev.ite_t hd (Ev.bindS (fun _ => ix_nat hp) (Ev.bindS hbh (Ev.ite_t hc Ev.pure))), .inr ⟨rfl, _, List.getElem_mem hp, rfl⟩⟩
      | false =>
        refine .inr ⟨(((p + 1 : Nat) : Int), d2), Ev.ite_t hd (Ev.bindS (fun _ => ix_nat hp) (Ev.bindS hbh (Ev.ite_f hc (Ev.of fun _ => by rw [hwr])))), ⟨by simp only; omega, by simp only; omega⟩, by simp only; omega⟩
    · exact .inl ⟨(0, 0), Ev.ite_f (by simp; omega) (Ev.of fun _ => rfl), .inl rfl⟩) (0, ⟨0, 0⟩) (by simp)
  exact ⟨a, e, Ev.congr (fun k => nest_eq k l) (Ev.loop h1), h2⟩
end Go.Proofs.YtjakhfaodfaimaaDoor.F
namespace Go.Proofs.YtjakhfaodfaimaaDoor.F
open Go
abbrev PGoodP (n : TNode) : Prop := Ev (fun k => ref11_Prog k n) true
theorem gprog {ps : List TNode} {b : TNode} (hp : ∀ x ∈ ps, GD x) (hl : ps.length ≤ 900000) (hb : GB b) : PGoodP ⟨55, 0, 0, [], ps ++ [b]⟩ := by
  have c0 : ((ps ++ [b]).length : Int) = (ps.length : Int) + 1 := by simp
  have c1 : IntKind.i64.wrap ((ps.length : Int) + 1 - 1) = (ps.length : Int) := by rw [show (ps.length : Int) + 1 - 1 = ps.length by omega]; exact wrap64_id (by omega) (by omega)
  have c4 : ((ps.length : Int) + 1 == 0) = false := by simp; omega
  simp only [PGoodP, ref11_Prog]
  simp only [qs, Option.bind_some, Option.map_some, joinK, qb, ↓reduceIte, if_true, if_false, eq_self, Int.reduceBEq, Int.reduceBNe, alone_eq, c0, c1, c4, bne_self_eq_false]
  refine Ev.bindS (x := b) (fun _ => ix_of (by omega) (by simp)) (Ev.bind (kind_of hb.gs hb.kd) ?_)
  simp only [qs, Option.bind_some, Option.map_some, joinK, qb, ↓reduceIte, if_true, if_false, eq_self, Int.reduceBEq, Int.reduceBNe]
  refine Ev.loop ?_
  have key : ∀ (r m : List TNode), ps = m ++ r → EvL (σ := Int) (ρ := Bool) (fun k (l1_4 : Int) =>
    if decide (IntKind.i64.wrap (l1_4 + 1) < (ps.length : Int) + 1) = true then
      (ix (ps ++ [b]) l1_4).bind fun x7_3 => (ref11_Decl k x7_3).bind fun x7_5 =>
        if (!x7_5) = true then some (.inr false) else some (.inl (IntKind.i64.wrap (l1_4 + 1)))
    else some (.inr true)) (m.length : Int) true := by
    intro r
    induction r with
    | nil =>
      intro m hm
      have hlen : ps.length = m.length := by rw [hm]; simp
      refine EvL.done (Ev.ite_f ?_ Ev.pure)
      rw [wrap64_id (by omega) (by omega), hlen]; simp
    | cons x r ih =>
      intro m hm
      have hx : x ∈ ps := by rw [hm]; simp
      have hlen : ps.length = m.length + (r.length + 1) := by rw [hm]; simp
      have hix : ix (ps ++ [b]) (m.length : Int) = some x := ix_of (by omega) (by rw [hm]; simp)
      have hw : IntKind.i64.wrap ((m.length : Int) + 1) = (m.length : Int) + 1 := wrap64_id (by omega) (by omega)
      refine EvL.step (Ev.ite_t (by rw [hw]; simp; omega) (Ev.bindS (fun _ => hix) (Ev.bind (hp x hx).gd (Ev.ite_f rfl Ev.pure)))) ?_
      rw [hw]
      have := ih (m ++ [x]) (by rw [hm]; simp)
      simpa using this
  exact key ps [] rfl
theorem prog_ex2 {l : List TToken} (W : WF l) : ∃ r, Ev (pP l) r ∧ (r.2.2 = false → PGoodP r.1) := by
  have hlen := W.len
  obtain ⟨r, h, hq⟩ := loop_ex (body := fun k s => pB l k s) (fun s : List TNode × Int × Bool => (s.2.2 = false → 0 ≤ s.2.1 ∧ (s.1.length : Int) ≤ s.2.1 ∧ s.2.1 ≤ l.length ∧ ∀ x ∈ s.1, GD x) ∧ s.1.length ≤ l.length + 1)
    (fun s => if s.2.2 then 0 else (l.length - s.2.1).toNat + 1) (fun r => r.2.2 = false → PGoodP r.1) (by
    rintro ⟨c, p, b⟩ ⟨i2, i3⟩
    simp only at i2 i3
    cases b with
    | true =>
      refine Or.inl ⟨(TNode.mk 55 0 0 [] (c ++ [⟨30, (tk l p).At, 0, [], []⟩]), p, true), ?_, fun h => by cases h⟩
      simp only [pB]
      simp only [qs, Option.bind_some, Option.map_some, joinK, qb, ↓reduceIte, if_true, if_false, eq_self, Int.reduceBEq, Int.reduceBNe]
      refine Ev.map ?_
      unfold pT
      exact Ev.bind (block_bad l p).up (Ev.ite_t (room1 _ (by omega)) Ev.pure)
    | false =>
      obtain ⟨i1, i4, i5, i6⟩ := i2 rfl
      cases hm : isT (tk l p) 3 [109, 97, 105, 110] with
      | true =>
        obtain ⟨n1, n2, n3⟩ := W.next (i := p) (by rw [(isT_kind hm).1]; decide)
        obtain ⟨x, j, y, ok, e1, e2, e3, e4⟩ := (is_at W (p + 1)).bl
        refine Or.inl ⟨(TNode.mk 55 0 0 [] (c ++ [x]), j, !ok), ?_, fun h => ?_⟩
        · simp only [pB]
          simp only [qs, Option.bind_some, Option.map_some, joinK, qb, ↓reduceIte, if_true, if_false, eq_self, Int.reduceBEq, Int.reduceBNe, hm, n3]
          refine Ev.map ?_
          unfold pT
          exact Ev.bind (Ev.up (f := fun k => stmt_cursor_block k l (p + 1) false) e1) (Ev.ite_t (room1 _ (by omega)) Ev.pure)
        · have h : ok = true := by cases ok; exact absurd h (by simp); rfl
          obtain ⟨rfl, q2, q3, q4⟩ := e3 h
          exact gprog i6 (by omega) q4
      | false =>
        obtain ⟨x, j, y, ok, e1, e2, e3, e4⟩ := decl_R W p
        refine Or.inr ⟨(c ++ [x], j, !ok), ?_, ?_, ?_⟩
        · simp only [pB]
          simp only [qs, Option.bind_some, Option.map_some, joinK, qb, ↓reduceIte, if_true, if_false, eq_self, Int.reduceBEq, Int.reduceBNe, hm]
          refine Ev.bind e1 ?_
          simp only [qs, Option.bind_some, Option.map_some, joinK, qb, ↓reduceIte, if_true, if_false, eq_self, Int.reduceBEq, Int.reduceBNe, room1 x (show c.length ≤ 1000000 by omega)]; exact Ev.pure
        · refine ⟨fun h => ?_, by simp; omega⟩
          have h : ok = true := by cases ok; exact absurd h (by simp); rfl
          obtain ⟨q1, q2, q3, q4⟩ := e3 h
          refine ⟨by show 0 ≤ j; omega, by simp; omega, by show j ≤ l.length; omega, ?_⟩
          intro z hz
          rcases List.mem_append.1 hz with hz | hz
          · exact i6 z hz
          · simp at hz; subst hz; rw [q1]; exact q4
        · cases ok with
          | false => simp
          | true =>
            obtain ⟨_, q2, q3, _⟩ := e3 rfl
            simp; omega) ([], 0, false) (by simp)
  exact ⟨r, Ev.loop h, hq⟩
structure RdG (s : List UInt8) (n : TNode) (f : Tparse_Fault) : Prop where
  or : (f = ⟨0, 0, 0, 0⟩ ∧ PGoodP n) ∨ (n = zN ∧ 0 ≤ f.At ∧ f.At ≤ s.length ∧ 1 ≤ f.Line ∧ 1 ≤ f.Col ∧ (f.Why = 1 ∨ f.Why = 2 ∨ f.Why = 3 ∨ f.Why = 4))
theorem parse_ex (s : List UInt8) (hl : s.length ≤ 20000) : ∃ n f, Ev (fun k => parse_Prog k s) (n, f) ∧ RdG s n f := by
  have fin : ∀ {n f}, Ev (fun k => parse_read k s) (n, f) → RdG s n f → ∃ n f, Ev (fun k => parse_Prog k s) (n, f) ∧ RdG s n f := fun {n f} h g => ⟨n, f, Ev.bind h Ev.pure, g⟩
  obtain ⟨⟨l, a, e⟩, h1, g⟩ := lex_ex s
  by_cases he : e = 0
  · subst he
    obtain ⟨W, hpos, hat⟩ := g.ok rfl
    simp only at W hpos hat
    obtain ⟨a2, e2, h2, hn⟩ := nest_ex l W.len
    by_cases he2 : e2 = 0
    · subst he2
      obtain ⟨⟨n, i, b⟩, h3, hgood⟩ := prog_ex2 W
      obtain ⟨hi0, hi1⟩ := prog_le W hpos h3
      simp only at hi0 hi1 hgood
      obtain ⟨i, rfl⟩ : ∃ q : Nat, i = q := ⟨i.toNat, by omega⟩
      have hil : i < l.length := by unfold lm at hi1; omega
      cases hc : (b || ((i : Int) != IntKind.i64.wrap ((l.length : Int) - 1) || (tk l i).Kind != 0)) with
      | true =>
        have hP : Ev (fun k => stmt_Prog k l) (zN, (i : Int), 1) := Ev.congr (prog_eq l) (Ev.bind h3 (Ev.of fun _ => by unfold pF; rw [hc]; rfl))
        obtain ⟨li, co, h5, q1, q2⟩ := fault_ex s hl (l[i]'hil).At 1
        refine fin (n := zN) (f := ⟨(l[i]'hil).At, li, co, 1⟩) (Ev.bind h1 (Ev.ite_f rfl (Ev.bind h2 (Ev.ite_f rfl (Ev.bind hP (Ev.ite_t rfl (Ev.bindS (fun _ => ix_nat hil) (Ev.bind h5 Ev.pure)))))))) ⟨.inr ⟨rfl, (hat _ (List.getElem_mem hil)).1, (hat _ (List.getElem_mem hil)).2, q1, q2, .inl rfl⟩⟩
      | false =>
        have hb : b = false := by cases b; rfl; cases hc
        subst hb
        have hP : Ev (fun k => stmt_Prog k l) (n, (i : Int), 0) := Ev.congr (prog_eq l) (Ev.bind h3 (Ev.of fun _ => by unfold pF; rw [hc]; rfl))
        exact fin (Ev.bind h1 (Ev.ite_f rfl (Ev.bind h2 (Ev.ite_f rfl (Ev.bind hP (Ev.ite_f rfl Ev.pure)))))) ⟨.inl ⟨rfl, hgood rfl⟩⟩
    · obtain ⟨rfl, t, ht, rfl⟩ := hn.resolve_left he2
      obtain ⟨li, co, h5, q1, q2⟩ := fault_ex s hl t.At 4
      exact fin (Ev.bind h1 (Ev.ite_f rfl (Ev.bind h2 (Ev.ite_t rfl (Ev.bind h5 Ev.pure))))) ⟨.inr ⟨rfl, (hat t ht).1, (hat t ht).2, q1, q2, .inr (.inr (.inr rfl))⟩⟩
  · obtain ⟨g1, g2, g3⟩ := g.bad he
    simp only at g1 g2 g3
    obtain ⟨li, co, h5, q1, q2⟩ := fault_ex s hl a e
    refine fin (Ev.bind h1 (Ev.ite_t (by simpa using he) (Ev.bind h5 Ev.pure))) ⟨.inr ⟨rfl, g1, g2, q1, q2, ?_⟩⟩
    rcases g3 with h | h | h
    · exact .inl h
    · exact .inr (.inl h)
    · exact .inr (.inr (.inl h))
theorem works15 (k : Nat) : law15_works (k + 80) = some true := by kernel_rfl
theorem works15_ev : Ev law15_works true := Ev.at 80 works15
theorem faults_holds (s : List UInt8) : Ev (fun k => law15_ParseFaults k s) true := by
  unfold law15_ParseFaults
  refine Ev.bind works15_ev ?_
  cases hl : decide ((s.length : Int) > 20000) with
  | true => exact Ev.ite_t rfl (Ev.bind works15_ev Ev.pure)
  | false =>
    refine Ev.ite_f rfl ?_
    have hl : s.length ≤ 20000 := by simp at hl; omega
    obtain ⟨n, f, h, g⟩ := parse_ex s hl
    refine Ev.bind h ?_
    rcases g.or with ⟨rfl, hg⟩ | ⟨rfl, q1, q2, q3, q4, q5⟩
    · exact Ev.ite_t rfl (Ev.bind hg Ev.pure)
    · have hc : ((f.At == 0) && ((f.Line == 0) && ((f.Col == 0) && (f.Why == 0)))) = false := by
        have : (f.Line == 0) = false := by simp; omega
        rw [this]; simp
      have hc2 : ((((((decide (f.At < 0)) || (decide (f.At > (s.length : Int)))) || (decide (f.Line < 1))) || (decide (f.Col < 1))) || (zN.Kind != 0)) || (decide ((zN.Kids.length : Int) > 0))) = false := by
        have a1 : decide (f.At < 0) = false := by simp; omega
        have a2 : decide (f.At > (s.length : Int)) = false := by simp; omega
        have a3 : decide (f.Line < 1) = false := by simp; omega
        have a4 : decide (f.Col < 1) = false := by simp; omega
        rw [a1, a2, a3, a4]; rfl
      refine Ev.ite_f hc (Ev.ite_f hc2 (Ev.of fun _ => ?_))
      rcases q5 with h | h | h | h <;> rw [h] <;> rfl
end Go.Proofs.YtjakhfaodfaimaaDoor.F
