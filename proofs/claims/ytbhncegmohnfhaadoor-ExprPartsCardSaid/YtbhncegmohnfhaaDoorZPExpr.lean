/- Types, arguments and expressions: what the reader tells and what the document tells are alike. No condition. -/
import Derived.Test.YtbhncegmohnfhaaDoorZPSign
set_option linter.unusedVariables false
set_option linter.unusedSimpArgs false
set_option maxRecDepth 100000
namespace Go.Proofs.YtbhncegmohnfhaaDoor.F
open Go

/-- The reader (e) and the document (r) come to the same; what they come to is as G says. -/
abbrev zN : TNode := ⟨0, 0, 0, [], []⟩
def R (G : TNode → Prop) (l : List TToken) (i : Int) (e r : Nat → Option (TNode × Int × Bool)) : Prop :=
  ∃ n j m ok, Ev e (n, j, !ok) ∧ Ev r (m, j, ok) ∧ (ok = true → n = m ∧ i < j ∧ j < l.length ∧ G m) ∧ (ok = false → m = zN)
theorem R.bad {G : TNode → Prop} {l : List TToken} {i : Int} {e r : Nat → Option (TNode × Int × Bool)} {n : TNode} {j : Int} (h1 : Ev e (n, j, true)) (h2 : Ev r (zN, j, false)) : R G l i e r := ⟨n, j, zN, false, h1, h2, (fun h => by cases h), fun _ => rfl⟩
theorem R.good {G : TNode → Prop} {l : List TToken} {i : Int} {e r : Nat → Option (TNode × Int × Bool)} {n : TNode} {j : Int} (h1 : Ev e (n, j, false)) (h2 : Ev r (n, j, true)) (hj : i < j ∧ j < l.length) (hg : G n) : R G l i e r := ⟨n, j, n, true, h1, h2, (fun _ => ⟨rfl, hj.1, hj.2, hg⟩), fun h => by cases h⟩

structure GEx (n : TNode) : Prop where
  ge : GE n
  wide : Wide n
structure GTy (n : TNode) : Prop where
  gt : GT n
  wide : Wide n
structure GAr (l : List TNode) : Prop where
  all : ∀ n ∈ l, GEx n
  len : l.length ≤ 100000
theorem wide0 {k a n : Int} {s : List UInt8} : Wide ⟨k, a, n, s, []⟩ := ⟨by simp, by simp⟩
theorem wide1 {k a n : Int} {s : List UInt8} {x : TNode} (h : Wide x) : Wide ⟨k, a, n, s, [x]⟩ := ⟨by simpa using h, by simp⟩
theorem wide2 {k a n : Int} {s : List UInt8} {x y : TNode} (h : Wide x) (h2 : Wide y) : Wide ⟨k, a, n, s, [x, y]⟩ := ⟨by simp; exact ⟨h, h2⟩, by simp⟩
theorem wideL {k a n : Int} {s : List UInt8} {l : List TNode} (h : ∀ x ∈ l, Wide x) (h2 : l.length ≤ 1000000) : Wide ⟨k, a, n, s, l⟩ := ⟨h, h2⟩

abbrev eKind (l : List TToken) (i : Int) (k : Nat) := expr_reader_kind k l i false
abbrev rType (l : List TToken) (i : Int) (k : Nat) := ref13_Type k l i
theorem kind_step (k : Nat) (l : List TToken) (i : Int) : expr_reader_kind (k + 1) l i false = (
    joinK (fun ((j0_oext0_1, j0_oloc4_0) : Int × Int) =>
    some ((TNode.mk j0_oloc4_0 (tk l i).At 0 [] []), (IntKind.i64.wrap (j0_oext0_1 + 1)), false)) fun j_j0 =>
    if ((tk l i).Kind == 1) then
    (expr_reader_name k l i false).bind fun (x6_1_0, x6_1_1, x6_1_2) =>
    some ((TNode.mk 4 (tk l i).At 0 x6_1_0 []), x6_1_1, x6_1_2)
    else
    if isT (tk l i) 4 [91] then
    (expr_reader_wants k [93] l (IntKind.i64.wrap (i + 1)) false).bind fun (x9_1_0, x9_1_1) =>
    if x9_1_1 then
    some ((TNode.mk 0 (tk l i).At 0 [] []), x9_1_0, x9_1_1)
    else
    (expr_reader_kind k l x9_1_0 x9_1_1).bind fun (x12_1_0, x12_1_1, x12_1_2) =>
    some ((TNode.mk 5 (tk l i).At 0 [] [x12_1_0]), x12_1_1, x12_1_2)
    else
    if isT (tk l i) 3 [105, 110, 116] then
    j_j0 (i, 1)
    else
    if isT (tk l i) 3 [98, 111, 111, 108] then
    j_j0 (i, 2)
    else
    if isT (tk l i) 3 [114, 101, 118] then
    j_j0 (i, 3)
    else
    some ((TNode.mk 0 (tk l i).At 0 [] []), i, true)) := by
  rw [expr_reader_kind, look_eq]
  simp only [Option.bind_some, takes_eq, is_eq, joinK]
  cases isT (tk l i) 4 [91] <;> simp
theorem type_step (k : Nat) (l : List TToken) (i : Int) : ref13_Type (k + 1) l i = (
    if ((tk l i).Kind == 1) then
    some ((TNode.mk 4 (tk l i).At 0 (tk l i).Text []), (IntKind.i64.wrap (i + 1)), true)
    else
    if isT (tk l i) 3 [105, 110, 116] then
    some ((TNode.mk 1 (tk l i).At 0 [] []), (IntKind.i64.wrap (i + 1)), true)
    else
    if isT (tk l i) 3 [98, 111, 111, 108] then
    some ((TNode.mk 2 (tk l i).At 0 [] []), (IntKind.i64.wrap (i + 1)), true)
    else
    if isT (tk l i) 3 [114, 101, 118] then
    some ((TNode.mk 3 (tk l i).At 0 [] []), (IntKind.i64.wrap (i + 1)), true)
    else
    if (!isT (tk l i) 4 [91]) then
    some ((TNode.mk 0 0 0 [] []), i, false)
    else
    if (!isT (tk l (IntKind.i64.wrap (i + 1))) 4 [93]) then
    some ((TNode.mk 0 0 0 [] []), (IntKind.i64.wrap (i + 1)), false)
    else
    (ref13_Type k l (IntKind.i64.wrap (i + 2))).bind fun (x14_3_0, x14_3_1, x14_3_2) =>
    if (!x14_3_2) then
    some ((TNode.mk 0 0 0 [] []), x14_3_1, false)
    else
    some ((TNode.mk 5 (tk l i).At 0 [] [x14_3_0]), x14_3_1, true)) := by
  rw [ref13_Type, Tok_eq]
  simp only [Option.bind_some, Says_eq, Is_eq]
theorem type_R {l : List TToken} (W : WF l) : ∀ (n : Nat) (i : Int), (l.length : Int) - i ≤ n → R GTy l i (eKind l i) (rType l i) := by
  intro n
  induction n using Nat.strongRecOn with
  | _ n ih =>
  intro i hi
  by_cases h1 : (tk l i).Kind = 1
  · obtain ⟨n1, n2, n3⟩ := W.next (i := i) (by omega)
    refine R.good (Ev.succ (fun k => kind_step k l i) (Ev.joinK (Ev.ite_t (by simpa using h1) (Ev.bindS (fun k => name_eq k l i) (Ev.of fun _ => ?_))))) (Ev.succ (fun k => type_step k l i) (Ev.ite_t (by simpa using h1) (Ev.of fun _ => rfl))) ⟨by rw [n3]; omega, by rw [n3]; omega⟩ ⟨gt_rec _ (W.names i h1), wide0⟩
    simp [h1]
  · by_cases h2 : isT (tk l i) 4 [91] = true
    · have hk := (isT_kind h2).1
      obtain ⟨n1, n2, n3⟩ := W.next (i := i) (by omega)
      have s1 : ∀ s, isT (tk l i) 3 s = false := fun s => isT_ne (by omega)
      by_cases h3 : isT (tk l (i + 1)) 4 [93] = true
      · have hk2 := (isT_kind h3).1
        obtain ⟨m1, m2, m3⟩ := W.next (i := i + 1) (by omega)
        obtain ⟨a, j, b, ok, e1, e2, e3, e4⟩ := ih (n - 2) (by omega) (i + 2) (by omega)
        have hw2 : IntKind.i64.wrap (i + 2) = i + 2 := by rw [show i + 2 = i + 1 + 1 by omega]; exact m3
        have E : Ev (eKind l i) ((TNode.mk 5 (tk l i).At 0 [] [a]), j, !ok) := by
          refine Ev.succ (fun k => kind_step k l i) (Ev.joinK (Ev.ite_f (by simpa using h1) (Ev.ite_t h2 (Ev.bindS (x := (i + 2, false)) (fun k => by rw [n3, wants_eq, if_pos h3, m3, show i + 1 + 1 = i + 2 by omega]) (Ev.ite_f rfl (Ev.bind e1 Ev.pure))))))
        have Rr : Ev (rType l i) (if (!ok) = true then ((TNode.mk 0 0 0 [] []), j, false) else ((TNode.mk 5 (tk l i).At 0 [] [b]), j, true)) := by
          refine Ev.succ (fun k => type_step k l i) (Ev.ite_f (by simpa using h1) (Ev.ite_f (s1 _) (Ev.ite_f (s1 _) (Ev.ite_f (s1 _) (Ev.ite_f (by simp [h2]) (Ev.ite_f (by rw [n3]; simp [h3]) ?_))))))
          rw [hw2]
          refine Ev.bind e2 ?_
          cases ok
          · exact Ev.ite_t rfl Ev.pure
          · exact Ev.ite_f rfl Ev.pure
        cases ok with
        | false => exact R.bad E Rr
        | true =>
          obtain ⟨rfl, q2, q3, q4⟩ := e3 rfl
          exact R.good E Rr ⟨by omega, q3⟩ ⟨gt_arr _ q4.gt, wide1 q4.wide⟩
      · have h3 : isT (tk l (i + 1)) 4 [93] = false := by simpa using h3
        refine R.bad (Ev.succ (fun k => kind_step k l i) (Ev.joinK (Ev.ite_f (by simpa using h1) (Ev.ite_t h2 (Ev.bindS (x := (i + 1, true)) (fun k => by rw [n3, wants_eq, h3]; rfl) (Ev.ite_t rfl Ev.pure))))))
          (Ev.succ (fun k => type_step k l i) (Ev.ite_f (by simpa using h1) (Ev.ite_f (s1 _) (Ev.ite_f (s1 _) (Ev.ite_f (s1 _) (Ev.ite_f (by simp [h2]) (Ev.ite_t (by rw [n3]; simp [h3]) (Ev.of fun _ => by rw [n3]))))))))
    · have h2 : isT (tk l i) 4 [91] = false := by simpa using h2
      have fin : ∀ (kd : Int), (tk l i).Kind = 3 → 1 ≤ kd ∧ kd ≤ 3 → Ev (eKind l i) ((TNode.mk kd (tk l i).At 0 [] []), i + 1, false) → Ev (rType l i) ((TNode.mk kd (tk l i).At 0 [] []), i + 1, true) → R GTy l i (eKind l i) (rType l i) := by
        intro kd hk hb e1 e2
        obtain ⟨n1, n2, n3⟩ := W.next (i := i) (by omega)
        exact R.good e1 e2 ⟨by omega, n2⟩ ⟨gt_one _ hb, wide0⟩
      have hw : (tk l i).Kind = 3 → IntKind.i64.wrap (i + 1) = i + 1 := fun hk => (W.next (i := i) (by omega)).2.2
      by_cases h3 : isT (tk l i) 3 [105, 110, 116] = true
      · have hk := (isT_kind h3).1
        exact fin 1 hk (by omega) (Ev.succ (fun k => kind_step k l i) (Ev.joinK (Ev.ite_f (by simpa using h1) (Ev.ite_f h2 (Ev.ite_t h3 (Ev.of fun _ => by simp only [hw hk]))))))
          (Ev.succ (fun k => type_step k l i) (Ev.ite_f (by simpa using h1) (Ev.ite_t h3 (Ev.of fun _ => by simp only [hw hk]))))
      have h3 : isT (tk l i) 3 [105, 110, 116] = false := by simpa using h3
      by_cases h4 : isT (tk l i) 3 [98, 111, 111, 108] = true
      · have hk := (isT_kind h4).1
        exact fin 2 hk (by omega) (Ev.succ (fun k => kind_step k l i) (Ev.joinK (Ev.ite_f (by simpa using h1) (Ev.ite_f h2 (Ev.ite_f h3 (Ev.ite_t h4 (Ev.of fun _ => by simp only [hw hk])))))))
          (Ev.succ (fun k => type_step k l i) (Ev.ite_f (by simpa using h1) (Ev.ite_f h3 (Ev.ite_t h4 (Ev.of fun _ => by simp only [hw hk])))))
      have h4 : isT (tk l i) 3 [98, 111, 111, 108] = false := by simpa using h4
      by_cases h5 : isT (tk l i) 3 [114, 101, 118] = true
      · have hk := (isT_kind h5).1
        exact fin 3 hk (by omega) (Ev.succ (fun k => kind_step k l i) (Ev.joinK (Ev.ite_f (by simpa using h1) (Ev.ite_f h2 (Ev.ite_f h3 (Ev.ite_f h4 (Ev.ite_t h5 (Ev.of fun _ => by simp only [hw hk]))))))))
          (Ev.succ (fun k => type_step k l i) (Ev.ite_f (by simpa using h1) (Ev.ite_f h3 (Ev.ite_f h4 (Ev.ite_t h5 (Ev.of fun _ => by simp only [hw hk]))))))
      have h5 : isT (tk l i) 3 [114, 101, 118] = false := by simpa using h5
      exact R.bad (Ev.succ (fun k => kind_step k l i) (Ev.joinK (Ev.ite_f (by simpa using h1) (Ev.ite_f h2 (Ev.ite_f h3 (Ev.ite_f h4 (Ev.ite_f h5 Ev.pure)))))))
        (Ev.succ (fun k => type_step k l i) (Ev.ite_f (by simpa using h1) (Ev.ite_f h3 (Ev.ite_f h4 (Ev.ite_f h5 (Ev.ite_t (by simp [h2]) Ev.pure))))))
theorem type_all {l : List TToken} (W : WF l) (i : Int) : R GTy l i (eKind l i) (rType l i) := type_R W ((l.length : Int) - i).toNat i (by omega)
end Go.Proofs.YtbhncegmohnfhaaDoor.F
