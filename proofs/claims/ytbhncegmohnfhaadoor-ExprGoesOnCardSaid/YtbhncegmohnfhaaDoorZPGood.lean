/- Nodes that are as they should be. No condition. -/
import Derived.Test.YtbhncegmohnfhaaDoorZPTok
set_option linter.unusedVariables false
set_option linter.unusedSimpArgs false
namespace Go.Proofs.YtbhncegmohnfhaaDoor.F
open Go

abbrev Nm (s : List UInt8) : Prop := Ev (fun k => ref11_Named k s) true
theorem Type_eq (k : Nat) (n : TNode) : ref11_Type (k + 1) n = (if (n.N != 0) then some false else if (n.Kind == 4) then (ref11_Named k n.Name).bind fun x4_2 => some (x4_2 && (((n.Kids.length : Int)) == 0)) else
    if (!(n.Name == [])) then some false else if (n.Kind == 5) then
    joinK (fun (g8_10_34 : Bool) => some g8_10_34) fun j_g8_10 => if (((n.Kids.length : Int)) == 1) then (ix n.Kids 0).bind fun x8_7 => (ref11_Type k x8_7).bind fun x8_9 => j_g8_10 x8_9 else j_g8_10 false
    else some (((decide (n.Kind ≥ 1)) && (decide (n.Kind ≤ 3))) && (((n.Kids.length : Int)) == 0))) := by rw [ref11_Type]
theorem gt_rec (a : Int) {s : List UInt8} (h : Nm s) : GT ⟨4, a, 0, s, []⟩ := by
  refine Ev.succ (fun k => Type_eq k _) ?_
  refine Ev.ite_f rfl (Ev.ite_t rfl (Ev.bind h (Ev.of fun _ => rfl)))
theorem gt_one (a : Int) {k : Int} (h : 1 ≤ k ∧ k ≤ 3) : GT ⟨k, a, 0, [], []⟩ := by
  refine Ev.succ (fun j => Type_eq j _) ?_
  refine Ev.ite_f rfl (Ev.ite_f (by simp; omega) (Ev.ite_f rfl (Ev.ite_f (by simp; omega) (Ev.of fun _ => ?_))))
  simp; omega
theorem gt_arr (a : Int) {n : TNode} (h : GT n) : GT ⟨5, a, 0, [], [n]⟩ := by
  refine Ev.succ (fun j => Type_eq j _) ?_
  refine Ev.ite_f rfl (Ev.ite_f rfl (Ev.ite_f rfl (Ev.ite_t rfl ?_)))
  exact Ev.joinK (Ev.ite_t rfl (Ev.bindS (x := n) (fun _ => rfl) (Ev.bind h (Ev.of fun _ => rfl))))

theorem Expr_eq (k : Nat) (a0 : TNode) : ref11_Expr (k + 1) a0 = (if (a0.Kind == 19) then
    (ref11_alone k a0).bind fun x3_1 =>
    joinK (fun (g3_12_22 : Bool) =>
    joinK (fun (g3_18_28 : Bool) =>
    some g3_18_28) fun j_g3_18 =>
    if g3_12_22 then
    (sub a0.Kids 1 (a0.Kids.length : Int)).bind fun x3_16 =>
    (ref11_exprs k x3_16).bind fun x3_17 =>
    j_g3_18 x3_17
    else
    j_g3_18 false) fun j_g3_12 =>
    if (x3_1 && (decide ((a0.Kids.length : Int) > 0))) then
    (ix a0.Kids 0).bind fun x3_9 =>
    (ref11_Type k x3_9).bind fun x3_11 =>
    j_g3_12 x3_11
    else
    j_g3_12 false
    else
    (ref11_exprs k a0.Kids).bind fun x4_2 =>
    if (!x4_2) then
    some false
    else
    if ((a0.Kind == 10) || (a0.Kind == 11)) then
    some (((((a0.Kids.length : Int) == 0) && (a0.Name == [])) && (decide (a0.N ≥ 0))) && ((a0.Kind == 10) || (decide (a0.N ≤ 1))))
    else
    if ((a0.Kind == 15) || (a0.Kind == 16)) then
    if (a0.Kind == 15) then
    some ((((a0.Kids.length : Int) == 1) && (a0.Name == [])) && ((a0.N == 2) || (a0.N == 14)))
    else
    joinK (fun (g11_12_103 : Bool) =>
    some g11_12_103) fun j_g11_12 =>
    if (((a0.Kids.length : Int) == 2) && (a0.Name == [])) then
    (ref09_Bind k a0.N).bind fun x11_10 =>
    j_g11_12 (decide (x11_10 > 0))
    else
    j_g11_12 false
    else
    if (a0.Kind == 13) then
    joinK (fun (g13_5_112 : Bool) =>
    some g13_5_112) fun j_g13_5 =>
    if ((a0.Kids.length : Int) == 2) then
    (ref11_alone k a0).bind fun x13_4 =>
    j_g13_5 x13_4
    else
    j_g13_5 false
    else
    joinK (fun (g14_8_121 : Bool) =>
    if g14_8_121 then
    some false
    else
    some (((((a0.Kind == 12) && ((a0.Kids.length : Int) == 0)) || ((a0.Kind == 14) && ((a0.Kids.length : Int) == 1))) || (a0.Kind == 17)) || (a0.Kind == 18))) fun j_g14_8 =>
    if (a0.N != 0) then
    j_g14_8 true
    else
    (ref11_Named k a0.Name).bind fun x14_6 =>
    j_g14_8 (!x14_6)) := by rw [ref11_Expr]
theorem exprs_nil : Ev (fun k => ref11_exprs k []) true := exprs_all (by simp) (by simp)
theorem exprs_one {a : TNode} (h : GE a) : Ev (fun k => ref11_exprs k [a]) true := exprs_all (by simpa using h) (by simp)
theorem exprs_two {a b : TNode} (h : GE a) (h2 : GE b) : Ev (fun k => ref11_exprs k [a, b]) true := exprs_all (by simp; exact ⟨h, h2⟩) (by simp)
theorem ge_num (a : Int) {n : Int} (h : 0 ≤ n) : GE ⟨10, a, n, [], []⟩ := by
  refine Ev.succ (fun k => Expr_eq k _) (Ev.ite_f rfl (Ev.bind exprs_nil (Ev.ite_f rfl (Ev.ite_t rfl (Ev.of fun _ => ?_)))))
  simp [h]
theorem ge_flag (a : Int) {n : Int} (h : n = 0 ∨ n = 1) : GE ⟨11, a, n, [], []⟩ := by
  refine Ev.succ (fun k => Expr_eq k _) (Ev.ite_f rfl (Ev.bind exprs_nil (Ev.ite_f rfl (Ev.ite_t rfl (Ev.of fun _ => ?_)))))
  rcases h with rfl | rfl <;> simp
theorem ge_un (a : Int) {s : Int} {n : TNode} (h : s = 2 ∨ s = 14) (hn : GE n) : GE ⟨15, a, s, [], [n]⟩ := by
  refine Ev.succ (fun k => Expr_eq k _) (Ev.ite_f rfl (Ev.bind (exprs_one hn) (Ev.ite_f rfl (Ev.ite_f rfl (Ev.ite_t rfl (Ev.ite_t rfl (Ev.of fun _ => ?_)))))))
  rcases h with rfl | rfl <;> simp
theorem ge_bin (a : Int) {s b : Int} {n m : TNode} (h : ∀ k, ref09_Bind k s = some b) (hb : 0 < b) (hn : GE n) (hm : GE m) : GE ⟨16, a, s, [], [n, m]⟩ := by
  refine Ev.succ (fun k => Expr_eq k _) (Ev.ite_f rfl (Ev.bind (exprs_two hn hm) (Ev.ite_f rfl (Ev.ite_f rfl (Ev.ite_t rfl (Ev.ite_f rfl ?_))))))
  refine Ev.joinK (Ev.ite_t rfl (Ev.bindS h (Ev.of fun _ => ?_)))
  simp [hb]
theorem ge_index (a : Int) {n m : TNode} (hn : GE n) (hm : GE m) : GE ⟨13, a, 0, [], [n, m]⟩ := by
  refine Ev.succ (fun k => Expr_eq k _) (Ev.ite_f rfl (Ev.bind (exprs_two hn hm) (Ev.ite_f rfl (Ev.ite_f rfl (Ev.ite_f rfl (Ev.ite_t rfl ?_))))))
  exact Ev.joinK (Ev.ite_t rfl (Ev.bindS (fun _ => rfl) (Ev.of fun _ => rfl)))
theorem ge_named (kd a : Int) {s : List UInt8} {l : List TNode} (hs : Nm s) (hl : ∀ n ∈ l, GE n) (hn : l.length ≤ 1000000) (hk : (kd = 12 ∧ l = []) ∨ (kd = 14 ∧ l.length = 1) ∨ kd = 17 ∨ kd = 18) : GE ⟨kd, a, 0, s, l⟩ := by
  have h1 : kd ≠ 19 ∧ kd ≠ 10 ∧ kd ≠ 11 ∧ kd ≠ 15 ∧ kd ≠ 16 ∧ kd ≠ 13 := by omega
  obtain ⟨h1, h2, h3, h4, h5, h6⟩ := h1
  refine Ev.succ (fun k => Expr_eq k _) (Ev.ite_f (by simpa using h1) (Ev.bind (exprs_all hl hn) (Ev.ite_f rfl (Ev.ite_f (by simp [h2, h3]) (Ev.ite_f (by simp [h4, h5]) (Ev.ite_f (by simpa using h6) ?_))))))
  refine Ev.joinK (Ev.ite_f rfl (Ev.bind hs (Ev.of fun _ => ?_)))
  rcases hk with ⟨rfl, rfl⟩ | ⟨rfl, hk⟩ | rfl | rfl <;> simp_all
theorem ge_new (a : Int) {t : TNode} {l : List TNode} (ht : GT t) (hl : ∀ n ∈ l, GE n) (hn : l.length ≤ 1000000) : GE ⟨19, a, 0, [], t :: l⟩ := by
  refine Ev.succ (fun k => Expr_eq k _) (Ev.ite_t rfl (Ev.bindS (fun _ => rfl) ?_))
  refine Ev.joinK (Ev.ite_t (by simp) (Ev.bindS (x := t) (fun _ => rfl) (Ev.bind ht ?_)))
  refine Ev.joinK (Ev.ite_t rfl (Ev.bindS (x := l) (fun _ => ?_) (Ev.bind (exprs_all hl hn) (Ev.of fun _ => rfl))))
  unfold sub
  rw [if_pos (by simp; omega)]
  simp

/-! ### alike -/
theorem Placed_eq (k : Nat) (a0 a1 : TNode) : ref13_Placed (k + 1) a0 a1 = (if (((((a0.Kind != a1.Kind) || (a0.At != a1.At)) || (a0.N != a1.N)) || (!(a0.Name == a1.Name))) || (((a0.Kids.length : Int)) != ((a1.Kids.length : Int)))) then
    some false
    else
    joinK (fun (_ : Unit) =>
    some true) fun j_j0 =>
    loopM k (fun (l1_5 : Int) =>
    if (decide (l1_5 < ((a0.Kids.length : Int)))) then
    (ix a0.Kids l1_5).bind fun x6_3 =>
    (ix a1.Kids l1_5).bind fun x6_8 =>
    (ref13_Placed k x6_3 x6_8).bind fun x6_10 =>
    if (!x6_10) then
    some (.inr false)
    else
    some (.inl (IntKind.i64.wrap (l1_5 + 1)))
    else
    (j_j0 ()).map .inr) 0) := by rw [ref13_Placed]
/-- The longest list of kids in a node. -/
inductive Wide : TNode → Prop
  | mk {n : TNode} (h : ∀ x ∈ n.Kids, Wide x) (hl : n.Kids.length ≤ 1000000) : Wide n
theorem placed_self {n : TNode} (h : Wide n) : Ev (fun k => ref13_Placed k n n) true := by
  induction h with
  | @mk n h hl ih =>
    refine Ev.succ (fun k => Placed_eq k _ _) (Ev.ite_f (by simp) (Ev.joinK (Ev.loop ?_)))
    have key : ∀ (l m : List TNode), n.Kids = m ++ l → EvL (σ := Int) (ρ := Bool) (fun k (l1_5 : Int) =>
        if (decide (l1_5 < ((n.Kids.length : Int)))) then
        (ix n.Kids l1_5).bind fun x6_3 =>
        (ix n.Kids l1_5).bind fun x6_8 =>
        (ref13_Placed k x6_3 x6_8).bind fun x6_10 =>
        if (!x6_10) then
        some (.inr false)
        else
        some (.inl (IntKind.i64.wrap (l1_5 + 1)))
        else
        (some true).map .inr) (m.length : Int) true := by
      intro l
      induction l with
      | nil => intro m hm; exact EvL.done (Ev.ite_f (by rw [hm]; simp) (Ev.of fun _ => rfl))
      | cons x l ihl =>
        intro m hm
        have hx : x ∈ n.Kids := by rw [hm]; simp
        have hlen : n.Kids.length = m.length + (l.length + 1) := by rw [hm]; simp
        have hix : ix n.Kids (m.length : Int) = some x := ix_of (by omega) (by rw [hm]; simp)
        refine EvL.step (Ev.ite_t (by simp; omega) (Ev.bindS (fun _ => hix) (Ev.bindS (fun _ => hix) (Ev.bind (ih x hx) (Ev.ite_f rfl Ev.pure))))) ?_
        rw [wrap64_id (by omega) (by omega)]
        have := ihl (m ++ [x]) (by rw [hm]; simp)
        simpa using this
    exact key n.Kids [] rfl
end Go.Proofs.YtbhncegmohnfhaaDoor.F
