/- The code of these functions comes to what the printed functions answer. Printed by wip/dev/gen.py. No condition. -/
import Derived.Test.YtbhncegmohnfhaaDoorZAG1
set_option linter.unusedVariables false
set_option maxRecDepth 100000
namespace Go.Proofs.YtbhncegmohnfhaaDoor.AE
open Go F
def C_ref11_exprs (k : Nat) : Prop := ∀ (a0 : List TNode) (r : Bool), ref11_exprs k a0 = some r →
  SF Z 39 [.slice .none 5 (eTNode.F a0)] [] (.bool r) []
def C_ref11_Expr (k : Nat) : Prop := ∀ (a0 : TNode) (r : Bool), ref11_Expr k a0 = some r →
  SF Z 15 [.agg (cTNode a0)] [] (.bool r) []
theorem st_ref11_exprs (k : Nat) (ih_ref11_Expr : C_ref11_Expr k) : C_ref11_exprs (k + 1) := by
  intro a0 r h
  rw [ref11_exprs] at h
  refine SF.intro Tryd.func39 rfl Tryd.ntmps39 rfl (Nat.le_of_ble_eq_true rfl) (by decide) ?_
  refine SC.seq ?_
  refine SC.region 1 rfl ?_
  refine SO.run c0 1 ⟨[(0, .slice .none 5 (eTNode.F a0))], []⟩ (by decide) (by kernel_rfl) ?_
  refine SO.done ?_
  apply SC.seqJ (r := r) h (fun v : Unit => ⟨[], []⟩)
  · rintro ⟨⟩ r h
    refine SC.eqS (S1 := ⟨[], []⟩) rfl ?_
    refine SC.seq ?_
    refine SC.region 1 rfl ?_
    refine SO.run c0 1 ⟨[(2, .bool true)], []⟩ (by decide) (by kernel_rfl) ?_
    refine SO.done ?_
    refine SC.ret ?_
    replace h := Option.some.inj h
    subst h
    exact ⟨[.bool true], by kernel_rfl, Wk.eq (by kernel_rfl), trivial, by kernel_rfl⟩
  · intro j_j0 h
    refine SC.seq ?_
    refine SC.region 1 rfl ?_
    refine SO.run c0 1 ⟨[(0, .slice .none 5 (eTNode.F a0)), (3, .int .i64 0)], []⟩ (by decide) (by kernel_rfl) ?_
    refine SO.done ?_
    refine SC.block ?_
    apply SC.loopJ (r := r) h (fun v : Int => ⟨[(0, .slice .none 5 (eTNode.F a0)), (3, .int .i64 v)], []⟩)
    rintro l1_3 r h
    refine SC.eqS (S1 := ⟨[(0, .slice .none 5 (eTNode.F a0)), (3, .int .i64 l1_3)], []⟩) rfl ?_
    refine SC.seq ?_
    refine SC.seq ?_
    refine SC.region 4 rfl ?_
    refine SO.run c0 4 ⟨[(0, .slice .none 5 (eTNode.F a0)), (3, .int .i64 l1_3), (7, .bool (decide (l1_3 < ((a0.length : Int)))))], []⟩ (by decide) (Eq.trans (b := some ⟨[(0, .slice .none 5 (eTNode.F a0)), (3, .int .i64 l1_3), (7, .bool (decide (l1_3 < (((eTNode.F a0).length : Int)))))], []⟩) (by kernel_rfl) (by simp only [LE.len])) ?_
    refine SO.done ?_
    refine SC.cond (decide (l1_3 < ((a0.length : Int)))) (by kernel_rfl) (fun ht => ?_) (fun ht => ?_)
    · replace h := Opt.t h ht
      refine SC.skip ?_
      refine SC.seq ?_
      refine SC.block ?_
      refine SC.seq ?_
      refine SC.region 6 rfl ?_
      refine SO.run c0 2 ⟨[(0, .slice .none 5 (eTNode.F a0)), (3, .int .i64 l1_3), (10, .slice .none 5 (eTNode.F a0)), (11, .int .i64 l1_3)], []⟩ (by decide) (by kernel_rfl) ?_
      obtain ⟨x4_2, hx4_2, h⟩ := Opt.ex h
      refine SO.op c0 { v := .pin (cTNode x4_2) } ⟨[(0, .slice .none 5 (eTNode.F a0)), (3, .int .i64 l1_3), (12, .pin (cTNode x4_2))], []⟩ (by decide) (ixR eTNode 27 .none 5 a0 .i64 l1_3 x4_2 (cTNode x4_2) (by kernel_rfl) (by kernel_rfl) hx4_2 (xTNode x4_2)) (by kernel_rfl) ?_
      refine SO.run c0 4 ⟨[(0, .slice .none 5 (eTNode.F a0)), (3, .int .i64 l1_3), (13, .agg (cTNode x4_2))], []⟩ (by decide) (by kernel_rfl) ?_
      obtain ⟨x4_4, hx4_4, h⟩ := Opt.ex h
      refine SO.call ⟨15, [.agg (cTNode x4_2)], [], [], some 14⟩ ⟨[(0, .slice .none 5 (eTNode.F a0)), (3, .int .i64 l1_3), (14, .bool x4_4)], []⟩ (by decide) (by kernel_rfl) (ih_ref11_Expr x4_2 x4_4 hx4_4) (by kernel_rfl) ?_
      refine SO.run c0 6 ⟨[(0, .slice .none 5 (eTNode.F a0)), (3, .int .i64 l1_3), (15, .bool (!x4_4))], []⟩ (by decide) (by kernel_rfl) ?_
      refine SO.done ?_
      refine SC.cond (!x4_4) (by kernel_rfl) (fun ht => ?_) (fun ht => ?_)
      · replace h := Opt.t h ht
        refine SC.seq ?_
        refine SC.region 1 rfl ?_
        refine SO.run c0 1 ⟨[(2, .bool false)], []⟩ (by decide) (by kernel_rfl) ?_
        refine SO.done ?_
        refine SC.ret ?_
        replace h := Option.some.inj h
        subst h
        refine ⟨_, rfl, ?_⟩
        exact ⟨[.bool false], by kernel_rfl, Wk.eq (by kernel_rfl), trivial, by kernel_rfl⟩
      · replace h := Opt.f h ht
        refine SC.skip ?_
        refine SC.region 3 rfl ?_
        refine SO.run c0 3 ⟨[(0, .slice .none 5 (eTNode.F a0)), (3, .int .i64 (IntKind.i64.wrap (l1_3 + 1)))], []⟩ (by decide) (by kernel_rfl) ?_
        refine SO.done ?_
        replace h := Option.some.inj h
        subst h
        exact ⟨(IntKind.i64.wrap (l1_3 + 1)), rfl, rfl⟩
    · replace h := Opt.f h ht
      refine SC.weak (S1 := ⟨[], []⟩) ?_ ?_
      · exact ⟨trivial, trivial, by kernel_rfl⟩
      refine SC.exit ?_
      obtain ⟨r1, hh, e1⟩ := Opt.inr h
      clear h
      subst e1
      have h := hh
      clear hh
      refine ⟨_, rfl, ?_⟩
      exact ⟨(), rfl, h⟩
theorem st_ref11_Expr (k : Nat) (ih_ref11_exprs : C_ref11_exprs k) : C_ref11_Expr (k + 1) := by
  intro a0 r h
  rw [ref11_Expr] at h
  refine SF.intro Tryd.func15 rfl Tryd.ntmps15 rfl (Nat.le_of_ble_eq_true rfl) (by decide) ?_
  refine SC.seq ?_
  refine SC.region 2 rfl ?_
  refine SO.run c0 2 ⟨[(1, .ptr (.loc 1) 0)], [(.loc 1, .cells true (cTNode a0))]⟩ (by decide) (by kernel_rfl) ?_
  refine SO.done ?_
  refine SC.seq ?_
  refine SC.region 4 rfl ?_
  refine SO.run c0 4 ⟨[(1, .ptr (.loc 1) 0), (3, .int .i64 ((a0.Kids.length : Int)))], [(.loc 1, .cells true (cTNode a0))]⟩ (by decide) (Eq.trans (b := some ⟨[(1, .ptr (.loc 1) 0), (3, .int .i64 (((eTNode.F a0.Kids).length : Int)))], [(.loc 1, .cells true (cTNode a0))]⟩) (by kernel_rfl) (by simp only [LE.len])) ?_
  refine SO.done ?_
  refine SC.seq ?_
  refine SC.seq ?_
  refine SC.region 3 rfl ?_
  refine SO.run c0 3 ⟨[(1, .ptr (.loc 1) 0), (3, .int .i64 (a0.Kids.length : Int)), (9, .bool (a0.Kind == 19))], [(.loc 1, .cells true (cTNode a0))]⟩ (by decide) (by kernel_rfl) ?_
  refine SO.done ?_
  refine SC.cond (a0.Kind == 19) (by kernel_rfl) (fun ht => ?_) (fun ht => ?_)
  · replace h := Opt.t h ht
    refine SC.seq ?_
    refine SC.region 20 rfl ?_
    refine SO.run c0 1 ⟨[(1, .ptr (.loc 1) 0), (3, .int .i64 (a0.Kids.length : Int)), (10, .agg (cTNode a0))], [(.loc 1, .cells true (cTNode a0))]⟩ (by decide) (by kernel_rfl) ?_
    obtain ⟨x3_1, hx3_1, h⟩ := Opt.ex h
    refine SO.call ⟨38, [.agg (cTNode a0)], [], [], some 11⟩ ⟨[(1, .ptr (.loc 1) 0), (3, .int .i64 (a0.Kids.length : Int)), (11, .bool x3_1)], [(.loc 1, .cells true (cTNode a0))]⟩ (by decide) (by kernel_rfl) (ok_ref11_alone k a0 x3_1 hx3_1) (by kernel_rfl) ?_
    refine SO.run c0 3 ⟨[(1, .ptr (.loc 1) 0), (3, .int .i64 (a0.Kids.length : Int)), (12, .bool x3_1)], [(.loc 1, .cells true (cTNode a0))]⟩ (by decide) (by kernel_rfl) ?_
    refine SO.runB c0 6 x3_1 (fun b => ⟨[(1, .ptr (.loc 1) 0), (3, .int .i64 (a0.Kids.length : Int)), (12, .bool b)], [(.loc 1, .cells true (cTNode a0))]⟩) (fun b => ⟨[(1, .ptr (.loc 1) 0), (15, .bool (b && (decide ((a0.Kids.length : Int) > 0))))], [(.loc 1, .cells true (cTNode a0))]⟩) (by decide) (by kernel_rfl) (by kernel_rfl) ?_
    refine SO.run c0 7 ⟨[(1, .ptr (.loc 1) 0), (16, .bool (x3_1 && (decide ((a0.Kids.length : Int) > 0))))], [(.loc 1, .cells true (cTNode a0))]⟩ (by decide) (by kernel_rfl) ?_
    refine SO.joinK h (fun v : Bool => ⟨[(1, .ptr (.loc 1) 0), (22, .bool v)], [(.loc 1, .cells true (cTNode a0))]⟩) 13 (by decide) ?_ ?_
    · rintro g3_12_22 h
      refine SO.eqS (S1 := ⟨[(1, .ptr (.loc 1) 0), (22, .bool g3_12_22)], [(.loc 1, .cells true (cTNode a0))]⟩) rfl ?_
      refine SO.run c0 14 ⟨[(1, .ptr (.loc 1) 0), (23, .bool g3_12_22)], [(.loc 1, .cells true (cTNode a0))]⟩ (by decide) (by kernel_rfl) ?_
      refine SO.joinK h (fun v : Bool => ⟨[(28, .bool v)], []⟩) 19 (by decide) ?_ ?_
      · rintro g3_18_28 h
        refine SO.eqS (S1 := ⟨[(28, .bool g3_18_28)], []⟩) rfl ?_
        refine SO.run c0 20 ⟨[(2, .bool g3_18_28)], []⟩ (by decide) (by kernel_rfl) ?_
        refine SO.done ?_
        refine SC.ret ?_
        replace h := Option.some.inj h
        subst h
        exact ⟨[.bool g3_18_28], by kernel_rfl, Wk.eq (by kernel_rfl), trivial, by kernel_rfl⟩
      · intro j_g3_18 h
        refine SO.bool g3_12_22 (fun b => ⟨[(1, .ptr (.loc 1) 0), (23, .bool b)], [(.loc 1, .cells true (cTNode a0))]⟩) (fun ht => ?_) (fun ht => ?_)
        · replace h := Opt.t h ht
          refine SO.run c0 16 ⟨[(23, .bool true), (25, .slice .none 5 (eTNode.F a0.Kids))], []⟩ (by decide) (by kernel_rfl) ?_
          obtain ⟨x3_16, hx3_16, h⟩ := Opt.ex h
          refine SO.op c0 { v := .slice .none 5 (eTNode.F x3_16) } ⟨[(23, .bool true), (26, .slice .none 5 (eTNode.F x3_16))], []⟩ (by decide) (slN eTNode 5 x3_16 (slR eTNode 27 .none 5 a0.Kids .i64 .i64 (some 1) none x3_16 (by kernel_rfl) (by kernel_rfl) hx3_16) (ite_self _)) (by kernel_rfl) ?_
          obtain ⟨x3_17, hx3_17, h⟩ := Opt.ex h
          refine SO.call ⟨39, [.slice .none 5 (eTNode.F x3_16)], [], [], some 27⟩ ⟨[(23, .bool true), (27, .bool x3_17)], []⟩ (by decide) (by kernel_rfl) (ih_ref11_exprs x3_16 x3_17 hx3_17) (by kernel_rfl) ?_
          refine SO.run c0 19 ⟨[(28, .bool x3_17)], []⟩ (by decide) (by kernel_rfl) ?_
          exact SO.done ⟨x3_17, rfl, h⟩
        · replace h := Opt.f h ht
          refine SO.run c0 19 ⟨[(28, .bool false)], []⟩ (by decide) (by kernel_rfl) ?_
          exact SO.done ⟨false, rfl, h⟩
    · intro j_g3_12 h
      refine SO.bool (x3_1 && (decide ((a0.Kids.length : Int) > 0))) (fun b => ⟨[(1, .ptr (.loc 1) 0), (16, .bool b)], [(.loc 1, .cells true (cTNode a0))]⟩) (fun ht => ?_) (fun ht => ?_)
      · replace h := Opt.t h ht
        refine SO.run c0 9 ⟨[(1, .ptr (.loc 1) 0), (16, .bool true), (18, .slice .none 5 (eTNode.F a0.Kids))], [(.loc 1, .cells true (cTNode a0))]⟩ (by decide) (by kernel_rfl) ?_
        obtain ⟨x3_9, hx3_9, h⟩ := Opt.ex h
        refine SO.op c0 { v := .pin (cTNode x3_9) } ⟨[(1, .ptr (.loc 1) 0), (16, .bool true), (19, .pin (cTNode x3_9))], [(.loc 1, .cells true (cTNode a0))]⟩ (by decide) (ixR eTNode 27 .none 5 a0.Kids .i64 0 x3_9 (cTNode x3_9) (by kernel_rfl) (by kernel_rfl) hx3_9 (xTNode x3_9)) (by kernel_rfl) ?_
        refine SO.run c0 11 ⟨[(1, .ptr (.loc 1) 0), (16, .bool true), (20, .agg (cTNode x3_9))], [(.loc 1, .cells true (cTNode a0))]⟩ (by decide) (by kernel_rfl) ?_
        obtain ⟨x3_11, hx3_11, h⟩ := Opt.ex h
        refine SO.call ⟨18, [.agg (cTNode x3_9)], [], [], some 21⟩ ⟨[(1, .ptr (.loc 1) 0), (16, .bool true), (21, .bool x3_11)], [(.loc 1, .cells true (cTNode a0))]⟩ (by decide) (by kernel_rfl) (ok_ref11_Type k x3_9 x3_11 hx3_11) (by kernel_rfl) ?_
        refine SO.run c0 13 ⟨[(1, .ptr (.loc 1) 0), (22, .bool x3_11)], [(.loc 1, .cells true (cTNode a0))]⟩ (by decide) (by kernel_rfl) ?_
        exact SO.done ⟨x3_11, rfl, h⟩
      · replace h := Opt.f h ht
        refine SO.run c0 13 ⟨[(1, .ptr (.loc 1) 0), (22, .bool false)], [(.loc 1, .cells true (cTNode a0))]⟩ (by decide) (by kernel_rfl) ?_
        exact SO.done ⟨false, rfl, h⟩
  · replace h := Opt.f h ht
    refine SC.skip ?_
    refine SC.seq ?_
    refine SC.seq ?_
    refine SC.region 4 rfl ?_
    refine SO.run c0 2 ⟨[(1, .ptr (.loc 1) 0), (3, .int .i64 (a0.Kids.length : Int)), (30, .slice .none 5 (eTNode.F a0.Kids))], [(.loc 1, .cells true (cTNode a0))]⟩ (by decide) (by kernel_rfl) ?_
    obtain ⟨x4_2, hx4_2, h⟩ := Opt.ex h
    refine SO.call ⟨39, [.slice .none 5 (eTNode.F a0.Kids)], [], [], some 31⟩ ⟨[(1, .ptr (.loc 1) 0), (3, .int .i64 (a0.Kids.length : Int)), (31, .bool x4_2)], [(.loc 1, .cells true (cTNode a0))]⟩ (by decide) (by kernel_rfl) (ih_ref11_exprs a0.Kids x4_2 hx4_2) (by kernel_rfl) ?_
    refine SO.run c0 4 ⟨[(1, .ptr (.loc 1) 0), (3, .int .i64 (a0.Kids.length : Int)), (32, .bool (!x4_2))], [(.loc 1, .cells true (cTNode a0))]⟩ (by decide) (by kernel_rfl) ?_
    refine SO.done ?_
    refine SC.cond (!x4_2) (by kernel_rfl) (fun ht => ?_) (fun ht => ?_)
    · replace h := Opt.t h ht
      refine SC.seq ?_
      refine SC.region 1 rfl ?_
      refine SO.run c0 1 ⟨[(2, .bool false)], []⟩ (by decide) (by kernel_rfl) ?_
      refine SO.done ?_
      refine SC.ret ?_
      replace h := Option.some.inj h
      subst h
      exact ⟨[.bool false], by kernel_rfl, Wk.eq (by kernel_rfl), trivial, by kernel_rfl⟩
    · replace h := Opt.f h ht
      refine SC.skip ?_
      refine SC.seq ?_
      refine SC.seq ?_
      refine SC.region 8 rfl ?_
      refine SO.run c0 4 ⟨[(1, .ptr (.loc 1) 0), (3, .int .i64 (a0.Kids.length : Int)), (36, .bool (a0.Kind == 10))], [(.loc 1, .cells true (cTNode a0))]⟩ (by decide) (by kernel_rfl) ?_
      refine SO.runB c0 8 (a0.Kind == 10) (fun b => ⟨[(1, .ptr (.loc 1) 0), (3, .int .i64 (a0.Kids.length : Int)), (36, .bool b)], [(.loc 1, .cells true (cTNode a0))]⟩) (fun b => ⟨[(1, .ptr (.loc 1) 0), (3, .int .i64 (a0.Kids.length : Int)), (40, .bool (b || (a0.Kind == 11)))], [(.loc 1, .cells true (cTNode a0))]⟩) (by decide) (by kernel_rfl) (by kernel_rfl) ?_
      refine SO.done ?_
      refine SC.cond ((a0.Kind == 10) || (a0.Kind == 11)) (by kernel_rfl) (fun ht => ?_) (fun ht => ?_)
      · replace h := Opt.t h ht
        refine SC.seq ?_
        refine SC.region 23 rfl ?_
        refine SO.run c0 3 ⟨[(1, .ptr (.loc 1) 0), (43, .bool ((a0.Kids.length : Int) == 0))], [(.loc 1, .cells true (cTNode a0))]⟩ (by decide) (by kernel_rfl) ?_
        refine SO.runB c0 7 ((a0.Kids.length : Int) == 0) (fun b => ⟨[(1, .ptr (.loc 1) 0), (43, .bool b)], [(.loc 1, .cells true (cTNode a0))]⟩) (fun b => ⟨[(1, .ptr (.loc 1) 0), (47, .bool (b && (a0.Name == [])))], [(.loc 1, .cells true (cTNode a0))]⟩) (by decide) (by kernel_rfl) (by kernel_rfl) ?_
        refine SO.run c0 8 ⟨[(1, .ptr (.loc 1) 0), (48, .bool (((a0.Kids.length : Int) == 0) && (a0.Name == [])))], [(.loc 1, .cells true (cTNode a0))]⟩ (by decide) (by kernel_rfl) ?_
        refine SO.runB c0 12 (((a0.Kids.length : Int) == 0) && (a0.Name == [])) (fun b => ⟨[(1, .ptr (.loc 1) 0), (48, .bool b)], [(.loc 1, .cells true (cTNode a0))]⟩) (fun b => ⟨[(1, .ptr (.loc 1) 0), (52, .bool (b && (decide (a0.N ≥ 0))))], [(.loc 1, .cells true (cTNode a0))]⟩) (by decide) (by kernel_rfl) (by kernel_rfl) ?_
        refine SO.run c0 13 ⟨[(1, .ptr (.loc 1) 0), (53, .bool ((((a0.Kids.length : Int) == 0) && (a0.Name == [])) && (decide (a0.N ≥ 0))))], [(.loc 1, .cells true (cTNode a0))]⟩ (by decide) (by kernel_rfl) ?_
        refine SO.meet 22 ⟨[(62, .bool (((((a0.Kids.length : Int) == 0) && (a0.Name == [])) && (decide (a0.N ≥ 0))) && ((a0.Kind == 10) || (decide (a0.N ≤ 1)))))], []⟩ (by decide) ?_ ?_
        · refine SO.bool ((((a0.Kids.length : Int) == 0) && (a0.Name == [])) && (decide (a0.N ≥ 0))) (fun b => ⟨[(1, .ptr (.loc 1) 0), (53, .bool b)], [(.loc 1, .cells true (cTNode a0))]⟩) (fun ht0 => ?_) (fun ht0 => ?_)
          · refine SO.run c0 17 ⟨[(1, .ptr (.loc 1) 0), (53, .bool true), (57, .bool (a0.Kind == 10))], [(.loc 1, .cells true (cTNode a0))]⟩ (by decide) (by kernel_rfl) ?_
            refine SO.bool (a0.Kind == 10) (fun b => ⟨[(1, .ptr (.loc 1) 0), (53, .bool true), (57, .bool b)], [(.loc 1, .cells true (cTNode a0))]⟩) (fun ht1 => ?_) (fun ht1 => ?_)
            · refine SO.run c0 22 ⟨[(62, .bool true)], []⟩ (by decide) (by kernel_rfl) ?_
              exact SO.done (by (try rw [ht0]); (try rw [ht1]); kernel_rfl)
            · refine SO.run c0 22 ⟨[(62, .bool (decide (a0.N ≤ 1)))], []⟩ (by decide) (by kernel_rfl) ?_
              exact SO.done (by (try rw [ht0]); (try rw [ht1]); kernel_rfl)
          · refine SO.run c0 22 ⟨[(62, .bool false)], []⟩ (by decide) (by kernel_rfl) ?_
            exact SO.done (by (try rw [ht0]); kernel_rfl)
        · refine SO.run c0 23 ⟨[(2, .bool (((((a0.Kids.length : Int) == 0) && (a0.Name == [])) && (decide (a0.N ≥ 0))) && ((a0.Kind == 10) || (decide (a0.N ≤ 1)))))], []⟩ (by decide) (by kernel_rfl) ?_
          refine SO.done ?_
          refine SC.ret ?_
          replace h := Option.some.inj h
          subst h
          exact ⟨[.bool (((((a0.Kids.length : Int) == 0) && (a0.Name == [])) && (decide (a0.N ≥ 0))) && ((a0.Kind == 10) || (decide (a0.N ≤ 1))))], by kernel_rfl, Wk.eq (by kernel_rfl), trivial, by kernel_rfl⟩
      · replace h := Opt.f h ht
        refine SC.skip ?_
        refine SC.seq ?_
        refine SC.seq ?_
        refine SC.region 8 rfl ?_
        refine SO.run c0 4 ⟨[(1, .ptr (.loc 1) 0), (3, .int .i64 (a0.Kids.length : Int)), (66, .bool (a0.Kind == 15))], [(.loc 1, .cells true (cTNode a0))]⟩ (by decide) (by kernel_rfl) ?_
        refine SO.runB c0 8 (a0.Kind == 15) (fun b => ⟨[(1, .ptr (.loc 1) 0), (3, .int .i64 (a0.Kids.length : Int)), (66, .bool b)], [(.loc 1, .cells true (cTNode a0))]⟩) (fun b => ⟨[(1, .ptr (.loc 1) 0), (3, .int .i64 (a0.Kids.length : Int)), (70, .bool (b || (a0.Kind == 16)))], [(.loc 1, .cells true (cTNode a0))]⟩) (by decide) (by kernel_rfl) (by kernel_rfl) ?_
        refine SO.done ?_
        refine SC.cond ((a0.Kind == 15) || (a0.Kind == 16)) (by kernel_rfl) (fun ht => ?_) (fun ht => ?_)
        · replace h := Opt.t h ht
          refine SC.seq ?_
          refine SC.seq ?_
          refine SC.region 3 rfl ?_
          refine SO.run c0 3 ⟨[(1, .ptr (.loc 1) 0), (3, .int .i64 (a0.Kids.length : Int)), (73, .bool (a0.Kind == 15))], [(.loc 1, .cells true (cTNode a0))]⟩ (by decide) (by kernel_rfl) ?_
          refine SO.done ?_
          refine SC.cond (a0.Kind == 15) (by kernel_rfl) (fun ht => ?_) (fun ht => ?_)
          · replace h := Opt.t h ht
            refine SC.seq ?_
            refine SC.region 18 rfl ?_
            refine SO.run c0 3 ⟨[(1, .ptr (.loc 1) 0), (76, .bool ((a0.Kids.length : Int) == 1))], [(.loc 1, .cells true (cTNode a0))]⟩ (by decide) (by kernel_rfl) ?_
            refine SO.runB c0 7 ((a0.Kids.length : Int) == 1) (fun b => ⟨[(1, .ptr (.loc 1) 0), (76, .bool b)], [(.loc 1, .cells true (cTNode a0))]⟩) (fun b => ⟨[(1, .ptr (.loc 1) 0), (80, .bool (b && (a0.Name == [])))], [(.loc 1, .cells true (cTNode a0))]⟩) (by decide) (by kernel_rfl) (by kernel_rfl) ?_
            refine SO.run c0 8 ⟨[(1, .ptr (.loc 1) 0), (81, .bool (((a0.Kids.length : Int) == 1) && (a0.Name == [])))], [(.loc 1, .cells true (cTNode a0))]⟩ (by decide) (by kernel_rfl) ?_
            refine SO.meet 17 ⟨[(90, .bool ((((a0.Kids.length : Int) == 1) && (a0.Name == [])) && ((a0.N == 2) || (a0.N == 14))))], []⟩ (by decide) ?_ ?_
            · refine SO.bool (((a0.Kids.length : Int) == 1) && (a0.Name == [])) (fun b => ⟨[(1, .ptr (.loc 1) 0), (81, .bool b)], [(.loc 1, .cells true (cTNode a0))]⟩) (fun ht0 => ?_) (fun ht0 => ?_)
              · refine SO.run c0 12 ⟨[(1, .ptr (.loc 1) 0), (81, .bool true), (85, .bool (a0.N == 2))], [(.loc 1, .cells true (cTNode a0))]⟩ (by decide) (by kernel_rfl) ?_
                refine SO.bool (a0.N == 2) (fun b => ⟨[(1, .ptr (.loc 1) 0), (81, .bool true), (85, .bool b)], [(.loc 1, .cells true (cTNode a0))]⟩) (fun ht1 => ?_) (fun ht1 => ?_)
                · refine SO.run c0 17 ⟨[(90, .bool true)], []⟩ (by decide) (by kernel_rfl) ?_
                  exact SO.done (by (try rw [ht0]); (try rw [ht1]); kernel_rfl)
                · refine SO.run c0 17 ⟨[(90, .bool (a0.N == 14))], []⟩ (by decide) (by kernel_rfl) ?_
                  exact SO.done (by (try rw [ht0]); (try rw [ht1]); kernel_rfl)
              · refine SO.run c0 17 ⟨[(90, .bool false)], []⟩ (by decide) (by kernel_rfl) ?_
                exact SO.done (by (try rw [ht0]); kernel_rfl)
            · refine SO.run c0 18 ⟨[(2, .bool ((((a0.Kids.length : Int) == 1) && (a0.Name == [])) && ((a0.N == 2) || (a0.N == 14))))], []⟩ (by decide) (by kernel_rfl) ?_
              refine SO.done ?_
              refine SC.ret ?_
              replace h := Option.some.inj h
              subst h
              exact ⟨[.bool ((((a0.Kids.length : Int) == 1) && (a0.Name == [])) && ((a0.N == 2) || (a0.N == 14)))], by kernel_rfl, Wk.eq (by kernel_rfl), trivial, by kernel_rfl⟩
          · replace h := Opt.f h ht
            refine SC.skip ?_
            refine SC.seq ?_
            refine SC.region 14 rfl ?_
            refine SO.run c0 3 ⟨[(1, .ptr (.loc 1) 0), (93, .bool ((a0.Kids.length : Int) == 2))], [(.loc 1, .cells true (cTNode a0))]⟩ (by decide) (by kernel_rfl) ?_
            refine SO.runB c0 7 ((a0.Kids.length : Int) == 2) (fun b => ⟨[(1, .ptr (.loc 1) 0), (93, .bool b)], [(.loc 1, .cells true (cTNode a0))]⟩) (fun b => ⟨[(1, .ptr (.loc 1) 0), (97, .bool (b && (a0.Name == [])))], [(.loc 1, .cells true (cTNode a0))]⟩) (by decide) (by kernel_rfl) (by kernel_rfl) ?_
            refine SO.run c0 8 ⟨[(1, .ptr (.loc 1) 0), (98, .bool (((a0.Kids.length : Int) == 2) && (a0.Name == [])))], [(.loc 1, .cells true (cTNode a0))]⟩ (by decide) (by kernel_rfl) ?_
            refine SO.joinK h (fun v : Bool => ⟨[(103, .bool v)], []⟩) 13 (by decide) ?_ ?_
            · rintro g11_12_103 h
              refine SO.eqS (S1 := ⟨[(103, .bool g11_12_103)], []⟩) rfl ?_
              refine SO.run c0 14 ⟨[(2, .bool g11_12_103)], []⟩ (by decide) (by kernel_rfl) ?_
              refine SO.done ?_
              refine SC.ret ?_
              replace h := Option.some.inj h
              subst h
              exact ⟨[.bool g11_12_103], by kernel_rfl, Wk.eq (by kernel_rfl), trivial, by kernel_rfl⟩
            · intro j_g11_12 h
              refine SO.bool (((a0.Kids.length : Int) == 2) && (a0.Name == [])) (fun b => ⟨[(1, .ptr (.loc 1) 0), (98, .bool b)], [(.loc 1, .cells true (cTNode a0))]⟩) (fun ht => ?_) (fun ht => ?_)
              · replace h := Opt.t h ht
                refine SO.run c0 10 ⟨[(98, .bool true), (100, .int .i64 a0.N)], []⟩ (by decide) (by kernel_rfl) ?_
                obtain ⟨x11_10, hx11_10, h⟩ := Opt.ex h
                refine SO.call ⟨40, [.int .i64 a0.N], [], [], some 101⟩ ⟨[(98, .bool true), (101, .int .i64 x11_10)], []⟩ (by decide) (by kernel_rfl) (ok_ref09_Bind k a0.N x11_10 hx11_10) (by kernel_rfl) ?_
                refine SO.run c0 13 ⟨[(103, .bool (decide (x11_10 > 0)))], []⟩ (by decide) (by kernel_rfl) ?_
                exact SO.done ⟨(decide (x11_10 > 0)), rfl, h⟩
              · replace h := Opt.f h ht
                refine SO.run c0 13 ⟨[(103, .bool false)], []⟩ (by decide) (by kernel_rfl) ?_
                exact SO.done ⟨false, rfl, h⟩
        · replace h := Opt.f h ht
          refine SC.skip ?_
          refine SC.seq ?_
          refine SC.seq ?_
          refine SC.region 3 rfl ?_
          refine SO.run c0 3 ⟨[(1, .ptr (.loc 1) 0), (3, .int .i64 (a0.Kids.length : Int)), (106, .bool (a0.Kind == 13))], [(.loc 1, .cells true (cTNode a0))]⟩ (by decide) (by kernel_rfl) ?_
          refine SO.done ?_
          refine SC.cond (a0.Kind == 13) (by kernel_rfl) (fun ht => ?_) (fun ht => ?_)
          · replace h := Opt.t h ht
            refine SC.seq ?_
            refine SC.region 7 rfl ?_
            refine SO.run c0 3 ⟨[(1, .ptr (.loc 1) 0), (109, .bool ((a0.Kids.length : Int) == 2))], [(.loc 1, .cells true (cTNode a0))]⟩ (by decide) (by kernel_rfl) ?_
            refine SO.joinK h (fun v : Bool => ⟨[(112, .bool v)], []⟩) 6 (by decide) ?_ ?_
            · rintro g13_5_112 h
              refine SO.eqS (S1 := ⟨[(112, .bool g13_5_112)], []⟩) rfl ?_
              refine SO.run c0 7 ⟨[(2, .bool g13_5_112)], []⟩ (by decide) (by kernel_rfl) ?_
              refine SO.done ?_
              refine SC.ret ?_
              replace h := Option.some.inj h
              subst h
              exact ⟨[.bool g13_5_112], by kernel_rfl, Wk.eq (by kernel_rfl), trivial, by kernel_rfl⟩
            · intro j_g13_5 h
              refine SO.bool ((a0.Kids.length : Int) == 2) (fun b => ⟨[(1, .ptr (.loc 1) 0), (109, .bool b)], [(.loc 1, .cells true (cTNode a0))]⟩) (fun ht => ?_) (fun ht => ?_)
              · replace h := Opt.t h ht
                refine SO.run c0 4 ⟨[(109, .bool true), (110, .agg (cTNode a0))], []⟩ (by decide) (by kernel_rfl) ?_
                obtain ⟨x13_4, hx13_4, h⟩ := Opt.ex h
                refine SO.call ⟨38, [.agg (cTNode a0)], [], [], some 111⟩ ⟨[(109, .bool true), (111, .bool x13_4)], []⟩ (by decide) (by kernel_rfl) (ok_ref11_alone k a0 x13_4 hx13_4) (by kernel_rfl) ?_
                refine SO.run c0 6 ⟨[(112, .bool x13_4)], []⟩ (by decide) (by kernel_rfl) ?_
                exact SO.done ⟨x13_4, rfl, h⟩
              · replace h := Opt.f h ht
                refine SO.run c0 6 ⟨[(112, .bool false)], []⟩ (by decide) (by kernel_rfl) ?_
                exact SO.done ⟨false, rfl, h⟩
          · replace h := Opt.f h ht
            refine SC.skip ?_
            refine SC.seq ?_
            refine SC.seq ?_
            refine SC.region 9 rfl ?_
            refine SO.run c0 4 ⟨[(1, .ptr (.loc 1) 0), (3, .int .i64 (a0.Kids.length : Int)), (116, .bool (a0.N != 0))], [(.loc 1, .cells true (cTNode a0))]⟩ (by decide) (by kernel_rfl) ?_
            refine SO.joinK h (fun v : Bool => ⟨[(1, .ptr (.loc 1) 0), (3, .int .i64 (a0.Kids.length : Int)), (121, .bool v)], [(.loc 1, .cells true (cTNode a0))]⟩) 9 (by decide) ?_ ?_
            · rintro g14_8_121 h
              refine SO.eqS (S1 := ⟨[(1, .ptr (.loc 1) 0), (3, .int .i64 (a0.Kids.length : Int)), (121, .bool g14_8_121)], [(.loc 1, .cells true (cTNode a0))]⟩) rfl ?_
              refine SO.done ?_
              refine SC.cond g14_8_121 (by kernel_rfl) (fun ht => ?_) (fun ht => ?_)
              · replace h := Opt.t h ht
                refine SC.seq ?_
                refine SC.region 1 rfl ?_
                refine SO.run c0 1 ⟨[(2, .bool false)], []⟩ (by decide) (by kernel_rfl) ?_
                refine SO.done ?_
                refine SC.ret ?_
                replace h := Option.some.inj h
                subst h
                exact ⟨[.bool false], by kernel_rfl, Wk.eq (by kernel_rfl), trivial, by kernel_rfl⟩
              · replace h := Opt.f h ht
                refine SC.skip ?_
                refine SC.seq ?_
                refine SC.region 27 rfl ?_
                refine SO.run c0 4 ⟨[(1, .ptr (.loc 1) 0), (3, .int .i64 (a0.Kids.length : Int)), (125, .bool (a0.Kind == 12))], [(.loc 1, .cells true (cTNode a0))]⟩ (by decide) (by kernel_rfl) ?_
                refine SO.runB c0 7 (a0.Kind == 12) (fun b => ⟨[(1, .ptr (.loc 1) 0), (3, .int .i64 (a0.Kids.length : Int)), (125, .bool b)], [(.loc 1, .cells true (cTNode a0))]⟩) (fun b => ⟨[(1, .ptr (.loc 1) 0), (3, .int .i64 (a0.Kids.length : Int)), (128, .bool (b && ((a0.Kids.length : Int) == 0)))], [(.loc 1, .cells true (cTNode a0))]⟩) (by decide) (by kernel_rfl) (by kernel_rfl) ?_
                refine SO.run c0 8 ⟨[(1, .ptr (.loc 1) 0), (3, .int .i64 (a0.Kids.length : Int)), (129, .bool ((a0.Kind == 12) && ((a0.Kids.length : Int) == 0)))], [(.loc 1, .cells true (cTNode a0))]⟩ (by decide) (by kernel_rfl) ?_
                refine SO.meet 16 ⟨[(1, .ptr (.loc 1) 0), (137, .bool (((a0.Kind == 12) && ((a0.Kids.length : Int) == 0)) || ((a0.Kind == 14) && ((a0.Kids.length : Int) == 1))))], [(.loc 1, .cells true (cTNode a0))]⟩ (by decide) ?_ ?_
                · refine SO.bool ((a0.Kind == 12) && ((a0.Kids.length : Int) == 0)) (fun b => ⟨[(1, .ptr (.loc 1) 0), (3, .int .i64 (a0.Kids.length : Int)), (129, .bool b)], [(.loc 1, .cells true (cTNode a0))]⟩) (fun ht0 => ?_) (fun ht0 => ?_)
                  · refine SO.run c0 16 ⟨[(1, .ptr (.loc 1) 0), (137, .bool true)], [(.loc 1, .cells true (cTNode a0))]⟩ (by decide) (by kernel_rfl) ?_
                    exact SO.done (by (try rw [ht0]); kernel_rfl)
                  · refine SO.run c0 12 ⟨[(1, .ptr (.loc 1) 0), (3, .int .i64 (a0.Kids.length : Int)), (129, .bool false), (133, .bool (a0.Kind == 14))], [(.loc 1, .cells true (cTNode a0))]⟩ (by decide) (by kernel_rfl) ?_
                    refine SO.bool (a0.Kind == 14) (fun b => ⟨[(1, .ptr (.loc 1) 0), (3, .int .i64 (a0.Kids.length : Int)), (129, .bool false), (133, .bool b)], [(.loc 1, .cells true (cTNode a0))]⟩) (fun ht1 => ?_) (fun ht1 => ?_)
                    · refine SO.run c0 16 ⟨[(1, .ptr (.loc 1) 0), (137, .bool ((a0.Kids.length : Int) == 1))], [(.loc 1, .cells true (cTNode a0))]⟩ (by decide) (by kernel_rfl) ?_
                      exact SO.done (by (try rw [ht0]); (try rw [ht1]); kernel_rfl)
                    · refine SO.run c0 16 ⟨[(1, .ptr (.loc 1) 0), (137, .bool false)], [(.loc 1, .cells true (cTNode a0))]⟩ (by decide) (by kernel_rfl) ?_
                      exact SO.done (by (try rw [ht0]); (try rw [ht1]); kernel_rfl)
                · refine SO.run c0 17 ⟨[(1, .ptr (.loc 1) 0), (138, .bool (((a0.Kind == 12) && ((a0.Kids.length : Int) == 0)) || ((a0.Kind == 14) && ((a0.Kids.length : Int) == 1))))], [(.loc 1, .cells true (cTNode a0))]⟩ (by decide) (by kernel_rfl) ?_
                  refine SO.runB c0 21 (((a0.Kind == 12) && ((a0.Kids.length : Int) == 0)) || ((a0.Kind == 14) && ((a0.Kids.length : Int) == 1))) (fun b => ⟨[(1, .ptr (.loc 1) 0), (138, .bool b)], [(.loc 1, .cells true (cTNode a0))]⟩) (fun b => ⟨[(1, .ptr (.loc 1) 0), (142, .bool (b || (a0.Kind == 17)))], [(.loc 1, .cells true (cTNode a0))]⟩) (by decide) (by kernel_rfl) (by kernel_rfl) ?_
                  refine SO.run c0 22 ⟨[(1, .ptr (.loc 1) 0), (143, .bool ((((a0.Kind == 12) && ((a0.Kids.length : Int) == 0)) || ((a0.Kind == 14) && ((a0.Kids.length : Int) == 1))) || (a0.Kind == 17)))], [(.loc 1, .cells true (cTNode a0))]⟩ (by decide) (by kernel_rfl) ?_
                  refine SO.runB c0 26 ((((a0.Kind == 12) && ((a0.Kids.length : Int) == 0)) || ((a0.Kind == 14) && ((a0.Kids.length : Int) == 1))) || (a0.Kind == 17)) (fun b => ⟨[(1, .ptr (.loc 1) 0), (143, .bool b)], [(.loc 1, .cells true (cTNode a0))]⟩) (fun b => ⟨[(147, .bool (b || (a0.Kind == 18)))], []⟩) (by decide) (by kernel_rfl) (by kernel_rfl) ?_
                  refine SO.run c0 27 ⟨[(2, .bool (((((a0.Kind == 12) && ((a0.Kids.length : Int) == 0)) || ((a0.Kind == 14) && ((a0.Kids.length : Int) == 1))) || (a0.Kind == 17)) || (a0.Kind == 18)))], []⟩ (by decide) (by kernel_rfl) ?_
                  refine SO.done ?_
                  refine SC.ret ?_
                  replace h := Option.some.inj h
                  subst h
                  exact ⟨[.bool (((((a0.Kind == 12) && ((a0.Kids.length : Int) == 0)) || ((a0.Kind == 14) && ((a0.Kids.length : Int) == 1))) || (a0.Kind == 17)) || (a0.Kind == 18))], by kernel_rfl, Wk.eq (by kernel_rfl), trivial, by kernel_rfl⟩
            · intro j_g14_8 h
              refine SO.bool (a0.N != 0) (fun b => ⟨[(1, .ptr (.loc 1) 0), (3, .int .i64 (a0.Kids.length : Int)), (116, .bool b)], [(.loc 1, .cells true (cTNode a0))]⟩) (fun ht => ?_) (fun ht => ?_)
              · replace h := Opt.t h ht
                refine SO.run c0 9 ⟨[(1, .ptr (.loc 1) 0), (3, .int .i64 (a0.Kids.length : Int)), (121, .bool true)], [(.loc 1, .cells true (cTNode a0))]⟩ (by decide) (by kernel_rfl) ?_
                exact SO.done ⟨true, rfl, h⟩
              · replace h := Opt.f h ht
                refine SO.run c0 6 ⟨[(1, .ptr (.loc 1) 0), (3, .int .i64 (a0.Kids.length : Int)), (116, .bool false), (118, .str a0.Name)], [(.loc 1, .cells true (cTNode a0))]⟩ (by decide) (by kernel_rfl) ?_
                obtain ⟨x14_6, hx14_6, h⟩ := Opt.ex h
                refine SO.call ⟨41, [.str a0.Name], [], [], some 119⟩ ⟨[(1, .ptr (.loc 1) 0), (3, .int .i64 (a0.Kids.length : Int)), (116, .bool false), (119, .bool x14_6)], [(.loc 1, .cells true (cTNode a0))]⟩ (by decide) (by kernel_rfl) (ok_ref11_Named k a0.Name x14_6 hx14_6) (by kernel_rfl) ?_
                refine SO.run c0 9 ⟨[(1, .ptr (.loc 1) 0), (3, .int .i64 (a0.Kids.length : Int)), (121, .bool (!x14_6))], [(.loc 1, .cells true (cTNode a0))]⟩ (by decide) (by kernel_rfl) ?_
                exact SO.done ⟨(!x14_6), rfl, h⟩
theorem all_ref11_exprs : ∀ k, C_ref11_exprs k ∧ C_ref11_Expr k
  | 0 => ⟨(by intro a0 r h; rw [ref11_exprs] at h; cases h), (by intro a0 r h; rw [ref11_Expr] at h; cases h)⟩
  | k + 1 => by
    obtain ⟨h0, h1⟩ := all_ref11_exprs k
    exact ⟨st_ref11_exprs k h1, st_ref11_Expr k h0⟩
theorem ok_ref11_exprs (k : Nat) (a0 : List TNode) (r : Bool) (h : ref11_exprs k a0 = some r) :
    SF Z 39 [.slice .none 5 (eTNode.F a0)] [] (.bool r) [] := (all_ref11_exprs k).1 a0 r h
theorem ok_ref11_Expr (k : Nat) (a0 : TNode) (r : Bool) (h : ref11_Expr k a0 = some r) :
    SF Z 15 [.agg (cTNode a0)] [] (.bool r) [] := (all_ref11_exprs k).2 a0 r h
theorem ok_expr_Type (k : Nat) (a0 : List TToken) (a1 : Int) (r : TNode × Int × Int) (h : expr_Type k a0 a1 = some r) :
    SF Z 16 [.slice .none 4 (eTToken.F a0), .int .i64 a1] [] (.tuple [.agg (cTNode r.1), .int .i64 r.2.1, .int .i64 r.2.2]) [] := by
  unfold expr_Type at h
  refine SF.intro Tryd.func16 rfl Tryd.ntmps16 rfl (Nat.le_of_ble_eq_true rfl) (by decide) ?_
  refine SC.seq ?_
  refine SC.region 3 rfl ?_
  refine SO.run c0 3 ⟨[(0, .slice .none 4 (eTToken.F a0)), (1, .int .i64 a1), (4, .ptr (.loc 4) 0)], [(.loc 4, .cells true [.int .i64 0, .int .i64 0, .int .i64 0, .str [], .nils])]⟩ (by decide) (by kernel_rfl) ?_
  refine SO.done ?_
  refine SC.seq ?_
  refine SC.region 5 rfl ?_
  refine SO.run c0 5 ⟨[(4, .ptr (.loc 4) 0), (7, .ptr (.loc 7) 0)], [(.loc 4, .cells true [.int .i64 0, .int .i64 0, .int .i64 0, .str [], .nils]), (.loc 7, .cells true [.slice .none 4 (eTToken.F a0), .int .i64 a1, .bool false])]⟩ (by decide) (by kernel_rfl) ?_
  refine SO.done ?_
  refine SC.seq ?_
  refine SC.region 8 rfl ?_
  obtain ⟨⟨x2_0_0, x2_0_1, x2_0_2⟩, hx2_0, h⟩ := Opt.ex h
  refine SO.call ⟨42, [.ptr (.ext 0) 0], [(.ext 0, .cells true [.slice .none 4 (eTToken.F a0), .int .i64 a1, .bool false])], [.loc 7], some 11⟩ ⟨[(4, .ptr (.loc 4) 0), (7, .ptr (.loc 7) 0), (11, .agg (cTNode x2_0_0))], [(.loc 4, .cells true [.int .i64 0, .int .i64 0, .int .i64 0, .str [], .nils]), (.loc 7, .cells true [.slice .none 4 (eTToken.F a0), .int .i64 x2_0_1, .bool x2_0_2])]⟩ (by decide) (by kernel_rfl) (ok_expr_reader_kind k a0 a1 false (x2_0_0, x2_0_1, x2_0_2) hx2_0) (by kernel_rfl) ?_
  obtain ⟨⟨x2_1_0, x2_1_1, x2_1_2⟩, hx2_1, h⟩ := Opt.ex h
  refine SO.call ⟨35, [.ptr (.ext 0) 0, .agg (cTNode x2_0_0)], [(.ext 0, .cells true [.slice .none 4 (eTToken.F a0), .int .i64 x2_0_1, .bool x2_0_2])], [.loc 7], some 12⟩ ⟨[(4, .ptr (.loc 4) 0), (12, .tuple [.agg (cTNode x2_1_0), .int .i64 x2_1_1, .int .i64 x2_1_2])], [(.loc 4, .cells true [.int .i64 0, .int .i64 0, .int .i64 0, .str [], .nils])]⟩ (by decide) (by kernel_rfl) (ok_expr_reader_end k x2_0_0 a0 x2_0_1 x2_0_2 (x2_1_0, x2_1_1, x2_1_2) hx2_1) (by kernel_rfl) ?_
  refine SO.run c0 8 ⟨[(4, .ptr (.loc 4) 0), (5, .int .i64 x2_1_1), (6, .int .i64 x2_1_2)], [(.loc 4, .cells true (cTNode x2_1_0))]⟩ (by decide) (by kernel_rfl) ?_
  refine SO.done ?_
  refine SC.ret ?_
  replace h := Option.some.inj h
  subst h
  exact ⟨[.agg (cTNode x2_1_0), .int .i64 x2_1_1, .int .i64 x2_1_2], by kernel_rfl, Wk.eq (by kernel_rfl), trivial, by kernel_rfl⟩
theorem ok_ref13_Tok (k : Nat) (a0 : List TToken) (a1 : Int) (r : TToken) (h : ref13_Tok k a0 a1 = some r) :
    SF Z 43 [.slice .none 4 (eTToken.F a0), .int .i64 a1] [] (.agg (cTToken r)) [] := by
  unfold ref13_Tok at h
  refine SF.intro Tryd.func43 rfl Tryd.ntmps43 rfl (Nat.le_of_ble_eq_true rfl) (by decide) ?_
  refine SC.seq ?_
  refine SC.region 1 rfl ?_
  refine SO.run c0 1 ⟨[(0, .slice .none 4 (eTToken.F a0)), (1, .int .i64 a1), (4, .ptr (.loc 4) 0)], [(.loc 4, .cells true [.int .i64 0, .int .i64 0, .int .i64 0, .str []])]⟩ (by decide) (by kernel_rfl) ?_
  refine SO.done ?_
  refine SC.seq ?_
  refine SC.seq ?_
  refine SC.region 8 rfl ?_
  refine SO.run c0 3 ⟨[(0, .slice .none 4 (eTToken.F a0)), (1, .int .i64 a1), (4, .ptr (.loc 4) 0), (7, .bool (decide (a1 < 0)))], [(.loc 4, .cells true [.int .i64 0, .int .i64 0, .int .i64 0, .str []])]⟩ (by decide) (by kernel_rfl) ?_
  refine SO.runB c0 8 (decide (a1 < 0)) (fun b => ⟨[(0, .slice .none 4 (eTToken.F a0)), (1, .int .i64 a1), (4, .ptr (.loc 4) 0), (7, .bool b)], [(.loc 4, .cells true [.int .i64 0, .int .i64 0, .int .i64 0, .str []])]⟩) (fun b => ⟨[(0, .slice .none 4 (eTToken.F a0)), (1, .int .i64 a1), (4, .ptr (.loc 4) 0), (12, .bool (b || (decide (a1 ≥ ((a0.length : Int))))))], [(.loc 4, .cells true [.int .i64 0, .int .i64 0, .int .i64 0, .str []])]⟩) (by decide) (Eq.trans (b := some ⟨[(0, .slice .none 4 (eTToken.F a0)), (1, .int .i64 a1), (4, .ptr (.loc 4) 0), (12, .bool (true || (decide (a1 ≥ (((eTToken.F a0).length : Int))))))], [(.loc 4, .cells true [.int .i64 0, .int .i64 0, .int .i64 0, .str []])]⟩) (by kernel_rfl) (by simp only [LE.len])) (Eq.trans (b := some ⟨[(0, .slice .none 4 (eTToken.F a0)), (1, .int .i64 a1), (4, .ptr (.loc 4) 0), (12, .bool (false || (decide (a1 ≥ (((eTToken.F a0).length : Int))))))], [(.loc 4, .cells true [.int .i64 0, .int .i64 0, .int .i64 0, .str []])]⟩) (by kernel_rfl) (by simp only [LE.len])) ?_
  refine SO.done ?_
  refine SC.cond ((decide (a1 < 0)) || (decide (a1 ≥ ((a0.length : Int))))) (by kernel_rfl) (fun ht => ?_) (fun ht => ?_)
  · replace h := Opt.t h ht
    refine SC.seq ?_
    refine SC.region 2 rfl ?_
    refine SO.run c0 2 ⟨[(4, .ptr (.loc 4) 0)], [(.loc 4, .cells true [.int .i64 0, .int .i64 0, .int .i64 0, .str []])]⟩ (by decide) (by kernel_rfl) ?_
    refine SO.done ?_
    refine SC.ret ?_
    replace h := Option.some.inj h
    subst h
    exact ⟨[.agg [.int .i64 0, .int .i64 0, .int .i64 0, .str []]], by kernel_rfl, Wk.eq (by kernel_rfl), trivial, by kernel_rfl⟩
  · replace h := Opt.f h ht
    refine SC.skip ?_
    refine SC.seq ?_
    refine SC.region 5 rfl ?_
    refine SO.run c0 2 ⟨[(4, .ptr (.loc 4) 0), (14, .slice .none 4 (eTToken.F a0)), (15, .int .i64 a1)], [(.loc 4, .cells true [.int .i64 0, .int .i64 0, .int .i64 0, .str []])]⟩ (by decide) (by kernel_rfl) ?_
    obtain ⟨x3_2, hx3_2, h⟩ := Opt.ex h
    refine SO.op c0 { v := .pin (cTToken x3_2) } ⟨[(4, .ptr (.loc 4) 0), (16, .pin (cTToken x3_2))], [(.loc 4, .cells true [.int .i64 0, .int .i64 0, .int .i64 0, .str []])]⟩ (by decide) (ixR eTToken 23 .none 4 a0 .i64 a1 x3_2 (cTToken x3_2) (by kernel_rfl) (by kernel_rfl) hx3_2 (xTToken x3_2)) (by kernel_rfl) ?_
    refine SO.run c0 5 ⟨[(4, .ptr (.loc 4) 0)], [(.loc 4, .cells true (cTToken x3_2))]⟩ (by decide) (by kernel_rfl) ?_
    refine SO.done ?_
    refine SC.ret ?_
    replace h := Option.some.inj h
    subst h
    exact ⟨[.agg (cTToken x3_2)], by kernel_rfl, Wk.eq (by kernel_rfl), trivial, by kernel_rfl⟩
theorem ok_ref13_Says (k : Nat) (a0 : List TToken) (a1 : Int) (a2 : List UInt8) (r : Bool) (h : ref13_Says k a0 a1 a2 = some r) :
    SF Z 44 [.slice .none 4 (eTToken.F a0), .int .i64 a1, .str a2] [] (.bool r) [] := by
  unfold ref13_Says at h
  refine SF.intro Tryd.func44 rfl Tryd.ntmps44 rfl (Nat.le_of_ble_eq_true rfl) (by decide) ?_
  refine SC.seq ?_
  refine SC.region 1 rfl ?_
  refine SO.run c0 1 ⟨[(0, .slice .none 4 (eTToken.F a0)), (1, .int .i64 a1), (2, .str a2)], []⟩ (by decide) (by kernel_rfl) ?_
  refine SO.done ?_
  refine SC.seq ?_
  refine SC.region 5 rfl ?_
  refine SO.run c0 2 ⟨[(2, .str a2), (8, .slice .none 4 (eTToken.F a0)), (9, .int .i64 a1)], []⟩ (by decide) (by kernel_rfl) ?_
  obtain ⟨x1_2, hx1_2, h⟩ := Opt.ex h
  refine SO.call ⟨43, [.slice .none 4 (eTToken.F a0), .int .i64 a1], [], [], some 10⟩ ⟨[(2, .str a2), (10, .agg (cTToken x1_2))], []⟩ (by decide) (by kernel_rfl) (ok_ref13_Tok k a0 a1 x1_2 hx1_2) (by kernel_rfl) ?_
  refine SO.run c0 5 ⟨[(2, .str a2), (7, .ptr (.loc 7) 0)], [(.loc 7, .cells true (cTToken x1_2))]⟩ (by decide) (by kernel_rfl) ?_
  refine SO.done ?_
  refine SC.seq ?_
  refine SC.region 10 rfl ?_
  refine SO.run c0 4 ⟨[(2, .str a2), (7, .ptr (.loc 7) 0), (14, .bool (x1_2.Kind == 3))], [(.loc 7, .cells true (cTToken x1_2))]⟩ (by decide) (by kernel_rfl) ?_
  refine SO.runB c0 9 (x1_2.Kind == 3) (fun b => ⟨[(2, .str a2), (7, .ptr (.loc 7) 0), (14, .bool b)], [(.loc 7, .cells true (cTToken x1_2))]⟩) (fun b => ⟨[(19, .bool (b && (x1_2.Text == a2)))], []⟩) (by decide) (by kernel_rfl) (by kernel_rfl) ?_
  refine SO.run c0 10 ⟨[(6, .bool ((x1_2.Kind == 3) && (x1_2.Text == a2)))], []⟩ (by decide) (by kernel_rfl) ?_
  refine SO.done ?_
  refine SC.ret ?_
  replace h := Option.some.inj h
  subst h
  exact ⟨[.bool ((x1_2.Kind == 3) && (x1_2.Text == a2))], by kernel_rfl, Wk.eq (by kernel_rfl), trivial, by kernel_rfl⟩
theorem ok_ref13_Is (k : Nat) (a0 : List TToken) (a1 : Int) (a2 : List UInt8) (r : Bool) (h : ref13_Is k a0 a1 a2 = some r) :
    SF Z 45 [.slice .none 4 (eTToken.F a0), .int .i64 a1, .str a2] [] (.bool r) [] := by
  unfold ref13_Is at h
  refine SF.intro Tryd.func45 rfl Tryd.ntmps45 rfl (Nat.le_of_ble_eq_true rfl) (by decide) ?_
  refine SC.seq ?_
  refine SC.region 1 rfl ?_
  refine SO.run c0 1 ⟨[(0, .slice .none 4 (eTToken.F a0)), (1, .int .i64 a1), (2, .str a2)], []⟩ (by decide) (by kernel_rfl) ?_
  refine SO.done ?_
  refine SC.seq ?_
  refine SC.region 5 rfl ?_
  refine SO.run c0 2 ⟨[(2, .str a2), (8, .slice .none 4 (eTToken.F a0)), (9, .int .i64 a1)], []⟩ (by decide) (by kernel_rfl) ?_
  obtain ⟨x1_2, hx1_2, h⟩ := Opt.ex h
  refine SO.call ⟨43, [.slice .none 4 (eTToken.F a0), .int .i64 a1], [], [], some 10⟩ ⟨[(2, .str a2), (10, .agg (cTToken x1_2))], []⟩ (by decide) (by kernel_rfl) (ok_ref13_Tok k a0 a1 x1_2 hx1_2) (by kernel_rfl) ?_
  refine SO.run c0 5 ⟨[(2, .str a2), (7, .ptr (.loc 7) 0)], [(.loc 7, .cells true (cTToken x1_2))]⟩ (by decide) (by kernel_rfl) ?_
  refine SO.done ?_
  refine SC.seq ?_
  refine SC.region 10 rfl ?_
  refine SO.run c0 4 ⟨[(2, .str a2), (7, .ptr (.loc 7) 0), (14, .bool (x1_2.Kind == 4))], [(.loc 7, .cells true (cTToken x1_2))]⟩ (by decide) (by kernel_rfl) ?_
  refine SO.runB c0 9 (x1_2.Kind == 4) (fun b => ⟨[(2, .str a2), (7, .ptr (.loc 7) 0), (14, .bool b)], [(.loc 7, .cells true (cTToken x1_2))]⟩) (fun b => ⟨[(19, .bool (b && (x1_2.Text == a2)))], []⟩) (by decide) (by kernel_rfl) (by kernel_rfl) ?_
  refine SO.run c0 10 ⟨[(6, .bool ((x1_2.Kind == 4) && (x1_2.Text == a2)))], []⟩ (by decide) (by kernel_rfl) ?_
  refine SO.done ?_
  refine SC.ret ?_
  replace h := Option.some.inj h
  subst h
  exact ⟨[.bool ((x1_2.Kind == 4) && (x1_2.Text == a2))], by kernel_rfl, Wk.eq (by kernel_rfl), trivial, by kernel_rfl⟩
def C_ref13_Type (k : Nat) : Prop := ∀ (a0 : List TToken) (a1 : Int) (r : TNode × Int × Bool), ref13_Type k a0 a1 = some r →
  SF Z 17 [.slice .none 4 (eTToken.F a0), .int .i64 a1] [] (.tuple [.agg (cTNode r.1), .int .i64 r.2.1, .bool r.2.2]) []
theorem st_ref13_Type (k : Nat) (ih_ref13_Type : C_ref13_Type k) : C_ref13_Type (k + 1) := by
  intro a0 a1 r h
  rw [ref13_Type] at h
  refine SF.intro Tryd.func17 rfl Tryd.ntmps17 rfl (Nat.le_of_ble_eq_true rfl) (by decide) ?_
  refine SC.seq ?_
  refine SC.region 3 rfl ?_
  refine SO.run c0 3 ⟨[(0, .slice .none 4 (eTToken.F a0)), (1, .int .i64 a1), (4, .ptr (.loc 4) 0)], [(.loc 4, .cells true [.int .i64 0, .int .i64 0, .int .i64 0, .str [], .nils])]⟩ (by decide) (by kernel_rfl) ?_
  refine SO.done ?_
  refine SC.seq ?_
  refine SC.region 5 rfl ?_
  refine SO.run c0 2 ⟨[(0, .slice .none 4 (eTToken.F a0)), (1, .int .i64 a1), (4, .ptr (.loc 4) 0), (11, .slice .none 4 (eTToken.F a0)), (12, .int .i64 a1)], [(.loc 4, .cells true [.int .i64 0, .int .i64 0, .int .i64 0, .str [], .nils])]⟩ (by decide) (by kernel_rfl) ?_
  obtain ⟨x1_2, hx1_2, h⟩ := Opt.ex h
  refine SO.call ⟨43, [.slice .none 4 (eTToken.F a0), .int .i64 a1], [], [], some 13⟩ ⟨[(0, .slice .none 4 (eTToken.F a0)), (1, .int .i64 a1), (4, .ptr (.loc 4) 0), (13, .agg (cTToken x1_2))], [(.loc 4, .cells true [.int .i64 0, .int .i64 0, .int .i64 0, .str [], .nils])]⟩ (by decide) (by kernel_rfl) (ok_ref13_Tok k a0 a1 x1_2 hx1_2) (by kernel_rfl) ?_
  refine SO.run c0 5 ⟨[(0, .slice .none 4 (eTToken.F a0)), (1, .int .i64 a1), (4, .ptr (.loc 4) 0), (7, .ptr (.loc 7) 0)], [(.loc 4, .cells true [.int .i64 0, .int .i64 0, .int .i64 0, .str [], .nils]), (.loc 7, .cells true (cTToken x1_2))]⟩ (by decide) (by kernel_rfl) ?_
  refine SO.done ?_
  refine SC.seq ?_
  refine SC.seq ?_
  refine SC.region 3 rfl ?_
  refine SO.run c0 3 ⟨[(0, .slice .none 4 (eTToken.F a0)), (1, .int .i64 a1), (4, .ptr (.loc 4) 0), (7, .ptr (.loc 7) 0), (16, .bool (x1_2.Kind == 1))], [(.loc 4, .cells true [.int .i64 0, .int .i64 0, .int .i64 0, .str [], .nils]), (.loc 7, .cells true (cTToken x1_2))]⟩ (by decide) (by kernel_rfl) ?_
  refine SO.done ?_
  refine SC.cond (x1_2.Kind == 1) (by kernel_rfl) (fun ht => ?_) (fun ht => ?_)
  · replace h := Opt.t h ht
    refine SC.seq ?_
    refine SC.region 10 rfl ?_
    refine SO.run c0 10 ⟨[(4, .ptr (.loc 4) 0), (5, .int .i64 (IntKind.i64.wrap (a1 + 1))), (6, .bool true)], [(.loc 4, .cells true [.int .i64 4, .int .i64 x1_2.At, .int .i64 0, .str x1_2.Text, .nils])]⟩ (by decide) (by kernel_rfl) ?_
    refine SO.done ?_
    refine SC.ret ?_
    replace h := Option.some.inj h
    subst h
    exact ⟨[.agg [.int .i64 4, .int .i64 x1_2.At, .int .i64 0, .str x1_2.Text, .nils], .int .i64 (IntKind.i64.wrap (a1 + 1)), .bool true], by kernel_rfl, Wk.tuple (⟨Wk.agg (⟨Wk.refl _, Wk.refl _, Wk.refl _, Wk.refl _, Wk.nils _ _, trivial⟩), Wk.refl _, Wk.refl _, trivial⟩), trivial, by kernel_rfl⟩
  · replace h := Opt.f h ht
    refine SC.skip ?_
    refine SC.seq ?_
    refine SC.seq ?_
    refine SC.region 3 rfl ?_
    refine SO.run c0 2 ⟨[(0, .slice .none 4 (eTToken.F a0)), (1, .int .i64 a1), (4, .ptr (.loc 4) 0), (7, .ptr (.loc 7) 0), (24, .slice .none 4 (eTToken.F a0)), (25, .int .i64 a1)], [(.loc 4, .cells true [.int .i64 0, .int .i64 0, .int .i64 0, .str [], .nils]), (.loc 7, .cells true (cTToken x1_2))]⟩ (by decide) (by kernel_rfl) ?_
    obtain ⟨x4_2, hx4_2, h⟩ := Opt.ex h
    refine SO.call ⟨44, [.slice .none 4 (eTToken.F a0), .int .i64 a1, .str [105, 110, 116]], [], [], some 26⟩ ⟨[(0, .slice .none 4 (eTToken.F a0)), (1, .int .i64 a1), (4, .ptr (.loc 4) 0), (7, .ptr (.loc 7) 0), (26, .bool x4_2)], [(.loc 4, .cells true [.int .i64 0, .int .i64 0, .int .i64 0, .str [], .nils]), (.loc 7, .cells true (cTToken x1_2))]⟩ (by decide) (by kernel_rfl) (ok_ref13_Says k a0 a1 [105, 110, 116] x4_2 hx4_2) (by kernel_rfl) ?_
    refine SO.done ?_
    refine SC.cond x4_2 (by kernel_rfl) (fun ht => ?_) (fun ht => ?_)
    · replace h := Opt.t h ht
      refine SC.seq ?_
      refine SC.region 8 rfl ?_
      refine SO.run c0 8 ⟨[(4, .ptr (.loc 4) 0), (5, .int .i64 (IntKind.i64.wrap (a1 + 1))), (6, .bool true)], [(.loc 4, .cells true [.int .i64 1, .int .i64 x1_2.At, .int .i64 0, .str [], .nils])]⟩ (by decide) (by kernel_rfl) ?_
      refine SO.done ?_
      refine SC.ret ?_
      replace h := Option.some.inj h
      subst h
      exact ⟨[.agg [.int .i64 1, .int .i64 x1_2.At, .int .i64 0, .str [], .nils], .int .i64 (IntKind.i64.wrap (a1 + 1)), .bool true], by kernel_rfl, Wk.tuple (⟨Wk.agg (⟨Wk.refl _, Wk.refl _, Wk.refl _, Wk.refl _, Wk.nils _ _, trivial⟩), Wk.refl _, Wk.refl _, trivial⟩), trivial, by kernel_rfl⟩
    · replace h := Opt.f h ht
      refine SC.skip ?_
      refine SC.seq ?_
      refine SC.seq ?_
      refine SC.region 3 rfl ?_
      refine SO.run c0 2 ⟨[(0, .slice .none 4 (eTToken.F a0)), (1, .int .i64 a1), (4, .ptr (.loc 4) 0), (7, .ptr (.loc 7) 0), (32, .slice .none 4 (eTToken.F a0)), (33, .int .i64 a1)], [(.loc 4, .cells true [.int .i64 0, .int .i64 0, .int .i64 0, .str [], .nils]), (.loc 7, .cells true (cTToken x1_2))]⟩ (by decide) (by kernel_rfl) ?_
      obtain ⟨x6_2, hx6_2, h⟩ := Opt.ex h
      refine SO.call ⟨44, [.slice .none 4 (eTToken.F a0), .int .i64 a1, .str [98, 111, 111, 108]], [], [], some 34⟩ ⟨[(0, .slice .none 4 (eTToken.F a0)), (1, .int .i64 a1), (4, .ptr (.loc 4) 0), (7, .ptr (.loc 7) 0), (34, .bool x6_2)], [(.loc 4, .cells true [.int .i64 0, .int .i64 0, .int .i64 0, .str [], .nils]), (.loc 7, .cells true (cTToken x1_2))]⟩ (by decide) (by kernel_rfl) (ok_ref13_Says k a0 a1 [98, 111, 111, 108] x6_2 hx6_2) (by kernel_rfl) ?_
      refine SO.done ?_
      refine SC.cond x6_2 (by kernel_rfl) (fun ht => ?_) (fun ht => ?_)
      · replace h := Opt.t h ht
        refine SC.seq ?_
        refine SC.region 8 rfl ?_
        refine SO.run c0 8 ⟨[(4, .ptr (.loc 4) 0), (5, .int .i64 (IntKind.i64.wrap (a1 + 1))), (6, .bool true)], [(.loc 4, .cells true [.int .i64 2, .int .i64 x1_2.At, .int .i64 0, .str [], .nils])]⟩ (by decide) (by kernel_rfl) ?_
        refine SO.done ?_
        refine SC.ret ?_
        replace h := Option.some.inj h
        subst h
        exact ⟨[.agg [.int .i64 2, .int .i64 x1_2.At, .int .i64 0, .str [], .nils], .int .i64 (IntKind.i64.wrap (a1 + 1)), .bool true], by kernel_rfl, Wk.tuple (⟨Wk.agg (⟨Wk.refl _, Wk.refl _, Wk.refl _, Wk.refl _, Wk.nils _ _, trivial⟩), Wk.refl _, Wk.refl _, trivial⟩), trivial, by kernel_rfl⟩
      · replace h := Opt.f h ht
        refine SC.skip ?_
        refine SC.seq ?_
        refine SC.seq ?_
        refine SC.region 3 rfl ?_
        refine SO.run c0 2 ⟨[(0, .slice .none 4 (eTToken.F a0)), (1, .int .i64 a1), (4, .ptr (.loc 4) 0), (7, .ptr (.loc 7) 0), (40, .slice .none 4 (eTToken.F a0)), (41, .int .i64 a1)], [(.loc 4, .cells true [.int .i64 0, .int .i64 0, .int .i64 0, .str [], .nils]), (.loc 7, .cells true (cTToken x1_2))]⟩ (by decide) (by kernel_rfl) ?_
        obtain ⟨x8_2, hx8_2, h⟩ := Opt.ex h
        refine SO.call ⟨44, [.slice .none 4 (eTToken.F a0), .int .i64 a1, .str [114, 101, 118]], [], [], some 42⟩ ⟨[(0, .slice .none 4 (eTToken.F a0)), (1, .int .i64 a1), (4, .ptr (.loc 4) 0), (7, .ptr (.loc 7) 0), (42, .bool x8_2)], [(.loc 4, .cells true [.int .i64 0, .int .i64 0, .int .i64 0, .str [], .nils]), (.loc 7, .cells true (cTToken x1_2))]⟩ (by decide) (by kernel_rfl) (ok_ref13_Says k a0 a1 [114, 101, 118] x8_2 hx8_2) (by kernel_rfl) ?_
        refine SO.done ?_
        refine SC.cond x8_2 (by kernel_rfl) (fun ht => ?_) (fun ht => ?_)
        · replace h := Opt.t h ht
          refine SC.seq ?_
          refine SC.region 8 rfl ?_
          refine SO.run c0 8 ⟨[(4, .ptr (.loc 4) 0), (5, .int .i64 (IntKind.i64.wrap (a1 + 1))), (6, .bool true)], [(.loc 4, .cells true [.int .i64 3, .int .i64 x1_2.At, .int .i64 0, .str [], .nils])]⟩ (by decide) (by kernel_rfl) ?_
          refine SO.done ?_
          refine SC.ret ?_
          replace h := Option.some.inj h
          subst h
          exact ⟨[.agg [.int .i64 3, .int .i64 x1_2.At, .int .i64 0, .str [], .nils], .int .i64 (IntKind.i64.wrap (a1 + 1)), .bool true], by kernel_rfl, Wk.tuple (⟨Wk.agg (⟨Wk.refl _, Wk.refl _, Wk.refl _, Wk.refl _, Wk.nils _ _, trivial⟩), Wk.refl _, Wk.refl _, trivial⟩), trivial, by kernel_rfl⟩
        · replace h := Opt.f h ht
          refine SC.skip ?_
          refine SC.seq ?_
          refine SC.seq ?_
          refine SC.region 4 rfl ?_
          refine SO.run c0 2 ⟨[(0, .slice .none 4 (eTToken.F a0)), (1, .int .i64 a1), (4, .ptr (.loc 4) 0), (7, .ptr (.loc 7) 0), (48, .slice .none 4 (eTToken.F a0)), (49, .int .i64 a1)], [(.loc 4, .cells true [.int .i64 0, .int .i64 0, .int .i64 0, .str [], .nils]), (.loc 7, .cells true (cTToken x1_2))]⟩ (by decide) (by kernel_rfl) ?_
          obtain ⟨x10_2, hx10_2, h⟩ := Opt.ex h
          refine SO.call ⟨45, [.slice .none 4 (eTToken.F a0), .int .i64 a1, .str [91]], [], [], some 50⟩ ⟨[(0, .slice .none 4 (eTToken.F a0)), (1, .int .i64 a1), (4, .ptr (.loc 4) 0), (7, .ptr (.loc 7) 0), (50, .bool x10_2)], [(.loc 4, .cells true [.int .i64 0, .int .i64 0, .int .i64 0, .str [], .nils]), (.loc 7, .cells true (cTToken x1_2))]⟩ (by decide) (by kernel_rfl) (ok_ref13_Is k a0 a1 [91] x10_2 hx10_2) (by kernel_rfl) ?_
          refine SO.run c0 4 ⟨[(0, .slice .none 4 (eTToken.F a0)), (1, .int .i64 a1), (4, .ptr (.loc 4) 0), (7, .ptr (.loc 7) 0), (51, .bool (!x10_2))], [(.loc 4, .cells true [.int .i64 0, .int .i64 0, .int .i64 0, .str [], .nils]), (.loc 7, .cells true (cTToken x1_2))]⟩ (by decide) (by kernel_rfl) ?_
          refine SO.done ?_
          refine SC.cond (!x10_2) (by kernel_rfl) (fun ht => ?_) (fun ht => ?_)
          · replace h := Opt.t h ht
            refine SC.seq ?_
            refine SC.region 5 rfl ?_
            refine SO.run c0 5 ⟨[(4, .ptr (.loc 4) 0), (5, .int .i64 a1), (6, .bool false)], [(.loc 4, .cells true [.int .i64 0, .int .i64 0, .int .i64 0, .str [], .nils])]⟩ (by decide) (by kernel_rfl) ?_
            refine SO.done ?_
            refine SC.ret ?_
            replace h := Option.some.inj h
            subst h
            exact ⟨[.agg [.int .i64 0, .int .i64 0, .int .i64 0, .str [], .nils], .int .i64 a1, .bool false], by kernel_rfl, Wk.tuple (⟨Wk.agg (⟨Wk.refl _, Wk.refl _, Wk.refl _, Wk.refl _, Wk.nils _ _, trivial⟩), Wk.refl _, Wk.refl _, trivial⟩), trivial, by kernel_rfl⟩
          · replace h := Opt.f h ht
            refine SC.skip ?_
            refine SC.seq ?_
            refine SC.seq ?_
            refine SC.region 5 rfl ?_
            refine SO.run c0 3 ⟨[(0, .slice .none 4 (eTToken.F a0)), (1, .int .i64 a1), (4, .ptr (.loc 4) 0), (7, .ptr (.loc 7) 0), (54, .slice .none 4 (eTToken.F a0)), (56, .int .i64 (IntKind.i64.wrap (a1 + 1)))], [(.loc 4, .cells true [.int .i64 0, .int .i64 0, .int .i64 0, .str [], .nils]), (.loc 7, .cells true (cTToken x1_2))]⟩ (by decide) (by kernel_rfl) ?_
            obtain ⟨x12_3, hx12_3, h⟩ := Opt.ex h
            refine SO.call ⟨45, [.slice .none 4 (eTToken.F a0), .int .i64 (IntKind.i64.wrap (a1 + 1)), .str [93]], [], [], some 57⟩ ⟨[(0, .slice .none 4 (eTToken.F a0)), (1, .int .i64 a1), (4, .ptr (.loc 4) 0), (7, .ptr (.loc 7) 0), (57, .bool x12_3)], [(.loc 4, .cells true [.int .i64 0, .int .i64 0, .int .i64 0, .str [], .nils]), (.loc 7, .cells true (cTToken x1_2))]⟩ (by decide) (by kernel_rfl) (ok_ref13_Is k a0 (IntKind.i64.wrap (a1 + 1)) [93] x12_3 hx12_3) (by kernel_rfl) ?_
            refine SO.run c0 5 ⟨[(0, .slice .none 4 (eTToken.F a0)), (1, .int .i64 a1), (4, .ptr (.loc 4) 0), (7, .ptr (.loc 7) 0), (58, .bool (!x12_3))], [(.loc 4, .cells true [.int .i64 0, .int .i64 0, .int .i64 0, .str [], .nils]), (.loc 7, .cells true (cTToken x1_2))]⟩ (by decide) (by kernel_rfl) ?_
            refine SO.done ?_
            refine SC.cond (!x12_3) (by kernel_rfl) (fun ht => ?_) (fun ht => ?_)
            · replace h := Opt.t h ht
              refine SC.seq ?_
              refine SC.region 6 rfl ?_
              refine SO.run c0 6 ⟨[(4, .ptr (.loc 4) 0), (5, .int .i64 (IntKind.i64.wrap (a1 + 1))), (6, .bool false)], [(.loc 4, .cells true [.int .i64 0, .int .i64 0, .int .i64 0, .str [], .nils])]⟩ (by decide) (by kernel_rfl) ?_
              refine SO.done ?_
              refine SC.ret ?_
              replace h := Option.some.inj h
              subst h
              exact ⟨[.agg [.int .i64 0, .int .i64 0, .int .i64 0, .str [], .nils], .int .i64 (IntKind.i64.wrap (a1 + 1)), .bool false], by kernel_rfl, Wk.tuple (⟨Wk.agg (⟨Wk.refl _, Wk.refl _, Wk.refl _, Wk.refl _, Wk.nils _ _, trivial⟩), Wk.refl _, Wk.refl _, trivial⟩), trivial, by kernel_rfl⟩
            · replace h := Opt.f h ht
              refine SC.skip ?_
              refine SC.seq ?_
              refine SC.region 12 rfl ?_
              refine SO.run c0 3 ⟨[(4, .ptr (.loc 4) 0), (7, .ptr (.loc 7) 0), (63, .slice .none 4 (eTToken.F a0)), (65, .int .i64 (IntKind.i64.wrap (a1 + 2)))], [(.loc 4, .cells true [.int .i64 0, .int .i64 0, .int .i64 0, .str [], .nils]), (.loc 7, .cells true (cTToken x1_2))]⟩ (by decide) (by kernel_rfl) ?_
              obtain ⟨⟨x14_3_0, x14_3_1, x14_3_2⟩, hx14_3, h⟩ := Opt.ex h
              refine SO.call ⟨17, [.slice .none 4 (eTToken.F a0), .int .i64 (IntKind.i64.wrap (a1 + 2))], [], [], some 66⟩ ⟨[(4, .ptr (.loc 4) 0), (7, .ptr (.loc 7) 0), (66, .tuple [.agg (cTNode x14_3_0), .int .i64 x14_3_1, .bool x14_3_2])], [(.loc 4, .cells true [.int .i64 0, .int .i64 0, .int .i64 0, .str [], .nils]), (.loc 7, .cells true (cTToken x1_2))]⟩ (by decide) (by kernel_rfl) (ih_ref13_Type a0 (IntKind.i64.wrap (a1 + 2)) (x14_3_0, x14_3_1, x14_3_2) hx14_3) (by kernel_rfl) ?_
              refine SO.run c0 12 ⟨[(4, .ptr (.loc 4) 0), (7, .ptr (.loc 7) 0), (8, .ptr (.loc 8) 0), (9, .int .i64 x14_3_1), (10, .bool x14_3_2)], [(.loc 4, .cells true [.int .i64 0, .int .i64 0, .int .i64 0, .str [], .nils]), (.loc 7, .cells true (cTToken x1_2)), (.loc 8, .cells true (cTNode x14_3_0))]⟩ (by decide) (by kernel_rfl) ?_
              refine SO.done ?_
              refine SC.seq ?_
              refine SC.seq ?_
              refine SC.region 2 rfl ?_
              refine SO.run c0 2 ⟨[(4, .ptr (.loc 4) 0), (7, .ptr (.loc 7) 0), (8, .ptr (.loc 8) 0), (9, .int .i64 x14_3_1), (71, .bool (!x14_3_2))], [(.loc 4, .cells true [.int .i64 0, .int .i64 0, .int .i64 0, .str [], .nils]), (.loc 7, .cells true (cTToken x1_2)), (.loc 8, .cells true (cTNode x14_3_0))]⟩ (by decide) (by kernel_rfl) ?_
              refine SO.done ?_
              refine SC.cond (!x14_3_2) (by kernel_rfl) (fun ht => ?_) (fun ht => ?_)
              · replace h := Opt.t h ht
                refine SC.seq ?_
                refine SC.region 5 rfl ?_
                refine SO.run c0 5 ⟨[(4, .ptr (.loc 4) 0), (5, .int .i64 x14_3_1), (6, .bool false)], [(.loc 4, .cells true [.int .i64 0, .int .i64 0, .int .i64 0, .str [], .nils])]⟩ (by decide) (by kernel_rfl) ?_
                refine SO.done ?_
                refine SC.ret ?_
                replace h := Option.some.inj h
                subst h
                exact ⟨[.agg [.int .i64 0, .int .i64 0, .int .i64 0, .str [], .nils], .int .i64 x14_3_1, .bool false], by kernel_rfl, Wk.tuple (⟨Wk.agg (⟨Wk.refl _, Wk.refl _, Wk.refl _, Wk.refl _, Wk.nils _ _, trivial⟩), Wk.refl _, Wk.refl _, trivial⟩), trivial, by kernel_rfl⟩
              · replace h := Opt.f h ht
                refine SC.skip ?_
                refine SC.seq ?_
                refine SC.region 9 rfl ?_
                refine SO.run c0 3 ⟨[(4, .ptr (.loc 4) 0), (9, .int .i64 x14_3_1), (75, .int .i64 x1_2.At), (76, .agg (cTNode x14_3_0))], [(.loc 4, .cells true [.int .i64 0, .int .i64 0, .int .i64 0, .str [], .nils])]⟩ (by decide) (by kernel_rfl) ?_
                refine SO.op c0 { v := .slice .full 5 (eTNode.F [x14_3_0]) } ⟨[(4, .ptr (.loc 4) 0), (9, .int .i64 x14_3_1), (75, .int .i64 x1_2.At), (77, .slice .full 5 (eTNode.F [x14_3_0]))], [(.loc 4, .cells true [.int .i64 0, .int .i64 0, .int .i64 0, .str [], .nils])]⟩ (by decide) ((show opR _ _ _ _ _ _ = some { v := .slice .full 5 [.agg (cTNode x14_3_0)] } from by kernel_rfl).trans (by simp only [FTNode, eTNode_F, fTNode_eq])) (by kernel_rfl) ?_
                refine SO.run c0 9 ⟨[(4, .ptr (.loc 4) 0), (5, .int .i64 x14_3_1), (6, .bool true)], [(.loc 4, .cells true [.int .i64 5, .int .i64 x1_2.At, .int .i64 0, .str [], .slice .full 5 (eTNode.F [x14_3_0])])]⟩ (by decide) (by kernel_rfl) ?_
                refine SO.done ?_
                refine SC.ret ?_
                replace h := Option.some.inj h
                subst h
                exact ⟨[.agg [.int .i64 5, .int .i64 x1_2.At, .int .i64 0, .str [], .slice .full 5 (eTNode.F [x14_3_0])], .int .i64 x14_3_1, .bool true], by kernel_rfl, Wk.tuple (⟨Wk.agg (⟨Wk.refl _, Wk.refl _, Wk.refl _, Wk.refl _, Wk.tok _ _ _, trivial⟩), Wk.refl _, Wk.refl _, trivial⟩), trivial, by kernel_rfl⟩
theorem all_ref13_Type : ∀ k, C_ref13_Type k
  | 0 => (by intro a0 a1 r h; rw [ref13_Type] at h; cases h)
  | k + 1 => by
    have h0 := all_ref13_Type k
    exact st_ref13_Type k h0
theorem ok_ref13_Type (k : Nat) (a0 : List TToken) (a1 : Int) (r : TNode × Int × Bool) (h : ref13_Type k a0 a1 = some r) :
    SF Z 17 [.slice .none 4 (eTToken.F a0), .int .i64 a1] [] (.tuple [.agg (cTNode r.1), .int .i64 r.2.1, .bool r.2.2]) [] := (all_ref13_Type k) a0 a1 r h
theorem ok_expr_Args (k : Nat) (a0 : List TToken) (a1 : Int) (r : List TNode × Int × Int) (h : expr_Args k a0 a1 = some r) :
    SF Z 19 [.slice .none 4 (eTToken.F a0), .int .i64 a1] [] (.tuple [.slice .none 5 (eTNode.F r.1), .int .i64 r.2.1, .int .i64 r.2.2]) [] := by
  unfold expr_Args at h
  refine SF.intro Tryd.func19 rfl Tryd.ntmps19 rfl (Nat.le_of_ble_eq_true rfl) (by decide) ?_
  refine SC.seq ?_
  refine SC.region 3 rfl ?_
  refine SO.run c0 3 ⟨[(0, .slice .none 4 (eTToken.F a0)), (1, .int .i64 a1)], []⟩ (by decide) (by kernel_rfl) ?_
  refine SO.done ?_
  refine SC.seq ?_
  refine SC.region 5 rfl ?_
  refine SO.run c0 5 ⟨[(7, .ptr (.loc 7) 0)], [(.loc 7, .cells true [.slice .none 4 (eTToken.F a0), .int .i64 a1, .bool false])]⟩ (by decide) (by kernel_rfl) ?_
  refine SO.done ?_
  refine SC.seq ?_
  refine SC.region 2 rfl ?_
  obtain ⟨⟨x2_0_0, x2_0_1, x2_0_2⟩, hx2_0, h⟩ := Opt.ex h
  refine SO.call ⟨46, [.ptr (.ext 0) 0], [(.ext 0, .cells true [.slice .none 4 (eTToken.F a0), .int .i64 a1, .bool false])], [.loc 7], some 12⟩ ⟨[(7, .ptr (.loc 7) 0), (12, .slice .none 5 (eTNode.F x2_0_0))], [(.loc 7, .cells true [.slice .none 4 (eTToken.F a0), .int .i64 x2_0_1, .bool x2_0_2])]⟩ (by decide) (by kernel_rfl) (ok_expr_reader_args k a0 a1 false (x2_0_0, x2_0_1, x2_0_2) hx2_0) (by kernel_rfl) ?_
  refine SO.run c0 2 ⟨[(7, .ptr (.loc 7) 0), (8, .slice .none 5 (eTNode.F x2_0_0))], [(.loc 7, .cells true [.slice .none 4 (eTToken.F a0), .int .i64 x2_0_1, .bool x2_0_2])]⟩ (by decide) (by kernel_rfl) ?_
  refine SO.done ?_
  refine SC.seq ?_
  refine SC.seq ?_
  refine SC.region 2 rfl ?_
  refine SO.run c0 2 ⟨[(7, .ptr (.loc 7) 0), (8, .slice .none 5 (eTNode.F x2_0_0)), (14, .bool x2_0_2)], [(.loc 7, .cells true [.slice .none 4 (eTToken.F a0), .int .i64 x2_0_1, .bool x2_0_2])]⟩ (by decide) (by kernel_rfl) ?_
  refine SO.done ?_
  refine SC.cond x2_0_2 (by kernel_rfl) (fun ht => ?_) (fun ht => ?_)
  · replace h := Opt.t h ht
    refine SC.seq ?_
    refine SC.drawS 5 rfl (by kernel_rfl) ?_
    refine QD.run 5 ⟨[(4, .nils), (5, .int .i64 x2_0_1), (6, .int .i64 1), (7, .ptr (.loc 7) 0), (8, .slice .none 5 (eTNode.F x2_0_0)), (14, .bool x2_0_2), (15, .ptr (.loc 7) 1), (16, .int .i64 x2_0_1)], [(.loc 7, .cells true [.slice .none 4 (eTToken.F a0), .int .i64 x2_0_1, .bool x2_0_2])]⟩ (by decide) (by kernel_rfl) ?_
    refine QD.fin ⟨[(4, .nils), (5, .int .i64 x2_0_1), (6, .int .i64 1)], []⟩ (by kernel_rfl) ?_
    refine SC.ret ?_
    replace h := Option.some.inj h
    subst h
    exact ⟨[.nils, .int .i64 x2_0_1, .int .i64 1], by kernel_rfl, Wk.tuple (⟨Wk.nils _ _, Wk.refl _, Wk.refl _, trivial⟩), trivial, by kernel_rfl⟩
  · replace h := Opt.f h ht
    refine SC.skip ?_
    refine SC.seq ?_
    refine SC.drawS 6 rfl (by kernel_rfl) ?_
    refine QD.run 6 ⟨[(4, .slice .none 5 (eTNode.F x2_0_0)), (5, .int .i64 x2_0_1), (6, .int .i64 0), (7, .ptr (.loc 7) 0), (8, .slice .none 5 (eTNode.F x2_0_0)), (14, .bool x2_0_2), (17, .slice .none 5 (eTNode.F x2_0_0)), (18, .ptr (.loc 7) 1), (19, .int .i64 x2_0_1)], [(.loc 7, .cells true [.slice .none 4 (eTToken.F a0), .int .i64 x2_0_1, .bool x2_0_2])]⟩ (by decide) (by kernel_rfl) ?_
    refine QD.fin ⟨[(4, .slice .none 5 (eTNode.F x2_0_0)), (5, .int .i64 x2_0_1), (6, .int .i64 0)], []⟩ (by kernel_rfl) ?_
    refine SC.ret ?_
    replace h := Option.some.inj h
    subst h
    exact ⟨[.slice .none 5 (eTNode.F x2_0_0), .int .i64 x2_0_1, .int .i64 0], by kernel_rfl, Wk.eq (by kernel_rfl), trivial, by kernel_rfl⟩
theorem ok_ref13_sign (k : Nat) (a0 : List TToken) (a1 : Int) (a2 : Int) (r : Int) (h : ref13_sign k a0 a1 a2 = some r) :
    SF Z 74 [.slice .none 4 (eTToken.F a0), .int .i64 a1, .int .i64 a2] [] (.int .i64 r) [] := by
  unfold ref13_sign at h
  refine SF.intro Tryd.func74 rfl Tryd.ntmps74 rfl (Nat.le_of_ble_eq_true rfl) (by decide) ?_
  refine SC.seq ?_
  refine SC.region 1 rfl ?_
  refine SO.run c0 1 ⟨[(0, .slice .none 4 (eTToken.F a0)), (1, .int .i64 a1), (2, .int .i64 a2)], []⟩ (by decide) (by kernel_rfl) ?_
  refine SO.done ?_
  refine SC.seq ?_
  refine SC.region 5 rfl ?_
  refine SO.run c0 2 ⟨[(2, .int .i64 a2), (9, .slice .none 4 (eTToken.F a0)), (10, .int .i64 a1)], []⟩ (by decide) (by kernel_rfl) ?_
  obtain ⟨x1_2, hx1_2, h⟩ := Opt.ex h
  refine SO.call ⟨43, [.slice .none 4 (eTToken.F a0), .int .i64 a1], [], [], some 11⟩ ⟨[(2, .int .i64 a2), (11, .agg (cTToken x1_2))], []⟩ (by decide) (by kernel_rfl) (ok_ref13_Tok k a0 a1 x1_2 hx1_2) (by kernel_rfl) ?_
  refine SO.run c0 5 ⟨[(2, .int .i64 a2), (7, .ptr (.loc 7) 0)], [(.loc 7, .cells true (cTToken x1_2))]⟩ (by decide) (by kernel_rfl) ?_
  refine SO.done ?_
  apply SC.seqJ (r := r) h (fun v : Unit => ⟨[], []⟩)
  · rintro ⟨⟩ r h
    refine SC.eqS (S1 := ⟨[], []⟩) rfl ?_
    refine SC.seq ?_
    refine SC.region 1 rfl ?_
    refine SO.run c0 1 ⟨[(6, .int .i64 0)], []⟩ (by decide) (by kernel_rfl) ?_
    refine SO.done ?_
    refine SC.ret ?_
    replace h := Option.some.inj h
    subst h
    exact ⟨[.int .i64 0], by kernel_rfl, Wk.eq (by kernel_rfl), trivial, by kernel_rfl⟩
  · intro j_j0 h
    refine SC.seq ?_
    refine SC.region 1 rfl ?_
    refine SO.run c0 1 ⟨[(2, .int .i64 a2), (7, .ptr (.loc 7) 0), (8, .int .i64 1)], [(.loc 7, .cells true (cTToken x1_2))]⟩ (by decide) (by kernel_rfl) ?_
    refine SO.done ?_
    refine SC.block ?_
    apply SC.loopJ (r := r) h (fun v : Int => ⟨[(2, .int .i64 a2), (7, .ptr (.loc 7) 0), (8, .int .i64 v)], [(.loc 7, .cells true (cTToken x1_2))]⟩)
    rintro l1_8 r h
    refine SC.eqS (S1 := ⟨[(2, .int .i64 a2), (7, .ptr (.loc 7) 0), (8, .int .i64 l1_8)], [(.loc 7, .cells true (cTToken x1_2))]⟩) rfl ?_
    refine SC.seq ?_
    refine SC.seq ?_
    refine SC.region 2 rfl ?_
    refine SO.run c0 2 ⟨[(2, .int .i64 a2), (7, .ptr (.loc 7) 0), (8, .int .i64 l1_8), (13, .bool (decide (l1_8 ≤ 14)))], [(.loc 7, .cells true (cTToken x1_2))]⟩ (by decide) (by kernel_rfl) ?_
    refine SO.done ?_
    refine SC.cond (decide (l1_8 ≤ 14)) (by kernel_rfl) (fun ht => ?_) (fun ht => ?_)
    · replace h := Opt.t h ht
      refine SC.skip ?_
      refine SC.seq ?_
      refine SC.block ?_
      refine SC.seq ?_
      refine SC.drawS 16 rfl (by kernel_rfl) ?_
      refine QD.run 4 ⟨[(2, .int .i64 a2), (7, .ptr (.loc 7) 0), (8, .int .i64 l1_8), (13, .bool (decide (l1_8 ≤ 14))), (16, .ptr (.loc 7) 0), (17, .int .i64 x1_2.Kind), (18, .bool (x1_2.Kind == 4)), (19, .bool (x1_2.Kind == 4))], [(.loc 7, .cells true (cTToken x1_2))]⟩ (by decide) (by kernel_rfl) ?_
      refine QD.joinJ h (fun v : Bool => ⟨[(2, .int .i64 a2), (7, .ptr (.loc 7) 0), (8, .int .i64 l1_8), (25, .bool v)], [(.loc 7, .cells true (cTToken x1_2))]⟩) 10 (by decide) (fun v => by kernel_rfl) ?_ ?_
      · rintro g5_9_25 h
        refine QD.eqS (S1 := ⟨[(2, .int .i64 a2), (7, .ptr (.loc 7) 0), (8, .int .i64 l1_8), (25, .bool g5_9_25)], [(.loc 7, .cells true (cTToken x1_2))]⟩) rfl ?_
        refine QD.run 11 ⟨[(2, .int .i64 a2), (7, .ptr (.loc 7) 0), (8, .int .i64 l1_8), (25, .bool g5_9_25), (26, .bool g5_9_25)], [(.loc 7, .cells true (cTToken x1_2))]⟩ (by decide) (by kernel_rfl) ?_
        refine QD.joinJ h (fun v : Bool => ⟨[(2, .int .i64 a2), (7, .ptr (.loc 7) 0), (8, .int .i64 l1_8), (31, .bool v)], [(.loc 7, .cells true (cTToken x1_2))]⟩) 16 (by decide) (fun v => by kernel_rfl) ?_ ?_
        · rintro g5_15_31 h
          refine QD.eqS (S1 := ⟨[(2, .int .i64 a2), (7, .ptr (.loc 7) 0), (8, .int .i64 l1_8), (31, .bool g5_15_31)], [(.loc 7, .cells true (cTToken x1_2))]⟩) rfl ?_
          refine QD.fin ⟨[(2, .int .i64 a2), (7, .ptr (.loc 7) 0), (8, .int .i64 l1_8), (31, .bool g5_15_31)], [(.loc 7, .cells true (cTToken x1_2))]⟩ (by kernel_rfl) ?_
          refine SC.cond g5_15_31 (by kernel_rfl) (fun ht => ?_) (fun ht => ?_)
          · replace h := Opt.t h ht
            refine SC.seq ?_
            refine SC.region 2 rfl ?_
            refine SO.run c0 2 ⟨[(6, .int .i64 l1_8)], []⟩ (by decide) (by kernel_rfl) ?_
            refine SO.done ?_
            refine SC.ret ?_
            replace h := Option.some.inj h
            subst h
            refine ⟨_, rfl, ?_⟩
            exact ⟨[.int .i64 l1_8], by kernel_rfl, Wk.eq (by kernel_rfl), trivial, by kernel_rfl⟩
          · replace h := Opt.f h ht
            refine SC.skip ?_
            refine SC.region 3 rfl ?_
            refine SO.run c0 3 ⟨[(2, .int .i64 a2), (7, .ptr (.loc 7) 0), (8, .int .i64 (IntKind.i64.wrap (l1_8 + 1)))], [(.loc 7, .cells true (cTToken x1_2))]⟩ (by decide) (by kernel_rfl) ?_
            refine SO.done ?_
            replace h := Option.some.inj h
            subst h
            exact ⟨(IntKind.i64.wrap (l1_8 + 1)), rfl, rfl⟩
        · intro j_g5_15 h
          refine QD.bool g5_9_25 (fun b => ⟨[(2, .int .i64 a2), (7, .ptr (.loc 7) 0), (8, .int .i64 l1_8), (25, .bool g5_9_25), (26, .bool b)], [(.loc 7, .cells true (cTToken x1_2))]⟩) (fun ht => ?_) (fun ht => ?_)
          · replace h := Opt.t h ht
            refine QD.run 12 ⟨[(2, .int .i64 a2), (7, .ptr (.loc 7) 0), (8, .int .i64 l1_8), (25, .bool g5_9_25), (26, .bool true), (27, .int .i64 l1_8)], [(.loc 7, .cells true (cTToken x1_2))]⟩ (by decide) (by kernel_rfl) ?_
            obtain ⟨x5_12, hx5_12, h⟩ := Opt.ex h
            refine QD.callT ⟨40, [.int .i64 l1_8], [], [], some 28⟩ ⟨[(2, .int .i64 a2), (7, .ptr (.loc 7) 0), (8, .int .i64 l1_8), (25, .bool g5_9_25), (26, .bool true), (27, .int .i64 l1_8), (28, .int .i64 x5_12)], [(.loc 7, .cells true (cTToken x1_2))]⟩ (by decide) (by kernel_rfl) (ok_ref09_Bind k l1_8 x5_12 hx5_12) (by kernel_rfl) (by kernel_rfl) (by kernel_rfl) ?_
            refine QD.run 16 ⟨[(2, .int .i64 a2), (7, .ptr (.loc 7) 0), (8, .int .i64 l1_8), (25, .bool g5_9_25), (26, .bool true), (27, .int .i64 l1_8), (28, .int .i64 x5_12), (29, .int .i64 a2), (30, .bool (x5_12 == a2)), (31, .bool (x5_12 == a2))], [(.loc 7, .cells true (cTToken x1_2))]⟩ (by decide) (by kernel_rfl) ?_
            exact QD.done ⟨(x5_12 == a2), ⟨by kernel_rfl, rfl⟩, h⟩
          · replace h := Opt.f h ht
            refine QD.run 16 ⟨[(2, .int .i64 a2), (7, .ptr (.loc 7) 0), (8, .int .i64 l1_8), (25, .bool g5_9_25), (26, .bool false), (27, .tuple []), (28, .tuple []), (29, .tuple []), (30, .tuple []), (31, .bool false)], [(.loc 7, .cells true (cTToken x1_2))]⟩ (by decide) (by kernel_rfl) ?_
            exact QD.done ⟨false, ⟨by kernel_rfl, rfl⟩, h⟩
      · intro j_g5_9 h
        refine QD.bool (x1_2.Kind == 4) (fun b => ⟨[(2, .int .i64 a2), (7, .ptr (.loc 7) 0), (8, .int .i64 l1_8), (13, .bool (decide (l1_8 ≤ 14))), (16, .ptr (.loc 7) 0), (17, .int .i64 x1_2.Kind), (18, .bool (x1_2.Kind == 4)), (19, .bool b)], [(.loc 7, .cells true (cTToken x1_2))]⟩) (fun ht => ?_) (fun ht => ?_)
        · replace h := Opt.t h ht
          refine QD.run 5 ⟨[(2, .int .i64 a2), (7, .ptr (.loc 7) 0), (8, .int .i64 l1_8), (13, .bool (decide (l1_8 ≤ 14))), (16, .ptr (.loc 7) 0), (17, .int .i64 x1_2.Kind), (18, .bool (x1_2.Kind == 4)), (19, .bool true), (20, .int .i64 l1_8)], [(.loc 7, .cells true (cTToken x1_2))]⟩ (by decide) (by kernel_rfl) ?_
          obtain ⟨x5_5, hx5_5, h⟩ := Opt.ex h
          refine QD.callT ⟨94, [.int .i64 l1_8], [], [], some 21⟩ ⟨[(2, .int .i64 a2), (7, .ptr (.loc 7) 0), (8, .int .i64 l1_8), (13, .bool (decide (l1_8 ≤ 14))), (16, .ptr (.loc 7) 0), (17, .int .i64 x1_2.Kind), (18, .bool (x1_2.Kind == 4)), (19, .bool true), (20, .int .i64 l1_8), (21, .str x5_5)], [(.loc 7, .cells true (cTToken x1_2))]⟩ (by decide) (by kernel_rfl) (ok_ref09_Spell k l1_8 x5_5 hx5_5) (by kernel_rfl) (by kernel_rfl) (by kernel_rfl) ?_
          refine QD.run 10 ⟨[(2, .int .i64 a2), (7, .ptr (.loc 7) 0), (8, .int .i64 l1_8), (13, .bool (decide (l1_8 ≤ 14))), (16, .ptr (.loc 7) 0), (17, .int .i64 x1_2.Kind), (18, .bool (x1_2.Kind == 4)), (19, .bool true), (20, .int .i64 l1_8), (21, .str x5_5), (22, .ptr (.loc 7) 3), (23, .str x1_2.Text), (24, .bool (x5_5 == x1_2.Text)), (25, .bool (x5_5 == x1_2.Text))], [(.loc 7, .cells true (cTToken x1_2))]⟩ (by decide) (by kernel_rfl) ?_
          exact QD.done ⟨(x5_5 == x1_2.Text), ⟨by kernel_rfl, rfl⟩, h⟩
        · replace h := Opt.f h ht
          refine QD.run 10 ⟨[(2, .int .i64 a2), (7, .ptr (.loc 7) 0), (8, .int .i64 l1_8), (13, .bool (decide (l1_8 ≤ 14))), (16, .ptr (.loc 7) 0), (17, .int .i64 x1_2.Kind), (18, .bool (x1_2.Kind == 4)), (19, .bool false), (20, .tuple []), (21, .tuple []), (22, .tuple []), (23, .tuple []), (24, .tuple []), (25, .bool false)], [(.loc 7, .cells true (cTToken x1_2))]⟩ (by decide) (by kernel_rfl) ?_
          exact QD.done ⟨false, ⟨by kernel_rfl, rfl⟩, h⟩
    · replace h := Opt.f h ht
      refine SC.weak (S1 := ⟨[], []⟩) ?_ ?_
      · exact ⟨trivial, trivial, by kernel_rfl⟩
      refine SC.exit ?_
      obtain ⟨r1, hh, e1⟩ := Opt.inr h
      clear h
      subst e1
      have h := hh
      clear hh
      refine ⟨_, rfl, ?_⟩
      exact ⟨(), rfl, h⟩
end Go.Proofs.YtbhncegmohnfhaaDoor.AE
