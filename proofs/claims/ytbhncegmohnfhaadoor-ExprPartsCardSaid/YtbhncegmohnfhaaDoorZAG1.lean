/- The code of these functions comes to what the printed functions answer. Printed by wip/dev/gen.py. No condition. -/
import Derived.Test.YtbhncegmohnfhaaDoorZAG0
set_option linter.unusedVariables false
set_option maxRecDepth 100000
namespace Go.Proofs.YtbhncegmohnfhaaDoor.AE
open Go F
def C_expr_reader_args (k : Nat) : Prop := ∀ (o0_l : List TToken) (o0_at : Int) (o0_bad : Bool) (r : List TNode × Int × Bool), expr_reader_args k o0_l o0_at o0_bad = some r →
  SF Z 46 [.ptr (.ext 0) 0] [(.ext 0, .cells true [.slice .none 4 (eTToken.F o0_l), .int .i64 o0_at, .bool o0_bad])] (.slice .none 5 (eTNode.F r.1)) [(.ext 0, .cells true [.slice .none 4 (eTToken.F o0_l), .int .i64 r.2.1, .bool r.2.2])]
def C_expr_reader_word (k : Nat) : Prop := ∀ (a1 : TNode) (a2 : List UInt8) (o0_l : List TToken) (o0_at : Int) (o0_bad : Bool) (r : TNode × Int × Bool), expr_reader_word k a1 a2 o0_l o0_at o0_bad = some r →
  SF Z 123 [.ptr (.ext 0) 0, .agg (cTNode a1), .str a2] [(.ext 0, .cells true [.slice .none 4 (eTToken.F o0_l), .int .i64 o0_at, .bool o0_bad])] (.agg (cTNode r.1)) [(.ext 0, .cells true [.slice .none 4 (eTToken.F o0_l), .int .i64 r.2.1, .bool r.2.2])]
def C_expr_reader_first (k : Nat) : Prop := ∀ (o0_l : List TToken) (o0_at : Int) (o0_bad : Bool) (r : TNode × Int × Bool), expr_reader_first k o0_l o0_at o0_bad = some r →
  SF Z 111 [.ptr (.ext 0) 0] [(.ext 0, .cells true [.slice .none 4 (eTToken.F o0_l), .int .i64 o0_at, .bool o0_bad])] (.agg (cTNode r.1)) [(.ext 0, .cells true [.slice .none 4 (eTToken.F o0_l), .int .i64 r.2.1, .bool r.2.2])]
def C_expr_reader_part (k : Nat) : Prop := ∀ (o0_l : List TToken) (o0_at : Int) (o0_bad : Bool) (r : TNode × Int × Bool), expr_reader_part k o0_l o0_at o0_bad = some r →
  SF Z 96 [.ptr (.ext 0) 0] [(.ext 0, .cells true [.slice .none 4 (eTToken.F o0_l), .int .i64 o0_at, .bool o0_bad])] (.agg (cTNode r.1)) [(.ext 0, .cells true [.slice .none 4 (eTToken.F o0_l), .int .i64 r.2.1, .bool r.2.2])]
def C_expr_reader_factor (k : Nat) : Prop := ∀ (o0_l : List TToken) (o0_at : Int) (o0_bad : Bool) (r : TNode × Int × Bool), expr_reader_factor k o0_l o0_at o0_bad = some r →
  SF Z 70 [.ptr (.ext 0) 0] [(.ext 0, .cells true [.slice .none 4 (eTToken.F o0_l), .int .i64 o0_at, .bool o0_bad])] (.agg (cTNode r.1)) [(.ext 0, .cells true [.slice .none 4 (eTToken.F o0_l), .int .i64 r.2.1, .bool r.2.2])]
def C_expr_reader_level (k : Nat) : Prop := ∀ (a1 : Int) (o0_l : List TToken) (o0_at : Int) (o0_bad : Bool) (r : TNode × Int × Bool), expr_reader_level k a1 o0_l o0_at o0_bad = some r →
  SF Z 36 [.ptr (.ext 0) 0, .int .i64 a1] [(.ext 0, .cells true [.slice .none 4 (eTToken.F o0_l), .int .i64 o0_at, .bool o0_bad])] (.agg (cTNode r.1)) [(.ext 0, .cells true [.slice .none 4 (eTToken.F o0_l), .int .i64 r.2.1, .bool r.2.2])]
theorem st_expr_reader_args (k : Nat) (ih_expr_reader_level : C_expr_reader_level k) : C_expr_reader_args (k + 1) := by
  intro o0_l o0_at o0_bad r h
  rw [expr_reader_args] at h
  refine SF.intro Tryd.func46 rfl Tryd.ntmps46 rfl (Nat.le_of_ble_eq_true rfl) (by decide) ?_
  refine SC.seq ?_
  refine SC.region 1 rfl ?_
  refine SO.run c0 1 ⟨[(0, .ptr (.ext 0) 0)], [(.ext 0, .cells true [.slice .none 4 (eTToken.F o0_l), .int .i64 o0_at, .bool o0_bad])]⟩ (by decide) (by kernel_rfl) ?_
  refine SO.done ?_
  refine SC.seq ?_
  refine SC.region 1 rfl ?_
  refine SO.run c0 1 ⟨[(0, .ptr (.ext 0) 0), (3, .nils)], [(.ext 0, .cells true [.slice .none 4 (eTToken.F o0_l), .int .i64 o0_at, .bool o0_bad])]⟩ (by decide) (by kernel_rfl) ?_
  refine SO.begin (.loc 3) 5 3 none ⟨[(0, .ptr (.ext 0) 0), (3, .slice (.buf (.loc 3)) 5 (eTNode.F []))], [(.ext 0, .cells true [.slice .none 4 (eTToken.F o0_l), .int .i64 o0_at, .bool o0_bad]), (.loc 3, .buf 5 0)]⟩ (by kernel_rfl) ?_
  refine SO.done ?_
  refine SC.seq ?_
  refine SC.region 2 rfl ?_
  refine SO.run c0 1 ⟨[(0, .ptr (.ext 0) 0), (3, .slice (.buf (.loc 3)) 5 (eTNode.F [])), (4, .ptr (.ext 0) 0)], [(.ext 0, .cells true [.slice .none 4 (eTToken.F o0_l), .int .i64 o0_at, .bool o0_bad]), (.loc 3, .buf 5 0)]⟩ (by decide) (by kernel_rfl) ?_
  obtain ⟨⟨x2_1_0, x2_1_1⟩, hx2_1, h⟩ := Opt.ex h
  refine SO.call ⟨77, [.ptr (.ext 0) 0, .str [40]], [(.ext 0, .cells true [.slice .none 4 (eTToken.F o0_l), .int .i64 o0_at, .bool o0_bad])], [.ext 0], some 5⟩ ⟨[(0, .ptr (.ext 0) 0), (3, .slice (.buf (.loc 3)) 5 (eTNode.F []))], [(.ext 0, .cells true [.slice .none 4 (eTToken.F o0_l), .int .i64 x2_1_0, .bool x2_1_1]), (.loc 3, .buf 5 0)]⟩ (by decide) (by kernel_rfl) (ok_expr_reader_wants k [40] o0_l o0_at o0_bad (x2_1_0, x2_1_1) hx2_1) (by kernel_rfl) ?_
  refine SO.done ?_
  refine SC.seq ?_
  refine SC.seq ?_
  refine SC.region 2 rfl ?_
  refine SO.run c0 1 ⟨[(0, .ptr (.ext 0) 0), (3, .slice (.buf (.loc 3)) 5 (eTNode.F [])), (6, .ptr (.ext 0) 0)], [(.ext 0, .cells true [.slice .none 4 (eTToken.F o0_l), .int .i64 x2_1_0, .bool x2_1_1]), (.loc 3, .buf 5 0)]⟩ (by decide) (by kernel_rfl) ?_
  obtain ⟨⟨x3_1_0, x3_1_1⟩, hx3_1, h⟩ := Opt.ex h
  refine SO.call ⟨76, [.ptr (.ext 0) 0, .str [41]], [(.ext 0, .cells true [.slice .none 4 (eTToken.F o0_l), .int .i64 x2_1_0, .bool x2_1_1])], [.ext 0], some 7⟩ ⟨[(0, .ptr (.ext 0) 0), (3, .slice (.buf (.loc 3)) 5 (eTNode.F [])), (7, .bool x3_1_0)], [(.ext 0, .cells true [.slice .none 4 (eTToken.F o0_l), .int .i64 x3_1_1, .bool x2_1_1]), (.loc 3, .buf 5 0)]⟩ (by decide) (by kernel_rfl) (ok_expr_reader_takes k [41] o0_l x2_1_0 x2_1_1 (x3_1_0, x3_1_1) hx3_1) (by kernel_rfl) ?_
  refine SO.done ?_
  refine SC.cond x3_1_0 (by kernel_rfl) (fun ht => ?_) (fun ht => ?_)
  · replace h := Opt.t h ht
    refine SC.seq ?_
    refine SC.region 2 rfl ?_
    refine SO.run c0 2 ⟨[(2, .slice (.buf (.loc 3)) 5 (eTNode.F []))], [(.ext 0, .cells true [.slice .none 4 (eTToken.F o0_l), .int .i64 x3_1_1, .bool x2_1_1]), (.loc 3, .buf 5 0)]⟩ (by decide) (by kernel_rfl) ?_
    refine SO.done ?_
    refine SC.ret ?_
    replace h := Option.some.inj h
    subst h
    exact ⟨[.slice (.buf (.loc 3)) 5 (eTNode.F [])], by kernel_rfl, Wk.tok _ _ _, ⟨⟨.cells true [.slice .none 4 (eTToken.F o0_l), .int .i64 x3_1_1, .bool x2_1_1], by kernel_rfl, ObWk.cells (WkL.eq (by kernel_rfl))⟩, trivial⟩, by kernel_rfl⟩
  · replace h := Opt.f h ht
    refine SC.skip ?_
    apply SC.seqJ (r := r) h (fun v : Int × Bool => ⟨[], [(.ext 0, .cells true [.slice .none 4 (eTToken.F o0_l), .int .i64 v.1, .bool v.2])]⟩)
    · rintro ⟨j0_oext0_1, j0_oext0_2⟩ r h
      refine SC.eqS (S1 := ⟨[], [(.ext 0, .cells true [.slice .none 4 (eTToken.F o0_l), .int .i64 j0_oext0_1, .bool j0_oext0_2])]⟩) rfl ?_
      refine SC.seq ?_
      refine SC.region 1 rfl ?_
      refine SO.run c0 1 ⟨[(2, .nils)], [(.ext 0, .cells true [.slice .none 4 (eTToken.F o0_l), .int .i64 j0_oext0_1, .bool j0_oext0_2])]⟩ (by decide) (by kernel_rfl) ?_
      refine SO.done ?_
      refine SC.ret ?_
      replace h := Option.some.inj h
      subst h
      exact ⟨[.nils], by kernel_rfl, Wk.nils _ _, ⟨⟨.cells true [.slice .none 4 (eTToken.F o0_l), .int .i64 j0_oext0_1, .bool j0_oext0_2], by kernel_rfl, ObWk.cells (WkL.eq (by kernel_rfl))⟩, trivial⟩, by kernel_rfl⟩
    · intro j_j0 h
      refine SC.block ?_
      refine SC.weak (S1 := ⟨[(0, .ptr (.ext 0) 0), (3, .slice (.buf (.loc 3)) 5 (eTNode.F []))], [(.ext 0, .cells true [.slice .none 4 (eTToken.F o0_l), .int .i64 x3_1_1, .bool x2_1_1]), (.loc 3, .buf 5 0)]⟩) ?_ ?_
      · exact ⟨⟨Wk.refl _, Wk.refl _, trivial⟩, ⟨⟨.cells true [.slice .none 4 (eTToken.F o0_l), .int .i64 x3_1_1, .bool x2_1_1], by kernel_rfl, ObWk.cells (WkL.refl _)⟩, ⟨.buf 5 0, by kernel_rfl, ObWk.buf rfl⟩, trivial⟩, by kernel_rfl⟩
      apply SC.loopJ (r := r) h (fun v : List TNode × Int × Bool => ⟨[(0, .ptr (.ext 0) 0), (3, .slice (.buf (.loc 3)) 5 (eTNode.F v.1))], [(.ext 0, .cells true [.slice .none 4 (eTToken.F o0_l), .int .i64 v.2.1, .bool v.2.2]), (.loc 3, .buf 5 (v.1.length))]⟩)
      rintro ⟨l1_3, l1_oext0_1, l1_oext0_2⟩ r h
      refine SC.eqS (S1 := ⟨[(0, .ptr (.ext 0) 0), (3, .slice (.buf (.loc 3)) 5 (eTNode.F l1_3))], [(.ext 0, .cells true [.slice .none 4 (eTToken.F o0_l), .int .i64 l1_oext0_1, .bool l1_oext0_2]), (.loc 3, .buf 5 (l1_3.length))]⟩) rfl ?_
      refine SC.seq ?_
      refine SC.seq ?_
      refine SC.region 5 rfl ?_
      refine SO.run c0 5 ⟨[(0, .ptr (.ext 0) 0), (3, .slice (.buf (.loc 3)) 5 (eTNode.F l1_3)), (13, .bool (!l1_oext0_2))], [(.ext 0, .cells true [.slice .none 4 (eTToken.F o0_l), .int .i64 l1_oext0_1, .bool l1_oext0_2]), (.loc 3, .buf 5 (l1_3.length))]⟩ (by decide) (by kernel_rfl) ?_
      refine SO.done ?_
      refine SC.cond (!l1_oext0_2) (by kernel_rfl) (fun ht => ?_) (fun ht => ?_)
      · replace h := Opt.t h ht
        refine SC.skip ?_
        refine SC.block ?_
        refine SC.seq ?_
        refine SC.region 6 rfl ?_
        refine SO.run c0 2 ⟨[(0, .ptr (.ext 0) 0), (14, .slice (.buf (.loc 3)) 5 (eTNode.F l1_3)), (15, .ptr (.ext 0) 0)], [(.ext 0, .cells true [.slice .none 4 (eTToken.F o0_l), .int .i64 l1_oext0_1, .bool l1_oext0_2]), (.loc 3, .buf 5 (l1_3.length))]⟩ (by decide) (by kernel_rfl) ?_
        obtain ⟨⟨x6_2_0, x6_2_1, x6_2_2⟩, hx6_2, h⟩ := Opt.ex h
        refine SO.call ⟨36, [.ptr (.ext 0) 0, .int .i64 1], [(.ext 0, .cells true [.slice .none 4 (eTToken.F o0_l), .int .i64 l1_oext0_1, .bool l1_oext0_2])], [.ext 0], some 16⟩ ⟨[(0, .ptr (.ext 0) 0), (14, .slice (.buf (.loc 3)) 5 (eTNode.F l1_3)), (16, .agg (cTNode x6_2_0))], [(.ext 0, .cells true [.slice .none 4 (eTToken.F o0_l), .int .i64 x6_2_1, .bool x6_2_2]), (.loc 3, .buf 5 (l1_3.length))]⟩ (by decide) (by kernel_rfl) (ih_expr_reader_level 1 o0_l l1_oext0_1 l1_oext0_2 (x6_2_0, x6_2_1, x6_2_2) hx6_2) (by kernel_rfl) ?_
        refine SO.op c0 { v := .slice .full 5 (eTNode.F [x6_2_0]) } ⟨[(0, .ptr (.ext 0) 0), (14, .slice (.buf (.loc 3)) 5 (eTNode.F l1_3)), (17, .slice .full 5 (eTNode.F [x6_2_0]))], [(.ext 0, .cells true [.slice .none 4 (eTToken.F o0_l), .int .i64 x6_2_1, .bool x6_2_2]), (.loc 3, .buf 5 (l1_3.length))]⟩ (by decide) ((show opR _ _ _ _ _ _ = some { v := .slice .full 5 [.agg (cTNode x6_2_0)] } from by kernel_rfl).trans (by simp only [FTNode, eTNode_F, fTNode_eq])) (by kernel_rfl) ?_
        obtain ⟨hr, h⟩ := Opt.g h
        refine SO.op c0 { v := .slice (.buf (.loc 3)) 5 (eTNode.F (l1_3 ++ [x6_2_0])), ws := [(.loc 3, .buf 5 ((l1_3 ++ [x6_2_0]).length))], rd := [.loc 3] } ⟨[(0, .ptr (.ext 0) 0), (18, .slice (.buf (.loc 3)) 5 (eTNode.F (l1_3 ++ [x6_2_0])))], [(.ext 0, .cells true [.slice .none 4 (eTToken.F o0_l), .int .i64 x6_2_1, .bool x6_2_2]), (.loc 3, .buf 5 ((l1_3 ++ [x6_2_0]).length))]⟩ (by decide) (apB eTNode false 18 [(.ext 0, .cells true [.slice .none 4 (eTToken.F o0_l), .int .i64 x6_2_1, .bool x6_2_2]), (.loc 3, .buf 5 (l1_3.length))] 27 27 (.loc 3) 5 64 l1_3 [x6_2_0] .full (by kernel_rfl) (by kernel_rfl) (by kernel_rfl) hr) (by kernel_rfl) ?_
        refine SO.run c0 6 ⟨[(0, .ptr (.ext 0) 0), (3, .slice (.buf (.loc 3)) 5 (eTNode.F (l1_3 ++ [x6_2_0])))], [(.ext 0, .cells true [.slice .none 4 (eTToken.F o0_l), .int .i64 x6_2_1, .bool x6_2_2]), (.loc 3, .buf 5 ((l1_3 ++ [x6_2_0]).length))]⟩ (by decide) (by kernel_rfl) ?_
        refine SO.done ?_
        refine SC.seq ?_
        refine SC.seq ?_
        refine SC.region 2 rfl ?_
        refine SO.run c0 1 ⟨[(0, .ptr (.ext 0) 0), (3, .slice (.buf (.loc 3)) 5 (eTNode.F (l1_3 ++ [x6_2_0]))), (19, .ptr (.ext 0) 0)], [(.ext 0, .cells true [.slice .none 4 (eTToken.F o0_l), .int .i64 x6_2_1, .bool x6_2_2]), (.loc 3, .buf 5 ((l1_3 ++ [x6_2_0]).length))]⟩ (by decide) (by kernel_rfl) ?_
        obtain ⟨⟨x7_1_0, x7_1_1⟩, hx7_1, h⟩ := Opt.ex h
        refine SO.call ⟨76, [.ptr (.ext 0) 0, .str [41]], [(.ext 0, .cells true [.slice .none 4 (eTToken.F o0_l), .int .i64 x6_2_1, .bool x6_2_2])], [.ext 0], some 20⟩ ⟨[(0, .ptr (.ext 0) 0), (3, .slice (.buf (.loc 3)) 5 (eTNode.F (l1_3 ++ [x6_2_0]))), (20, .bool x7_1_0)], [(.ext 0, .cells true [.slice .none 4 (eTToken.F o0_l), .int .i64 x7_1_1, .bool x6_2_2]), (.loc 3, .buf 5 ((l1_3 ++ [x6_2_0]).length))]⟩ (by decide) (by kernel_rfl) (ok_expr_reader_takes k [41] o0_l x6_2_1 x6_2_2 (x7_1_0, x7_1_1) hx7_1) (by kernel_rfl) ?_
        refine SO.done ?_
        refine SC.cond x7_1_0 (by kernel_rfl) (fun ht => ?_) (fun ht => ?_)
        · replace h := Opt.t h ht
          refine SC.seq ?_
          refine SC.region 2 rfl ?_
          refine SO.run c0 2 ⟨[(2, .slice (.buf (.loc 3)) 5 (eTNode.F (l1_3 ++ [x6_2_0])))], [(.ext 0, .cells true [.slice .none 4 (eTToken.F o0_l), .int .i64 x7_1_1, .bool x6_2_2]), (.loc 3, .buf 5 ((l1_3 ++ [x6_2_0]).length))]⟩ (by decide) (by kernel_rfl) ?_
          refine SO.done ?_
          refine SC.ret ?_
          replace h := Option.some.inj h
          subst h
          refine ⟨_, rfl, ?_⟩
          exact ⟨[.slice (.buf (.loc 3)) 5 (eTNode.F (l1_3 ++ [x6_2_0]))], by kernel_rfl, Wk.tok _ _ _, ⟨⟨.cells true [.slice .none 4 (eTToken.F o0_l), .int .i64 x7_1_1, .bool x6_2_2], by kernel_rfl, ObWk.cells (WkL.eq (by kernel_rfl))⟩, trivial⟩, by kernel_rfl⟩
        · replace h := Opt.f h ht
          refine SC.skip ?_
          refine SC.region 2 rfl ?_
          refine SO.run c0 1 ⟨[(0, .ptr (.ext 0) 0), (3, .slice (.buf (.loc 3)) 5 (eTNode.F (l1_3 ++ [x6_2_0]))), (22, .ptr (.ext 0) 0)], [(.ext 0, .cells true [.slice .none 4 (eTToken.F o0_l), .int .i64 x7_1_1, .bool x6_2_2]), (.loc 3, .buf 5 ((l1_3 ++ [x6_2_0]).length))]⟩ (by decide) (by kernel_rfl) ?_
          obtain ⟨⟨x9_1_0, x9_1_1⟩, hx9_1, h⟩ := Opt.ex h
          refine SO.call ⟨77, [.ptr (.ext 0) 0, .str [44]], [(.ext 0, .cells true [.slice .none 4 (eTToken.F o0_l), .int .i64 x7_1_1, .bool x6_2_2])], [.ext 0], some 23⟩ ⟨[(0, .ptr (.ext 0) 0), (3, .slice (.buf (.loc 3)) 5 (eTNode.F (l1_3 ++ [x6_2_0])))], [(.ext 0, .cells true [.slice .none 4 (eTToken.F o0_l), .int .i64 x9_1_0, .bool x9_1_1]), (.loc 3, .buf 5 ((l1_3 ++ [x6_2_0]).length))]⟩ (by decide) (by kernel_rfl) (ok_expr_reader_wants k [44] o0_l x7_1_1 x6_2_2 (x9_1_0, x9_1_1) hx9_1) (by kernel_rfl) ?_
          refine SO.done ?_
          replace h := Option.some.inj h
          subst h
          exact ⟨((l1_3 ++ [x6_2_0]), x9_1_0, x9_1_1), rfl, rfl⟩
      · replace h := Opt.f h ht
        refine SC.weak (S1 := ⟨[], [(.ext 0, .cells true [.slice .none 4 (eTToken.F o0_l), .int .i64 l1_oext0_1, .bool l1_oext0_2])]⟩) ?_ ?_
        · exact ⟨trivial, ⟨⟨.cells true [.slice .none 4 (eTToken.F o0_l), .int .i64 l1_oext0_1, .bool l1_oext0_2], by kernel_rfl, ObWk.cells (WkL.refl _)⟩, trivial⟩, by kernel_rfl⟩
        refine SC.exit ?_
        obtain ⟨r1, hh, e1⟩ := Opt.inr h
        clear h
        subst e1
        have h := hh
        clear hh
        refine ⟨_, rfl, ?_⟩
        exact ⟨(l1_oext0_1, l1_oext0_2), rfl, h⟩
theorem st_expr_reader_word (k : Nat) (ih_expr_reader_args : C_expr_reader_args k) : C_expr_reader_word (k + 1) := by
  intro a1 a2 o0_l o0_at o0_bad r h
  rw [expr_reader_word] at h
  refine SF.intro Tryd.func123 rfl Tryd.ntmps123 rfl (Nat.le_of_ble_eq_true rfl) (by decide) ?_
  refine SC.seq ?_
  refine SC.region 2 rfl ?_
  refine SO.run c0 2 ⟨[(0, .ptr (.ext 0) 0), (2, .str a2), (4, .ptr (.loc 4) 0), (6, .ptr (.loc 6) 0)], [(.ext 0, .cells true [.slice .none 4 (eTToken.F o0_l), .int .i64 o0_at, .bool o0_bad]), (.loc 4, .cells true (cTNode a1)), (.loc 6, .cells true [.int .i64 0, .int .i64 0, .int .i64 0, .str [], .nils])]⟩ (by decide) (by kernel_rfl) ?_
  refine SO.done ?_
  apply SC.seqJ (r := r) h (fun v : Int × Bool × TNode => ⟨[(4, .ptr (.loc 4) 0), (6, .ptr (.loc 6) 0)], [(.ext 0, .cells true [.slice .none 4 (eTToken.F o0_l), .int .i64 v.1, .bool v.2.1]), (.loc 4, .cells true (cTNode v.2.2)), (.loc 6, .cells true [.int .i64 0, .int .i64 0, .int .i64 0, .str [], .nils])]⟩)
  · rintro ⟨j0_oext0_1, j0_oext0_2, j0_oloc4⟩ r h
    refine SC.eqS (S1 := ⟨[(4, .ptr (.loc 4) 0), (6, .ptr (.loc 6) 0)], [(.ext 0, .cells true [.slice .none 4 (eTToken.F o0_l), .int .i64 j0_oext0_1, .bool j0_oext0_2]), (.loc 4, .cells true (cTNode j0_oloc4)), (.loc 6, .cells true [.int .i64 0, .int .i64 0, .int .i64 0, .str [], .nils])]⟩) rfl ?_
    refine SC.seq ?_
    refine SC.region 2 rfl ?_
    refine SO.run c0 2 ⟨[(6, .ptr (.loc 6) 0)], [(.ext 0, .cells true [.slice .none 4 (eTToken.F o0_l), .int .i64 j0_oext0_1, .bool j0_oext0_2]), (.loc 6, .cells true (cTNode j0_oloc4))]⟩ (by decide) (by kernel_rfl) ?_
    refine SO.done ?_
    refine SC.ret ?_
    replace h := Option.some.inj h
    subst h
    exact ⟨[.agg (cTNode j0_oloc4)], by kernel_rfl, Wk.eq (by kernel_rfl), ⟨⟨.cells true [.slice .none 4 (eTToken.F o0_l), .int .i64 j0_oext0_1, .bool j0_oext0_2], by kernel_rfl, ObWk.cells (WkL.eq (by kernel_rfl))⟩, trivial⟩, by kernel_rfl⟩
  · intro j_j0 h
    refine SC.seq ?_
    refine SC.region 1 rfl ?_
    refine SO.run c0 1 ⟨[(0, .ptr (.ext 0) 0), (2, .str a2), (4, .ptr (.loc 4) 0), (6, .ptr (.loc 6) 0), (7, .str a2)], [(.ext 0, .cells true [.slice .none 4 (eTToken.F o0_l), .int .i64 o0_at, .bool o0_bad]), (.loc 4, .cells true (cTNode a1)), (.loc 6, .cells true [.int .i64 0, .int .i64 0, .int .i64 0, .str [], .nils])]⟩ (by decide) (by kernel_rfl) ?_
    refine SO.done ?_
    refine SC.block ?_
    apply SC.seqJ (r := r) h (fun v : Bool => ⟨[(0, .ptr (.ext 0) 0), (2, .str a2), (4, .ptr (.loc 4) 0), (6, .ptr (.loc 6) 0), (7, .str a2), (11, .bool v)], [(.ext 0, .cells true [.slice .none 4 (eTToken.F o0_l), .int .i64 o0_at, .bool o0_bad]), (.loc 4, .cells true (cTNode a1)), (.loc 6, .cells true [.int .i64 0, .int .i64 0, .int .i64 0, .str [], .nils])]⟩)
    · rintro j1_11 r h
      refine SC.eqS (S1 := ⟨[(0, .ptr (.ext 0) 0), (2, .str a2), (4, .ptr (.loc 4) 0), (6, .ptr (.loc 6) 0), (7, .str a2), (11, .bool j1_11)], [(.ext 0, .cells true [.slice .none 4 (eTToken.F o0_l), .int .i64 o0_at, .bool o0_bad]), (.loc 4, .cells true (cTNode a1)), (.loc 6, .cells true [.int .i64 0, .int .i64 0, .int .i64 0, .str [], .nils])]⟩) rfl ?_
      refine SC.cond j1_11 (by kernel_rfl) (fun ht => ?_) (fun ht => ?_)
      · replace h := Opt.t h ht
        refine SC.seq ?_
        refine SC.region 8 rfl ?_
        refine SO.run c0 8 ⟨[(2, .str a2), (4, .ptr (.loc 4) 0), (6, .ptr (.loc 6) 0)], [(.ext 0, .cells true [.slice .none 4 (eTToken.F o0_l), .int .i64 (IntKind.i64.wrap (o0_at + 1)), .bool o0_bad]), (.loc 4, .cells true (cTNode a1)), (.loc 6, .cells true [.int .i64 0, .int .i64 0, .int .i64 0, .str [], .nils])]⟩ (by decide) (by kernel_rfl) ?_
        refine SO.done ?_
        refine SC.seq ?_
        refine SC.region 2 rfl ?_
        refine SO.run c0 2 ⟨[(2, .str a2), (4, .ptr (.loc 4) 0), (6, .ptr (.loc 6) 0)], [(.ext 0, .cells true [.slice .none 4 (eTToken.F o0_l), .int .i64 (IntKind.i64.wrap (o0_at + 1)), .bool o0_bad]), (.loc 4, .cells true [.int .i64 11, .int .i64 a1.At, .int .i64 a1.N, .str a1.Name, .slice .none 5 (eTNode.F a1.Kids)]), (.loc 6, .cells true [.int .i64 0, .int .i64 0, .int .i64 0, .str [], .nils])]⟩ (by decide) (by kernel_rfl) ?_
        refine SO.done ?_
        refine SC.seq ?_
        refine SC.region 2 rfl ?_
        refine SO.run c0 2 ⟨[(4, .ptr (.loc 4) 0), (6, .ptr (.loc 6) 0), (23, .bool (a2 == [116, 114, 117, 101]))], [(.ext 0, .cells true [.slice .none 4 (eTToken.F o0_l), .int .i64 (IntKind.i64.wrap (o0_at + 1)), .bool o0_bad]), (.loc 4, .cells true [.int .i64 11, .int .i64 a1.At, .int .i64 a1.N, .str a1.Name, .slice .none 5 (eTNode.F a1.Kids)]), (.loc 6, .cells true [.int .i64 0, .int .i64 0, .int .i64 0, .str [], .nils])]⟩ (by decide) (by kernel_rfl) ?_
        refine SO.done ?_
        refine SC.cond (a2 == [116, 114, 117, 101]) (by kernel_rfl) (fun ht => ?_) (fun ht => ?_)
        · replace h := Opt.t h ht
          refine SC.region 2 rfl ?_
          refine SO.run c0 2 ⟨[(4, .ptr (.loc 4) 0), (6, .ptr (.loc 6) 0)], [(.ext 0, .cells true [.slice .none 4 (eTToken.F o0_l), .int .i64 (IntKind.i64.wrap (o0_at + 1)), .bool o0_bad]), (.loc 4, .cells true [.int .i64 11, .int .i64 a1.At, .int .i64 1, .str a1.Name, .slice .none 5 (eTNode.F a1.Kids)]), (.loc 6, .cells true [.int .i64 0, .int .i64 0, .int .i64 0, .str [], .nils])]⟩ (by decide) (by kernel_rfl) ?_
          refine SO.done ?_
          exact ⟨((IntKind.i64.wrap (o0_at + 1)), o0_bad, (TNode.mk 11 a1.At 1 a1.Name a1.Kids)), rfl, h⟩
        · replace h := Opt.f h ht
          refine SC.weak (S1 := ⟨[(4, .ptr (.loc 4) 0), (6, .ptr (.loc 6) 0)], [(.ext 0, .cells true [.slice .none 4 (eTToken.F o0_l), .int .i64 (IntKind.i64.wrap (o0_at + 1)), .bool o0_bad]), (.loc 4, .cells true [.int .i64 11, .int .i64 a1.At, .int .i64 a1.N, .str a1.Name, .slice .none 5 (eTNode.F a1.Kids)]), (.loc 6, .cells true [.int .i64 0, .int .i64 0, .int .i64 0, .str [], .nils])]⟩) ?_ ?_
          · exact ⟨⟨Wk.refl _, Wk.refl _, trivial⟩, ⟨⟨.cells true [.slice .none 4 (eTToken.F o0_l), .int .i64 (IntKind.i64.wrap (o0_at + 1)), .bool o0_bad], by kernel_rfl, ObWk.cells (WkL.refl _)⟩, ⟨.cells true [.int .i64 11, .int .i64 a1.At, .int .i64 a1.N, .str a1.Name, .slice .none 5 (eTNode.F a1.Kids)], by kernel_rfl, ObWk.cells (WkL.refl _)⟩, ⟨.cells true [.int .i64 0, .int .i64 0, .int .i64 0, .str [], .nils], by kernel_rfl, ObWk.cells (WkL.refl _)⟩, trivial⟩, by kernel_rfl⟩
          refine SC.skip ?_
          exact ⟨((IntKind.i64.wrap (o0_at + 1)), o0_bad, (TNode.mk 11 a1.At a1.N a1.Name a1.Kids)), rfl, h⟩
      · replace h := Opt.f h ht
        refine SC.seq ?_
        refine SC.region 2 rfl ?_
        refine SO.run c0 2 ⟨[(0, .ptr (.ext 0) 0), (4, .ptr (.loc 4) 0), (6, .ptr (.loc 6) 0), (7, .str a2), (25, .bool (a2 == [102, 111, 114, 107]))], [(.ext 0, .cells true [.slice .none 4 (eTToken.F o0_l), .int .i64 o0_at, .bool o0_bad]), (.loc 4, .cells true (cTNode a1)), (.loc 6, .cells true [.int .i64 0, .int .i64 0, .int .i64 0, .str [], .nils])]⟩ (by decide) (by kernel_rfl) ?_
        refine SO.done ?_
        refine SC.cond (a2 == [102, 111, 114, 107]) (by kernel_rfl) (fun ht => ?_) (fun ht => ?_)
        · replace h := Opt.t h ht
          refine SC.seq ?_
          refine SC.region 8 rfl ?_
          refine SO.run c0 8 ⟨[(0, .ptr (.ext 0) 0), (4, .ptr (.loc 4) 0), (6, .ptr (.loc 6) 0)], [(.ext 0, .cells true [.slice .none 4 (eTToken.F o0_l), .int .i64 (IntKind.i64.wrap (o0_at + 1)), .bool o0_bad]), (.loc 4, .cells true (cTNode a1)), (.loc 6, .cells true [.int .i64 0, .int .i64 0, .int .i64 0, .str [], .nils])]⟩ (by decide) (by kernel_rfl) ?_
          refine SO.done ?_
          refine SC.seq ?_
          refine SC.region 6 rfl ?_
          refine SO.run c0 1 ⟨[(0, .ptr (.ext 0) 0), (4, .ptr (.loc 4) 0), (6, .ptr (.loc 6) 0), (34, .ptr (.ext 0) 0)], [(.ext 0, .cells true [.slice .none 4 (eTToken.F o0_l), .int .i64 (IntKind.i64.wrap (o0_at + 1)), .bool o0_bad]), (.loc 4, .cells true (cTNode a1)), (.loc 6, .cells true [.int .i64 0, .int .i64 0, .int .i64 0, .str [], .nils])]⟩ (by decide) (by kernel_rfl) ?_
          obtain ⟨⟨x11_1_0, x11_1_1, x11_1_2⟩, hx11_1, h⟩ := Opt.ex h
          refine SO.call ⟨75, [.ptr (.ext 0) 0], [(.ext 0, .cells true [.slice .none 4 (eTToken.F o0_l), .int .i64 (IntKind.i64.wrap (o0_at + 1)), .bool o0_bad])], [.ext 0], some 35⟩ ⟨[(0, .ptr (.ext 0) 0), (4, .ptr (.loc 4) 0), (6, .ptr (.loc 6) 0), (35, .str x11_1_0)], [(.ext 0, .cells true [.slice .none 4 (eTToken.F o0_l), .int .i64 x11_1_1, .bool x11_1_2]), (.loc 4, .cells true (cTNode a1)), (.loc 6, .cells true [.int .i64 0, .int .i64 0, .int .i64 0, .str [], .nils])]⟩ (by decide) (by kernel_rfl) (ok_expr_reader_name k o0_l (IntKind.i64.wrap (o0_at + 1)) o0_bad (x11_1_0, x11_1_1, x11_1_2) hx11_1) (by kernel_rfl) ?_
          refine SO.run c0 6 ⟨[(0, .ptr (.ext 0) 0), (4, .ptr (.loc 4) 0), (6, .ptr (.loc 6) 0)], [(.ext 0, .cells true [.slice .none 4 (eTToken.F o0_l), .int .i64 x11_1_1, .bool x11_1_2]), (.loc 4, .cells true [.int .i64 18, .int .i64 a1.At, .int .i64 a1.N, .str x11_1_0, .slice .none 5 (eTNode.F a1.Kids)]), (.loc 6, .cells true [.int .i64 0, .int .i64 0, .int .i64 0, .str [], .nils])]⟩ (by decide) (by kernel_rfl) ?_
          refine SO.done ?_
          refine SC.region 4 rfl ?_
          refine SO.run c0 1 ⟨[(4, .ptr (.loc 4) 0), (6, .ptr (.loc 6) 0), (38, .ptr (.ext 0) 0)], [(.ext 0, .cells true [.slice .none 4 (eTToken.F o0_l), .int .i64 x11_1_1, .bool x11_1_2]), (.loc 4, .cells true [.int .i64 18, .int .i64 a1.At, .int .i64 a1.N, .str x11_1_0, .slice .none 5 (eTNode.F a1.Kids)]), (.loc 6, .cells true [.int .i64 0, .int .i64 0, .int .i64 0, .str [], .nils])]⟩ (by decide) (by kernel_rfl) ?_
          obtain ⟨⟨x12_1_0, x12_1_1, x12_1_2⟩, hx12_1, h⟩ := Opt.ex h
          refine SO.call ⟨46, [.ptr (.ext 0) 0], [(.ext 0, .cells true [.slice .none 4 (eTToken.F o0_l), .int .i64 x11_1_1, .bool x11_1_2])], [.ext 0], some 39⟩ ⟨[(4, .ptr (.loc 4) 0), (6, .ptr (.loc 6) 0), (39, .slice .none 5 (eTNode.F x12_1_0))], [(.ext 0, .cells true [.slice .none 4 (eTToken.F o0_l), .int .i64 x12_1_1, .bool x12_1_2]), (.loc 4, .cells true [.int .i64 18, .int .i64 a1.At, .int .i64 a1.N, .str x11_1_0, .slice .none 5 (eTNode.F a1.Kids)]), (.loc 6, .cells true [.int .i64 0, .int .i64 0, .int .i64 0, .str [], .nils])]⟩ (by decide) (by kernel_rfl) (ih_expr_reader_args o0_l x11_1_1 x11_1_2 (x12_1_0, x12_1_1, x12_1_2) hx12_1) (by kernel_rfl) ?_
          refine SO.run c0 4 ⟨[(4, .ptr (.loc 4) 0), (6, .ptr (.loc 6) 0)], [(.ext 0, .cells true [.slice .none 4 (eTToken.F o0_l), .int .i64 x12_1_1, .bool x12_1_2]), (.loc 4, .cells true [.int .i64 18, .int .i64 a1.At, .int .i64 a1.N, .str x11_1_0, .slice .none 5 (eTNode.F x12_1_0)]), (.loc 6, .cells true [.int .i64 0, .int .i64 0, .int .i64 0, .str [], .nils])]⟩ (by decide) (by kernel_rfl) ?_
          refine SO.done ?_
          exact ⟨(x12_1_1, x12_1_2, (TNode.mk 18 a1.At a1.N x11_1_0 x12_1_0)), rfl, h⟩
        · replace h := Opt.f h ht
          refine SC.seq ?_
          refine SC.region 2 rfl ?_
          refine SO.run c0 2 ⟨[(0, .ptr (.ext 0) 0), (4, .ptr (.loc 4) 0), (6, .ptr (.loc 6) 0), (41, .bool (a2 == [110, 101, 119]))], [(.ext 0, .cells true [.slice .none 4 (eTToken.F o0_l), .int .i64 o0_at, .bool o0_bad]), (.loc 4, .cells true (cTNode a1)), (.loc 6, .cells true [.int .i64 0, .int .i64 0, .int .i64 0, .str [], .nils])]⟩ (by decide) (by kernel_rfl) ?_
          refine SO.done ?_
          refine SC.cond (a2 == [110, 101, 119]) (by kernel_rfl) (fun ht => ?_) (fun ht => ?_)
          · replace h := Opt.t h ht
            refine SC.seq ?_
            refine SC.region 8 rfl ?_
            refine SO.run c0 8 ⟨[(0, .ptr (.ext 0) 0), (4, .ptr (.loc 4) 0), (6, .ptr (.loc 6) 0)], [(.ext 0, .cells true [.slice .none 4 (eTToken.F o0_l), .int .i64 (IntKind.i64.wrap (o0_at + 1)), .bool o0_bad]), (.loc 4, .cells true (cTNode a1)), (.loc 6, .cells true [.int .i64 0, .int .i64 0, .int .i64 0, .str [], .nils])]⟩ (by decide) (by kernel_rfl) ?_
            refine SO.done ?_
            refine SC.seq ?_
            refine SC.region 2 rfl ?_
            refine SO.run c0 2 ⟨[(0, .ptr (.ext 0) 0), (4, .ptr (.loc 4) 0), (6, .ptr (.loc 6) 0)], [(.ext 0, .cells true [.slice .none 4 (eTToken.F o0_l), .int .i64 (IntKind.i64.wrap (o0_at + 1)), .bool o0_bad]), (.loc 4, .cells true [.int .i64 19, .int .i64 a1.At, .int .i64 a1.N, .str a1.Name, .slice .none 5 (eTNode.F a1.Kids)]), (.loc 6, .cells true [.int .i64 0, .int .i64 0, .int .i64 0, .str [], .nils])]⟩ (by decide) (by kernel_rfl) ?_
            refine SO.done ?_
            refine SC.region 8 rfl ?_
            refine SO.run c0 1 ⟨[(0, .ptr (.ext 0) 0), (4, .ptr (.loc 4) 0), (6, .ptr (.loc 6) 0), (51, .ptr (.ext 0) 0)], [(.ext 0, .cells true [.slice .none 4 (eTToken.F o0_l), .int .i64 (IntKind.i64.wrap (o0_at + 1)), .bool o0_bad]), (.loc 4, .cells true [.int .i64 19, .int .i64 a1.At, .int .i64 a1.N, .str a1.Name, .slice .none 5 (eTNode.F a1.Kids)]), (.loc 6, .cells true [.int .i64 0, .int .i64 0, .int .i64 0, .str [], .nils])]⟩ (by decide) (by kernel_rfl) ?_
            obtain ⟨⟨x16_1_0, x16_1_1, x16_1_2⟩, hx16_1, h⟩ := Opt.ex h
            refine SO.call ⟨42, [.ptr (.ext 0) 0], [(.ext 0, .cells true [.slice .none 4 (eTToken.F o0_l), .int .i64 (IntKind.i64.wrap (o0_at + 1)), .bool o0_bad])], [.ext 0], some 52⟩ ⟨[(0, .ptr (.ext 0) 0), (4, .ptr (.loc 4) 0), (6, .ptr (.loc 6) 0), (52, .agg (cTNode x16_1_0))], [(.ext 0, .cells true [.slice .none 4 (eTToken.F o0_l), .int .i64 x16_1_1, .bool x16_1_2]), (.loc 4, .cells true [.int .i64 19, .int .i64 a1.At, .int .i64 a1.N, .str a1.Name, .slice .none 5 (eTNode.F a1.Kids)]), (.loc 6, .cells true [.int .i64 0, .int .i64 0, .int .i64 0, .str [], .nils])]⟩ (by decide) (by kernel_rfl) (ok_expr_reader_kind k o0_l (IntKind.i64.wrap (o0_at + 1)) o0_bad (x16_1_0, x16_1_1, x16_1_2) hx16_1) (by kernel_rfl) ?_
            refine SO.op c0 { v := .slice .full 5 (eTNode.F [x16_1_0]) } ⟨[(0, .ptr (.ext 0) 0), (4, .ptr (.loc 4) 0), (6, .ptr (.loc 6) 0), (53, .slice .full 5 (eTNode.F [x16_1_0]))], [(.ext 0, .cells true [.slice .none 4 (eTToken.F o0_l), .int .i64 x16_1_1, .bool x16_1_2]), (.loc 4, .cells true [.int .i64 19, .int .i64 a1.At, .int .i64 a1.N, .str a1.Name, .slice .none 5 (eTNode.F a1.Kids)]), (.loc 6, .cells true [.int .i64 0, .int .i64 0, .int .i64 0, .str [], .nils])]⟩ (by decide) ((show opR _ _ _ _ _ _ = some { v := .slice .full 5 [.agg (cTNode x16_1_0)] } from by kernel_rfl).trans (by simp only [FTNode, eTNode_F, fTNode_eq])) (by kernel_rfl) ?_
            refine SO.run c0 4 ⟨[(4, .ptr (.loc 4) 0), (6, .ptr (.loc 6) 0), (53, .slice .full 5 (eTNode.F [x16_1_0])), (54, .ptr (.ext 0) 0)], [(.ext 0, .cells true [.slice .none 4 (eTToken.F o0_l), .int .i64 x16_1_1, .bool x16_1_2]), (.loc 4, .cells true [.int .i64 19, .int .i64 a1.At, .int .i64 a1.N, .str a1.Name, .slice .none 5 (eTNode.F a1.Kids)]), (.loc 6, .cells true [.int .i64 0, .int .i64 0, .int .i64 0, .str [], .nils])]⟩ (by decide) (by kernel_rfl) ?_
            obtain ⟨⟨x16_4_0, x16_4_1, x16_4_2⟩, hx16_4, h⟩ := Opt.ex h
            refine SO.call ⟨46, [.ptr (.ext 0) 0], [(.ext 0, .cells true [.slice .none 4 (eTToken.F o0_l), .int .i64 x16_1_1, .bool x16_1_2])], [.ext 0], some 55⟩ ⟨[(4, .ptr (.loc 4) 0), (6, .ptr (.loc 6) 0), (53, .slice .full 5 (eTNode.F [x16_1_0])), (55, .slice .none 5 (eTNode.F x16_4_0))], [(.ext 0, .cells true [.slice .none 4 (eTToken.F o0_l), .int .i64 x16_4_1, .bool x16_4_2]), (.loc 4, .cells true [.int .i64 19, .int .i64 a1.At, .int .i64 a1.N, .str a1.Name, .slice .none 5 (eTNode.F a1.Kids)]), (.loc 6, .cells true [.int .i64 0, .int .i64 0, .int .i64 0, .str [], .nils])]⟩ (by decide) (by kernel_rfl) (ih_expr_reader_args o0_l x16_1_1 x16_1_2 (x16_4_0, x16_4_1, x16_4_2) hx16_4) (by kernel_rfl) ?_
            obtain ⟨hr, h⟩ := Opt.g h
            refine SO.op (cP [56]) { v := .slice .none 5 (eTNode.F ([x16_1_0] ++ x16_4_0)) } ⟨[(4, .ptr (.loc 4) 0), (6, .ptr (.loc 6) 0), (56, .slice .none 5 (eTNode.F ([x16_1_0] ++ x16_4_0)))], [(.ext 0, .cells true [.slice .none 4 (eTToken.F o0_l), .int .i64 x16_4_1, .bool x16_4_2]), (.loc 4, .cells true [.int .i64 19, .int .i64 a1.At, .int .i64 a1.N, .str a1.Name, .slice .none 5 (eTNode.F a1.Kids)]), (.loc 6, .cells true [.int .i64 0, .int .i64 0, .int .i64 0, .str [], .nils])]⟩ (by decide) (apP eTNode 56 [(.ext 0, .cells true [.slice .none 4 (eTToken.F o0_l), .int .i64 x16_4_1, .bool x16_4_2]), (.loc 4, .cells true [.int .i64 19, .int .i64 a1.At, .int .i64 a1.N, .str a1.Name, .slice .none 5 (eTNode.F a1.Kids)]), (.loc 6, .cells true [.int .i64 0, .int .i64 0, .int .i64 0, .str [], .nils])] 27 27 5 64 [x16_1_0] x16_4_0 .none (by kernel_rfl) (by kernel_rfl) hr) (by kernel_rfl) ?_
            refine SO.run c0 8 ⟨[(4, .ptr (.loc 4) 0), (6, .ptr (.loc 6) 0)], [(.ext 0, .cells true [.slice .none 4 (eTToken.F o0_l), .int .i64 x16_4_1, .bool x16_4_2]), (.loc 4, .cells true [.int .i64 19, .int .i64 a1.At, .int .i64 a1.N, .str a1.Name, .slice .none 5 (eTNode.F ([x16_1_0] ++ x16_4_0))]), (.loc 6, .cells true [.int .i64 0, .int .i64 0, .int .i64 0, .str [], .nils])]⟩ (by decide) (by kernel_rfl) ?_
            refine SO.done ?_
            exact ⟨(x16_4_1, x16_4_2, (TNode.mk 19 a1.At a1.N a1.Name ([x16_1_0] ++ x16_4_0))), rfl, h⟩
          · replace h := Opt.f h ht
            refine SC.region 4 rfl ?_
            refine SO.run c0 4 ⟨[(4, .ptr (.loc 4) 0), (6, .ptr (.loc 6) 0)], [(.ext 0, .cells true [.slice .none 4 (eTToken.F o0_l), .int .i64 o0_at, .bool true]), (.loc 4, .cells true (cTNode a1)), (.loc 6, .cells true [.int .i64 0, .int .i64 0, .int .i64 0, .str [], .nils])]⟩ (by decide) (by kernel_rfl) ?_
            refine SO.done ?_
            exact ⟨(o0_at, true, a1), rfl, h⟩
    · intro j_j1 h
      refine SC.seq ?_
      refine SC.region 2 rfl ?_
      refine SO.run c0 2 ⟨[(0, .ptr (.ext 0) 0), (2, .str a2), (4, .ptr (.loc 4) 0), (6, .ptr (.loc 6) 0), (7, .str a2), (11, .bool (a2 == [116, 114, 117, 101]))], [(.ext 0, .cells true [.slice .none 4 (eTToken.F o0_l), .int .i64 o0_at, .bool o0_bad]), (.loc 4, .cells true (cTNode a1)), (.loc 6, .cells true [.int .i64 0, .int .i64 0, .int .i64 0, .str [], .nils])]⟩ (by decide) (by kernel_rfl) ?_
      refine SO.done ?_
      refine SC.cond (a2 == [116, 114, 117, 101]) (by kernel_rfl) (fun ht => ?_) (fun ht => ?_)
      · replace h := Opt.t h ht
        refine SC.skip ?_
        exact ⟨(a2 == [116, 114, 117, 101]), rfl, h⟩
      · replace h := Opt.f h ht
        refine SC.region 2 rfl ?_
        refine SO.run c0 2 ⟨[(0, .ptr (.ext 0) 0), (2, .str a2), (4, .ptr (.loc 4) 0), (6, .ptr (.loc 6) 0), (7, .str a2), (11, .bool (a2 == [102, 97, 108, 115, 101]))], [(.ext 0, .cells true [.slice .none 4 (eTToken.F o0_l), .int .i64 o0_at, .bool o0_bad]), (.loc 4, .cells true (cTNode a1)), (.loc 6, .cells true [.int .i64 0, .int .i64 0, .int .i64 0, .str [], .nils])]⟩ (by decide) (by kernel_rfl) ?_
        refine SO.done ?_
        exact ⟨(a2 == [102, 97, 108, 115, 101]), rfl, h⟩
theorem st_expr_reader_first (k : Nat) (ih_expr_reader_args : C_expr_reader_args k) (ih_expr_reader_word : C_expr_reader_word k) (ih_expr_reader_level : C_expr_reader_level k) : C_expr_reader_first (k + 1) := by
  intro o0_l o0_at o0_bad r h
  rw [expr_reader_first] at h
  refine SF.intro Tryd.func111 rfl Tryd.ntmps111 rfl (Nat.le_of_ble_eq_true rfl) (by decide) ?_
  refine SC.seq ?_
  refine SC.region 1 rfl ?_
  refine SO.run c0 1 ⟨[(0, .ptr (.ext 0) 0), (2, .ptr (.loc 2) 0)], [(.ext 0, .cells true [.slice .none 4 (eTToken.F o0_l), .int .i64 o0_at, .bool o0_bad]), (.loc 2, .cells true [.int .i64 0, .int .i64 0, .int .i64 0, .str [], .nils])]⟩ (by decide) (by kernel_rfl) ?_
  refine SO.done ?_
  refine SC.seq ?_
  refine SC.region 4 rfl ?_
  refine SO.run c0 1 ⟨[(0, .ptr (.ext 0) 0), (2, .ptr (.loc 2) 0), (5, .ptr (.ext 0) 0)], [(.ext 0, .cells true [.slice .none 4 (eTToken.F o0_l), .int .i64 o0_at, .bool o0_bad]), (.loc 2, .cells true [.int .i64 0, .int .i64 0, .int .i64 0, .str [], .nils])]⟩ (by decide) (by kernel_rfl) ?_
  obtain ⟨x1_1, hx1_1, h⟩ := Opt.ex h
  refine SO.call ⟨72, [.ptr (.ext 0) 0], [(.ext 0, .cells true [.slice .none 4 (eTToken.F o0_l), .int .i64 o0_at, .bool o0_bad])], [.ext 0], some 6⟩ ⟨[(0, .ptr (.ext 0) 0), (2, .ptr (.loc 2) 0), (6, .agg (cTToken x1_1))], [(.ext 0, .cells true [.slice .none 4 (eTToken.F o0_l), .int .i64 o0_at, .bool o0_bad]), (.loc 2, .cells true [.int .i64 0, .int .i64 0, .int .i64 0, .str [], .nils])]⟩ (by decide) (by kernel_rfl) (ok_expr_reader_look k o0_l o0_at o0_bad x1_1 hx1_1) (by kernel_rfl) ?_
  refine SO.run c0 4 ⟨[(0, .ptr (.ext 0) 0), (2, .ptr (.loc 2) 0), (3, .ptr (.loc 3) 0)], [(.ext 0, .cells true [.slice .none 4 (eTToken.F o0_l), .int .i64 o0_at, .bool o0_bad]), (.loc 2, .cells true [.int .i64 0, .int .i64 0, .int .i64 0, .str [], .nils]), (.loc 3, .cells true (cTToken x1_1))]⟩ (by decide) (by kernel_rfl) ?_
  refine SO.done ?_
  refine SC.seq ?_
  refine SC.region 5 rfl ?_
  refine SO.run c0 5 ⟨[(0, .ptr (.ext 0) 0), (2, .ptr (.loc 2) 0), (3, .ptr (.loc 3) 0), (4, .ptr (.loc 4) 0)], [(.ext 0, .cells true [.slice .none 4 (eTToken.F o0_l), .int .i64 o0_at, .bool o0_bad]), (.loc 2, .cells true [.int .i64 0, .int .i64 0, .int .i64 0, .str [], .nils]), (.loc 3, .cells true (cTToken x1_1)), (.loc 4, .cells true [.int .i64 0, .int .i64 x1_1.At, .int .i64 0, .str [], .nils])]⟩ (by decide) (by kernel_rfl) ?_
  refine SO.done ?_
  apply SC.seqJ (r := r) h (fun v : Int × Bool × TNode => ⟨[(2, .ptr (.loc 2) 0), (4, .ptr (.loc 4) 0)], [(.ext 0, .cells true [.slice .none 4 (eTToken.F o0_l), .int .i64 v.1, .bool v.2.1]), (.loc 2, .cells true [.int .i64 0, .int .i64 0, .int .i64 0, .str [], .nils]), (.loc 4, .cells true (cTNode v.2.2))]⟩)
  · rintro ⟨j0_oext0_1, j0_oext0_2, j0_oloc4⟩ r h
    refine SC.eqS (S1 := ⟨[(2, .ptr (.loc 2) 0), (4, .ptr (.loc 4) 0)], [(.ext 0, .cells true [.slice .none 4 (eTToken.F o0_l), .int .i64 j0_oext0_1, .bool j0_oext0_2]), (.loc 2, .cells true [.int .i64 0, .int .i64 0, .int .i64 0, .str [], .nils]), (.loc 4, .cells true (cTNode j0_oloc4))]⟩) rfl ?_
    refine SC.seq ?_
    refine SC.region 2 rfl ?_
    refine SO.run c0 2 ⟨[(2, .ptr (.loc 2) 0)], [(.ext 0, .cells true [.slice .none 4 (eTToken.F o0_l), .int .i64 j0_oext0_1, .bool j0_oext0_2]), (.loc 2, .cells true (cTNode j0_oloc4))]⟩ (by decide) (by kernel_rfl) ?_
    refine SO.done ?_
    refine SC.ret ?_
    replace h := Option.some.inj h
    subst h
    exact ⟨[.agg (cTNode j0_oloc4)], by kernel_rfl, Wk.eq (by kernel_rfl), ⟨⟨.cells true [.slice .none 4 (eTToken.F o0_l), .int .i64 j0_oext0_1, .bool j0_oext0_2], by kernel_rfl, ObWk.cells (WkL.eq (by kernel_rfl))⟩, trivial⟩, by kernel_rfl⟩
  · intro j_j0 h
    refine SC.block ?_
    refine SC.seq ?_
    refine SC.region 4 rfl ?_
    refine SO.run c0 4 ⟨[(0, .ptr (.ext 0) 0), (2, .ptr (.loc 2) 0), (3, .ptr (.loc 3) 0), (4, .ptr (.loc 4) 0), (13, .bool (x1_1.Kind == 2))], [(.ext 0, .cells true [.slice .none 4 (eTToken.F o0_l), .int .i64 o0_at, .bool o0_bad]), (.loc 2, .cells true [.int .i64 0, .int .i64 0, .int .i64 0, .str [], .nils]), (.loc 3, .cells true (cTToken x1_1)), (.loc 4, .cells true [.int .i64 0, .int .i64 x1_1.At, .int .i64 0, .str [], .nils])]⟩ (by decide) (by kernel_rfl) ?_
    refine SO.done ?_
    refine SC.cond (x1_1.Kind == 2) (by kernel_rfl) (fun ht => ?_) (fun ht => ?_)
    · replace h := Opt.t h ht
      refine SC.seq ?_
      refine SC.region 8 rfl ?_
      refine SO.run c0 8 ⟨[(2, .ptr (.loc 2) 0), (3, .ptr (.loc 3) 0), (4, .ptr (.loc 4) 0)], [(.ext 0, .cells true [.slice .none 4 (eTToken.F o0_l), .int .i64 (IntKind.i64.wrap (o0_at + 1)), .bool o0_bad]), (.loc 2, .cells true [.int .i64 0, .int .i64 0, .int .i64 0, .str [], .nils]), (.loc 3, .cells true (cTToken x1_1)), (.loc 4, .cells true [.int .i64 0, .int .i64 x1_1.At, .int .i64 0, .str [], .nils])]⟩ (by decide) (by kernel_rfl) ?_
      refine SO.done ?_
      refine SC.drawT ?_
      refine DD.run c0 6 ⟨[(2, .ptr (.loc 2) 0), (3, .ptr (.loc 3) 0), (4, .ptr (.loc 4) 0), (24, .ptr (.loc 3) 2), (25, .int .i64 x1_1.N), (26, .ptr (.loc 4) 0), (27, .ptr (.loc 4) 2)], [(.ext 0, .cells true [.slice .none 4 (eTToken.F o0_l), .int .i64 (IntKind.i64.wrap (o0_at + 1)), .bool o0_bad]), (.loc 2, .cells true [.int .i64 0, .int .i64 0, .int .i64 0, .str [], .nils]), (.loc 3, .cells true (cTToken x1_1)), (.loc 4, .cells true [.int .i64 10, .int .i64 x1_1.At, .int .i64 x1_1.N, .str [], .nils])]⟩ (by decide) (by kernel_rfl) ?_
      refine DD.finW ⟨[(2, .ptr (.loc 2) 0), (4, .ptr (.loc 4) 0)], [(.ext 0, .cells true [.slice .none 4 (eTToken.F o0_l), .int .i64 (IntKind.i64.wrap (o0_at + 1)), .bool o0_bad]), (.loc 2, .cells true [.int .i64 0, .int .i64 0, .int .i64 0, .str [], .nils]), (.loc 4, .cells true [.int .i64 10, .int .i64 x1_1.At, .int .i64 x1_1.N, .str [], .nils])]⟩ ⟨[(2, .ptr (.loc 2) 0), (4, .ptr (.loc 4) 0)], [(.ext 0, .cells true [.slice .none 4 (eTToken.F o0_l), .int .i64 (IntKind.i64.wrap (o0_at + 1)), .bool o0_bad]), (.loc 2, .cells true [.int .i64 0, .int .i64 0, .int .i64 0, .str [], .nils]), (.loc 4, .cells true [.int .i64 10, .int .i64 x1_1.At, .int .i64 x1_1.N, .str [], .slice .none 5 (eTNode.F [])])]⟩ rfl (by kernel_rfl) (by kernel_rfl) ?_ ?_
      · exact ⟨⟨Wk.refl _, Wk.refl _, trivial⟩, ⟨⟨.cells true [.slice .none 4 (eTToken.F o0_l), .int .i64 (IntKind.i64.wrap (o0_at + 1)), .bool o0_bad], by kernel_rfl, ObWk.cells (WkL.refl _)⟩, ⟨.cells true [.int .i64 0, .int .i64 0, .int .i64 0, .str [], .nils], by kernel_rfl, ObWk.cells (WkL.refl _)⟩, ⟨.cells true [.int .i64 10, .int .i64 x1_1.At, .int .i64 x1_1.N, .str [], .nils], by kernel_rfl, ObWk.cells (⟨Wk.refl _, Wk.refl _, Wk.refl _, Wk.refl _, Wk.nils _ _, trivial⟩)⟩, trivial⟩, by kernel_rfl⟩
      exact ⟨((IntKind.i64.wrap (o0_at + 1)), o0_bad, (TNode.mk 10 x1_1.At x1_1.N [] [])), rfl, h⟩
    · replace h := Opt.f h ht
      refine SC.seq ?_
      refine SC.region 4 rfl ?_
      refine SO.run c0 4 ⟨[(0, .ptr (.ext 0) 0), (2, .ptr (.loc 2) 0), (3, .ptr (.loc 3) 0), (4, .ptr (.loc 4) 0), (28, .bool (x1_1.Kind == 1))], [(.ext 0, .cells true [.slice .none 4 (eTToken.F o0_l), .int .i64 o0_at, .bool o0_bad]), (.loc 2, .cells true [.int .i64 0, .int .i64 0, .int .i64 0, .str [], .nils]), (.loc 3, .cells true (cTToken x1_1)), (.loc 4, .cells true [.int .i64 0, .int .i64 x1_1.At, .int .i64 0, .str [], .nils])]⟩ (by decide) (by kernel_rfl) ?_
      refine SO.done ?_
      refine SC.cond (x1_1.Kind == 1) (by kernel_rfl) (fun ht => ?_) (fun ht => ?_)
      · replace h := Opt.t h ht
        refine SC.seq ?_
        refine SC.region 6 rfl ?_
        refine SO.run c0 1 ⟨[(0, .ptr (.ext 0) 0), (2, .ptr (.loc 2) 0), (4, .ptr (.loc 4) 0), (32, .ptr (.ext 0) 0)], [(.ext 0, .cells true [.slice .none 4 (eTToken.F o0_l), .int .i64 o0_at, .bool o0_bad]), (.loc 2, .cells true [.int .i64 0, .int .i64 0, .int .i64 0, .str [], .nils]), (.loc 4, .cells true [.int .i64 0, .int .i64 x1_1.At, .int .i64 0, .str [], .nils])]⟩ (by decide) (by kernel_rfl) ?_
        obtain ⟨⟨x8_1_0, x8_1_1, x8_1_2⟩, hx8_1, h⟩ := Opt.ex h
        refine SO.call ⟨75, [.ptr (.ext 0) 0], [(.ext 0, .cells true [.slice .none 4 (eTToken.F o0_l), .int .i64 o0_at, .bool o0_bad])], [.ext 0], some 33⟩ ⟨[(0, .ptr (.ext 0) 0), (2, .ptr (.loc 2) 0), (4, .ptr (.loc 4) 0), (33, .str x8_1_0)], [(.ext 0, .cells true [.slice .none 4 (eTToken.F o0_l), .int .i64 x8_1_1, .bool x8_1_2]), (.loc 2, .cells true [.int .i64 0, .int .i64 0, .int .i64 0, .str [], .nils]), (.loc 4, .cells true [.int .i64 0, .int .i64 x1_1.At, .int .i64 0, .str [], .nils])]⟩ (by decide) (by kernel_rfl) (ok_expr_reader_name k o0_l o0_at o0_bad (x8_1_0, x8_1_1, x8_1_2) hx8_1) (by kernel_rfl) ?_
        refine SO.run c0 6 ⟨[(0, .ptr (.ext 0) 0), (2, .ptr (.loc 2) 0), (4, .ptr (.loc 4) 0)], [(.ext 0, .cells true [.slice .none 4 (eTToken.F o0_l), .int .i64 x8_1_1, .bool x8_1_2]), (.loc 2, .cells true [.int .i64 0, .int .i64 0, .int .i64 0, .str [], .nils]), (.loc 4, .cells true [.int .i64 12, .int .i64 x1_1.At, .int .i64 0, .str x8_1_0, .nils])]⟩ (by decide) (by kernel_rfl) ?_
        refine SO.done ?_
        refine SC.seq ?_
        refine SC.region 2 rfl ?_
        refine SO.run c0 1 ⟨[(0, .ptr (.ext 0) 0), (2, .ptr (.loc 2) 0), (4, .ptr (.loc 4) 0), (36, .ptr (.ext 0) 0)], [(.ext 0, .cells true [.slice .none 4 (eTToken.F o0_l), .int .i64 x8_1_1, .bool x8_1_2]), (.loc 2, .cells true [.int .i64 0, .int .i64 0, .int .i64 0, .str [], .nils]), (.loc 4, .cells true [.int .i64 12, .int .i64 x1_1.At, .int .i64 0, .str x8_1_0, .nils])]⟩ (by decide) (by kernel_rfl) ?_
        obtain ⟨x9_1, hx9_1, h⟩ := Opt.ex h
        refine SO.call ⟨78, [.ptr (.ext 0) 0, .int .i64 4, .str [40]], [(.ext 0, .cells true [.slice .none 4 (eTToken.F o0_l), .int .i64 x8_1_1, .bool x8_1_2])], [.ext 0], some 37⟩ ⟨[(0, .ptr (.ext 0) 0), (2, .ptr (.loc 2) 0), (4, .ptr (.loc 4) 0), (37, .bool x9_1)], [(.ext 0, .cells true [.slice .none 4 (eTToken.F o0_l), .int .i64 x8_1_1, .bool x8_1_2]), (.loc 2, .cells true [.int .i64 0, .int .i64 0, .int .i64 0, .str [], .nils]), (.loc 4, .cells true [.int .i64 12, .int .i64 x1_1.At, .int .i64 0, .str x8_1_0, .nils])]⟩ (by decide) (by kernel_rfl) (ok_expr_reader_is k 4 [40] o0_l x8_1_1 x8_1_2 x9_1 hx9_1) (by kernel_rfl) ?_
        refine SO.done ?_
        refine SC.cond x9_1 (by kernel_rfl) (fun ht => ?_) (fun ht => ?_)
        · replace h := Opt.t h ht
          refine SC.region 6 rfl ?_
          refine SO.run c0 1 ⟨[(2, .ptr (.loc 2) 0), (4, .ptr (.loc 4) 0), (38, .ptr (.ext 0) 0)], [(.ext 0, .cells true [.slice .none 4 (eTToken.F o0_l), .int .i64 x8_1_1, .bool x8_1_2]), (.loc 2, .cells true [.int .i64 0, .int .i64 0, .int .i64 0, .str [], .nils]), (.loc 4, .cells true [.int .i64 12, .int .i64 x1_1.At, .int .i64 0, .str x8_1_0, .nils])]⟩ (by decide) (by kernel_rfl) ?_
          obtain ⟨⟨x10_1_0, x10_1_1, x10_1_2⟩, hx10_1, h⟩ := Opt.ex h
          refine SO.call ⟨46, [.ptr (.ext 0) 0], [(.ext 0, .cells true [.slice .none 4 (eTToken.F o0_l), .int .i64 x8_1_1, .bool x8_1_2])], [.ext 0], some 39⟩ ⟨[(2, .ptr (.loc 2) 0), (4, .ptr (.loc 4) 0), (39, .slice .none 5 (eTNode.F x10_1_0))], [(.ext 0, .cells true [.slice .none 4 (eTToken.F o0_l), .int .i64 x10_1_1, .bool x10_1_2]), (.loc 2, .cells true [.int .i64 0, .int .i64 0, .int .i64 0, .str [], .nils]), (.loc 4, .cells true [.int .i64 12, .int .i64 x1_1.At, .int .i64 0, .str x8_1_0, .nils])]⟩ (by decide) (by kernel_rfl) (ih_expr_reader_args o0_l x8_1_1 x8_1_2 (x10_1_0, x10_1_1, x10_1_2) hx10_1) (by kernel_rfl) ?_
          refine SO.run c0 6 ⟨[(2, .ptr (.loc 2) 0), (4, .ptr (.loc 4) 0)], [(.ext 0, .cells true [.slice .none 4 (eTToken.F o0_l), .int .i64 x10_1_1, .bool x10_1_2]), (.loc 2, .cells true [.int .i64 0, .int .i64 0, .int .i64 0, .str [], .nils]), (.loc 4, .cells true [.int .i64 17, .int .i64 x1_1.At, .int .i64 0, .str x8_1_0, .slice .none 5 (eTNode.F x10_1_0)])]⟩ (by decide) (by kernel_rfl) ?_
          refine SO.done ?_
          exact ⟨(x10_1_1, x10_1_2, (TNode.mk 17 x1_1.At 0 x8_1_0 x10_1_0)), rfl, h⟩
        · replace h := Opt.f h ht
          refine SC.weak (S1 := ⟨[(2, .ptr (.loc 2) 0), (4, .ptr (.loc 4) 0)], [(.ext 0, .cells true [.slice .none 4 (eTToken.F o0_l), .int .i64 x8_1_1, .bool x8_1_2]), (.loc 2, .cells true [.int .i64 0, .int .i64 0, .int .i64 0, .str [], .nils]), (.loc 4, .cells true [.int .i64 12, .int .i64 x1_1.At, .int .i64 0, .str x8_1_0, .slice .none 5 (eTNode.F [])])]⟩) ?_ ?_
          · exact ⟨⟨Wk.refl _, Wk.refl _, trivial⟩, ⟨⟨.cells true [.slice .none 4 (eTToken.F o0_l), .int .i64 x8_1_1, .bool x8_1_2], by kernel_rfl, ObWk.cells (WkL.refl _)⟩, ⟨.cells true [.int .i64 0, .int .i64 0, .int .i64 0, .str [], .nils], by kernel_rfl, ObWk.cells (WkL.refl _)⟩, ⟨.cells true [.int .i64 12, .int .i64 x1_1.At, .int .i64 0, .str x8_1_0, .nils], by kernel_rfl, ObWk.cells (⟨Wk.refl _, Wk.refl _, Wk.refl _, Wk.refl _, Wk.nils _ _, trivial⟩)⟩, trivial⟩, by kernel_rfl⟩
          refine SC.skip ?_
          exact ⟨(x8_1_1, x8_1_2, (TNode.mk 12 x1_1.At 0 x8_1_0 [])), rfl, h⟩
      · replace h := Opt.f h ht
        refine SC.seq ?_
        refine SC.region 3 rfl ?_
        refine SO.run c0 1 ⟨[(0, .ptr (.ext 0) 0), (2, .ptr (.loc 2) 0), (3, .ptr (.loc 3) 0), (4, .ptr (.loc 4) 0), (43, .ptr (.ext 0) 0)], [(.ext 0, .cells true [.slice .none 4 (eTToken.F o0_l), .int .i64 o0_at, .bool o0_bad]), (.loc 2, .cells true [.int .i64 0, .int .i64 0, .int .i64 0, .str [], .nils]), (.loc 3, .cells true (cTToken x1_1)), (.loc 4, .cells true [.int .i64 0, .int .i64 x1_1.At, .int .i64 0, .str [], .nils])]⟩ (by decide) (by kernel_rfl) ?_
        obtain ⟨⟨x11_1_0, x11_1_1⟩, hx11_1, h⟩ := Opt.ex h
        refine SO.call ⟨76, [.ptr (.ext 0) 0, .str [40]], [(.ext 0, .cells true [.slice .none 4 (eTToken.F o0_l), .int .i64 o0_at, .bool o0_bad])], [.ext 0], some 44⟩ ⟨[(0, .ptr (.ext 0) 0), (2, .ptr (.loc 2) 0), (3, .ptr (.loc 3) 0), (4, .ptr (.loc 4) 0), (44, .bool x11_1_0)], [(.ext 0, .cells true [.slice .none 4 (eTToken.F o0_l), .int .i64 x11_1_1, .bool o0_bad]), (.loc 2, .cells true [.int .i64 0, .int .i64 0, .int .i64 0, .str [], .nils]), (.loc 3, .cells true (cTToken x1_1)), (.loc 4, .cells true [.int .i64 0, .int .i64 x1_1.At, .int .i64 0, .str [], .nils])]⟩ (by decide) (by kernel_rfl) (ok_expr_reader_takes k [40] o0_l o0_at o0_bad (x11_1_0, x11_1_1) hx11_1) (by kernel_rfl) ?_
        refine SO.run c0 3 ⟨[(0, .ptr (.ext 0) 0), (2, .ptr (.loc 2) 0), (3, .ptr (.loc 3) 0), (4, .ptr (.loc 4) 0), (42, .bool x11_1_0)], [(.ext 0, .cells true [.slice .none 4 (eTToken.F o0_l), .int .i64 x11_1_1, .bool o0_bad]), (.loc 2, .cells true [.int .i64 0, .int .i64 0, .int .i64 0, .str [], .nils]), (.loc 3, .cells true (cTToken x1_1)), (.loc 4, .cells true [.int .i64 0, .int .i64 x1_1.At, .int .i64 0, .str [], .nils])]⟩ (by decide) (by kernel_rfl) ?_
        refine SO.done ?_
        refine SC.cond x11_1_0 (by kernel_rfl) (fun ht => ?_) (fun ht => ?_)
        · replace h := Opt.t h ht
          refine SC.seq ?_
          refine SC.region 3 rfl ?_
          refine SO.run c0 1 ⟨[(0, .ptr (.ext 0) 0), (2, .ptr (.loc 2) 0), (4, .ptr (.loc 4) 0), (45, .ptr (.ext 0) 0)], [(.ext 0, .cells true [.slice .none 4 (eTToken.F o0_l), .int .i64 x11_1_1, .bool o0_bad]), (.loc 2, .cells true [.int .i64 0, .int .i64 0, .int .i64 0, .str [], .nils]), (.loc 4, .cells true [.int .i64 0, .int .i64 x1_1.At, .int .i64 0, .str [], .nils])]⟩ (by decide) (by kernel_rfl) ?_
          obtain ⟨⟨x12_1_0, x12_1_1, x12_1_2⟩, hx12_1, h⟩ := Opt.ex h
          refine SO.call ⟨36, [.ptr (.ext 0) 0, .int .i64 1], [(.ext 0, .cells true [.slice .none 4 (eTToken.F o0_l), .int .i64 x11_1_1, .bool o0_bad])], [.ext 0], some 46⟩ ⟨[(0, .ptr (.ext 0) 0), (2, .ptr (.loc 2) 0), (4, .ptr (.loc 4) 0), (46, .agg (cTNode x12_1_0))], [(.ext 0, .cells true [.slice .none 4 (eTToken.F o0_l), .int .i64 x12_1_1, .bool x12_1_2]), (.loc 2, .cells true [.int .i64 0, .int .i64 0, .int .i64 0, .str [], .nils]), (.loc 4, .cells true [.int .i64 0, .int .i64 x1_1.At, .int .i64 0, .str [], .nils])]⟩ (by decide) (by kernel_rfl) (ih_expr_reader_level 1 o0_l x11_1_1 o0_bad (x12_1_0, x12_1_1, x12_1_2) hx12_1) (by kernel_rfl) ?_
          refine SO.run c0 3 ⟨[(0, .ptr (.ext 0) 0), (2, .ptr (.loc 2) 0), (4, .ptr (.loc 4) 0)], [(.ext 0, .cells true [.slice .none 4 (eTToken.F o0_l), .int .i64 x12_1_1, .bool x12_1_2]), (.loc 2, .cells true [.int .i64 0, .int .i64 0, .int .i64 0, .str [], .nils]), (.loc 4, .cells true (cTNode x12_1_0))]⟩ (by decide) (by kernel_rfl) ?_
          refine SO.done ?_
          refine SC.region 2 rfl ?_
          refine SO.run c0 1 ⟨[(2, .ptr (.loc 2) 0), (4, .ptr (.loc 4) 0), (47, .ptr (.ext 0) 0)], [(.ext 0, .cells true [.slice .none 4 (eTToken.F o0_l), .int .i64 x12_1_1, .bool x12_1_2]), (.loc 2, .cells true [.int .i64 0, .int .i64 0, .int .i64 0, .str [], .nils]), (.loc 4, .cells true (cTNode x12_1_0))]⟩ (by decide) (by kernel_rfl) ?_
          obtain ⟨⟨x13_1_0, x13_1_1⟩, hx13_1, h⟩ := Opt.ex h
          refine SO.call ⟨77, [.ptr (.ext 0) 0, .str [41]], [(.ext 0, .cells true [.slice .none 4 (eTToken.F o0_l), .int .i64 x12_1_1, .bool x12_1_2])], [.ext 0], some 48⟩ ⟨[(2, .ptr (.loc 2) 0), (4, .ptr (.loc 4) 0)], [(.ext 0, .cells true [.slice .none 4 (eTToken.F o0_l), .int .i64 x13_1_0, .bool x13_1_1]), (.loc 2, .cells true [.int .i64 0, .int .i64 0, .int .i64 0, .str [], .nils]), (.loc 4, .cells true (cTNode x12_1_0))]⟩ (by decide) (by kernel_rfl) (ok_expr_reader_wants k [41] o0_l x12_1_1 x12_1_2 (x13_1_0, x13_1_1) hx13_1) (by kernel_rfl) ?_
          refine SO.done ?_
          exact ⟨(x13_1_0, x13_1_1, x12_1_0), rfl, h⟩
        · replace h := Opt.f h ht
          refine SC.seq ?_
          refine SC.region 4 rfl ?_
          refine SO.run c0 4 ⟨[(0, .ptr (.ext 0) 0), (2, .ptr (.loc 2) 0), (3, .ptr (.loc 3) 0), (4, .ptr (.loc 4) 0), (49, .bool (x1_1.Kind == 3))], [(.ext 0, .cells true [.slice .none 4 (eTToken.F o0_l), .int .i64 x11_1_1, .bool o0_bad]), (.loc 2, .cells true [.int .i64 0, .int .i64 0, .int .i64 0, .str [], .nils]), (.loc 3, .cells true (cTToken x1_1)), (.loc 4, .cells true [.int .i64 0, .int .i64 x1_1.At, .int .i64 0, .str [], .nils])]⟩ (by decide) (by kernel_rfl) ?_
          refine SO.done ?_
          refine SC.cond (x1_1.Kind == 3) (by kernel_rfl) (fun ht => ?_) (fun ht => ?_)
          · replace h := Opt.t h ht
            refine SC.seq ?_
            refine SC.region 6 rfl ?_
            refine SO.run c0 4 ⟨[(2, .ptr (.loc 2) 0), (53, .ptr (.ext 0) 0), (54, .agg [.int .i64 0, .int .i64 x1_1.At, .int .i64 0, .str [], .nils]), (56, .str x1_1.Text)], [(.ext 0, .cells true [.slice .none 4 (eTToken.F o0_l), .int .i64 x11_1_1, .bool o0_bad]), (.loc 2, .cells true [.int .i64 0, .int .i64 0, .int .i64 0, .str [], .nils])]⟩ (by decide) (by kernel_rfl) ?_
            obtain ⟨⟨x15_4_0, x15_4_1, x15_4_2⟩, hx15_4, h⟩ := Opt.ex h
            refine SO.call ⟨123, [.ptr (.ext 0) 0, .agg [.int .i64 0, .int .i64 x1_1.At, .int .i64 0, .str [], .nils], .str x1_1.Text], [(.ext 0, .cells true [.slice .none 4 (eTToken.F o0_l), .int .i64 x11_1_1, .bool o0_bad])], [.ext 0], some 57⟩ ⟨[(2, .ptr (.loc 2) 0), (57, .agg (cTNode x15_4_0))], [(.ext 0, .cells true [.slice .none 4 (eTToken.F o0_l), .int .i64 x15_4_1, .bool x15_4_2]), (.loc 2, .cells true [.int .i64 0, .int .i64 0, .int .i64 0, .str [], .nils])]⟩ (by decide) (by kernel_rfl) (SF.weak (ih_expr_reader_word (TNode.mk 0 x1_1.At 0 [] []) x1_1.Text o0_l x11_1_1 o0_bad (x15_4_0, x15_4_1, x15_4_2) hx15_4) (⟨Wk.refl _, Wk.agg (⟨Wk.refl _, Wk.refl _, Wk.refl _, Wk.refl _, Wk.nils _ _, trivial⟩), Wk.refl _, trivial⟩) ⟨⟨.cells true [.slice .none 4 (eTToken.F o0_l), .int .i64 x11_1_1, .bool o0_bad], by kernel_rfl, ObWk.cells (WkL.refl _)⟩, trivial⟩ (by kernel_rfl)) (by kernel_rfl) ?_
            refine SO.run c0 6 ⟨[(2, .ptr (.loc 2) 0)], [(.ext 0, .cells true [.slice .none 4 (eTToken.F o0_l), .int .i64 x15_4_1, .bool x15_4_2]), (.loc 2, .cells true (cTNode x15_4_0))]⟩ (by decide) (by kernel_rfl) ?_
            refine SO.done ?_
            refine SC.ret ?_
            replace h := Option.some.inj h
            subst h
            exact ⟨[.agg (cTNode x15_4_0)], by kernel_rfl, Wk.eq (by kernel_rfl), ⟨⟨.cells true [.slice .none 4 (eTToken.F o0_l), .int .i64 x15_4_1, .bool x15_4_2], by kernel_rfl, ObWk.cells (WkL.eq (by kernel_rfl))⟩, trivial⟩, by kernel_rfl⟩
          · replace h := Opt.f h ht
            refine SC.region 4 rfl ?_
            refine SO.run c0 4 ⟨[(2, .ptr (.loc 2) 0), (4, .ptr (.loc 4) 0)], [(.ext 0, .cells true [.slice .none 4 (eTToken.F o0_l), .int .i64 x11_1_1, .bool true]), (.loc 2, .cells true [.int .i64 0, .int .i64 0, .int .i64 0, .str [], .nils]), (.loc 4, .cells true [.int .i64 0, .int .i64 x1_1.At, .int .i64 0, .str [], .nils])]⟩ (by decide) (by kernel_rfl) ?_
            refine SO.weak (S1 := ⟨[(2, .ptr (.loc 2) 0), (4, .ptr (.loc 4) 0)], [(.ext 0, .cells true [.slice .none 4 (eTToken.F o0_l), .int .i64 x11_1_1, .bool true]), (.loc 2, .cells true [.int .i64 0, .int .i64 0, .int .i64 0, .str [], .nils]), (.loc 4, .cells true [.int .i64 0, .int .i64 x1_1.At, .int .i64 0, .str [], .slice .none 5 (eTNode.F [])])]⟩) ?_ ?_
            · exact ⟨⟨Wk.refl _, Wk.refl _, trivial⟩, ⟨⟨.cells true [.slice .none 4 (eTToken.F o0_l), .int .i64 x11_1_1, .bool true], by kernel_rfl, ObWk.cells (WkL.refl _)⟩, ⟨.cells true [.int .i64 0, .int .i64 0, .int .i64 0, .str [], .nils], by kernel_rfl, ObWk.cells (WkL.refl _)⟩, ⟨.cells true [.int .i64 0, .int .i64 x1_1.At, .int .i64 0, .str [], .nils], by kernel_rfl, ObWk.cells (⟨Wk.refl _, Wk.refl _, Wk.refl _, Wk.refl _, Wk.nils _ _, trivial⟩)⟩, trivial⟩, by kernel_rfl⟩
            refine SO.done ?_
            exact ⟨(x11_1_1, true, (TNode.mk 0 x1_1.At 0 [] [])), rfl, h⟩
theorem st_expr_reader_part (k : Nat) (ih_expr_reader_first : C_expr_reader_first k) (ih_expr_reader_level : C_expr_reader_level k) : C_expr_reader_part (k + 1) := by
  intro o0_l o0_at o0_bad r h
  rw [expr_reader_part] at h
  refine SF.intro Tryd.func96 rfl Tryd.ntmps96 rfl (Nat.le_of_ble_eq_true rfl) (by decide) ?_
  refine SC.seq ?_
  refine SC.region 1 rfl ?_
  refine SO.run c0 1 ⟨[(0, .ptr (.ext 0) 0), (2, .ptr (.loc 2) 0)], [(.ext 0, .cells true [.slice .none 4 (eTToken.F o0_l), .int .i64 o0_at, .bool o0_bad]), (.loc 2, .cells true [.int .i64 0, .int .i64 0, .int .i64 0, .str [], .nils])]⟩ (by decide) (by kernel_rfl) ?_
  refine SO.done ?_
  refine SC.seq ?_
  refine SC.region 4 rfl ?_
  refine SO.run c0 1 ⟨[(0, .ptr (.ext 0) 0), (2, .ptr (.loc 2) 0), (5, .ptr (.ext 0) 0)], [(.ext 0, .cells true [.slice .none 4 (eTToken.F o0_l), .int .i64 o0_at, .bool o0_bad]), (.loc 2, .cells true [.int .i64 0, .int .i64 0, .int .i64 0, .str [], .nils])]⟩ (by decide) (by kernel_rfl) ?_
  obtain ⟨⟨x1_1_0, x1_1_1, x1_1_2⟩, hx1_1, h⟩ := Opt.ex h
  refine SO.call ⟨111, [.ptr (.ext 0) 0], [(.ext 0, .cells true [.slice .none 4 (eTToken.F o0_l), .int .i64 o0_at, .bool o0_bad])], [.ext 0], some 6⟩ ⟨[(0, .ptr (.ext 0) 0), (2, .ptr (.loc 2) 0), (6, .agg (cTNode x1_1_0))], [(.ext 0, .cells true [.slice .none 4 (eTToken.F o0_l), .int .i64 x1_1_1, .bool x1_1_2]), (.loc 2, .cells true [.int .i64 0, .int .i64 0, .int .i64 0, .str [], .nils])]⟩ (by decide) (by kernel_rfl) (ih_expr_reader_first o0_l o0_at o0_bad (x1_1_0, x1_1_1, x1_1_2) hx1_1) (by kernel_rfl) ?_
  refine SO.run c0 4 ⟨[(0, .ptr (.ext 0) 0), (2, .ptr (.loc 2) 0), (3, .ptr (.loc 3) 0)], [(.ext 0, .cells true [.slice .none 4 (eTToken.F o0_l), .int .i64 x1_1_1, .bool x1_1_2]), (.loc 2, .cells true [.int .i64 0, .int .i64 0, .int .i64 0, .str [], .nils]), (.loc 3, .cells true (cTNode x1_1_0))]⟩ (by decide) (by kernel_rfl) ?_
  refine SO.done ?_
  apply SC.seqJ (r := r) h (fun v : Int × Bool × TNode => ⟨[(2, .ptr (.loc 2) 0), (3, .ptr (.loc 3) 0)], [(.ext 0, .cells true [.slice .none 4 (eTToken.F o0_l), .int .i64 v.1, .bool v.2.1]), (.loc 2, .cells true [.int .i64 0, .int .i64 0, .int .i64 0, .str [], .nils]), (.loc 3, .cells true (cTNode v.2.2))]⟩)
  · rintro ⟨j0_oext0_1, j0_oext0_2, j0_oloc3⟩ r h
    refine SC.eqS (S1 := ⟨[(2, .ptr (.loc 2) 0), (3, .ptr (.loc 3) 0)], [(.ext 0, .cells true [.slice .none 4 (eTToken.F o0_l), .int .i64 j0_oext0_1, .bool j0_oext0_2]), (.loc 2, .cells true [.int .i64 0, .int .i64 0, .int .i64 0, .str [], .nils]), (.loc 3, .cells true (cTNode j0_oloc3))]⟩) rfl ?_
    refine SC.seq ?_
    refine SC.region 2 rfl ?_
    refine SO.run c0 2 ⟨[(2, .ptr (.loc 2) 0)], [(.ext 0, .cells true [.slice .none 4 (eTToken.F o0_l), .int .i64 j0_oext0_1, .bool j0_oext0_2]), (.loc 2, .cells true (cTNode j0_oloc3))]⟩ (by decide) (by kernel_rfl) ?_
    refine SO.done ?_
    refine SC.ret ?_
    replace h := Option.some.inj h
    subst h
    exact ⟨[.agg (cTNode j0_oloc3)], by kernel_rfl, Wk.eq (by kernel_rfl), ⟨⟨.cells true [.slice .none 4 (eTToken.F o0_l), .int .i64 j0_oext0_1, .bool j0_oext0_2], by kernel_rfl, ObWk.cells (WkL.eq (by kernel_rfl))⟩, trivial⟩, by kernel_rfl⟩
  · intro j_j0 h
    refine SC.block ?_
    apply SC.loopJ (r := r) h (fun v : Int × Bool × TNode => ⟨[(0, .ptr (.ext 0) 0), (2, .ptr (.loc 2) 0), (3, .ptr (.loc 3) 0)], [(.ext 0, .cells true [.slice .none 4 (eTToken.F o0_l), .int .i64 v.1, .bool v.2.1]), (.loc 2, .cells true [.int .i64 0, .int .i64 0, .int .i64 0, .str [], .nils]), (.loc 3, .cells true (cTNode v.2.2))]⟩)
    rintro ⟨l1_oext0_1, l1_oext0_2, l1_oloc3⟩ r h
    refine SC.eqS (S1 := ⟨[(0, .ptr (.ext 0) 0), (2, .ptr (.loc 2) 0), (3, .ptr (.loc 3) 0)], [(.ext 0, .cells true [.slice .none 4 (eTToken.F o0_l), .int .i64 l1_oext0_1, .bool l1_oext0_2]), (.loc 2, .cells true [.int .i64 0, .int .i64 0, .int .i64 0, .str [], .nils]), (.loc 3, .cells true (cTNode l1_oloc3))]⟩) rfl ?_
    refine SC.seq ?_
    refine SC.seq ?_
    refine SC.region 5 rfl ?_
    refine SO.run c0 5 ⟨[(0, .ptr (.ext 0) 0), (2, .ptr (.loc 2) 0), (3, .ptr (.loc 3) 0), (11, .bool (!l1_oext0_2))], [(.ext 0, .cells true [.slice .none 4 (eTToken.F o0_l), .int .i64 l1_oext0_1, .bool l1_oext0_2]), (.loc 2, .cells true [.int .i64 0, .int .i64 0, .int .i64 0, .str [], .nils]), (.loc 3, .cells true (cTNode l1_oloc3))]⟩ (by decide) (by kernel_rfl) ?_
    refine SO.done ?_
    refine SC.cond (!l1_oext0_2) (by kernel_rfl) (fun ht => ?_) (fun ht => ?_)
    · replace h := Opt.t h ht
      refine SC.skip ?_
      refine SC.block ?_
      refine SC.seq ?_
      refine SC.region 4 rfl ?_
      refine SO.run c0 1 ⟨[(0, .ptr (.ext 0) 0), (2, .ptr (.loc 2) 0), (3, .ptr (.loc 3) 0), (12, .ptr (.ext 0) 0)], [(.ext 0, .cells true [.slice .none 4 (eTToken.F o0_l), .int .i64 l1_oext0_1, .bool l1_oext0_2]), (.loc 2, .cells true [.int .i64 0, .int .i64 0, .int .i64 0, .str [], .nils]), (.loc 3, .cells true (cTNode l1_oloc3))]⟩ (by decide) (by kernel_rfl) ?_
      obtain ⟨x3_1, hx3_1, h⟩ := Opt.ex h
      refine SO.call ⟨72, [.ptr (.ext 0) 0], [(.ext 0, .cells true [.slice .none 4 (eTToken.F o0_l), .int .i64 l1_oext0_1, .bool l1_oext0_2])], [.ext 0], some 13⟩ ⟨[(0, .ptr (.ext 0) 0), (2, .ptr (.loc 2) 0), (3, .ptr (.loc 3) 0), (13, .agg (cTToken x3_1))], [(.ext 0, .cells true [.slice .none 4 (eTToken.F o0_l), .int .i64 l1_oext0_1, .bool l1_oext0_2]), (.loc 2, .cells true [.int .i64 0, .int .i64 0, .int .i64 0, .str [], .nils]), (.loc 3, .cells true (cTNode l1_oloc3))]⟩ (by decide) (by kernel_rfl) (ok_expr_reader_look k o0_l l1_oext0_1 l1_oext0_2 x3_1 hx3_1) (by kernel_rfl) ?_
      refine SO.run c0 4 ⟨[(0, .ptr (.ext 0) 0), (2, .ptr (.loc 2) 0), (3, .ptr (.loc 3) 0), (4, .int .i64 x3_1.At)], [(.ext 0, .cells true [.slice .none 4 (eTToken.F o0_l), .int .i64 l1_oext0_1, .bool l1_oext0_2]), (.loc 2, .cells true [.int .i64 0, .int .i64 0, .int .i64 0, .str [], .nils]), (.loc 3, .cells true (cTNode l1_oloc3))]⟩ (by decide) (by kernel_rfl) ?_
      refine SO.done ?_
      refine SC.block ?_
      refine SC.seq ?_
      refine SC.region 3 rfl ?_
      refine SO.run c0 1 ⟨[(0, .ptr (.ext 0) 0), (2, .ptr (.loc 2) 0), (3, .ptr (.loc 3) 0), (4, .int .i64 x3_1.At), (17, .ptr (.ext 0) 0)], [(.ext 0, .cells true [.slice .none 4 (eTToken.F o0_l), .int .i64 l1_oext0_1, .bool l1_oext0_2]), (.loc 2, .cells true [.int .i64 0, .int .i64 0, .int .i64 0, .str [], .nils]), (.loc 3, .cells true (cTNode l1_oloc3))]⟩ (by decide) (by kernel_rfl) ?_
      obtain ⟨⟨x5_1_0, x5_1_1⟩, hx5_1, h⟩ := Opt.ex h
      refine SO.call ⟨76, [.ptr (.ext 0) 0, .str [91]], [(.ext 0, .cells true [.slice .none 4 (eTToken.F o0_l), .int .i64 l1_oext0_1, .bool l1_oext0_2])], [.ext 0], some 18⟩ ⟨[(0, .ptr (.ext 0) 0), (2, .ptr (.loc 2) 0), (3, .ptr (.loc 3) 0), (4, .int .i64 x3_1.At), (18, .bool x5_1_0)], [(.ext 0, .cells true [.slice .none 4 (eTToken.F o0_l), .int .i64 x5_1_1, .bool l1_oext0_2]), (.loc 2, .cells true [.int .i64 0, .int .i64 0, .int .i64 0, .str [], .nils]), (.loc 3, .cells true (cTNode l1_oloc3))]⟩ (by decide) (by kernel_rfl) (ok_expr_reader_takes k [91] o0_l l1_oext0_1 l1_oext0_2 (x5_1_0, x5_1_1) hx5_1) (by kernel_rfl) ?_
      refine SO.run c0 3 ⟨[(0, .ptr (.ext 0) 0), (2, .ptr (.loc 2) 0), (3, .ptr (.loc 3) 0), (4, .int .i64 x3_1.At), (16, .bool x5_1_0)], [(.ext 0, .cells true [.slice .none 4 (eTToken.F o0_l), .int .i64 x5_1_1, .bool l1_oext0_2]), (.loc 2, .cells true [.int .i64 0, .int .i64 0, .int .i64 0, .str [], .nils]), (.loc 3, .cells true (cTNode l1_oloc3))]⟩ (by decide) (by kernel_rfl) ?_
      refine SO.done ?_
      refine SC.cond x5_1_0 (by kernel_rfl) (fun ht => ?_) (fun ht => ?_)
      · replace h := Opt.t h ht
        refine SC.seq ?_
        refine SC.drawT ?_
        refine DD.run c0 3 ⟨[(0, .ptr (.ext 0) 0), (2, .ptr (.loc 2) 0), (3, .ptr (.loc 3) 0), (4, .int .i64 x3_1.At), (16, .bool x5_1_0), (19, .int .i64 x3_1.At), (20, .agg (cTNode l1_oloc3)), (21, .ptr (.ext 0) 0)], [(.ext 0, .cells true [.slice .none 4 (eTToken.F o0_l), .int .i64 x5_1_1, .bool l1_oext0_2]), (.loc 2, .cells true [.int .i64 0, .int .i64 0, .int .i64 0, .str [], .nils]), (.loc 3, .cells true (cTNode l1_oloc3))]⟩ (by decide) (by kernel_rfl) ?_
        obtain ⟨⟨x6_3_0, x6_3_1, x6_3_2⟩, hx6_3, h⟩ := Opt.ex h
        refine DD.callT ⟨36, [.ptr (.ext 0) 0, .int .i64 1], [(.ext 0, .cells true [.slice .none 4 (eTToken.F o0_l), .int .i64 x5_1_1, .bool l1_oext0_2])], [.ext 0], some 22⟩ ⟨[(0, .ptr (.ext 0) 0), (2, .ptr (.loc 2) 0), (3, .ptr (.loc 3) 0), (4, .int .i64 x3_1.At), (16, .bool x5_1_0), (19, .int .i64 x3_1.At), (20, .agg (cTNode l1_oloc3)), (21, .ptr (.ext 0) 0), (22, .agg (cTNode x6_3_0))], [(.ext 0, .cells true [.slice .none 4 (eTToken.F o0_l), .int .i64 x6_3_1, .bool x6_3_2]), (.loc 2, .cells true [.int .i64 0, .int .i64 0, .int .i64 0, .str [], .nils]), (.loc 3, .cells true (cTNode l1_oloc3))]⟩ (by kernel_rfl) (ih_expr_reader_level 1 o0_l x5_1_1 l1_oext0_2 (x6_3_0, x6_3_1, x6_3_2) hx6_3) (by kernel_rfl) ?_
        refine DD.op c0 { v := .slice .full 5 (eTNode.F [l1_oloc3, x6_3_0]) } ⟨[(0, .ptr (.ext 0) 0), (2, .ptr (.loc 2) 0), (3, .ptr (.loc 3) 0), (4, .int .i64 x3_1.At), (16, .bool x5_1_0), (19, .int .i64 x3_1.At), (20, .agg (cTNode l1_oloc3)), (21, .ptr (.ext 0) 0), (22, .agg (cTNode x6_3_0)), (23, .slice .full 5 (eTNode.F [l1_oloc3, x6_3_0]))], [(.ext 0, .cells true [.slice .none 4 (eTToken.F o0_l), .int .i64 x6_3_1, .bool x6_3_2]), (.loc 2, .cells true [.int .i64 0, .int .i64 0, .int .i64 0, .str [], .nils]), (.loc 3, .cells true (cTNode l1_oloc3))]⟩ ((show opR _ _ _ _ _ _ = some { v := .slice .full 5 [.agg (cTNode l1_oloc3), .agg (cTNode x6_3_0)] } from by kernel_rfl).trans (by simp only [FTNode, eTNode_F, fTNode_eq])) (by kernel_rfl) ?_
        refine DD.run c0 7 ⟨[(0, .ptr (.ext 0) 0), (2, .ptr (.loc 2) 0), (3, .ptr (.loc 3) 0), (4, .int .i64 x3_1.At), (16, .bool x5_1_0), (19, .int .i64 x3_1.At), (20, .agg (cTNode l1_oloc3)), (21, .ptr (.ext 0) 0), (22, .agg (cTNode x6_3_0)), (23, .slice .full 5 (eTNode.F [l1_oloc3, x6_3_0])), (24, .agg [.int .i64 13, .int .i64 x3_1.At, .int .i64 0, .str [], .slice .full 5 (eTNode.F [l1_oloc3, x6_3_0])])], [(.ext 0, .cells true [.slice .none 4 (eTToken.F o0_l), .int .i64 x6_3_1, .bool x6_3_2]), (.loc 2, .cells true [.int .i64 0, .int .i64 0, .int .i64 0, .str [], .nils]), (.loc 3, .cells true [.int .i64 13, .int .i64 x3_1.At, .int .i64 0, .str [], .slice .full 5 (eTNode.F [l1_oloc3, x6_3_0])])]⟩ (by decide) (by kernel_rfl) ?_
        refine DD.fin ⟨[(0, .ptr (.ext 0) 0), (2, .ptr (.loc 2) 0), (3, .ptr (.loc 3) 0)], [(.ext 0, .cells true [.slice .none 4 (eTToken.F o0_l), .int .i64 x6_3_1, .bool x6_3_2]), (.loc 2, .cells true [.int .i64 0, .int .i64 0, .int .i64 0, .str [], .nils]), (.loc 3, .cells true [.int .i64 13, .int .i64 x3_1.At, .int .i64 0, .str [], .slice .full 5 (eTNode.F [l1_oloc3, x6_3_0])])]⟩ rfl (by kernel_rfl) (by kernel_rfl) ?_
        refine SC.region 2 rfl ?_
        refine SO.run c0 1 ⟨[(0, .ptr (.ext 0) 0), (2, .ptr (.loc 2) 0), (3, .ptr (.loc 3) 0), (25, .ptr (.ext 0) 0)], [(.ext 0, .cells true [.slice .none 4 (eTToken.F o0_l), .int .i64 x6_3_1, .bool x6_3_2]), (.loc 2, .cells true [.int .i64 0, .int .i64 0, .int .i64 0, .str [], .nils]), (.loc 3, .cells true [.int .i64 13, .int .i64 x3_1.At, .int .i64 0, .str [], .slice .full 5 (eTNode.F [l1_oloc3, x6_3_0])])]⟩ (by decide) (by kernel_rfl) ?_
        obtain ⟨⟨x7_1_0, x7_1_1⟩, hx7_1, h⟩ := Opt.ex h
        refine SO.call ⟨77, [.ptr (.ext 0) 0, .str [93]], [(.ext 0, .cells true [.slice .none 4 (eTToken.F o0_l), .int .i64 x6_3_1, .bool x6_3_2])], [.ext 0], some 26⟩ ⟨[(0, .ptr (.ext 0) 0), (2, .ptr (.loc 2) 0), (3, .ptr (.loc 3) 0)], [(.ext 0, .cells true [.slice .none 4 (eTToken.F o0_l), .int .i64 x7_1_0, .bool x7_1_1]), (.loc 2, .cells true [.int .i64 0, .int .i64 0, .int .i64 0, .str [], .nils]), (.loc 3, .cells true [.int .i64 13, .int .i64 x3_1.At, .int .i64 0, .str [], .slice .full 5 (eTNode.F [l1_oloc3, x6_3_0])])]⟩ (by decide) (by kernel_rfl) (ok_expr_reader_wants k [93] o0_l x6_3_1 x6_3_2 (x7_1_0, x7_1_1) hx7_1) (by kernel_rfl) ?_
        refine SO.weak (S1 := ⟨[(0, .ptr (.ext 0) 0), (2, .ptr (.loc 2) 0), (3, .ptr (.loc 3) 0)], [(.ext 0, .cells true [.slice .none 4 (eTToken.F o0_l), .int .i64 x7_1_0, .bool x7_1_1]), (.loc 2, .cells true [.int .i64 0, .int .i64 0, .int .i64 0, .str [], .nils]), (.loc 3, .cells true [.int .i64 13, .int .i64 x3_1.At, .int .i64 0, .str [], .slice .none 5 (eTNode.F [l1_oloc3, x6_3_0])])]⟩) ?_ ?_
        · exact ⟨⟨Wk.refl _, Wk.refl _, Wk.refl _, trivial⟩, ⟨⟨.cells true [.slice .none 4 (eTToken.F o0_l), .int .i64 x7_1_0, .bool x7_1_1], by kernel_rfl, ObWk.cells (WkL.refl _)⟩, ⟨.cells true [.int .i64 0, .int .i64 0, .int .i64 0, .str [], .nils], by kernel_rfl, ObWk.cells (WkL.refl _)⟩, ⟨.cells true [.int .i64 13, .int .i64 x3_1.At, .int .i64 0, .str [], .slice .full 5 (eTNode.F [l1_oloc3, x6_3_0])], by kernel_rfl, ObWk.cells (⟨Wk.refl _, Wk.refl _, Wk.refl _, Wk.refl _, Wk.tok _ _ _, trivial⟩)⟩, trivial⟩, by kernel_rfl⟩
        refine SO.done ?_
        replace h := Option.some.inj h
        subst h
        exact ⟨(x7_1_0, x7_1_1, (TNode.mk 13 x3_1.At 0 [] [l1_oloc3, x6_3_0])), rfl, rfl⟩
      · replace h := Opt.f h ht
        refine SC.seq ?_
        refine SC.region 3 rfl ?_
        refine SO.run c0 1 ⟨[(0, .ptr (.ext 0) 0), (2, .ptr (.loc 2) 0), (3, .ptr (.loc 3) 0), (4, .int .i64 x3_1.At), (28, .ptr (.ext 0) 0)], [(.ext 0, .cells true [.slice .none 4 (eTToken.F o0_l), .int .i64 x5_1_1, .bool l1_oext0_2]), (.loc 2, .cells true [.int .i64 0, .int .i64 0, .int .i64 0, .str [], .nils]), (.loc 3, .cells true (cTNode l1_oloc3))]⟩ (by decide) (by kernel_rfl) ?_
        obtain ⟨⟨x8_1_0, x8_1_1⟩, hx8_1, h⟩ := Opt.ex h
        refine SO.call ⟨76, [.ptr (.ext 0) 0, .str [46]], [(.ext 0, .cells true [.slice .none 4 (eTToken.F o0_l), .int .i64 x5_1_1, .bool l1_oext0_2])], [.ext 0], some 29⟩ ⟨[(0, .ptr (.ext 0) 0), (2, .ptr (.loc 2) 0), (3, .ptr (.loc 3) 0), (4, .int .i64 x3_1.At), (29, .bool x8_1_0)], [(.ext 0, .cells true [.slice .none 4 (eTToken.F o0_l), .int .i64 x8_1_1, .bool l1_oext0_2]), (.loc 2, .cells true [.int .i64 0, .int .i64 0, .int .i64 0, .str [], .nils]), (.loc 3, .cells true (cTNode l1_oloc3))]⟩ (by decide) (by kernel_rfl) (ok_expr_reader_takes k [46] o0_l x5_1_1 l1_oext0_2 (x8_1_0, x8_1_1) hx8_1) (by kernel_rfl) ?_
        refine SO.run c0 3 ⟨[(0, .ptr (.ext 0) 0), (2, .ptr (.loc 2) 0), (3, .ptr (.loc 3) 0), (4, .int .i64 x3_1.At), (27, .bool x8_1_0)], [(.ext 0, .cells true [.slice .none 4 (eTToken.F o0_l), .int .i64 x8_1_1, .bool l1_oext0_2]), (.loc 2, .cells true [.int .i64 0, .int .i64 0, .int .i64 0, .str [], .nils]), (.loc 3, .cells true (cTNode l1_oloc3))]⟩ (by decide) (by kernel_rfl) ?_
        refine SO.done ?_
        refine SC.cond x8_1_0 (by kernel_rfl) (fun ht => ?_) (fun ht => ?_)
        · replace h := Opt.t h ht
          refine SC.drawT ?_
          refine DD.run c0 2 ⟨[(0, .ptr (.ext 0) 0), (2, .ptr (.loc 2) 0), (3, .ptr (.loc 3) 0), (4, .int .i64 x3_1.At), (27, .bool x8_1_0), (30, .int .i64 x3_1.At), (31, .ptr (.ext 0) 0)], [(.ext 0, .cells true [.slice .none 4 (eTToken.F o0_l), .int .i64 x8_1_1, .bool l1_oext0_2]), (.loc 2, .cells true [.int .i64 0, .int .i64 0, .int .i64 0, .str [], .nils]), (.loc 3, .cells true (cTNode l1_oloc3))]⟩ (by decide) (by kernel_rfl) ?_
          obtain ⟨⟨x9_2_0, x9_2_1, x9_2_2⟩, hx9_2, h⟩ := Opt.ex h
          refine DD.callT ⟨75, [.ptr (.ext 0) 0], [(.ext 0, .cells true [.slice .none 4 (eTToken.F o0_l), .int .i64 x8_1_1, .bool l1_oext0_2])], [.ext 0], some 32⟩ ⟨[(0, .ptr (.ext 0) 0), (2, .ptr (.loc 2) 0), (3, .ptr (.loc 3) 0), (4, .int .i64 x3_1.At), (27, .bool x8_1_0), (30, .int .i64 x3_1.At), (31, .ptr (.ext 0) 0), (32, .str x9_2_0)], [(.ext 0, .cells true [.slice .none 4 (eTToken.F o0_l), .int .i64 x9_2_1, .bool x9_2_2]), (.loc 2, .cells true [.int .i64 0, .int .i64 0, .int .i64 0, .str [], .nils]), (.loc 3, .cells true (cTNode l1_oloc3))]⟩ (by kernel_rfl) (ok_expr_reader_name k o0_l x8_1_1 l1_oext0_2 (x9_2_0, x9_2_1, x9_2_2) hx9_2) (by kernel_rfl) ?_
          refine DD.run c0 4 ⟨[(0, .ptr (.ext 0) 0), (2, .ptr (.loc 2) 0), (3, .ptr (.loc 3) 0), (4, .int .i64 x3_1.At), (27, .bool x8_1_0), (30, .int .i64 x3_1.At), (31, .ptr (.ext 0) 0), (32, .str x9_2_0), (33, .agg (cTNode l1_oloc3))], [(.ext 0, .cells true [.slice .none 4 (eTToken.F o0_l), .int .i64 x9_2_1, .bool x9_2_2]), (.loc 2, .cells true [.int .i64 0, .int .i64 0, .int .i64 0, .str [], .nils]), (.loc 3, .cells true (cTNode l1_oloc3))]⟩ (by decide) (by kernel_rfl) ?_
          refine DD.op c0 { v := .slice .full 5 (eTNode.F [l1_oloc3]) } ⟨[(0, .ptr (.ext 0) 0), (2, .ptr (.loc 2) 0), (3, .ptr (.loc 3) 0), (4, .int .i64 x3_1.At), (27, .bool x8_1_0), (30, .int .i64 x3_1.At), (31, .ptr (.ext 0) 0), (32, .str x9_2_0), (33, .agg (cTNode l1_oloc3)), (34, .slice .full 5 (eTNode.F [l1_oloc3]))], [(.ext 0, .cells true [.slice .none 4 (eTToken.F o0_l), .int .i64 x9_2_1, .bool x9_2_2]), (.loc 2, .cells true [.int .i64 0, .int .i64 0, .int .i64 0, .str [], .nils]), (.loc 3, .cells true (cTNode l1_oloc3))]⟩ ((show opR _ _ _ _ _ _ = some { v := .slice .full 5 [.agg (cTNode l1_oloc3)] } from by kernel_rfl).trans (by simp only [FTNode, eTNode_F, fTNode_eq])) (by kernel_rfl) ?_
          refine DD.run c0 7 ⟨[(0, .ptr (.ext 0) 0), (2, .ptr (.loc 2) 0), (3, .ptr (.loc 3) 0), (4, .int .i64 x3_1.At), (27, .bool x8_1_0), (30, .int .i64 x3_1.At), (31, .ptr (.ext 0) 0), (32, .str x9_2_0), (33, .agg (cTNode l1_oloc3)), (34, .slice .full 5 (eTNode.F [l1_oloc3])), (35, .agg [.int .i64 14, .int .i64 x3_1.At, .int .i64 0, .str x9_2_0, .slice .full 5 (eTNode.F [l1_oloc3])])], [(.ext 0, .cells true [.slice .none 4 (eTToken.F o0_l), .int .i64 x9_2_1, .bool x9_2_2]), (.loc 2, .cells true [.int .i64 0, .int .i64 0, .int .i64 0, .str [], .nils]), (.loc 3, .cells true [.int .i64 14, .int .i64 x3_1.At, .int .i64 0, .str x9_2_0, .slice .full 5 (eTNode.F [l1_oloc3])])]⟩ (by decide) (by kernel_rfl) ?_
          refine DD.finW ⟨[(0, .ptr (.ext 0) 0), (2, .ptr (.loc 2) 0), (3, .ptr (.loc 3) 0)], [(.ext 0, .cells true [.slice .none 4 (eTToken.F o0_l), .int .i64 x9_2_1, .bool x9_2_2]), (.loc 2, .cells true [.int .i64 0, .int .i64 0, .int .i64 0, .str [], .nils]), (.loc 3, .cells true [.int .i64 14, .int .i64 x3_1.At, .int .i64 0, .str x9_2_0, .slice .full 5 (eTNode.F [l1_oloc3])])]⟩ ⟨[(0, .ptr (.ext 0) 0), (2, .ptr (.loc 2) 0), (3, .ptr (.loc 3) 0)], [(.ext 0, .cells true [.slice .none 4 (eTToken.F o0_l), .int .i64 x9_2_1, .bool x9_2_2]), (.loc 2, .cells true [.int .i64 0, .int .i64 0, .int .i64 0, .str [], .nils]), (.loc 3, .cells true [.int .i64 14, .int .i64 x3_1.At, .int .i64 0, .str x9_2_0, .slice .none 5 (eTNode.F [l1_oloc3])])]⟩ rfl (by kernel_rfl) (by kernel_rfl) ?_ ?_
          · exact ⟨⟨Wk.refl _, Wk.refl _, Wk.refl _, trivial⟩, ⟨⟨.cells true [.slice .none 4 (eTToken.F o0_l), .int .i64 x9_2_1, .bool x9_2_2], by kernel_rfl, ObWk.cells (WkL.refl _)⟩, ⟨.cells true [.int .i64 0, .int .i64 0, .int .i64 0, .str [], .nils], by kernel_rfl, ObWk.cells (WkL.refl _)⟩, ⟨.cells true [.int .i64 14, .int .i64 x3_1.At, .int .i64 0, .str x9_2_0, .slice .full 5 (eTNode.F [l1_oloc3])], by kernel_rfl, ObWk.cells (⟨Wk.refl _, Wk.refl _, Wk.refl _, Wk.refl _, Wk.tok _ _ _, trivial⟩)⟩, trivial⟩, by kernel_rfl⟩
          replace h := Option.some.inj h
          subst h
          exact ⟨(x9_2_1, x9_2_2, (TNode.mk 14 x3_1.At 0 x9_2_0 [l1_oloc3])), rfl, rfl⟩
        · replace h := Opt.f h ht
          refine SC.seq ?_
          refine SC.region 2 rfl ?_
          refine SO.run c0 2 ⟨[(2, .ptr (.loc 2) 0)], [(.ext 0, .cells true [.slice .none 4 (eTToken.F o0_l), .int .i64 x8_1_1, .bool l1_oext0_2]), (.loc 2, .cells true (cTNode l1_oloc3))]⟩ (by decide) (by kernel_rfl) ?_
          refine SO.done ?_
          refine SC.ret ?_
          replace h := Option.some.inj h
          subst h
          refine ⟨_, rfl, ?_⟩
          exact ⟨[.agg (cTNode l1_oloc3)], by kernel_rfl, Wk.eq (by kernel_rfl), ⟨⟨.cells true [.slice .none 4 (eTToken.F o0_l), .int .i64 x8_1_1, .bool l1_oext0_2], by kernel_rfl, ObWk.cells (WkL.eq (by kernel_rfl))⟩, trivial⟩, by kernel_rfl⟩
    · replace h := Opt.f h ht
      refine SC.weak (S1 := ⟨[(2, .ptr (.loc 2) 0), (3, .ptr (.loc 3) 0)], [(.ext 0, .cells true [.slice .none 4 (eTToken.F o0_l), .int .i64 l1_oext0_1, .bool l1_oext0_2]), (.loc 2, .cells true [.int .i64 0, .int .i64 0, .int .i64 0, .str [], .nils]), (.loc 3, .cells true (cTNode l1_oloc3))]⟩) ?_ ?_
      · exact ⟨⟨Wk.refl _, Wk.refl _, trivial⟩, ⟨⟨.cells true [.slice .none 4 (eTToken.F o0_l), .int .i64 l1_oext0_1, .bool l1_oext0_2], by kernel_rfl, ObWk.cells (WkL.refl _)⟩, ⟨.cells true [.int .i64 0, .int .i64 0, .int .i64 0, .str [], .nils], by kernel_rfl, ObWk.cells (WkL.refl _)⟩, ⟨.cells true (cTNode l1_oloc3), by kernel_rfl, ObWk.cells (WkL.refl _)⟩, trivial⟩, by kernel_rfl⟩
      refine SC.exit ?_
      obtain ⟨r1, hh, e1⟩ := Opt.inr h
      clear h
      subst e1
      have h := hh
      clear hh
      refine ⟨_, rfl, ?_⟩
      exact ⟨(l1_oext0_1, l1_oext0_2, l1_oloc3), rfl, h⟩
theorem st_expr_reader_factor (k : Nat) (ih_expr_reader_part : C_expr_reader_part k) (ih_expr_reader_factor : C_expr_reader_factor k) : C_expr_reader_factor (k + 1) := by
  intro o0_l o0_at o0_bad r h
  rw [expr_reader_factor] at h
  refine SF.intro Tryd.func70 rfl Tryd.ntmps70 rfl (Nat.le_of_ble_eq_true rfl) (by decide) ?_
  refine SC.seq ?_
  refine SC.region 1 rfl ?_
  refine SO.run c0 1 ⟨[(0, .ptr (.ext 0) 0), (2, .ptr (.loc 2) 0)], [(.ext 0, .cells true [.slice .none 4 (eTToken.F o0_l), .int .i64 o0_at, .bool o0_bad]), (.loc 2, .cells true [.int .i64 0, .int .i64 0, .int .i64 0, .str [], .nils])]⟩ (by decide) (by kernel_rfl) ?_
  refine SO.done ?_
  refine SC.seq ?_
  refine SC.region 4 rfl ?_
  refine SO.run c0 1 ⟨[(0, .ptr (.ext 0) 0), (2, .ptr (.loc 2) 0), (6, .ptr (.ext 0) 0)], [(.ext 0, .cells true [.slice .none 4 (eTToken.F o0_l), .int .i64 o0_at, .bool o0_bad]), (.loc 2, .cells true [.int .i64 0, .int .i64 0, .int .i64 0, .str [], .nils])]⟩ (by decide) (by kernel_rfl) ?_
  obtain ⟨x1_1, hx1_1, h⟩ := Opt.ex h
  refine SO.call ⟨72, [.ptr (.ext 0) 0], [(.ext 0, .cells true [.slice .none 4 (eTToken.F o0_l), .int .i64 o0_at, .bool o0_bad])], [.ext 0], some 7⟩ ⟨[(0, .ptr (.ext 0) 0), (2, .ptr (.loc 2) 0), (7, .agg (cTToken x1_1))], [(.ext 0, .cells true [.slice .none 4 (eTToken.F o0_l), .int .i64 o0_at, .bool o0_bad]), (.loc 2, .cells true [.int .i64 0, .int .i64 0, .int .i64 0, .str [], .nils])]⟩ (by decide) (by kernel_rfl) (ok_expr_reader_look k o0_l o0_at o0_bad x1_1 hx1_1) (by kernel_rfl) ?_
  refine SO.run c0 4 ⟨[(0, .ptr (.ext 0) 0), (2, .ptr (.loc 2) 0), (3, .int .i64 x1_1.At)], [(.ext 0, .cells true [.slice .none 4 (eTToken.F o0_l), .int .i64 o0_at, .bool o0_bad]), (.loc 2, .cells true [.int .i64 0, .int .i64 0, .int .i64 0, .str [], .nils])]⟩ (by decide) (by kernel_rfl) ?_
  refine SO.done ?_
  apply SC.seqJ (r := r) h (fun v : Int => ⟨[(0, .ptr (.ext 0) 0), (2, .ptr (.loc 2) 0)], [(.ext 0, .cells true [.slice .none 4 (eTToken.F o0_l), .int .i64 v, .bool o0_bad]), (.loc 2, .cells true [.int .i64 0, .int .i64 0, .int .i64 0, .str [], .nils])]⟩)
  · rintro j0_oext0_1 r h
    refine SC.eqS (S1 := ⟨[(0, .ptr (.ext 0) 0), (2, .ptr (.loc 2) 0)], [(.ext 0, .cells true [.slice .none 4 (eTToken.F o0_l), .int .i64 j0_oext0_1, .bool o0_bad]), (.loc 2, .cells true [.int .i64 0, .int .i64 0, .int .i64 0, .str [], .nils])]⟩) rfl ?_
    refine SC.seq ?_
    refine SC.region 3 rfl ?_
    refine SO.run c0 1 ⟨[(2, .ptr (.loc 2) 0), (26, .ptr (.ext 0) 0)], [(.ext 0, .cells true [.slice .none 4 (eTToken.F o0_l), .int .i64 j0_oext0_1, .bool o0_bad]), (.loc 2, .cells true [.int .i64 0, .int .i64 0, .int .i64 0, .str [], .nils])]⟩ (by decide) (by kernel_rfl) ?_
    obtain ⟨⟨x8_1_0, x8_1_1, x8_1_2⟩, hx8_1, h⟩ := Opt.ex h
    refine SO.call ⟨96, [.ptr (.ext 0) 0], [(.ext 0, .cells true [.slice .none 4 (eTToken.F o0_l), .int .i64 j0_oext0_1, .bool o0_bad])], [.ext 0], some 27⟩ ⟨[(2, .ptr (.loc 2) 0), (27, .agg (cTNode x8_1_0))], [(.ext 0, .cells true [.slice .none 4 (eTToken.F o0_l), .int .i64 x8_1_1, .bool x8_1_2]), (.loc 2, .cells true [.int .i64 0, .int .i64 0, .int .i64 0, .str [], .nils])]⟩ (by decide) (by kernel_rfl) (ih_expr_reader_part o0_l j0_oext0_1 o0_bad (x8_1_0, x8_1_1, x8_1_2) hx8_1) (by kernel_rfl) ?_
    refine SO.run c0 3 ⟨[(2, .ptr (.loc 2) 0)], [(.ext 0, .cells true [.slice .none 4 (eTToken.F o0_l), .int .i64 x8_1_1, .bool x8_1_2]), (.loc 2, .cells true (cTNode x8_1_0))]⟩ (by decide) (by kernel_rfl) ?_
    refine SO.done ?_
    refine SC.ret ?_
    replace h := Option.some.inj h
    subst h
    exact ⟨[.agg (cTNode x8_1_0)], by kernel_rfl, Wk.eq (by kernel_rfl), ⟨⟨.cells true [.slice .none 4 (eTToken.F o0_l), .int .i64 x8_1_1, .bool x8_1_2], by kernel_rfl, ObWk.cells (WkL.eq (by kernel_rfl))⟩, trivial⟩, by kernel_rfl⟩
  · intro j_j0 h
    refine SC.seq ?_
    refine SC.region 3 rfl ?_
    refine SO.run c0 3 ⟨[(0, .ptr (.ext 0) 0), (2, .ptr (.loc 2) 0), (3, .int .i64 x1_1.At), (9, .slice .full 1 (eI_i64.F [2, 14])), (10, .int .i64 ((([2, 14] : List Int).length : Int))), (11, .int .i64 0)], [(.ext 0, .cells true [.slice .none 4 (eTToken.F o0_l), .int .i64 o0_at, .bool o0_bad]), (.loc 2, .cells true [.int .i64 0, .int .i64 0, .int .i64 0, .str [], .nils])]⟩ (by decide) (Eq.trans (b := some ⟨[(0, .ptr (.ext 0) 0), (2, .ptr (.loc 2) 0), (3, .int .i64 x1_1.At), (9, .slice .full 1 (eI_i64.F [2, 14])), (10, .int .i64 (((eI_i64.F [2, 14]).length : Int))), (11, .int .i64 0)], [(.ext 0, .cells true [.slice .none 4 (eTToken.F o0_l), .int .i64 o0_at, .bool o0_bad]), (.loc 2, .cells true [.int .i64 0, .int .i64 0, .int .i64 0, .str [], .nils])]⟩) (by kernel_rfl) (by simp only [LE.len])) ?_
    refine SO.done ?_
    refine SC.block ?_
    apply SC.loopJ (r := r) h (fun v : Int × Int => ⟨[(0, .ptr (.ext 0) 0), (2, .ptr (.loc 2) 0), (3, .int .i64 x1_1.At), (9, .slice .full 1 (eI_i64.F [2, 14])), (10, .int .i64 (([2, 14] : List Int).length : Int)), (11, .int .i64 v.1)], [(.ext 0, .cells true [.slice .none 4 (eTToken.F o0_l), .int .i64 v.2, .bool o0_bad]), (.loc 2, .cells true [.int .i64 0, .int .i64 0, .int .i64 0, .str [], .nils])]⟩)
    rintro ⟨l1_11, l1_oext0_1⟩ r h
    refine SC.eqS (S1 := ⟨[(0, .ptr (.ext 0) 0), (2, .ptr (.loc 2) 0), (3, .int .i64 x1_1.At), (9, .slice .full 1 (eI_i64.F [2, 14])), (10, .int .i64 (([2, 14] : List Int).length : Int)), (11, .int .i64 l1_11)], [(.ext 0, .cells true [.slice .none 4 (eTToken.F o0_l), .int .i64 l1_oext0_1, .bool o0_bad]), (.loc 2, .cells true [.int .i64 0, .int .i64 0, .int .i64 0, .str [], .nils])]⟩) rfl ?_
    refine SC.seq ?_
    refine SC.region 1 rfl ?_
    refine SO.run c0 1 ⟨[(0, .ptr (.ext 0) 0), (2, .ptr (.loc 2) 0), (3, .int .i64 x1_1.At), (9, .slice .full 1 (eI_i64.F [2, 14])), (10, .int .i64 (([2, 14] : List Int).length : Int)), (11, .int .i64 l1_11), (12, .bool (decide (l1_11 < (([2, 14] : List Int).length : Int))))], [(.ext 0, .cells true [.slice .none 4 (eTToken.F o0_l), .int .i64 l1_oext0_1, .bool o0_bad]), (.loc 2, .cells true [.int .i64 0, .int .i64 0, .int .i64 0, .str [], .nils])]⟩ (by decide) (by kernel_rfl) ?_
    refine SO.done ?_
    refine SC.seq ?_
    refine SC.cond (decide (l1_11 < (([2, 14] : List Int).length : Int))) (by kernel_rfl) (fun ht => ?_) (fun ht => ?_)
    · replace h := Opt.t h ht
      refine SC.skip ?_
      refine SC.seq ?_
      refine SC.block ?_
      refine SC.seq ?_
      refine SC.region 3 rfl ?_
      obtain ⟨x4_0, hx4_0, h⟩ := Opt.ex h
      refine SO.op c0 { v := .pin [.int .i64 x4_0] } ⟨[(0, .ptr (.ext 0) 0), (2, .ptr (.loc 2) 0), (3, .int .i64 x1_1.At), (9, .slice .full 1 (eI_i64.F [2, 14])), (10, .int .i64 (([2, 14] : List Int).length : Int)), (11, .int .i64 l1_11), (13, .pin [.int .i64 x4_0])], [(.ext 0, .cells true [.slice .none 4 (eTToken.F o0_l), .int .i64 l1_oext0_1, .bool o0_bad]), (.loc 2, .cells true [.int .i64 0, .int .i64 0, .int .i64 0, .str [], .nils])]⟩ (by decide) (ixR eI_i64 99 .full 1 [2, 14] .i64 l1_11 x4_0 [.int .i64 x4_0] (by kernel_rfl) (by kernel_rfl) hx4_0 (rfl)) (by kernel_rfl) ?_
      refine SO.run c0 3 ⟨[(0, .ptr (.ext 0) 0), (2, .ptr (.loc 2) 0), (3, .int .i64 x1_1.At), (5, .int .i64 x4_0), (9, .slice .full 1 (eI_i64.F [2, 14])), (10, .int .i64 (([2, 14] : List Int).length : Int)), (11, .int .i64 l1_11)], [(.ext 0, .cells true [.slice .none 4 (eTToken.F o0_l), .int .i64 l1_oext0_1, .bool o0_bad]), (.loc 2, .cells true [.int .i64 0, .int .i64 0, .int .i64 0, .str [], .nils])]⟩ (by decide) (by kernel_rfl) ?_
      refine SO.done ?_
      refine SC.seq ?_
      refine SC.region 4 rfl ?_
      refine SO.run c0 2 ⟨[(0, .ptr (.ext 0) 0), (2, .ptr (.loc 2) 0), (3, .int .i64 x1_1.At), (5, .int .i64 x4_0), (9, .slice .full 1 (eI_i64.F [2, 14])), (10, .int .i64 (([2, 14] : List Int).length : Int)), (11, .int .i64 l1_11), (15, .ptr (.ext 0) 0), (16, .int .i64 x4_0)], [(.ext 0, .cells true [.slice .none 4 (eTToken.F o0_l), .int .i64 l1_oext0_1, .bool o0_bad]), (.loc 2, .cells true [.int .i64 0, .int .i64 0, .int .i64 0, .str [], .nils])]⟩ (by decide) (by kernel_rfl) ?_
      obtain ⟨x5_2, hx5_2, h⟩ := Opt.ex h
      refine SO.call ⟨95, [.int .i64 x4_0], [], [], some 17⟩ ⟨[(0, .ptr (.ext 0) 0), (2, .ptr (.loc 2) 0), (3, .int .i64 x1_1.At), (5, .int .i64 x4_0), (9, .slice .full 1 (eI_i64.F [2, 14])), (10, .int .i64 (([2, 14] : List Int).length : Int)), (11, .int .i64 l1_11), (15, .ptr (.ext 0) 0), (17, .str x5_2)], [(.ext 0, .cells true [.slice .none 4 (eTToken.F o0_l), .int .i64 l1_oext0_1, .bool o0_bad]), (.loc 2, .cells true [.int .i64 0, .int .i64 0, .int .i64 0, .str [], .nils])]⟩ (by decide) (by kernel_rfl) (ok_word_Spell k x4_0 x5_2 hx5_2) (by kernel_rfl) ?_
      obtain ⟨⟨x5_3_0, x5_3_1⟩, hx5_3, h⟩ := Opt.ex h
      refine SO.call ⟨76, [.ptr (.ext 0) 0, .str x5_2], [(.ext 0, .cells true [.slice .none 4 (eTToken.F o0_l), .int .i64 l1_oext0_1, .bool o0_bad])], [.ext 0], some 18⟩ ⟨[(0, .ptr (.ext 0) 0), (2, .ptr (.loc 2) 0), (3, .int .i64 x1_1.At), (5, .int .i64 x4_0), (9, .slice .full 1 (eI_i64.F [2, 14])), (10, .int .i64 (([2, 14] : List Int).length : Int)), (11, .int .i64 l1_11), (18, .bool x5_3_0)], [(.ext 0, .cells true [.slice .none 4 (eTToken.F o0_l), .int .i64 x5_3_1, .bool o0_bad]), (.loc 2, .cells true [.int .i64 0, .int .i64 0, .int .i64 0, .str [], .nils])]⟩ (by decide) (by kernel_rfl) (ok_expr_reader_takes k x5_2 o0_l l1_oext0_1 o0_bad (x5_3_0, x5_3_1) hx5_3) (by kernel_rfl) ?_
      refine SO.done ?_
      refine SC.cond x5_3_0 (by kernel_rfl) (fun ht => ?_) (fun ht => ?_)
      · replace h := Opt.t h ht
        refine SC.seq ?_
        refine SC.region 7 rfl ?_
        refine SO.run c0 3 ⟨[(2, .ptr (.loc 2) 0), (19, .int .i64 x1_1.At), (20, .int .i64 x4_0), (21, .ptr (.ext 0) 0)], [(.ext 0, .cells true [.slice .none 4 (eTToken.F o0_l), .int .i64 x5_3_1, .bool o0_bad]), (.loc 2, .cells true [.int .i64 0, .int .i64 0, .int .i64 0, .str [], .nils])]⟩ (by decide) (by kernel_rfl) ?_
        obtain ⟨⟨x6_3_0, x6_3_1, x6_3_2⟩, hx6_3, h⟩ := Opt.ex h
        refine SO.call ⟨70, [.ptr (.ext 0) 0], [(.ext 0, .cells true [.slice .none 4 (eTToken.F o0_l), .int .i64 x5_3_1, .bool o0_bad])], [.ext 0], some 22⟩ ⟨[(2, .ptr (.loc 2) 0), (19, .int .i64 x1_1.At), (20, .int .i64 x4_0), (22, .agg (cTNode x6_3_0))], [(.ext 0, .cells true [.slice .none 4 (eTToken.F o0_l), .int .i64 x6_3_1, .bool x6_3_2]), (.loc 2, .cells true [.int .i64 0, .int .i64 0, .int .i64 0, .str [], .nils])]⟩ (by decide) (by kernel_rfl) (ih_expr_reader_factor o0_l x5_3_1 o0_bad (x6_3_0, x6_3_1, x6_3_2) hx6_3) (by kernel_rfl) ?_
        refine SO.op c0 { v := .slice .full 5 (eTNode.F [x6_3_0]) } ⟨[(2, .ptr (.loc 2) 0), (19, .int .i64 x1_1.At), (20, .int .i64 x4_0), (23, .slice .full 5 (eTNode.F [x6_3_0]))], [(.ext 0, .cells true [.slice .none 4 (eTToken.F o0_l), .int .i64 x6_3_1, .bool x6_3_2]), (.loc 2, .cells true [.int .i64 0, .int .i64 0, .int .i64 0, .str [], .nils])]⟩ (by decide) ((show opR _ _ _ _ _ _ = some { v := .slice .full 5 [.agg (cTNode x6_3_0)] } from by kernel_rfl).trans (by simp only [FTNode, eTNode_F, fTNode_eq])) (by kernel_rfl) ?_
        refine SO.run c0 7 ⟨[(2, .ptr (.loc 2) 0)], [(.ext 0, .cells true [.slice .none 4 (eTToken.F o0_l), .int .i64 x6_3_1, .bool x6_3_2]), (.loc 2, .cells true [.int .i64 15, .int .i64 x1_1.At, .int .i64 x4_0, .str [], .slice .full 5 (eTNode.F [x6_3_0])])]⟩ (by decide) (by kernel_rfl) ?_
        refine SO.done ?_
        refine SC.ret ?_
        replace h := Option.some.inj h
        subst h
        refine ⟨_, rfl, ?_⟩
        exact ⟨[.agg [.int .i64 15, .int .i64 x1_1.At, .int .i64 x4_0, .str [], .slice .full 5 (eTNode.F [x6_3_0])]], by kernel_rfl, Wk.agg (⟨Wk.refl _, Wk.refl _, Wk.refl _, Wk.refl _, Wk.tok _ _ _, trivial⟩), ⟨⟨.cells true [.slice .none 4 (eTToken.F o0_l), .int .i64 x6_3_1, .bool x6_3_2], by kernel_rfl, ObWk.cells (WkL.eq (by kernel_rfl))⟩, trivial⟩, by kernel_rfl⟩
      · replace h := Opt.f h ht
        refine SC.skip ?_
        refine SC.region 2 rfl ?_
        refine SO.run c0 2 ⟨[(0, .ptr (.ext 0) 0), (2, .ptr (.loc 2) 0), (3, .int .i64 x1_1.At), (9, .slice .full 1 (eI_i64.F [2, 14])), (10, .int .i64 (([2, 14] : List Int).length : Int)), (11, .int .i64 (IntKind.i64.wrap (l1_11 + 1)))], [(.ext 0, .cells true [.slice .none 4 (eTToken.F o0_l), .int .i64 x5_3_1, .bool o0_bad]), (.loc 2, .cells true [.int .i64 0, .int .i64 0, .int .i64 0, .str [], .nils])]⟩ (by decide) (by kernel_rfl) ?_
        refine SO.done ?_
        replace h := Option.some.inj h
        subst h
        exact ⟨((IntKind.i64.wrap (l1_11 + 1)), x5_3_1), rfl, rfl⟩
    · replace h := Opt.f h ht
      refine SC.weak (S1 := ⟨[(0, .ptr (.ext 0) 0), (2, .ptr (.loc 2) 0)], [(.ext 0, .cells true [.slice .none 4 (eTToken.F o0_l), .int .i64 l1_oext0_1, .bool o0_bad]), (.loc 2, .cells true [.int .i64 0, .int .i64 0, .int .i64 0, .str [], .nils])]⟩) ?_ ?_
      · exact ⟨⟨Wk.refl _, Wk.refl _, trivial⟩, ⟨⟨.cells true [.slice .none 4 (eTToken.F o0_l), .int .i64 l1_oext0_1, .bool o0_bad], by kernel_rfl, ObWk.cells (WkL.refl _)⟩, ⟨.cells true [.int .i64 0, .int .i64 0, .int .i64 0, .str [], .nils], by kernel_rfl, ObWk.cells (WkL.refl _)⟩, trivial⟩, by kernel_rfl⟩
      refine SC.exit ?_
      obtain ⟨r1, hh, e1⟩ := Opt.inr h
      clear h
      subst e1
      have h := hh
      clear hh
      refine ⟨_, rfl, ?_⟩
      exact ⟨l1_oext0_1, rfl, h⟩
theorem st_expr_reader_level (k : Nat) (ih_expr_reader_factor : C_expr_reader_factor k) (ih_expr_reader_level : C_expr_reader_level k) : C_expr_reader_level (k + 1) := by
  intro a1 o0_l o0_at o0_bad r h
  rw [expr_reader_level] at h
  refine SF.intro Tryd.func36 rfl Tryd.ntmps36 rfl (Nat.le_of_ble_eq_true rfl) (by decide) ?_
  refine SC.seq ?_
  refine SC.region 1 rfl ?_
  refine SO.run c0 1 ⟨[(0, .ptr (.ext 0) 0), (1, .int .i64 a1), (4, .ptr (.loc 4) 0)], [(.ext 0, .cells true [.slice .none 4 (eTToken.F o0_l), .int .i64 o0_at, .bool o0_bad]), (.loc 4, .cells true [.int .i64 0, .int .i64 0, .int .i64 0, .str [], .nils])]⟩ (by decide) (by kernel_rfl) ?_
  refine SO.done ?_
  refine SC.seq ?_
  refine SC.seq ?_
  refine SC.region 2 rfl ?_
  refine SO.run c0 2 ⟨[(0, .ptr (.ext 0) 0), (1, .int .i64 a1), (4, .ptr (.loc 4) 0), (9, .bool (a1 == 6))], [(.ext 0, .cells true [.slice .none 4 (eTToken.F o0_l), .int .i64 o0_at, .bool o0_bad]), (.loc 4, .cells true [.int .i64 0, .int .i64 0, .int .i64 0, .str [], .nils])]⟩ (by decide) (by kernel_rfl) ?_
  refine SO.done ?_
  refine SC.cond (a1 == 6) (by kernel_rfl) (fun ht => ?_) (fun ht => ?_)
  · replace h := Opt.t h ht
    refine SC.seq ?_
    refine SC.region 3 rfl ?_
    refine SO.run c0 1 ⟨[(4, .ptr (.loc 4) 0), (10, .ptr (.ext 0) 0)], [(.ext 0, .cells true [.slice .none 4 (eTToken.F o0_l), .int .i64 o0_at, .bool o0_bad]), (.loc 4, .cells true [.int .i64 0, .int .i64 0, .int .i64 0, .str [], .nils])]⟩ (by decide) (by kernel_rfl) ?_
    obtain ⟨⟨x2_1_0, x2_1_1, x2_1_2⟩, hx2_1, h⟩ := Opt.ex h
    refine SO.call ⟨70, [.ptr (.ext 0) 0], [(.ext 0, .cells true [.slice .none 4 (eTToken.F o0_l), .int .i64 o0_at, .bool o0_bad])], [.ext 0], some 11⟩ ⟨[(4, .ptr (.loc 4) 0), (11, .agg (cTNode x2_1_0))], [(.ext 0, .cells true [.slice .none 4 (eTToken.F o0_l), .int .i64 x2_1_1, .bool x2_1_2]), (.loc 4, .cells true [.int .i64 0, .int .i64 0, .int .i64 0, .str [], .nils])]⟩ (by decide) (by kernel_rfl) (ih_expr_reader_factor o0_l o0_at o0_bad (x2_1_0, x2_1_1, x2_1_2) hx2_1) (by kernel_rfl) ?_
    refine SO.run c0 3 ⟨[(4, .ptr (.loc 4) 0)], [(.ext 0, .cells true [.slice .none 4 (eTToken.F o0_l), .int .i64 x2_1_1, .bool x2_1_2]), (.loc 4, .cells true (cTNode x2_1_0))]⟩ (by decide) (by kernel_rfl) ?_
    refine SO.done ?_
    refine SC.ret ?_
    replace h := Option.some.inj h
    subst h
    exact ⟨[.agg (cTNode x2_1_0)], by kernel_rfl, Wk.eq (by kernel_rfl), ⟨⟨.cells true [.slice .none 4 (eTToken.F o0_l), .int .i64 x2_1_1, .bool x2_1_2], by kernel_rfl, ObWk.cells (WkL.eq (by kernel_rfl))⟩, trivial⟩, by kernel_rfl⟩
  · replace h := Opt.f h ht
    refine SC.skip ?_
    refine SC.seq ?_
    refine SC.region 6 rfl ?_
    refine SO.run c0 3 ⟨[(0, .ptr (.ext 0) 0), (1, .int .i64 a1), (4, .ptr (.loc 4) 0), (12, .ptr (.ext 0) 0), (14, .int .i64 (IntKind.i64.wrap (a1 + 1)))], [(.ext 0, .cells true [.slice .none 4 (eTToken.F o0_l), .int .i64 o0_at, .bool o0_bad]), (.loc 4, .cells true [.int .i64 0, .int .i64 0, .int .i64 0, .str [], .nils])]⟩ (by decide) (by kernel_rfl) ?_
    obtain ⟨⟨x3_3_0, x3_3_1, x3_3_2⟩, hx3_3, h⟩ := Opt.ex h
    refine SO.call ⟨36, [.ptr (.ext 0) 0, .int .i64 (IntKind.i64.wrap (a1 + 1))], [(.ext 0, .cells true [.slice .none 4 (eTToken.F o0_l), .int .i64 o0_at, .bool o0_bad])], [.ext 0], some 15⟩ ⟨[(0, .ptr (.ext 0) 0), (1, .int .i64 a1), (4, .ptr (.loc 4) 0), (15, .agg (cTNode x3_3_0))], [(.ext 0, .cells true [.slice .none 4 (eTToken.F o0_l), .int .i64 x3_3_1, .bool x3_3_2]), (.loc 4, .cells true [.int .i64 0, .int .i64 0, .int .i64 0, .str [], .nils])]⟩ (by decide) (by kernel_rfl) (ih_expr_reader_level (IntKind.i64.wrap (a1 + 1)) o0_l o0_at o0_bad (x3_3_0, x3_3_1, x3_3_2) hx3_3) (by kernel_rfl) ?_
    refine SO.run c0 6 ⟨[(0, .ptr (.ext 0) 0), (1, .int .i64 a1), (4, .ptr (.loc 4) 0), (5, .ptr (.loc 5) 0)], [(.ext 0, .cells true [.slice .none 4 (eTToken.F o0_l), .int .i64 x3_3_1, .bool x3_3_2]), (.loc 4, .cells true [.int .i64 0, .int .i64 0, .int .i64 0, .str [], .nils]), (.loc 5, .cells true (cTNode x3_3_0))]⟩ (by decide) (by kernel_rfl) ?_
    refine SO.done ?_
    apply SC.seqJ (r := r) h (fun v : Int × Bool × TNode => ⟨[(4, .ptr (.loc 4) 0), (5, .ptr (.loc 5) 0)], [(.ext 0, .cells true [.slice .none 4 (eTToken.F o0_l), .int .i64 v.1, .bool v.2.1]), (.loc 4, .cells true [.int .i64 0, .int .i64 0, .int .i64 0, .str [], .nils]), (.loc 5, .cells true (cTNode v.2.2))]⟩)
    · rintro ⟨j0_oext0_1, j0_oext0_2, j0_oloc5⟩ r h
      refine SC.eqS (S1 := ⟨[(4, .ptr (.loc 4) 0), (5, .ptr (.loc 5) 0)], [(.ext 0, .cells true [.slice .none 4 (eTToken.F o0_l), .int .i64 j0_oext0_1, .bool j0_oext0_2]), (.loc 4, .cells true [.int .i64 0, .int .i64 0, .int .i64 0, .str [], .nils]), (.loc 5, .cells true (cTNode j0_oloc5))]⟩) rfl ?_
      refine SC.seq ?_
      refine SC.region 2 rfl ?_
      refine SO.run c0 2 ⟨[(4, .ptr (.loc 4) 0)], [(.ext 0, .cells true [.slice .none 4 (eTToken.F o0_l), .int .i64 j0_oext0_1, .bool j0_oext0_2]), (.loc 4, .cells true (cTNode j0_oloc5))]⟩ (by decide) (by kernel_rfl) ?_
      refine SO.done ?_
      refine SC.ret ?_
      replace h := Option.some.inj h
      subst h
      exact ⟨[.agg (cTNode j0_oloc5)], by kernel_rfl, Wk.eq (by kernel_rfl), ⟨⟨.cells true [.slice .none 4 (eTToken.F o0_l), .int .i64 j0_oext0_1, .bool j0_oext0_2], by kernel_rfl, ObWk.cells (WkL.eq (by kernel_rfl))⟩, trivial⟩, by kernel_rfl⟩
    · intro j_j0 h
      refine SC.block ?_
      apply SC.loopJ (r := r) h (fun v : Int × Bool × TNode => ⟨[(0, .ptr (.ext 0) 0), (1, .int .i64 a1), (4, .ptr (.loc 4) 0), (5, .ptr (.loc 5) 0)], [(.ext 0, .cells true [.slice .none 4 (eTToken.F o0_l), .int .i64 v.1, .bool v.2.1]), (.loc 4, .cells true [.int .i64 0, .int .i64 0, .int .i64 0, .str [], .nils]), (.loc 5, .cells true (cTNode v.2.2))]⟩)
      rintro ⟨l1_oext0_1, l1_oext0_2, l1_oloc5⟩ r h
      refine SC.eqS (S1 := ⟨[(0, .ptr (.ext 0) 0), (1, .int .i64 a1), (4, .ptr (.loc 4) 0), (5, .ptr (.loc 5) 0)], [(.ext 0, .cells true [.slice .none 4 (eTToken.F o0_l), .int .i64 l1_oext0_1, .bool l1_oext0_2]), (.loc 4, .cells true [.int .i64 0, .int .i64 0, .int .i64 0, .str [], .nils]), (.loc 5, .cells true (cTNode l1_oloc5))]⟩) rfl ?_
      refine SC.seq ?_
      refine SC.seq ?_
      refine SC.region 5 rfl ?_
      refine SO.run c0 5 ⟨[(0, .ptr (.ext 0) 0), (1, .int .i64 a1), (4, .ptr (.loc 4) 0), (5, .ptr (.loc 5) 0), (20, .bool (!l1_oext0_2))], [(.ext 0, .cells true [.slice .none 4 (eTToken.F o0_l), .int .i64 l1_oext0_1, .bool l1_oext0_2]), (.loc 4, .cells true [.int .i64 0, .int .i64 0, .int .i64 0, .str [], .nils]), (.loc 5, .cells true (cTNode l1_oloc5))]⟩ (by decide) (by kernel_rfl) ?_
      refine SO.done ?_
      refine SC.cond (!l1_oext0_2) (by kernel_rfl) (fun ht => ?_) (fun ht => ?_)
      · replace h := Opt.t h ht
        refine SC.skip ?_
        refine SC.block ?_
        refine SC.seq ?_
        refine SC.region 4 rfl ?_
        refine SO.run c0 2 ⟨[(0, .ptr (.ext 0) 0), (1, .int .i64 a1), (4, .ptr (.loc 4) 0), (5, .ptr (.loc 5) 0), (21, .ptr (.ext 0) 0), (22, .int .i64 a1)], [(.ext 0, .cells true [.slice .none 4 (eTToken.F o0_l), .int .i64 l1_oext0_1, .bool l1_oext0_2]), (.loc 4, .cells true [.int .i64 0, .int .i64 0, .int .i64 0, .str [], .nils]), (.loc 5, .cells true (cTNode l1_oloc5))]⟩ (by decide) (by kernel_rfl) ?_
        obtain ⟨x5_2, hx5_2, h⟩ := Opt.ex h
        refine SO.call ⟨71, [.ptr (.ext 0) 0, .int .i64 a1], [(.ext 0, .cells true [.slice .none 4 (eTToken.F o0_l), .int .i64 l1_oext0_1, .bool l1_oext0_2])], [.ext 0], some 23⟩ ⟨[(0, .ptr (.ext 0) 0), (1, .int .i64 a1), (4, .ptr (.loc 4) 0), (5, .ptr (.loc 5) 0), (23, .int .i64 x5_2)], [(.ext 0, .cells true [.slice .none 4 (eTToken.F o0_l), .int .i64 l1_oext0_1, .bool l1_oext0_2]), (.loc 4, .cells true [.int .i64 0, .int .i64 0, .int .i64 0, .str [], .nils]), (.loc 5, .cells true (cTNode l1_oloc5))]⟩ (by decide) (by kernel_rfl) (ok_expr_reader_sign k a1 o0_l l1_oext0_1 l1_oext0_2 x5_2 hx5_2) (by kernel_rfl) ?_
        refine SO.run c0 4 ⟨[(0, .ptr (.ext 0) 0), (1, .int .i64 a1), (4, .ptr (.loc 4) 0), (5, .ptr (.loc 5) 0), (6, .int .i64 x5_2)], [(.ext 0, .cells true [.slice .none 4 (eTToken.F o0_l), .int .i64 l1_oext0_1, .bool l1_oext0_2]), (.loc 4, .cells true [.int .i64 0, .int .i64 0, .int .i64 0, .str [], .nils]), (.loc 5, .cells true (cTNode l1_oloc5))]⟩ (by decide) (by kernel_rfl) ?_
        refine SO.done ?_
        refine SC.seq ?_
        refine SC.seq ?_
        refine SC.region 2 rfl ?_
        refine SO.run c0 2 ⟨[(0, .ptr (.ext 0) 0), (1, .int .i64 a1), (4, .ptr (.loc 4) 0), (5, .ptr (.loc 5) 0), (6, .int .i64 x5_2), (25, .bool (x5_2 == 0))], [(.ext 0, .cells true [.slice .none 4 (eTToken.F o0_l), .int .i64 l1_oext0_1, .bool l1_oext0_2]), (.loc 4, .cells true [.int .i64 0, .int .i64 0, .int .i64 0, .str [], .nils]), (.loc 5, .cells true (cTNode l1_oloc5))]⟩ (by decide) (by kernel_rfl) ?_
        refine SO.done ?_
        refine SC.cond (x5_2 == 0) (by kernel_rfl) (fun ht => ?_) (fun ht => ?_)
        · replace h := Opt.t h ht
          refine SC.weak (S1 := ⟨[(4, .ptr (.loc 4) 0), (5, .ptr (.loc 5) 0)], [(.ext 0, .cells true [.slice .none 4 (eTToken.F o0_l), .int .i64 l1_oext0_1, .bool l1_oext0_2]), (.loc 4, .cells true [.int .i64 0, .int .i64 0, .int .i64 0, .str [], .nils]), (.loc 5, .cells true (cTNode l1_oloc5))]⟩) ?_ ?_
          · exact ⟨⟨Wk.refl _, Wk.refl _, trivial⟩, ⟨⟨.cells true [.slice .none 4 (eTToken.F o0_l), .int .i64 l1_oext0_1, .bool l1_oext0_2], by kernel_rfl, ObWk.cells (WkL.refl _)⟩, ⟨.cells true [.int .i64 0, .int .i64 0, .int .i64 0, .str [], .nils], by kernel_rfl, ObWk.cells (WkL.refl _)⟩, ⟨.cells true (cTNode l1_oloc5), by kernel_rfl, ObWk.cells (WkL.refl _)⟩, trivial⟩, by kernel_rfl⟩
          refine SC.exit ?_
          obtain ⟨r1, hh, e1⟩ := Opt.inr h
          clear h
          subst e1
          have h := hh
          clear hh
          refine ⟨_, rfl, ?_⟩
          exact ⟨(l1_oext0_1, l1_oext0_2, l1_oloc5), rfl, h⟩
        · replace h := Opt.f h ht
          refine SC.skip ?_
          refine SC.seq ?_
          refine SC.region 7 rfl ?_
          refine SO.run c0 1 ⟨[(0, .ptr (.ext 0) 0), (1, .int .i64 a1), (4, .ptr (.loc 4) 0), (5, .ptr (.loc 5) 0), (6, .int .i64 x5_2), (26, .ptr (.ext 0) 0)], [(.ext 0, .cells true [.slice .none 4 (eTToken.F o0_l), .int .i64 l1_oext0_1, .bool l1_oext0_2]), (.loc 4, .cells true [.int .i64 0, .int .i64 0, .int .i64 0, .str [], .nils]), (.loc 5, .cells true (cTNode l1_oloc5))]⟩ (by decide) (by kernel_rfl) ?_
          obtain ⟨x7_1, hx7_1, h⟩ := Opt.ex h
          refine SO.call ⟨72, [.ptr (.ext 0) 0], [(.ext 0, .cells true [.slice .none 4 (eTToken.F o0_l), .int .i64 l1_oext0_1, .bool l1_oext0_2])], [.ext 0], some 27⟩ ⟨[(0, .ptr (.ext 0) 0), (1, .int .i64 a1), (4, .ptr (.loc 4) 0), (5, .ptr (.loc 5) 0), (6, .int .i64 x5_2), (27, .agg (cTToken x7_1))], [(.ext 0, .cells true [.slice .none 4 (eTToken.F o0_l), .int .i64 l1_oext0_1, .bool l1_oext0_2]), (.loc 4, .cells true [.int .i64 0, .int .i64 0, .int .i64 0, .str [], .nils]), (.loc 5, .cells true (cTNode l1_oloc5))]⟩ (by decide) (by kernel_rfl) (ok_expr_reader_look k o0_l l1_oext0_1 l1_oext0_2 x7_1 hx7_1) (by kernel_rfl) ?_
          refine SO.run c0 7 ⟨[(0, .ptr (.ext 0) 0), (1, .int .i64 a1), (4, .ptr (.loc 4) 0), (5, .ptr (.loc 5) 0), (7, .ptr (.loc 7) 0)], [(.ext 0, .cells true [.slice .none 4 (eTToken.F o0_l), .int .i64 l1_oext0_1, .bool l1_oext0_2]), (.loc 4, .cells true [.int .i64 0, .int .i64 0, .int .i64 0, .str [], .nils]), (.loc 5, .cells true (cTNode l1_oloc5)), (.loc 7, .cells true [.int .i64 16, .int .i64 x7_1.At, .int .i64 x5_2, .str [], .nils])]⟩ (by decide) (by kernel_rfl) ?_
          refine SO.done ?_
          refine SC.seq ?_
          refine SC.region 8 rfl ?_
          refine SO.run c0 8 ⟨[(0, .ptr (.ext 0) 0), (1, .int .i64 a1), (4, .ptr (.loc 4) 0), (5, .ptr (.loc 5) 0), (7, .ptr (.loc 7) 0)], [(.ext 0, .cells true [.slice .none 4 (eTToken.F o0_l), .int .i64 (IntKind.i64.wrap (l1_oext0_1 + 1)), .bool l1_oext0_2]), (.loc 4, .cells true [.int .i64 0, .int .i64 0, .int .i64 0, .str [], .nils]), (.loc 5, .cells true (cTNode l1_oloc5)), (.loc 7, .cells true [.int .i64 16, .int .i64 x7_1.At, .int .i64 x5_2, .str [], .nils])]⟩ (by decide) (by kernel_rfl) ?_
          refine SO.done ?_
          refine SC.seq ?_
          refine SC.drawT ?_
          refine DD.run c0 4 ⟨[(0, .ptr (.ext 0) 0), (1, .int .i64 a1), (4, .ptr (.loc 4) 0), (5, .ptr (.loc 5) 0), (7, .ptr (.loc 7) 0), (38, .agg (cTNode l1_oloc5)), (39, .ptr (.ext 0) 0), (40, .int .i64 a1), (41, .int .i64 (IntKind.i64.wrap (a1 + 1)))], [(.ext 0, .cells true [.slice .none 4 (eTToken.F o0_l), .int .i64 (IntKind.i64.wrap (l1_oext0_1 + 1)), .bool l1_oext0_2]), (.loc 4, .cells true [.int .i64 0, .int .i64 0, .int .i64 0, .str [], .nils]), (.loc 5, .cells true (cTNode l1_oloc5)), (.loc 7, .cells true [.int .i64 16, .int .i64 x7_1.At, .int .i64 x5_2, .str [], .nils])]⟩ (by decide) (by kernel_rfl) ?_
          obtain ⟨⟨x9_4_0, x9_4_1, x9_4_2⟩, hx9_4, h⟩ := Opt.ex h
          refine DD.callT ⟨36, [.ptr (.ext 0) 0, .int .i64 (IntKind.i64.wrap (a1 + 1))], [(.ext 0, .cells true [.slice .none 4 (eTToken.F o0_l), .int .i64 (IntKind.i64.wrap (l1_oext0_1 + 1)), .bool l1_oext0_2])], [.ext 0], some 42⟩ ⟨[(0, .ptr (.ext 0) 0), (1, .int .i64 a1), (4, .ptr (.loc 4) 0), (5, .ptr (.loc 5) 0), (7, .ptr (.loc 7) 0), (38, .agg (cTNode l1_oloc5)), (39, .ptr (.ext 0) 0), (40, .int .i64 a1), (41, .int .i64 (IntKind.i64.wrap (a1 + 1))), (42, .agg (cTNode x9_4_0))], [(.ext 0, .cells true [.slice .none 4 (eTToken.F o0_l), .int .i64 x9_4_1, .bool x9_4_2]), (.loc 4, .cells true [.int .i64 0, .int .i64 0, .int .i64 0, .str [], .nils]), (.loc 5, .cells true (cTNode l1_oloc5)), (.loc 7, .cells true [.int .i64 16, .int .i64 x7_1.At, .int .i64 x5_2, .str [], .nils])]⟩ (by kernel_rfl) (ih_expr_reader_level (IntKind.i64.wrap (a1 + 1)) o0_l (IntKind.i64.wrap (l1_oext0_1 + 1)) l1_oext0_2 (x9_4_0, x9_4_1, x9_4_2) hx9_4) (by kernel_rfl) ?_
          refine DD.op c0 { v := .slice .full 5 (eTNode.F [l1_oloc5, x9_4_0]) } ⟨[(0, .ptr (.ext 0) 0), (1, .int .i64 a1), (4, .ptr (.loc 4) 0), (5, .ptr (.loc 5) 0), (7, .ptr (.loc 7) 0), (38, .agg (cTNode l1_oloc5)), (39, .ptr (.ext 0) 0), (40, .int .i64 a1), (41, .int .i64 (IntKind.i64.wrap (a1 + 1))), (42, .agg (cTNode x9_4_0)), (43, .slice .full 5 (eTNode.F [l1_oloc5, x9_4_0]))], [(.ext 0, .cells true [.slice .none 4 (eTToken.F o0_l), .int .i64 x9_4_1, .bool x9_4_2]), (.loc 4, .cells true [.int .i64 0, .int .i64 0, .int .i64 0, .str [], .nils]), (.loc 5, .cells true (cTNode l1_oloc5)), (.loc 7, .cells true [.int .i64 16, .int .i64 x7_1.At, .int .i64 x5_2, .str [], .nils])]⟩ ((show opR _ _ _ _ _ _ = some { v := .slice .full 5 [.agg (cTNode l1_oloc5), .agg (cTNode x9_4_0)] } from by kernel_rfl).trans (by simp only [FTNode, eTNode_F, fTNode_eq])) (by kernel_rfl) ?_
          refine DD.run c0 8 ⟨[(0, .ptr (.ext 0) 0), (1, .int .i64 a1), (4, .ptr (.loc 4) 0), (5, .ptr (.loc 5) 0), (7, .ptr (.loc 7) 0), (38, .agg (cTNode l1_oloc5)), (39, .ptr (.ext 0) 0), (40, .int .i64 a1), (41, .int .i64 (IntKind.i64.wrap (a1 + 1))), (42, .agg (cTNode x9_4_0)), (43, .slice .full 5 (eTNode.F [l1_oloc5, x9_4_0])), (44, .ptr (.loc 7) 4)], [(.ext 0, .cells true [.slice .none 4 (eTToken.F o0_l), .int .i64 x9_4_1, .bool x9_4_2]), (.loc 4, .cells true [.int .i64 0, .int .i64 0, .int .i64 0, .str [], .nils]), (.loc 5, .cells true (cTNode l1_oloc5)), (.loc 7, .cells true [.int .i64 16, .int .i64 x7_1.At, .int .i64 x5_2, .str [], .slice .full 5 (eTNode.F [l1_oloc5, x9_4_0])])]⟩ (by decide) (by kernel_rfl) ?_
          refine DD.fin ⟨[(0, .ptr (.ext 0) 0), (1, .int .i64 a1), (4, .ptr (.loc 4) 0), (5, .ptr (.loc 5) 0), (7, .ptr (.loc 7) 0)], [(.ext 0, .cells true [.slice .none 4 (eTToken.F o0_l), .int .i64 x9_4_1, .bool x9_4_2]), (.loc 4, .cells true [.int .i64 0, .int .i64 0, .int .i64 0, .str [], .nils]), (.loc 5, .cells true (cTNode l1_oloc5)), (.loc 7, .cells true [.int .i64 16, .int .i64 x7_1.At, .int .i64 x5_2, .str [], .slice .full 5 (eTNode.F [l1_oloc5, x9_4_0])])]⟩ rfl (by kernel_rfl) (by kernel_rfl) ?_
          refine SC.seq ?_
          refine SC.region 2 rfl ?_
          refine SO.run c0 2 ⟨[(0, .ptr (.ext 0) 0), (1, .int .i64 a1), (4, .ptr (.loc 4) 0), (5, .ptr (.loc 5) 0)], [(.ext 0, .cells true [.slice .none 4 (eTToken.F o0_l), .int .i64 x9_4_1, .bool x9_4_2]), (.loc 4, .cells true [.int .i64 0, .int .i64 0, .int .i64 0, .str [], .nils]), (.loc 5, .cells true [.int .i64 16, .int .i64 x7_1.At, .int .i64 x5_2, .str [], .slice .full 5 (eTNode.F [l1_oloc5, x9_4_0])])]⟩ (by decide) (by kernel_rfl) ?_
          refine SO.done ?_
          refine SC.seq ?_
          refine SC.region 2 rfl ?_
          refine SO.run c0 2 ⟨[(0, .ptr (.ext 0) 0), (1, .int .i64 a1), (4, .ptr (.loc 4) 0), (5, .ptr (.loc 5) 0), (47, .bool (a1 == 3))], [(.ext 0, .cells true [.slice .none 4 (eTToken.F o0_l), .int .i64 x9_4_1, .bool x9_4_2]), (.loc 4, .cells true [.int .i64 0, .int .i64 0, .int .i64 0, .str [], .nils]), (.loc 5, .cells true [.int .i64 16, .int .i64 x7_1.At, .int .i64 x5_2, .str [], .slice .full 5 (eTNode.F [l1_oloc5, x9_4_0])])]⟩ (by decide) (by kernel_rfl) ?_
          refine SO.done ?_
          refine SC.cond (a1 == 3) (by kernel_rfl) (fun ht => ?_) (fun ht => ?_)
          · replace h := Opt.t h ht
            refine SC.weak (S1 := ⟨[(4, .ptr (.loc 4) 0), (5, .ptr (.loc 5) 0)], [(.ext 0, .cells true [.slice .none 4 (eTToken.F o0_l), .int .i64 x9_4_1, .bool x9_4_2]), (.loc 4, .cells true [.int .i64 0, .int .i64 0, .int .i64 0, .str [], .nils]), (.loc 5, .cells true [.int .i64 16, .int .i64 x7_1.At, .int .i64 x5_2, .str [], .slice .none 5 (eTNode.F [l1_oloc5, x9_4_0])])]⟩) ?_ ?_
            · exact ⟨⟨Wk.refl _, Wk.refl _, trivial⟩, ⟨⟨.cells true [.slice .none 4 (eTToken.F o0_l), .int .i64 x9_4_1, .bool x9_4_2], by kernel_rfl, ObWk.cells (WkL.refl _)⟩, ⟨.cells true [.int .i64 0, .int .i64 0, .int .i64 0, .str [], .nils], by kernel_rfl, ObWk.cells (WkL.refl _)⟩, ⟨.cells true [.int .i64 16, .int .i64 x7_1.At, .int .i64 x5_2, .str [], .slice .full 5 (eTNode.F [l1_oloc5, x9_4_0])], by kernel_rfl, ObWk.cells (⟨Wk.refl _, Wk.refl _, Wk.refl _, Wk.refl _, Wk.tok _ _ _, trivial⟩)⟩, trivial⟩, by kernel_rfl⟩
            refine SC.exit ?_
            obtain ⟨r1, hh, e1⟩ := Opt.inr h
            clear h
            subst e1
            have h := hh
            clear hh
            refine ⟨_, rfl, ?_⟩
            exact ⟨(x9_4_1, x9_4_2, (TNode.mk 16 x7_1.At x5_2 [] [l1_oloc5, x9_4_0])), rfl, h⟩
          · replace h := Opt.f h ht
            refine SC.weak (S1 := ⟨[(0, .ptr (.ext 0) 0), (1, .int .i64 a1), (4, .ptr (.loc 4) 0), (5, .ptr (.loc 5) 0)], [(.ext 0, .cells true [.slice .none 4 (eTToken.F o0_l), .int .i64 x9_4_1, .bool x9_4_2]), (.loc 4, .cells true [.int .i64 0, .int .i64 0, .int .i64 0, .str [], .nils]), (.loc 5, .cells true [.int .i64 16, .int .i64 x7_1.At, .int .i64 x5_2, .str [], .slice .none 5 (eTNode.F [l1_oloc5, x9_4_0])])]⟩) ?_ ?_
            · exact ⟨⟨Wk.refl _, Wk.refl _, Wk.refl _, Wk.refl _, trivial⟩, ⟨⟨.cells true [.slice .none 4 (eTToken.F o0_l), .int .i64 x9_4_1, .bool x9_4_2], by kernel_rfl, ObWk.cells (WkL.refl _)⟩, ⟨.cells true [.int .i64 0, .int .i64 0, .int .i64 0, .str [], .nils], by kernel_rfl, ObWk.cells (WkL.refl _)⟩, ⟨.cells true [.int .i64 16, .int .i64 x7_1.At, .int .i64 x5_2, .str [], .slice .full 5 (eTNode.F [l1_oloc5, x9_4_0])], by kernel_rfl, ObWk.cells (⟨Wk.refl _, Wk.refl _, Wk.refl _, Wk.refl _, Wk.tok _ _ _, trivial⟩)⟩, trivial⟩, by kernel_rfl⟩
            refine SC.skip ?_
            replace h := Option.some.inj h
            subst h
            exact ⟨(x9_4_1, x9_4_2, (TNode.mk 16 x7_1.At x5_2 [] [l1_oloc5, x9_4_0])), rfl, rfl⟩
      · replace h := Opt.f h ht
        refine SC.weak (S1 := ⟨[(4, .ptr (.loc 4) 0), (5, .ptr (.loc 5) 0)], [(.ext 0, .cells true [.slice .none 4 (eTToken.F o0_l), .int .i64 l1_oext0_1, .bool l1_oext0_2]), (.loc 4, .cells true [.int .i64 0, .int .i64 0, .int .i64 0, .str [], .nils]), (.loc 5, .cells true (cTNode l1_oloc5))]⟩) ?_ ?_
        · exact ⟨⟨Wk.refl _, Wk.refl _, trivial⟩, ⟨⟨.cells true [.slice .none 4 (eTToken.F o0_l), .int .i64 l1_oext0_1, .bool l1_oext0_2], by kernel_rfl, ObWk.cells (WkL.refl _)⟩, ⟨.cells true [.int .i64 0, .int .i64 0, .int .i64 0, .str [], .nils], by kernel_rfl, ObWk.cells (WkL.refl _)⟩, ⟨.cells true (cTNode l1_oloc5), by kernel_rfl, ObWk.cells (WkL.refl _)⟩, trivial⟩, by kernel_rfl⟩
        refine SC.exit ?_
        obtain ⟨r1, hh, e1⟩ := Opt.inr h
        clear h
        subst e1
        have h := hh
        clear hh
        refine ⟨_, rfl, ?_⟩
        exact ⟨(l1_oext0_1, l1_oext0_2, l1_oloc5), rfl, h⟩
theorem all_expr_reader_args : ∀ k, C_expr_reader_args k ∧ C_expr_reader_word k ∧ C_expr_reader_first k ∧ C_expr_reader_part k ∧ C_expr_reader_factor k ∧ C_expr_reader_level k
  | 0 => ⟨(by intro o0_l o0_at o0_bad r h; rw [expr_reader_args] at h; cases h), (by intro a1 a2 o0_l o0_at o0_bad r h; rw [expr_reader_word] at h; cases h), (by intro o0_l o0_at o0_bad r h; rw [expr_reader_first] at h; cases h), (by intro o0_l o0_at o0_bad r h; rw [expr_reader_part] at h; cases h), (by intro o0_l o0_at o0_bad r h; rw [expr_reader_factor] at h; cases h), (by intro a1 o0_l o0_at o0_bad r h; rw [expr_reader_level] at h; cases h)⟩
  | k + 1 => by
    obtain ⟨h0, h1, h2, h3, h4, h5⟩ := all_expr_reader_args k
    exact ⟨st_expr_reader_args k h5, st_expr_reader_word k h0, st_expr_reader_first k h0 h1 h5, st_expr_reader_part k h2 h5, st_expr_reader_factor k h3 h4, st_expr_reader_level k h4 h5⟩
theorem ok_expr_reader_args (k : Nat) (o0_l : List TToken) (o0_at : Int) (o0_bad : Bool) (r : List TNode × Int × Bool) (h : expr_reader_args k o0_l o0_at o0_bad = some r) :
    SF Z 46 [.ptr (.ext 0) 0] [(.ext 0, .cells true [.slice .none 4 (eTToken.F o0_l), .int .i64 o0_at, .bool o0_bad])] (.slice .none 5 (eTNode.F r.1)) [(.ext 0, .cells true [.slice .none 4 (eTToken.F o0_l), .int .i64 r.2.1, .bool r.2.2])] := (all_expr_reader_args k).1 o0_l o0_at o0_bad r h
theorem ok_expr_reader_word (k : Nat) (a1 : TNode) (a2 : List UInt8) (o0_l : List TToken) (o0_at : Int) (o0_bad : Bool) (r : TNode × Int × Bool) (h : expr_reader_word k a1 a2 o0_l o0_at o0_bad = some r) :
    SF Z 123 [.ptr (.ext 0) 0, .agg (cTNode a1), .str a2] [(.ext 0, .cells true [.slice .none 4 (eTToken.F o0_l), .int .i64 o0_at, .bool o0_bad])] (.agg (cTNode r.1)) [(.ext 0, .cells true [.slice .none 4 (eTToken.F o0_l), .int .i64 r.2.1, .bool r.2.2])] := (all_expr_reader_args k).2.1 a1 a2 o0_l o0_at o0_bad r h
theorem ok_expr_reader_first (k : Nat) (o0_l : List TToken) (o0_at : Int) (o0_bad : Bool) (r : TNode × Int × Bool) (h : expr_reader_first k o0_l o0_at o0_bad = some r) :
    SF Z 111 [.ptr (.ext 0) 0] [(.ext 0, .cells true [.slice .none 4 (eTToken.F o0_l), .int .i64 o0_at, .bool o0_bad])] (.agg (cTNode r.1)) [(.ext 0, .cells true [.slice .none 4 (eTToken.F o0_l), .int .i64 r.2.1, .bool r.2.2])] := (all_expr_reader_args k).2.2.1 o0_l o0_at o0_bad r h
theorem ok_expr_reader_part (k : Nat) (o0_l : List TToken) (o0_at : Int) (o0_bad : Bool) (r : TNode × Int × Bool) (h : expr_reader_part k o0_l o0_at o0_bad = some r) :
    SF Z 96 [.ptr (.ext 0) 0] [(.ext 0, .cells true [.slice .none 4 (eTToken.F o0_l), .int .i64 o0_at, .bool o0_bad])] (.agg (cTNode r.1)) [(.ext 0, .cells true [.slice .none 4 (eTToken.F o0_l), .int .i64 r.2.1, .bool r.2.2])] := (all_expr_reader_args k).2.2.2.1 o0_l o0_at o0_bad r h
theorem ok_expr_reader_factor (k : Nat) (o0_l : List TToken) (o0_at : Int) (o0_bad : Bool) (r : TNode × Int × Bool) (h : expr_reader_factor k o0_l o0_at o0_bad = some r) :
    SF Z 70 [.ptr (.ext 0) 0] [(.ext 0, .cells true [.slice .none 4 (eTToken.F o0_l), .int .i64 o0_at, .bool o0_bad])] (.agg (cTNode r.1)) [(.ext 0, .cells true [.slice .none 4 (eTToken.F o0_l), .int .i64 r.2.1, .bool r.2.2])] := (all_expr_reader_args k).2.2.2.2.1 o0_l o0_at o0_bad r h
theorem ok_expr_reader_level (k : Nat) (a1 : Int) (o0_l : List TToken) (o0_at : Int) (o0_bad : Bool) (r : TNode × Int × Bool) (h : expr_reader_level k a1 o0_l o0_at o0_bad = some r) :
    SF Z 36 [.ptr (.ext 0) 0, .int .i64 a1] [(.ext 0, .cells true [.slice .none 4 (eTToken.F o0_l), .int .i64 o0_at, .bool o0_bad])] (.agg (cTNode r.1)) [(.ext 0, .cells true [.slice .none 4 (eTToken.F o0_l), .int .i64 r.2.1, .bool r.2.2])] := (all_expr_reader_args k).2.2.2.2.2 a1 o0_l o0_at o0_bad r h
theorem ok_expr_Expr (k : Nat) (a0 : List TToken) (a1 : Int) (r : TNode × Int × Int) (h : expr_Expr k a0 a1 = some r) :
    SF Z 12 [.slice .none 4 (eTToken.F a0), .int .i64 a1] [] (.tuple [.agg (cTNode r.1), .int .i64 r.2.1, .int .i64 r.2.2]) [] := by
  unfold expr_Expr at h
  refine SF.intro Tryd.func12 rfl Tryd.ntmps12 rfl (Nat.le_of_ble_eq_true rfl) (by decide) ?_
  refine SC.seq ?_
  refine SC.region 3 rfl ?_
  refine SO.run c0 3 ⟨[(0, .slice .none 4 (eTToken.F a0)), (1, .int .i64 a1), (4, .ptr (.loc 4) 0)], [(.loc 4, .cells true [.int .i64 0, .int .i64 0, .int .i64 0, .str [], .nils])]⟩ (by decide) (by kernel_rfl) ?_
  refine SO.done ?_
  refine SC.seq ?_
  refine SC.region 5 rfl ?_
  refine SO.run c0 5 ⟨[(4, .ptr (.loc 4) 0), (7, .ptr (.loc 7) 0)], [(.loc 4, .cells true [.int .i64 0, .int .i64 0, .int .i64 0, .str [], .nils]), (.loc 7, .cells true [.slice .none 4 (eTToken.F a0), .int .i64 a1, .bool false])]⟩ (by decide) (by kernel_rfl) ?_
  refine SO.done ?_
  refine SC.seq ?_
  refine SC.region 8 rfl ?_
  obtain ⟨⟨x2_0_0, x2_0_1, x2_0_2⟩, hx2_0, h⟩ := Opt.ex h
  refine SO.call ⟨36, [.ptr (.ext 0) 0, .int .i64 1], [(.ext 0, .cells true [.slice .none 4 (eTToken.F a0), .int .i64 a1, .bool false])], [.loc 7], some 11⟩ ⟨[(4, .ptr (.loc 4) 0), (7, .ptr (.loc 7) 0), (11, .agg (cTNode x2_0_0))], [(.loc 4, .cells true [.int .i64 0, .int .i64 0, .int .i64 0, .str [], .nils]), (.loc 7, .cells true [.slice .none 4 (eTToken.F a0), .int .i64 x2_0_1, .bool x2_0_2])]⟩ (by decide) (by kernel_rfl) (ok_expr_reader_level k 1 a0 a1 false (x2_0_0, x2_0_1, x2_0_2) hx2_0) (by kernel_rfl) ?_
  obtain ⟨⟨x2_1_0, x2_1_1, x2_1_2⟩, hx2_1, h⟩ := Opt.ex h
  refine SO.call ⟨35, [.ptr (.ext 0) 0, .agg (cTNode x2_0_0)], [(.ext 0, .cells true [.slice .none 4 (eTToken.F a0), .int .i64 x2_0_1, .bool x2_0_2])], [.loc 7], some 12⟩ ⟨[(4, .ptr (.loc 4) 0), (12, .tuple [.agg (cTNode x2_1_0), .int .i64 x2_1_1, .int .i64 x2_1_2])], [(.loc 4, .cells true [.int .i64 0, .int .i64 0, .int .i64 0, .str [], .nils])]⟩ (by decide) (by kernel_rfl) (ok_expr_reader_end k x2_0_0 a0 x2_0_1 x2_0_2 (x2_1_0, x2_1_1, x2_1_2) hx2_1) (by kernel_rfl) ?_
  refine SO.run c0 8 ⟨[(4, .ptr (.loc 4) 0), (5, .int .i64 x2_1_1), (6, .int .i64 x2_1_2)], [(.loc 4, .cells true (cTNode x2_1_0))]⟩ (by decide) (by kernel_rfl) ?_
  refine SO.done ?_
  refine SC.ret ?_
  replace h := Option.some.inj h
  subst h
  exact ⟨[.agg (cTNode x2_1_0), .int .i64 x2_1_1, .int .i64 x2_1_2], by kernel_rfl, Wk.eq (by kernel_rfl), trivial, by kernel_rfl⟩
theorem ok_law13_works (k : Nat) (r : Bool) (h : law13_works k = some r) :
    SF Z 10 [] [] (.bool r) [] := by
  unfold law13_works at h
  refine SF.intro Tryd.func10 rfl Tryd.ntmps10 rfl (Nat.le_of_ble_eq_true rfl) (by decide) ?_
  refine SC.seq ?_
  refine SC.region 1 rfl ?_
  refine SO.run c0 1 ⟨[], []⟩ (by decide) (by kernel_rfl) ?_
  refine SO.done ?_
  refine SC.seq ?_
  refine SC.region 8 rfl ?_
  obtain ⟨⟨x1_0_0, x1_0_1, x1_0_2⟩, hx1_0, h⟩ := Opt.ex h
  refine SO.call ⟨11, [.str [97, 32, 43, 32, 98, 32, 42, 32, 99, 32, 60, 32, 100, 32, 60, 32, 101]], [], [], some 8⟩ ⟨[(8, .tuple [.slice .none 4 (eTToken.F x1_0_0), .int .i64 x1_0_1, .int .i64 x1_0_2])], []⟩ (by decide) (by kernel_rfl) (ok_ref10_All k [97, 32, 43, 32, 98, 32, 42, 32, 99, 32, 60, 32, 100, 32, 60, 32, 101] (x1_0_0, x1_0_1, x1_0_2) hx1_0) (by kernel_rfl) ?_
  refine SO.run c0 8 ⟨[(1, .slice .none 4 (eTToken.F x1_0_0))], []⟩ (by decide) (by kernel_rfl) ?_
  refine SO.done ?_
  refine SC.seq ?_
  refine SC.region 10 rfl ?_
  refine SO.run c0 1 ⟨[(13, .slice .none 4 (eTToken.F x1_0_0))], []⟩ (by decide) (by kernel_rfl) ?_
  obtain ⟨⟨x2_1_0, x2_1_1, x2_1_2⟩, hx2_1, h⟩ := Opt.ex h
  refine SO.call ⟨12, [.slice .none 4 (eTToken.F x1_0_0), .int .i64 0], [], [], some 14⟩ ⟨[(14, .tuple [.agg (cTNode x2_1_0), .int .i64 x2_1_1, .int .i64 x2_1_2])], []⟩ (by decide) (by kernel_rfl) (ok_expr_Expr k x1_0_0 0 (x2_1_0, x2_1_1, x2_1_2) hx2_1) (by kernel_rfl) ?_
  refine SO.run c0 10 ⟨[(4, .ptr (.loc 4) 0), (5, .int .i64 x2_1_1), (6, .int .i64 x2_1_2)], [(.loc 4, .cells true (cTNode x2_1_0))]⟩ (by decide) (by kernel_rfl) ?_
  refine SO.done ?_
  refine SC.seq ?_
  refine SC.region 36 rfl ?_
  refine SO.run c0 3 ⟨[(4, .ptr (.loc 4) 0), (5, .int .i64 x2_1_1), (20, .bool (x2_1_2 == 0))], [(.loc 4, .cells true (cTNode x2_1_0))]⟩ (by decide) (by kernel_rfl) ?_
  refine SO.runB c0 6 (x2_1_2 == 0) (fun b => ⟨[(4, .ptr (.loc 4) 0), (5, .int .i64 x2_1_1), (20, .bool b)], [(.loc 4, .cells true (cTNode x2_1_0))]⟩) (fun b => ⟨[(4, .ptr (.loc 4) 0), (23, .bool (b && (x2_1_1 == 7)))], [(.loc 4, .cells true (cTNode x2_1_0))]⟩) (by decide) (by kernel_rfl) (by kernel_rfl) ?_
  refine SO.run c0 7 ⟨[(4, .ptr (.loc 4) 0), (24, .bool ((x2_1_2 == 0) && (x2_1_1 == 7)))], [(.loc 4, .cells true (cTNode x2_1_0))]⟩ (by decide) (by kernel_rfl) ?_
  refine SO.runB c0 11 ((x2_1_2 == 0) && (x2_1_1 == 7)) (fun b => ⟨[(4, .ptr (.loc 4) 0), (24, .bool b)], [(.loc 4, .cells true (cTNode x2_1_0))]⟩) (fun b => ⟨[(4, .ptr (.loc 4) 0), (28, .bool (b && (x2_1_0.Kind == 16)))], [(.loc 4, .cells true (cTNode x2_1_0))]⟩) (by decide) (by kernel_rfl) (by kernel_rfl) ?_
  refine SO.run c0 12 ⟨[(4, .ptr (.loc 4) 0), (29, .bool (((x2_1_2 == 0) && (x2_1_1 == 7)) && (x2_1_0.Kind == 16)))], [(.loc 4, .cells true (cTNode x2_1_0))]⟩ (by decide) (by kernel_rfl) ?_
  refine SO.runB c0 16 (((x2_1_2 == 0) && (x2_1_1 == 7)) && (x2_1_0.Kind == 16)) (fun b => ⟨[(4, .ptr (.loc 4) 0), (29, .bool b)], [(.loc 4, .cells true (cTNode x2_1_0))]⟩) (fun b => ⟨[(4, .ptr (.loc 4) 0), (33, .bool (b && (x2_1_0.N == 8)))], [(.loc 4, .cells true (cTNode x2_1_0))]⟩) (by decide) (by kernel_rfl) (by kernel_rfl) ?_
  refine SO.run c0 17 ⟨[(4, .ptr (.loc 4) 0), (34, .bool ((((x2_1_2 == 0) && (x2_1_1 == 7)) && (x2_1_0.Kind == 16)) && (x2_1_0.N == 8)))], [(.loc 4, .cells true (cTNode x2_1_0))]⟩ (by decide) (by kernel_rfl) ?_
  refine SO.runB c0 21 ((((x2_1_2 == 0) && (x2_1_1 == 7)) && (x2_1_0.Kind == 16)) && (x2_1_0.N == 8)) (fun b => ⟨[(4, .ptr (.loc 4) 0), (34, .bool b)], [(.loc 4, .cells true (cTNode x2_1_0))]⟩) (fun b => ⟨[(4, .ptr (.loc 4) 0), (38, .bool (b && (x2_1_0.At == 10)))], [(.loc 4, .cells true (cTNode x2_1_0))]⟩) (by decide) (by kernel_rfl) (by kernel_rfl) ?_
  refine SO.run c0 22 ⟨[(4, .ptr (.loc 4) 0), (39, .bool (((((x2_1_2 == 0) && (x2_1_1 == 7)) && (x2_1_0.Kind == 16)) && (x2_1_0.N == 8)) && (x2_1_0.At == 10)))], [(.loc 4, .cells true (cTNode x2_1_0))]⟩ (by decide) (by kernel_rfl) ?_
  refine SO.runB c0 27 (((((x2_1_2 == 0) && (x2_1_1 == 7)) && (x2_1_0.Kind == 16)) && (x2_1_0.N == 8)) && (x2_1_0.At == 10)) (fun b => ⟨[(4, .ptr (.loc 4) 0), (39, .bool b)], [(.loc 4, .cells true (cTNode x2_1_0))]⟩) (fun b => ⟨[(4, .ptr (.loc 4) 0), (44, .bool (b && (((x2_1_0.Kids.length : Int)) == 2)))], [(.loc 4, .cells true (cTNode x2_1_0))]⟩) (by decide) (Eq.trans (b := some ⟨[(4, .ptr (.loc 4) 0), (44, .bool (true && ((((eTNode.F x2_1_0.Kids).length : Int)) == 2)))], [(.loc 4, .cells true (cTNode x2_1_0))]⟩) (by kernel_rfl) (by simp only [LE.len])) (Eq.trans (b := some ⟨[(4, .ptr (.loc 4) 0), (44, .bool (false && ((((eTNode.F x2_1_0.Kids).length : Int)) == 2)))], [(.loc 4, .cells true (cTNode x2_1_0))]⟩) (by kernel_rfl) (by simp only [LE.len])) ?_
  refine SO.run c0 28 ⟨[(4, .ptr (.loc 4) 0), (45, .bool ((((((x2_1_2 == 0) && (x2_1_1 == 7)) && (x2_1_0.Kind == 16)) && (x2_1_0.N == 8)) && (x2_1_0.At == 10)) && (((x2_1_0.Kids.length : Int)) == 2)))], [(.loc 4, .cells true (cTNode x2_1_0))]⟩ (by decide) (by kernel_rfl) ?_
  refine SO.joinK h (fun v : Bool => ⟨[(52, .bool v)], []⟩) 35 (by decide) ?_ ?_
  · rintro g3_34_52 h
    refine SO.eqS (S1 := ⟨[(52, .bool g3_34_52)], []⟩) rfl ?_
    refine SO.run c0 36 ⟨[(0, .bool g3_34_52)], []⟩ (by decide) (by kernel_rfl) ?_
    refine SO.done ?_
    refine SC.ret ?_
    replace h := Option.some.inj h
    subst h
    exact ⟨[.bool g3_34_52], by kernel_rfl, Wk.eq (by kernel_rfl), trivial, by kernel_rfl⟩
  · intro j_g3_34 h
    refine SO.bool ((((((x2_1_2 == 0) && (x2_1_1 == 7)) && (x2_1_0.Kind == 16)) && (x2_1_0.N == 8)) && (x2_1_0.At == 10)) && (((x2_1_0.Kids.length : Int)) == 2)) (fun b => ⟨[(4, .ptr (.loc 4) 0), (45, .bool b)], [(.loc 4, .cells true (cTNode x2_1_0))]⟩) (fun ht => ?_) (fun ht => ?_)
    · replace h := Opt.t h ht
      refine SO.run c0 30 ⟨[(45, .bool true), (47, .slice .none 5 (eTNode.F x2_1_0.Kids))], []⟩ (by decide) (by kernel_rfl) ?_
      obtain ⟨x3_30, hx3_30, h⟩ := Opt.ex h
      refine SO.op c0 { v := .pin (cTNode x3_30) } ⟨[(45, .bool true), (48, .pin (cTNode x3_30))], []⟩ (by decide) (ixR eTNode 27 .none 5 x2_1_0.Kids .i64 0 x3_30 (cTNode x3_30) (by kernel_rfl) (by kernel_rfl) hx3_30 (xTNode x3_30)) (by kernel_rfl) ?_
      refine SO.run c0 35 ⟨[(52, .bool (x3_30.N == 1))], []⟩ (by decide) (by kernel_rfl) ?_
      exact SO.done ⟨(x3_30.N == 1), rfl, h⟩
    · replace h := Opt.f h ht
      refine SO.run c0 35 ⟨[(52, .bool false)], []⟩ (by decide) (by kernel_rfl) ?_
      exact SO.done ⟨false, rfl, h⟩
def C_ref13_Placed (k : Nat) : Prop := ∀ (a0 : TNode) (a1 : TNode) (r : Bool), ref13_Placed k a0 a1 = some r →
  SF Z 14 [.agg (cTNode a0), .agg (cTNode a1)] [] (.bool r) []
theorem st_ref13_Placed (k : Nat) (ih_ref13_Placed : C_ref13_Placed k) : C_ref13_Placed (k + 1) := by
  intro a0 a1 r h
  rw [ref13_Placed] at h
  refine SF.intro Tryd.func14 rfl Tryd.ntmps14 rfl (Nat.le_of_ble_eq_true rfl) (by decide) ?_
  refine SC.seq ?_
  refine SC.region 3 rfl ?_
  refine SO.run c0 3 ⟨[(2, .ptr (.loc 2) 0), (3, .ptr (.loc 3) 0)], [(.loc 2, .cells true (cTNode a0)), (.loc 3, .cells true (cTNode a1))]⟩ (by decide) (by kernel_rfl) ?_
  refine SO.done ?_
  refine SC.seq ?_
  refine SC.seq ?_
  refine SC.region 35 rfl ?_
  refine SO.run c0 6 ⟨[(2, .ptr (.loc 2) 0), (3, .ptr (.loc 3) 0), (11, .bool (a0.Kind != a1.Kind))], [(.loc 2, .cells true (cTNode a0)), (.loc 3, .cells true (cTNode a1))]⟩ (by decide) (by kernel_rfl) ?_
  refine SO.runB c0 12 (a0.Kind != a1.Kind) (fun b => ⟨[(2, .ptr (.loc 2) 0), (3, .ptr (.loc 3) 0), (11, .bool b)], [(.loc 2, .cells true (cTNode a0)), (.loc 3, .cells true (cTNode a1))]⟩) (fun b => ⟨[(2, .ptr (.loc 2) 0), (3, .ptr (.loc 3) 0), (17, .bool (b || (a0.At != a1.At)))], [(.loc 2, .cells true (cTNode a0)), (.loc 3, .cells true (cTNode a1))]⟩) (by decide) (by kernel_rfl) (by kernel_rfl) ?_
  refine SO.run c0 13 ⟨[(2, .ptr (.loc 2) 0), (3, .ptr (.loc 3) 0), (18, .bool ((a0.Kind != a1.Kind) || (a0.At != a1.At)))], [(.loc 2, .cells true (cTNode a0)), (.loc 3, .cells true (cTNode a1))]⟩ (by decide) (by kernel_rfl) ?_
  refine SO.runB c0 19 ((a0.Kind != a1.Kind) || (a0.At != a1.At)) (fun b => ⟨[(2, .ptr (.loc 2) 0), (3, .ptr (.loc 3) 0), (18, .bool b)], [(.loc 2, .cells true (cTNode a0)), (.loc 3, .cells true (cTNode a1))]⟩) (fun b => ⟨[(2, .ptr (.loc 2) 0), (3, .ptr (.loc 3) 0), (24, .bool (b || (a0.N != a1.N)))], [(.loc 2, .cells true (cTNode a0)), (.loc 3, .cells true (cTNode a1))]⟩) (by decide) (by kernel_rfl) (by kernel_rfl) ?_
  refine SO.run c0 20 ⟨[(2, .ptr (.loc 2) 0), (3, .ptr (.loc 3) 0), (25, .bool (((a0.Kind != a1.Kind) || (a0.At != a1.At)) || (a0.N != a1.N)))], [(.loc 2, .cells true (cTNode a0)), (.loc 3, .cells true (cTNode a1))]⟩ (by decide) (by kernel_rfl) ?_
  refine SO.runB c0 26 (((a0.Kind != a1.Kind) || (a0.At != a1.At)) || (a0.N != a1.N)) (fun b => ⟨[(2, .ptr (.loc 2) 0), (3, .ptr (.loc 3) 0), (25, .bool b)], [(.loc 2, .cells true (cTNode a0)), (.loc 3, .cells true (cTNode a1))]⟩) (fun b => ⟨[(2, .ptr (.loc 2) 0), (3, .ptr (.loc 3) 0), (31, .bool (b || (!(a0.Name == a1.Name))))], [(.loc 2, .cells true (cTNode a0)), (.loc 3, .cells true (cTNode a1))]⟩) (by decide) (by kernel_rfl) (by kernel_rfl) ?_
  refine SO.run c0 27 ⟨[(2, .ptr (.loc 2) 0), (3, .ptr (.loc 3) 0), (32, .bool ((((a0.Kind != a1.Kind) || (a0.At != a1.At)) || (a0.N != a1.N)) || (!(a0.Name == a1.Name))))], [(.loc 2, .cells true (cTNode a0)), (.loc 3, .cells true (cTNode a1))]⟩ (by decide) (by kernel_rfl) ?_
  refine SO.runB c0 35 ((((a0.Kind != a1.Kind) || (a0.At != a1.At)) || (a0.N != a1.N)) || (!(a0.Name == a1.Name))) (fun b => ⟨[(2, .ptr (.loc 2) 0), (3, .ptr (.loc 3) 0), (32, .bool b)], [(.loc 2, .cells true (cTNode a0)), (.loc 3, .cells true (cTNode a1))]⟩) (fun b => ⟨[(2, .ptr (.loc 2) 0), (3, .ptr (.loc 3) 0), (40, .bool (b || (((a0.Kids.length : Int)) != ((a1.Kids.length : Int)))))], [(.loc 2, .cells true (cTNode a0)), (.loc 3, .cells true (cTNode a1))]⟩) (by decide) (Eq.trans (b := some ⟨[(2, .ptr (.loc 2) 0), (3, .ptr (.loc 3) 0), (40, .bool (true || ((((eTNode.F a0.Kids).length : Int)) != (((eTNode.F a1.Kids).length : Int)))))], [(.loc 2, .cells true (cTNode a0)), (.loc 3, .cells true (cTNode a1))]⟩) (by kernel_rfl) (by simp only [LE.len])) (Eq.trans (b := some ⟨[(2, .ptr (.loc 2) 0), (3, .ptr (.loc 3) 0), (40, .bool (false || ((((eTNode.F a0.Kids).length : Int)) != (((eTNode.F a1.Kids).length : Int)))))], [(.loc 2, .cells true (cTNode a0)), (.loc 3, .cells true (cTNode a1))]⟩) (by kernel_rfl) (by simp only [LE.len])) ?_
  refine SO.done ?_
  refine SC.cond (((((a0.Kind != a1.Kind) || (a0.At != a1.At)) || (a0.N != a1.N)) || (!(a0.Name == a1.Name))) || (((a0.Kids.length : Int)) != ((a1.Kids.length : Int)))) (by kernel_rfl) (fun ht => ?_) (fun ht => ?_)
  · replace h := Opt.t h ht
    refine SC.seq ?_
    refine SC.region 1 rfl ?_
    refine SO.run c0 1 ⟨[(4, .bool false)], []⟩ (by decide) (by kernel_rfl) ?_
    refine SO.done ?_
    refine SC.ret ?_
    replace h := Option.some.inj h
    subst h
    exact ⟨[.bool false], by kernel_rfl, Wk.eq (by kernel_rfl), trivial, by kernel_rfl⟩
  · replace h := Opt.f h ht
    refine SC.skip ?_
    apply SC.seqJ (r := r) h (fun v : Unit => ⟨[], []⟩)
    · rintro ⟨⟩ r h
      refine SC.eqS (S1 := ⟨[], []⟩) rfl ?_
      refine SC.seq ?_
      refine SC.region 1 rfl ?_
      refine SO.run c0 1 ⟨[(4, .bool true)], []⟩ (by decide) (by kernel_rfl) ?_
      refine SO.done ?_
      refine SC.ret ?_
      replace h := Option.some.inj h
      subst h
      exact ⟨[.bool true], by kernel_rfl, Wk.eq (by kernel_rfl), trivial, by kernel_rfl⟩
    · intro j_j0 h
      refine SC.seq ?_
      refine SC.region 1 rfl ?_
      refine SO.run c0 1 ⟨[(2, .ptr (.loc 2) 0), (3, .ptr (.loc 3) 0), (5, .int .i64 0)], [(.loc 2, .cells true (cTNode a0)), (.loc 3, .cells true (cTNode a1))]⟩ (by decide) (by kernel_rfl) ?_
      refine SO.done ?_
      refine SC.block ?_
      apply SC.loopJ (r := r) h (fun v : Int => ⟨[(2, .ptr (.loc 2) 0), (3, .ptr (.loc 3) 0), (5, .int .i64 v)], [(.loc 2, .cells true (cTNode a0)), (.loc 3, .cells true (cTNode a1))]⟩)
      rintro l1_5 r h
      refine SC.eqS (S1 := ⟨[(2, .ptr (.loc 2) 0), (3, .ptr (.loc 3) 0), (5, .int .i64 l1_5)], [(.loc 2, .cells true (cTNode a0)), (.loc 3, .cells true (cTNode a1))]⟩) rfl ?_
      refine SC.seq ?_
      refine SC.seq ?_
      refine SC.region 5 rfl ?_
      refine SO.run c0 5 ⟨[(2, .ptr (.loc 2) 0), (3, .ptr (.loc 3) 0), (5, .int .i64 l1_5), (45, .bool (decide (l1_5 < ((a0.Kids.length : Int)))))], [(.loc 2, .cells true (cTNode a0)), (.loc 3, .cells true (cTNode a1))]⟩ (by decide) (Eq.trans (b := some ⟨[(2, .ptr (.loc 2) 0), (3, .ptr (.loc 3) 0), (5, .int .i64 l1_5), (45, .bool (decide (l1_5 < (((eTNode.F a0.Kids).length : Int)))))], [(.loc 2, .cells true (cTNode a0)), (.loc 3, .cells true (cTNode a1))]⟩) (by kernel_rfl) (by simp only [LE.len])) ?_
      refine SO.done ?_
      refine SC.cond (decide (l1_5 < ((a0.Kids.length : Int)))) (by kernel_rfl) (fun ht => ?_) (fun ht => ?_)
      · replace h := Opt.t h ht
        refine SC.skip ?_
        refine SC.seq ?_
        refine SC.block ?_
        refine SC.seq ?_
        refine SC.drawS 12 rfl (by kernel_rfl) ?_
        refine QD.run 3 ⟨[(2, .ptr (.loc 2) 0), (3, .ptr (.loc 3) 0), (5, .int .i64 l1_5), (45, .bool (decide (l1_5 < ((a0.Kids.length : Int))))), (48, .ptr (.loc 2) 4), (49, .slice .none 5 (eTNode.F a0.Kids)), (50, .int .i64 l1_5)], [(.loc 2, .cells true (cTNode a0)), (.loc 3, .cells true (cTNode a1))]⟩ (by decide) (by kernel_rfl) ?_
        obtain ⟨x6_3, hx6_3, h⟩ := Opt.ex h
        refine QD.op (.pin (cTNode x6_3)) ⟨[(2, .ptr (.loc 2) 0), (3, .ptr (.loc 3) 0), (5, .int .i64 l1_5), (45, .bool (decide (l1_5 < ((a0.Kids.length : Int))))), (48, .ptr (.loc 2) 4), (49, .slice .none 5 (eTNode.F a0.Kids)), (50, .int .i64 l1_5), (51, .pin (cTNode x6_3))], [(.loc 2, .cells true (cTNode a0)), (.loc 3, .cells true (cTNode a1))]⟩ (by decide) (ixR eTNode 27 .none 5 a0.Kids .i64 l1_5 x6_3 (cTNode x6_3) (by kernel_rfl) (by kernel_rfl) hx6_3 (xTNode x6_3)) (by kernel_rfl) ?_
        refine QD.run 8 ⟨[(2, .ptr (.loc 2) 0), (3, .ptr (.loc 3) 0), (5, .int .i64 l1_5), (45, .bool (decide (l1_5 < ((a0.Kids.length : Int))))), (48, .ptr (.loc 2) 4), (49, .slice .none 5 (eTNode.F a0.Kids)), (50, .int .i64 l1_5), (51, .pin (cTNode x6_3)), (52, .agg (cTNode x6_3)), (53, .ptr (.loc 3) 4), (54, .slice .none 5 (eTNode.F a1.Kids)), (55, .int .i64 l1_5)], [(.loc 2, .cells true (cTNode a0)), (.loc 3, .cells true (cTNode a1))]⟩ (by decide) (by kernel_rfl) ?_
        obtain ⟨x6_8, hx6_8, h⟩ := Opt.ex h
        refine QD.op (.pin (cTNode x6_8)) ⟨[(2, .ptr (.loc 2) 0), (3, .ptr (.loc 3) 0), (5, .int .i64 l1_5), (45, .bool (decide (l1_5 < ((a0.Kids.length : Int))))), (48, .ptr (.loc 2) 4), (49, .slice .none 5 (eTNode.F a0.Kids)), (50, .int .i64 l1_5), (51, .pin (cTNode x6_3)), (52, .agg (cTNode x6_3)), (53, .ptr (.loc 3) 4), (54, .slice .none 5 (eTNode.F a1.Kids)), (55, .int .i64 l1_5), (56, .pin (cTNode x6_8))], [(.loc 2, .cells true (cTNode a0)), (.loc 3, .cells true (cTNode a1))]⟩ (by decide) (ixR eTNode 27 .none 5 a1.Kids .i64 l1_5 x6_8 (cTNode x6_8) (by kernel_rfl) (by kernel_rfl) hx6_8 (xTNode x6_8)) (by kernel_rfl) ?_
        refine QD.run 10 ⟨[(2, .ptr (.loc 2) 0), (3, .ptr (.loc 3) 0), (5, .int .i64 l1_5), (45, .bool (decide (l1_5 < ((a0.Kids.length : Int))))), (48, .ptr (.loc 2) 4), (49, .slice .none 5 (eTNode.F a0.Kids)), (50, .int .i64 l1_5), (51, .pin (cTNode x6_3)), (52, .agg (cTNode x6_3)), (53, .ptr (.loc 3) 4), (54, .slice .none 5 (eTNode.F a1.Kids)), (55, .int .i64 l1_5), (56, .pin (cTNode x6_8)), (57, .agg (cTNode x6_8))], [(.loc 2, .cells true (cTNode a0)), (.loc 3, .cells true (cTNode a1))]⟩ (by decide) (by kernel_rfl) ?_
        obtain ⟨x6_10, hx6_10, h⟩ := Opt.ex h
        refine QD.callT ⟨14, [.agg (cTNode x6_3), .agg (cTNode x6_8)], [], [], some 58⟩ ⟨[(2, .ptr (.loc 2) 0), (3, .ptr (.loc 3) 0), (5, .int .i64 l1_5), (45, .bool (decide (l1_5 < ((a0.Kids.length : Int))))), (48, .ptr (.loc 2) 4), (49, .slice .none 5 (eTNode.F a0.Kids)), (50, .int .i64 l1_5), (51, .pin (cTNode x6_3)), (52, .agg (cTNode x6_3)), (53, .ptr (.loc 3) 4), (54, .slice .none 5 (eTNode.F a1.Kids)), (55, .int .i64 l1_5), (56, .pin (cTNode x6_8)), (57, .agg (cTNode x6_8)), (58, .bool x6_10)], [(.loc 2, .cells true (cTNode a0)), (.loc 3, .cells true (cTNode a1))]⟩ (by decide) (by kernel_rfl) (ih_ref13_Placed x6_3 x6_8 x6_10 hx6_10) (by kernel_rfl) (by kernel_rfl) (by kernel_rfl) ?_
        refine QD.run 12 ⟨[(2, .ptr (.loc 2) 0), (3, .ptr (.loc 3) 0), (5, .int .i64 l1_5), (45, .bool (decide (l1_5 < ((a0.Kids.length : Int))))), (48, .ptr (.loc 2) 4), (49, .slice .none 5 (eTNode.F a0.Kids)), (50, .int .i64 l1_5), (51, .pin (cTNode x6_3)), (52, .agg (cTNode x6_3)), (53, .ptr (.loc 3) 4), (54, .slice .none 5 (eTNode.F a1.Kids)), (55, .int .i64 l1_5), (56, .pin (cTNode x6_8)), (57, .agg (cTNode x6_8)), (58, .bool x6_10), (59, .bool (!x6_10))], [(.loc 2, .cells true (cTNode a0)), (.loc 3, .cells true (cTNode a1))]⟩ (by decide) (by kernel_rfl) ?_
        refine QD.fin ⟨[(2, .ptr (.loc 2) 0), (3, .ptr (.loc 3) 0), (5, .int .i64 l1_5), (59, .bool (!x6_10))], [(.loc 2, .cells true (cTNode a0)), (.loc 3, .cells true (cTNode a1))]⟩ (by kernel_rfl) ?_
        refine SC.cond (!x6_10) (by kernel_rfl) (fun ht => ?_) (fun ht => ?_)
        · replace h := Opt.t h ht
          refine SC.seq ?_
          refine SC.region 1 rfl ?_
          refine SO.run c0 1 ⟨[(4, .bool false)], []⟩ (by decide) (by kernel_rfl) ?_
          refine SO.done ?_
          refine SC.ret ?_
          replace h := Option.some.inj h
          subst h
          refine ⟨_, rfl, ?_⟩
          exact ⟨[.bool false], by kernel_rfl, Wk.eq (by kernel_rfl), trivial, by kernel_rfl⟩
        · replace h := Opt.f h ht
          refine SC.skip ?_
          refine SC.region 3 rfl ?_
          refine SO.run c0 3 ⟨[(2, .ptr (.loc 2) 0), (3, .ptr (.loc 3) 0), (5, .int .i64 (IntKind.i64.wrap (l1_5 + 1)))], [(.loc 2, .cells true (cTNode a0)), (.loc 3, .cells true (cTNode a1))]⟩ (by decide) (by kernel_rfl) ?_
          refine SO.done ?_
          replace h := Option.some.inj h
          subst h
          exact ⟨(IntKind.i64.wrap (l1_5 + 1)), rfl, rfl⟩
      · replace h := Opt.f h ht
        refine SC.weak (S1 := ⟨[], []⟩) ?_ ?_
        · exact ⟨trivial, trivial, by kernel_rfl⟩
        refine SC.exit ?_
        obtain ⟨r1, hh, e1⟩ := Opt.inr h
        clear h
        subst e1
        have h := hh
        clear hh
        refine ⟨_, rfl, ?_⟩
        exact ⟨(), rfl, h⟩
theorem all_ref13_Placed : ∀ k, C_ref13_Placed k
  | 0 => (by intro a0 a1 r h; rw [ref13_Placed] at h; cases h)
  | k + 1 => by
    have h0 := all_ref13_Placed k
    exact st_ref13_Placed k h0
theorem ok_ref13_Placed (k : Nat) (a0 : TNode) (a1 : TNode) (r : Bool) (h : ref13_Placed k a0 a1 = some r) :
    SF Z 14 [.agg (cTNode a0), .agg (cTNode a1)] [] (.bool r) [] := (all_ref13_Placed k) a0 a1 r h
theorem ok_ref11_Named (k : Nat) (a0 : List UInt8) (r : Bool) (h : ref11_Named k a0 = some r) :
    SF Z 41 [.str a0] [] (.bool r) [] := by
  unfold ref11_Named at h
  refine SF.intro Tryd.func41 rfl Tryd.ntmps41 rfl (Nat.le_of_ble_eq_true rfl) (by decide) ?_
  refine SC.seq ?_
  refine SC.region 1 rfl ?_
  refine SO.run c0 1 ⟨[(0, .str a0)], []⟩ (by decide) (by kernel_rfl) ?_
  refine SO.done ?_
  refine SC.seq ?_
  refine SC.region 9 rfl ?_
  refine SO.run c0 1 ⟨[(0, .str a0), (7, .str a0)], []⟩ (by decide) (by kernel_rfl) ?_
  obtain ⟨⟨x1_1_0, x1_1_1, x1_1_2⟩, hx1_1, h⟩ := Opt.ex h
  refine SO.call ⟨11, [.str a0], [], [], some 8⟩ ⟨[(0, .str a0), (8, .tuple [.slice .none 4 (eTToken.F x1_1_0), .int .i64 x1_1_1, .int .i64 x1_1_2])], []⟩ (by decide) (by kernel_rfl) (ok_ref10_All k a0 (x1_1_0, x1_1_1, x1_1_2) hx1_1) (by kernel_rfl) ?_
  refine SO.run c0 9 ⟨[(0, .str a0), (3, .slice .none 4 (eTToken.F x1_1_0)), (5, .int .i64 x1_1_2)], []⟩ (by decide) (by kernel_rfl) ?_
  refine SO.done ?_
  refine SC.seq ?_
  refine SC.region 23 rfl ?_
  refine SO.run c0 3 ⟨[(0, .str a0), (3, .slice .none 4 (eTToken.F x1_1_0)), (14, .bool (x1_1_2 == 0))], []⟩ (by decide) (by kernel_rfl) ?_
  refine SO.runB c0 7 (x1_1_2 == 0) (fun b => ⟨[(0, .str a0), (3, .slice .none 4 (eTToken.F x1_1_0)), (14, .bool b)], []⟩) (fun b => ⟨[(0, .str a0), (3, .slice .none 4 (eTToken.F x1_1_0)), (18, .bool (b && (((x1_1_0.length : Int)) == 2)))], []⟩) (by decide) (Eq.trans (b := some ⟨[(0, .str a0), (3, .slice .none 4 (eTToken.F x1_1_0)), (18, .bool (true && ((((eTToken.F x1_1_0).length : Int)) == 2)))], []⟩) (by kernel_rfl) (by simp only [LE.len])) (Eq.trans (b := some ⟨[(0, .str a0), (3, .slice .none 4 (eTToken.F x1_1_0)), (18, .bool (false && ((((eTToken.F x1_1_0).length : Int)) == 2)))], []⟩) (by kernel_rfl) (by simp only [LE.len])) ?_
  refine SO.run c0 8 ⟨[(0, .str a0), (3, .slice .none 4 (eTToken.F x1_1_0)), (19, .bool ((x1_1_2 == 0) && (((x1_1_0.length : Int)) == 2)))], []⟩ (by decide) (by kernel_rfl) ?_
  refine SO.joinK h (fun v : Bool => ⟨[(0, .str a0), (3, .slice .none 4 (eTToken.F x1_1_0)), (25, .bool v)], []⟩) 14 (by decide) ?_ ?_
  · rintro g2_13_25 h
    refine SO.eqS (S1 := ⟨[(0, .str a0), (3, .slice .none 4 (eTToken.F x1_1_0)), (25, .bool g2_13_25)], []⟩) rfl ?_
    refine SO.run c0 15 ⟨[(0, .str a0), (3, .slice .none 4 (eTToken.F x1_1_0)), (26, .bool g2_13_25)], []⟩ (by decide) (by kernel_rfl) ?_
    refine SO.joinK h (fun v : Bool => ⟨[(33, .bool v)], []⟩) 22 (by decide) ?_ ?_
    · rintro g2_21_33 h
      refine SO.eqS (S1 := ⟨[(33, .bool g2_21_33)], []⟩) rfl ?_
      refine SO.run c0 23 ⟨[(2, .bool g2_21_33)], []⟩ (by decide) (by kernel_rfl) ?_
      refine SO.done ?_
      refine SC.ret ?_
      replace h := Option.some.inj h
      subst h
      exact ⟨[.bool g2_21_33], by kernel_rfl, Wk.eq (by kernel_rfl), trivial, by kernel_rfl⟩
    · intro j_g2_21 h
      refine SO.bool g2_13_25 (fun b => ⟨[(0, .str a0), (3, .slice .none 4 (eTToken.F x1_1_0)), (26, .bool b)], []⟩) (fun ht => ?_) (fun ht => ?_)
      · replace h := Opt.t h ht
        refine SO.run c0 16 ⟨[(0, .str a0), (26, .bool true), (27, .slice .none 4 (eTToken.F x1_1_0))], []⟩ (by decide) (by kernel_rfl) ?_
        obtain ⟨x2_16, hx2_16, h⟩ := Opt.ex h
        refine SO.op c0 { v := .pin (cTToken x2_16) } ⟨[(0, .str a0), (26, .bool true), (28, .pin (cTToken x2_16))], []⟩ (by decide) (ixR eTToken 23 .none 4 x1_1_0 .i64 0 x2_16 (cTToken x2_16) (by kernel_rfl) (by kernel_rfl) hx2_16 (xTToken x2_16)) (by kernel_rfl) ?_
        refine SO.run c0 22 ⟨[(33, .bool (x2_16.Text == a0))], []⟩ (by decide) (by kernel_rfl) ?_
        exact SO.done ⟨(x2_16.Text == a0), rfl, h⟩
      · replace h := Opt.f h ht
        refine SO.run c0 22 ⟨[(33, .bool false)], []⟩ (by decide) (by kernel_rfl) ?_
        exact SO.done ⟨false, rfl, h⟩
  · intro j_g2_13 h
    refine SO.bool ((x1_1_2 == 0) && (((x1_1_0.length : Int)) == 2)) (fun b => ⟨[(0, .str a0), (3, .slice .none 4 (eTToken.F x1_1_0)), (19, .bool b)], []⟩) (fun ht => ?_) (fun ht => ?_)
    · replace h := Opt.t h ht
      refine SO.run c0 9 ⟨[(0, .str a0), (3, .slice .none 4 (eTToken.F x1_1_0)), (19, .bool true), (20, .slice .none 4 (eTToken.F x1_1_0))], []⟩ (by decide) (by kernel_rfl) ?_
      obtain ⟨x2_9, hx2_9, h⟩ := Opt.ex h
      refine SO.op c0 { v := .pin (cTToken x2_9) } ⟨[(0, .str a0), (3, .slice .none 4 (eTToken.F x1_1_0)), (19, .bool true), (21, .pin (cTToken x2_9))], []⟩ (by decide) (ixR eTToken 23 .none 4 x1_1_0 .i64 0 x2_9 (cTToken x2_9) (by kernel_rfl) (by kernel_rfl) hx2_9 (xTToken x2_9)) (by kernel_rfl) ?_
      refine SO.run c0 14 ⟨[(0, .str a0), (3, .slice .none 4 (eTToken.F x1_1_0)), (25, .bool (x2_9.Kind == 1))], []⟩ (by decide) (by kernel_rfl) ?_
      exact SO.done ⟨(x2_9.Kind == 1), rfl, h⟩
    · replace h := Opt.f h ht
      refine SO.run c0 14 ⟨[(0, .str a0), (3, .slice .none 4 (eTToken.F x1_1_0)), (25, .bool false)], []⟩ (by decide) (by kernel_rfl) ?_
      exact SO.done ⟨false, rfl, h⟩
def C_ref11_Type (k : Nat) : Prop := ∀ (a0 : TNode) (r : Bool), ref11_Type k a0 = some r →
  SF Z 18 [.agg (cTNode a0)] [] (.bool r) []
theorem st_ref11_Type (k : Nat) (ih_ref11_Type : C_ref11_Type k) : C_ref11_Type (k + 1) := by
  intro a0 r h
  rw [ref11_Type] at h
  refine SF.intro Tryd.func18 rfl Tryd.ntmps18 rfl (Nat.le_of_ble_eq_true rfl) (by decide) ?_
  refine SC.seq ?_
  refine SC.region 2 rfl ?_
  refine SO.run c0 2 ⟨[(1, .ptr (.loc 1) 0)], [(.loc 1, .cells true (cTNode a0))]⟩ (by decide) (by kernel_rfl) ?_
  refine SO.done ?_
  refine SC.seq ?_
  refine SC.seq ?_
  refine SC.region 3 rfl ?_
  refine SO.run c0 3 ⟨[(1, .ptr (.loc 1) 0), (5, .bool (a0.N != 0))], [(.loc 1, .cells true (cTNode a0))]⟩ (by decide) (by kernel_rfl) ?_
  refine SO.done ?_
  refine SC.cond (a0.N != 0) (by kernel_rfl) (fun ht => ?_) (fun ht => ?_)
  · replace h := Opt.t h ht
    refine SC.seq ?_
    refine SC.region 1 rfl ?_
    refine SO.run c0 1 ⟨[(2, .bool false)], []⟩ (by decide) (by kernel_rfl) ?_
    refine SO.done ?_
    refine SC.ret ?_
    replace h := Option.some.inj h
    subst h
    exact ⟨[.bool false], by kernel_rfl, Wk.eq (by kernel_rfl), trivial, by kernel_rfl⟩
  · replace h := Opt.f h ht
    refine SC.skip ?_
    refine SC.seq ?_
    refine SC.seq ?_
    refine SC.region 3 rfl ?_
    refine SO.run c0 3 ⟨[(1, .ptr (.loc 1) 0), (8, .bool (a0.Kind == 4))], [(.loc 1, .cells true (cTNode a0))]⟩ (by decide) (by kernel_rfl) ?_
    refine SO.done ?_
    refine SC.cond (a0.Kind == 4) (by kernel_rfl) (fun ht => ?_) (fun ht => ?_)
    · replace h := Opt.t h ht
      refine SC.seq ?_
      refine SC.region 10 rfl ?_
      refine SO.run c0 2 ⟨[(1, .ptr (.loc 1) 0), (10, .str a0.Name)], [(.loc 1, .cells true (cTNode a0))]⟩ (by decide) (by kernel_rfl) ?_
      obtain ⟨x4_2, hx4_2, h⟩ := Opt.ex h
      refine SO.call ⟨41, [.str a0.Name], [], [], some 11⟩ ⟨[(1, .ptr (.loc 1) 0), (11, .bool x4_2)], [(.loc 1, .cells true (cTNode a0))]⟩ (by decide) (by kernel_rfl) (ok_ref11_Named k a0.Name x4_2 hx4_2) (by kernel_rfl) ?_
      refine SO.run c0 4 ⟨[(1, .ptr (.loc 1) 0), (12, .bool x4_2)], [(.loc 1, .cells true (cTNode a0))]⟩ (by decide) (by kernel_rfl) ?_
      refine SO.runB c0 9 x4_2 (fun b => ⟨[(1, .ptr (.loc 1) 0), (12, .bool b)], [(.loc 1, .cells true (cTNode a0))]⟩) (fun b => ⟨[(17, .bool (b && (((a0.Kids.length : Int)) == 0)))], []⟩) (by decide) (Eq.trans (b := some ⟨[(17, .bool (true && ((((eTNode.F a0.Kids).length : Int)) == 0)))], []⟩) (by kernel_rfl) (by simp only [LE.len])) (Eq.trans (b := some ⟨[(17, .bool (false && ((((eTNode.F a0.Kids).length : Int)) == 0)))], []⟩) (by kernel_rfl) (by simp only [LE.len])) ?_
      refine SO.run c0 10 ⟨[(2, .bool (x4_2 && (((a0.Kids.length : Int)) == 0)))], []⟩ (by decide) (by kernel_rfl) ?_
      refine SO.done ?_
      refine SC.ret ?_
      replace h := Option.some.inj h
      subst h
      exact ⟨[.bool (x4_2 && (((a0.Kids.length : Int)) == 0))], by kernel_rfl, Wk.eq (by kernel_rfl), trivial, by kernel_rfl⟩
    · replace h := Opt.f h ht
      refine SC.skip ?_
      refine SC.seq ?_
      refine SC.seq ?_
      refine SC.region 3 rfl ?_
      refine SO.run c0 3 ⟨[(1, .ptr (.loc 1) 0), (20, .bool (!(a0.Name == [])))], [(.loc 1, .cells true (cTNode a0))]⟩ (by decide) (by kernel_rfl) ?_
      refine SO.done ?_
      refine SC.cond (!(a0.Name == [])) (by kernel_rfl) (fun ht => ?_) (fun ht => ?_)
      · replace h := Opt.t h ht
        refine SC.seq ?_
        refine SC.region 1 rfl ?_
        refine SO.run c0 1 ⟨[(2, .bool false)], []⟩ (by decide) (by kernel_rfl) ?_
        refine SO.done ?_
        refine SC.ret ?_
        replace h := Option.some.inj h
        subst h
        exact ⟨[.bool false], by kernel_rfl, Wk.eq (by kernel_rfl), trivial, by kernel_rfl⟩
      · replace h := Opt.f h ht
        refine SC.skip ?_
        refine SC.seq ?_
        refine SC.seq ?_
        refine SC.region 3 rfl ?_
        refine SO.run c0 3 ⟨[(1, .ptr (.loc 1) 0), (23, .bool (a0.Kind == 5))], [(.loc 1, .cells true (cTNode a0))]⟩ (by decide) (by kernel_rfl) ?_
        refine SO.done ?_
        refine SC.cond (a0.Kind == 5) (by kernel_rfl) (fun ht => ?_) (fun ht => ?_)
        · replace h := Opt.t h ht
          refine SC.seq ?_
          refine SC.region 12 rfl ?_
          refine SO.run c0 5 ⟨[(1, .ptr (.loc 1) 0), (28, .bool (((a0.Kids.length : Int)) == 1))], [(.loc 1, .cells true (cTNode a0))]⟩ (by decide) (Eq.trans (b := some ⟨[(1, .ptr (.loc 1) 0), (28, .bool ((((eTNode.F a0.Kids).length : Int)) == 1))], [(.loc 1, .cells true (cTNode a0))]⟩) (by kernel_rfl) (by simp only [LE.len])) ?_
          refine SO.joinK h (fun v : Bool => ⟨[(34, .bool v)], []⟩) 11 (by decide) ?_ ?_
          · rintro g8_10_34 h
            refine SO.eqS (S1 := ⟨[(34, .bool g8_10_34)], []⟩) rfl ?_
            refine SO.run c0 12 ⟨[(2, .bool g8_10_34)], []⟩ (by decide) (by kernel_rfl) ?_
            refine SO.done ?_
            refine SC.ret ?_
            replace h := Option.some.inj h
            subst h
            exact ⟨[.bool g8_10_34], by kernel_rfl, Wk.eq (by kernel_rfl), trivial, by kernel_rfl⟩
          · intro j_g8_10 h
            refine SO.bool (((a0.Kids.length : Int)) == 1) (fun b => ⟨[(1, .ptr (.loc 1) 0), (28, .bool b)], [(.loc 1, .cells true (cTNode a0))]⟩) (fun ht => ?_) (fun ht => ?_)
            · replace h := Opt.t h ht
              refine SO.run c0 7 ⟨[(28, .bool true), (30, .slice .none 5 (eTNode.F a0.Kids))], []⟩ (by decide) (by kernel_rfl) ?_
              obtain ⟨x8_7, hx8_7, h⟩ := Opt.ex h
              refine SO.op c0 { v := .pin (cTNode x8_7) } ⟨[(28, .bool true), (31, .pin (cTNode x8_7))], []⟩ (by decide) (ixR eTNode 27 .none 5 a0.Kids .i64 0 x8_7 (cTNode x8_7) (by kernel_rfl) (by kernel_rfl) hx8_7 (xTNode x8_7)) (by kernel_rfl) ?_
              refine SO.run c0 9 ⟨[(28, .bool true), (32, .agg (cTNode x8_7))], []⟩ (by decide) (by kernel_rfl) ?_
              obtain ⟨x8_9, hx8_9, h⟩ := Opt.ex h
              refine SO.call ⟨18, [.agg (cTNode x8_7)], [], [], some 33⟩ ⟨[(28, .bool true), (33, .bool x8_9)], []⟩ (by decide) (by kernel_rfl) (ih_ref11_Type x8_7 x8_9 hx8_9) (by kernel_rfl) ?_
              refine SO.run c0 11 ⟨[(34, .bool x8_9)], []⟩ (by decide) (by kernel_rfl) ?_
              exact SO.done ⟨x8_9, rfl, h⟩
            · replace h := Opt.f h ht
              refine SO.run c0 11 ⟨[(34, .bool false)], []⟩ (by decide) (by kernel_rfl) ?_
              exact SO.done ⟨false, rfl, h⟩
        · replace h := Opt.f h ht
          refine SC.skip ?_
          refine SC.seq ?_
          refine SC.region 15 rfl ?_
          refine SO.run c0 4 ⟨[(1, .ptr (.loc 1) 0), (38, .bool (decide (a0.Kind ≥ 1)))], [(.loc 1, .cells true (cTNode a0))]⟩ (by decide) (by kernel_rfl) ?_
          refine SO.runB c0 8 (decide (a0.Kind ≥ 1)) (fun b => ⟨[(1, .ptr (.loc 1) 0), (38, .bool b)], [(.loc 1, .cells true (cTNode a0))]⟩) (fun b => ⟨[(1, .ptr (.loc 1) 0), (42, .bool (b && (decide (a0.Kind ≤ 3))))], [(.loc 1, .cells true (cTNode a0))]⟩) (by decide) (by kernel_rfl) (by kernel_rfl) ?_
          refine SO.run c0 9 ⟨[(1, .ptr (.loc 1) 0), (43, .bool ((decide (a0.Kind ≥ 1)) && (decide (a0.Kind ≤ 3))))], [(.loc 1, .cells true (cTNode a0))]⟩ (by decide) (by kernel_rfl) ?_
          refine SO.runB c0 14 ((decide (a0.Kind ≥ 1)) && (decide (a0.Kind ≤ 3))) (fun b => ⟨[(1, .ptr (.loc 1) 0), (43, .bool b)], [(.loc 1, .cells true (cTNode a0))]⟩) (fun b => ⟨[(48, .bool (b && (((a0.Kids.length : Int)) == 0)))], []⟩) (by decide) (Eq.trans (b := some ⟨[(48, .bool (true && ((((eTNode.F a0.Kids).length : Int)) == 0)))], []⟩) (by kernel_rfl) (by simp only [LE.len])) (Eq.trans (b := some ⟨[(48, .bool (false && ((((eTNode.F a0.Kids).length : Int)) == 0)))], []⟩) (by kernel_rfl) (by simp only [LE.len])) ?_
          refine SO.run c0 15 ⟨[(2, .bool (((decide (a0.Kind ≥ 1)) && (decide (a0.Kind ≤ 3))) && (((a0.Kids.length : Int)) == 0)))], []⟩ (by decide) (by kernel_rfl) ?_
          refine SO.done ?_
          refine SC.ret ?_
          replace h := Option.some.inj h
          subst h
          exact ⟨[.bool (((decide (a0.Kind ≥ 1)) && (decide (a0.Kind ≤ 3))) && (((a0.Kids.length : Int)) == 0))], by kernel_rfl, Wk.eq (by kernel_rfl), trivial, by kernel_rfl⟩
theorem all_ref11_Type : ∀ k, C_ref11_Type k
  | 0 => (by intro a0 r h; rw [ref11_Type] at h; cases h)
  | k + 1 => by
    have h0 := all_ref11_Type k
    exact st_ref11_Type k h0
theorem ok_ref11_Type (k : Nat) (a0 : TNode) (r : Bool) (h : ref11_Type k a0 = some r) :
    SF Z 18 [.agg (cTNode a0)] [] (.bool r) [] := (all_ref11_Type k) a0 r h
theorem ok_ref11_alone (k : Nat) (a0 : TNode) (r : Bool) (h : ref11_alone k a0 = some r) :
    SF Z 38 [.agg (cTNode a0)] [] (.bool r) [] := by
  unfold ref11_alone at h
  refine SF.intro Tryd.func38 rfl Tryd.ntmps38 rfl (Nat.le_of_ble_eq_true rfl) (by decide) ?_
  refine SC.seq ?_
  refine SC.region 2 rfl ?_
  refine SO.run c0 2 ⟨[(1, .ptr (.loc 1) 0)], [(.loc 1, .cells true (cTNode a0))]⟩ (by decide) (by kernel_rfl) ?_
  refine SO.done ?_
  refine SC.seq ?_
  refine SC.region 9 rfl ?_
  refine SO.run c0 4 ⟨[(1, .ptr (.loc 1) 0), (6, .bool (a0.N == 0))], [(.loc 1, .cells true (cTNode a0))]⟩ (by decide) (by kernel_rfl) ?_
  refine SO.runB c0 8 (a0.N == 0) (fun b => ⟨[(1, .ptr (.loc 1) 0), (6, .bool b)], [(.loc 1, .cells true (cTNode a0))]⟩) (fun b => ⟨[(10, .bool (b && (a0.Name == [])))], []⟩) (by decide) (by kernel_rfl) (by kernel_rfl) ?_
  refine SO.run c0 9 ⟨[(2, .bool ((a0.N == 0) && (a0.Name == [])))], []⟩ (by decide) (by kernel_rfl) ?_
  refine SO.done ?_
  refine SC.ret ?_
  replace h := Option.some.inj h
  subst h
  exact ⟨[.bool ((a0.N == 0) && (a0.Name == []))], by kernel_rfl, Wk.eq (by kernel_rfl), trivial, by kernel_rfl⟩
theorem ok_ref09_Bind (k : Nat) (a0 : Int) (r : Int) (h : ref09_Bind k a0 = some r) :
    SF Z 40 [.int .i64 a0] [] (.int .i64 r) [] := by
  unfold ref09_Bind at h
  refine SF.intro Tryd.func40 rfl Tryd.ntmps40 rfl (Nat.le_of_ble_eq_true rfl) (by decide) ?_
  refine SC.seq ?_
  refine SC.region 1 rfl ?_
  refine SO.run c0 1 ⟨[(0, .int .i64 a0)], []⟩ (by decide) (by kernel_rfl) ?_
  refine SO.done ?_
  refine SC.seq ?_
  refine SC.seq ?_
  refine SC.region 6 rfl ?_
  refine SO.run c0 3 ⟨[(0, .int .i64 a0), (5, .bool (decide (a0 ≥ 1)))], []⟩ (by decide) (by kernel_rfl) ?_
  refine SO.runB c0 6 (decide (a0 ≥ 1)) (fun b => ⟨[(0, .int .i64 a0), (5, .bool b)], []⟩) (fun b => ⟨[(0, .int .i64 a0), (8, .bool (b && (decide (a0 ≤ 2))))], []⟩) (by decide) (by kernel_rfl) (by kernel_rfl) ?_
  refine SO.done ?_
  refine SC.cond ((decide (a0 ≥ 1)) && (decide (a0 ≤ 2))) (by kernel_rfl) (fun ht => ?_) (fun ht => ?_)
  · replace h := Opt.t h ht
    refine SC.seq ?_
    refine SC.region 1 rfl ?_
    refine SO.run c0 1 ⟨[(2, .int .i64 4)], []⟩ (by decide) (by kernel_rfl) ?_
    refine SO.done ?_
    refine SC.ret ?_
    replace h := Option.some.inj h
    subst h
    exact ⟨[.int .i64 4], by kernel_rfl, Wk.eq (by kernel_rfl), trivial, by kernel_rfl⟩
  · replace h := Opt.f h ht
    refine SC.skip ?_
    refine SC.seq ?_
    refine SC.seq ?_
    refine SC.region 6 rfl ?_
    refine SO.run c0 3 ⟨[(0, .int .i64 a0), (11, .bool (decide (a0 ≥ 3)))], []⟩ (by decide) (by kernel_rfl) ?_
    refine SO.runB c0 6 (decide (a0 ≥ 3)) (fun b => ⟨[(0, .int .i64 a0), (11, .bool b)], []⟩) (fun b => ⟨[(0, .int .i64 a0), (14, .bool (b && (decide (a0 ≤ 5))))], []⟩) (by decide) (by kernel_rfl) (by kernel_rfl) ?_
    refine SO.done ?_
    refine SC.cond ((decide (a0 ≥ 3)) && (decide (a0 ≤ 5))) (by kernel_rfl) (fun ht => ?_) (fun ht => ?_)
    · replace h := Opt.t h ht
      refine SC.seq ?_
      refine SC.region 1 rfl ?_
      refine SO.run c0 1 ⟨[(2, .int .i64 5)], []⟩ (by decide) (by kernel_rfl) ?_
      refine SO.done ?_
      refine SC.ret ?_
      replace h := Option.some.inj h
      subst h
      exact ⟨[.int .i64 5], by kernel_rfl, Wk.eq (by kernel_rfl), trivial, by kernel_rfl⟩
    · replace h := Opt.f h ht
      refine SC.skip ?_
      refine SC.seq ?_
      refine SC.seq ?_
      refine SC.region 6 rfl ?_
      refine SO.run c0 3 ⟨[(0, .int .i64 a0), (17, .bool (decide (a0 ≥ 6)))], []⟩ (by decide) (by kernel_rfl) ?_
      refine SO.runB c0 6 (decide (a0 ≥ 6)) (fun b => ⟨[(0, .int .i64 a0), (17, .bool b)], []⟩) (fun b => ⟨[(0, .int .i64 a0), (20, .bool (b && (decide (a0 ≤ 11))))], []⟩) (by decide) (by kernel_rfl) (by kernel_rfl) ?_
      refine SO.done ?_
      refine SC.cond ((decide (a0 ≥ 6)) && (decide (a0 ≤ 11))) (by kernel_rfl) (fun ht => ?_) (fun ht => ?_)
      · replace h := Opt.t h ht
        refine SC.seq ?_
        refine SC.region 1 rfl ?_
        refine SO.run c0 1 ⟨[(2, .int .i64 3)], []⟩ (by decide) (by kernel_rfl) ?_
        refine SO.done ?_
        refine SC.ret ?_
        replace h := Option.some.inj h
        subst h
        exact ⟨[.int .i64 3], by kernel_rfl, Wk.eq (by kernel_rfl), trivial, by kernel_rfl⟩
      · replace h := Opt.f h ht
        refine SC.skip ?_
        refine SC.seq ?_
        refine SC.seq ?_
        refine SC.region 2 rfl ?_
        refine SO.run c0 2 ⟨[(0, .int .i64 a0), (22, .bool (a0 == 12))], []⟩ (by decide) (by kernel_rfl) ?_
        refine SO.done ?_
        refine SC.cond (a0 == 12) (by kernel_rfl) (fun ht => ?_) (fun ht => ?_)
        · replace h := Opt.t h ht
          refine SC.seq ?_
          refine SC.region 1 rfl ?_
          refine SO.run c0 1 ⟨[(2, .int .i64 2)], []⟩ (by decide) (by kernel_rfl) ?_
          refine SO.done ?_
          refine SC.ret ?_
          replace h := Option.some.inj h
          subst h
          exact ⟨[.int .i64 2], by kernel_rfl, Wk.eq (by kernel_rfl), trivial, by kernel_rfl⟩
        · replace h := Opt.f h ht
          refine SC.skip ?_
          refine SC.seq ?_
          refine SC.seq ?_
          refine SC.region 2 rfl ?_
          refine SO.run c0 2 ⟨[(24, .bool (a0 == 13))], []⟩ (by decide) (by kernel_rfl) ?_
          refine SO.done ?_
          refine SC.cond (a0 == 13) (by kernel_rfl) (fun ht => ?_) (fun ht => ?_)
          · replace h := Opt.t h ht
            refine SC.seq ?_
            refine SC.region 1 rfl ?_
            refine SO.run c0 1 ⟨[(2, .int .i64 1)], []⟩ (by decide) (by kernel_rfl) ?_
            refine SO.done ?_
            refine SC.ret ?_
            replace h := Option.some.inj h
            subst h
            exact ⟨[.int .i64 1], by kernel_rfl, Wk.eq (by kernel_rfl), trivial, by kernel_rfl⟩
          · replace h := Opt.f h ht
            refine SC.skip ?_
            refine SC.seq ?_
            refine SC.region 1 rfl ?_
            refine SO.run c0 1 ⟨[(2, .int .i64 0)], []⟩ (by decide) (by kernel_rfl) ?_
            refine SO.done ?_
            refine SC.ret ?_
            replace h := Option.some.inj h
            subst h
            exact ⟨[.int .i64 0], by kernel_rfl, Wk.eq (by kernel_rfl), trivial, by kernel_rfl⟩
end Go.Proofs.YtbhncegmohnfhaaDoor.AE
