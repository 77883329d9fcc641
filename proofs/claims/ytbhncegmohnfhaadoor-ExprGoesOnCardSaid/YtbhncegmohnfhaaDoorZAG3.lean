/- The code of these functions comes to what the printed functions answer. Printed by wip/dev/gen.py. No condition. -/
import Derived.Test.YtbhncegmohnfhaaDoorZAG2
set_option linter.unusedVariables false
set_option maxRecDepth 100000
namespace Go.Proofs.YtbhncegmohnfhaaDoor.AE
open Go F
def C_ref13_named (k : Nat) : Prop := ∀ (a0 : List TToken) (a1 : Int) (a2 : Int) (a3 : Int) (r : TNode × Int × Bool), ref13_named k a0 a1 a2 a3 = some r →
  SF Z 124 [.slice .none 4 (eTToken.F a0), .int .i64 a1, .int .i64 a2, .int .i64 a3] [] (.tuple [.agg (cTNode r.1), .int .i64 r.2.1, .bool r.2.2]) []
def C_ref13_first (k : Nat) : Prop := ∀ (a0 : List TToken) (a1 : Int) (r : TNode × Int × Bool), ref13_first k a0 a1 = some r →
  SF Z 112 [.slice .none 4 (eTToken.F a0), .int .i64 a1] [] (.tuple [.agg (cTNode r.1), .int .i64 r.2.1, .bool r.2.2]) []
def C_ref13_part (k : Nat) : Prop := ∀ (a0 : List TToken) (a1 : Int) (r : TNode × Int × Bool), ref13_part k a0 a1 = some r →
  SF Z 99 [.slice .none 4 (eTToken.F a0), .int .i64 a1] [] (.tuple [.agg (cTNode r.1), .int .i64 r.2.1, .bool r.2.2]) []
def C_ref13_factor (k : Nat) : Prop := ∀ (a0 : List TToken) (a1 : Int) (r : TNode × Int × Bool), ref13_factor k a0 a1 = some r →
  SF Z 73 [.slice .none 4 (eTToken.F a0), .int .i64 a1] [] (.tuple [.agg (cTNode r.1), .int .i64 r.2.1, .bool r.2.2]) []
def C_ref13_level (k : Nat) : Prop := ∀ (a0 : List TToken) (a1 : Int) (a2 : Int) (r : TNode × Int × Bool), ref13_level k a0 a1 a2 = some r →
  SF Z 37 [.slice .none 4 (eTToken.F a0), .int .i64 a1, .int .i64 a2] [] (.tuple [.agg (cTNode r.1), .int .i64 r.2.1, .bool r.2.2]) []
def C_ref13_Expr (k : Nat) : Prop := ∀ (a0 : List TToken) (a1 : Int) (r : TNode × Int × Bool), ref13_Expr k a0 a1 = some r →
  SF Z 13 [.slice .none 4 (eTToken.F a0), .int .i64 a1] [] (.tuple [.agg (cTNode r.1), .int .i64 r.2.1, .bool r.2.2]) []
def C_ref13_Args (k : Nat) : Prop := ∀ (a0 : List TToken) (a1 : Int) (r : List TNode × Int × Bool), ref13_Args k a0 a1 = some r →
  SF Z 20 [.slice .none 4 (eTToken.F a0), .int .i64 a1] [] (.tuple [.slice .none 5 (eTNode.F r.1), .int .i64 r.2.1, .bool r.2.2]) []
theorem st_ref13_named (k : Nat) (ih_ref13_Args : C_ref13_Args k) : C_ref13_named (k + 1) := by
  intro a0 a1 a2 a3 r h
  rw [ref13_named] at h
  refine SF.intro Tryd.func124 rfl Tryd.ntmps124 rfl (Nat.le_of_ble_eq_true rfl) (by decide) ?_
  refine SC.seq ?_
  refine SC.region 3 rfl ?_
  refine SO.run c0 3 ⟨[(0, .slice .none 4 (eTToken.F a0)), (1, .int .i64 a1), (2, .int .i64 a2), (3, .int .i64 a3), (8, .ptr (.loc 8) 0)], [(.loc 8, .cells true [.int .i64 0, .int .i64 0, .int .i64 0, .str [], .nils])]⟩ (by decide) (by kernel_rfl) ?_
  refine SO.done ?_
  refine SC.seq ?_
  refine SC.region 5 rfl ?_
  refine SO.run c0 2 ⟨[(0, .slice .none 4 (eTToken.F a0)), (1, .int .i64 a1), (2, .int .i64 a2), (3, .int .i64 a3), (8, .ptr (.loc 8) 0), (15, .slice .none 4 (eTToken.F a0)), (16, .int .i64 a1)], [(.loc 8, .cells true [.int .i64 0, .int .i64 0, .int .i64 0, .str [], .nils])]⟩ (by decide) (by kernel_rfl) ?_
  obtain ⟨x1_2, hx1_2, h⟩ := Opt.ex h
  refine SO.call ⟨43, [.slice .none 4 (eTToken.F a0), .int .i64 a1], [], [], some 17⟩ ⟨[(0, .slice .none 4 (eTToken.F a0)), (1, .int .i64 a1), (2, .int .i64 a2), (3, .int .i64 a3), (8, .ptr (.loc 8) 0), (17, .agg (cTToken x1_2))], [(.loc 8, .cells true [.int .i64 0, .int .i64 0, .int .i64 0, .str [], .nils])]⟩ (by decide) (by kernel_rfl) (ok_ref13_Tok k a0 a1 x1_2 hx1_2) (by kernel_rfl) ?_
  refine SO.run c0 5 ⟨[(0, .slice .none 4 (eTToken.F a0)), (1, .int .i64 a1), (2, .int .i64 a2), (3, .int .i64 a3), (8, .ptr (.loc 8) 0), (11, .ptr (.loc 11) 0)], [(.loc 8, .cells true [.int .i64 0, .int .i64 0, .int .i64 0, .str [], .nils]), (.loc 11, .cells true (cTToken x1_2))]⟩ (by decide) (by kernel_rfl) ?_
  refine SO.done ?_
  refine SC.seq ?_
  refine SC.seq ?_
  refine SC.region 3 rfl ?_
  refine SO.run c0 3 ⟨[(0, .slice .none 4 (eTToken.F a0)), (1, .int .i64 a1), (2, .int .i64 a2), (3, .int .i64 a3), (8, .ptr (.loc 8) 0), (11, .ptr (.loc 11) 0), (20, .bool (x1_2.Kind != 1))], [(.loc 8, .cells true [.int .i64 0, .int .i64 0, .int .i64 0, .str [], .nils]), (.loc 11, .cells true (cTToken x1_2))]⟩ (by decide) (by kernel_rfl) ?_
  refine SO.done ?_
  refine SC.cond (x1_2.Kind != 1) (by kernel_rfl) (fun ht => ?_) (fun ht => ?_)
  · replace h := Opt.t h ht
    refine SC.seq ?_
    refine SC.region 5 rfl ?_
    refine SO.run c0 5 ⟨[(8, .ptr (.loc 8) 0), (9, .int .i64 a1), (10, .bool false)], [(.loc 8, .cells true [.int .i64 0, .int .i64 0, .int .i64 0, .str [], .nils])]⟩ (by decide) (by kernel_rfl) ?_
    refine SO.done ?_
    refine SC.ret ?_
    replace h := Option.some.inj h
    subst h
    exact ⟨[.agg [.int .i64 0, .int .i64 0, .int .i64 0, .str [], .nils], .int .i64 a1, .bool false], by kernel_rfl, Wk.tuple (⟨Wk.agg (⟨Wk.refl _, Wk.refl _, Wk.refl _, Wk.refl _, Wk.nils _ _, trivial⟩), Wk.refl _, Wk.refl _, trivial⟩), trivial, by kernel_rfl⟩
  · replace h := Opt.f h ht
    refine SC.skip ?_
    refine SC.seq ?_
    refine SC.region 11 rfl ?_
    refine SO.run c0 3 ⟨[(2, .int .i64 a2), (3, .int .i64 a3), (8, .ptr (.loc 8) 0), (11, .ptr (.loc 11) 0), (24, .slice .none 4 (eTToken.F a0)), (26, .int .i64 (IntKind.i64.wrap (a1 + 1)))], [(.loc 8, .cells true [.int .i64 0, .int .i64 0, .int .i64 0, .str [], .nils]), (.loc 11, .cells true (cTToken x1_2))]⟩ (by decide) (by kernel_rfl) ?_
    obtain ⟨⟨x4_3_0, x4_3_1, x4_3_2⟩, hx4_3, h⟩ := Opt.ex h
    refine SO.call ⟨20, [.slice .none 4 (eTToken.F a0), .int .i64 (IntKind.i64.wrap (a1 + 1))], [], [], some 27⟩ ⟨[(2, .int .i64 a2), (3, .int .i64 a3), (8, .ptr (.loc 8) 0), (11, .ptr (.loc 11) 0), (27, .tuple [.slice .none 5 (eTNode.F x4_3_0), .int .i64 x4_3_1, .bool x4_3_2])], [(.loc 8, .cells true [.int .i64 0, .int .i64 0, .int .i64 0, .str [], .nils]), (.loc 11, .cells true (cTToken x1_2))]⟩ (by decide) (by kernel_rfl) (ih_ref13_Args a0 (IntKind.i64.wrap (a1 + 1)) (x4_3_0, x4_3_1, x4_3_2) hx4_3) (by kernel_rfl) ?_
    refine SO.run c0 11 ⟨[(2, .int .i64 a2), (3, .int .i64 a3), (8, .ptr (.loc 8) 0), (11, .ptr (.loc 11) 0), (12, .slice .none 5 (eTNode.F x4_3_0)), (13, .int .i64 x4_3_1), (14, .bool x4_3_2)], [(.loc 8, .cells true [.int .i64 0, .int .i64 0, .int .i64 0, .str [], .nils]), (.loc 11, .cells true (cTToken x1_2))]⟩ (by decide) (by kernel_rfl) ?_
    refine SO.done ?_
    refine SC.seq ?_
    refine SC.seq ?_
    refine SC.region 2 rfl ?_
    refine SO.run c0 2 ⟨[(2, .int .i64 a2), (3, .int .i64 a3), (8, .ptr (.loc 8) 0), (11, .ptr (.loc 11) 0), (12, .slice .none 5 (eTNode.F x4_3_0)), (13, .int .i64 x4_3_1), (32, .bool (!x4_3_2))], [(.loc 8, .cells true [.int .i64 0, .int .i64 0, .int .i64 0, .str [], .nils]), (.loc 11, .cells true (cTToken x1_2))]⟩ (by decide) (by kernel_rfl) ?_
    refine SO.done ?_
    refine SC.cond (!x4_3_2) (by kernel_rfl) (fun ht => ?_) (fun ht => ?_)
    · replace h := Opt.t h ht
      refine SC.seq ?_
      refine SC.region 5 rfl ?_
      refine SO.run c0 5 ⟨[(8, .ptr (.loc 8) 0), (9, .int .i64 x4_3_1), (10, .bool false)], [(.loc 8, .cells true [.int .i64 0, .int .i64 0, .int .i64 0, .str [], .nils])]⟩ (by decide) (by kernel_rfl) ?_
      refine SO.done ?_
      refine SC.ret ?_
      replace h := Option.some.inj h
      subst h
      exact ⟨[.agg [.int .i64 0, .int .i64 0, .int .i64 0, .str [], .nils], .int .i64 x4_3_1, .bool false], by kernel_rfl, Wk.tuple (⟨Wk.agg (⟨Wk.refl _, Wk.refl _, Wk.refl _, Wk.refl _, Wk.nils _ _, trivial⟩), Wk.refl _, Wk.refl _, trivial⟩), trivial, by kernel_rfl⟩
    · replace h := Opt.f h ht
      refine SC.skip ?_
      refine SC.seq ?_
      refine SC.region 10 rfl ?_
      refine SO.run c0 10 ⟨[(8, .ptr (.loc 8) 0), (9, .int .i64 x4_3_1), (10, .bool true)], [(.loc 8, .cells true [.int .i64 a2, .int .i64 a3, .int .i64 0, .str x1_2.Text, .slice .none 5 (eTNode.F x4_3_0)])]⟩ (by decide) (by kernel_rfl) ?_
      refine SO.done ?_
      refine SC.ret ?_
      replace h := Option.some.inj h
      subst h
      exact ⟨[.agg [.int .i64 a2, .int .i64 a3, .int .i64 0, .str x1_2.Text, .slice .none 5 (eTNode.F x4_3_0)], .int .i64 x4_3_1, .bool true], by kernel_rfl, Wk.eq (by kernel_rfl), trivial, by kernel_rfl⟩
theorem st_ref13_first (k : Nat) (ih_ref13_named : C_ref13_named k) (ih_ref13_Expr : C_ref13_Expr k) (ih_ref13_Args : C_ref13_Args k) : C_ref13_first (k + 1) := by
  intro a0 a1 r h
  rw [ref13_first] at h
  refine SF.intro Tryd.func112 rfl Tryd.ntmps112 rfl (Nat.le_of_ble_eq_true rfl) (by decide) ?_
  refine SC.seq ?_
  refine SC.region 3 rfl ?_
  refine SO.run c0 3 ⟨[(0, .slice .none 4 (eTToken.F a0)), (1, .int .i64 a1), (4, .ptr (.loc 4) 0)], [(.loc 4, .cells true [.int .i64 0, .int .i64 0, .int .i64 0, .str [], .nils])]⟩ (by decide) (by kernel_rfl) ?_
  refine SO.done ?_
  refine SC.seq ?_
  refine SC.region 5 rfl ?_
  refine SO.run c0 2 ⟨[(0, .slice .none 4 (eTToken.F a0)), (1, .int .i64 a1), (4, .ptr (.loc 4) 0), (17, .slice .none 4 (eTToken.F a0)), (18, .int .i64 a1)], [(.loc 4, .cells true [.int .i64 0, .int .i64 0, .int .i64 0, .str [], .nils])]⟩ (by decide) (by kernel_rfl) ?_
  obtain ⟨x1_2, hx1_2, h⟩ := Opt.ex h
  refine SO.call ⟨43, [.slice .none 4 (eTToken.F a0), .int .i64 a1], [], [], some 19⟩ ⟨[(0, .slice .none 4 (eTToken.F a0)), (1, .int .i64 a1), (4, .ptr (.loc 4) 0), (19, .agg (cTToken x1_2))], [(.loc 4, .cells true [.int .i64 0, .int .i64 0, .int .i64 0, .str [], .nils])]⟩ (by decide) (by kernel_rfl) (ok_ref13_Tok k a0 a1 x1_2 hx1_2) (by kernel_rfl) ?_
  refine SO.run c0 5 ⟨[(0, .slice .none 4 (eTToken.F a0)), (1, .int .i64 a1), (4, .ptr (.loc 4) 0), (7, .ptr (.loc 7) 0)], [(.loc 4, .cells true [.int .i64 0, .int .i64 0, .int .i64 0, .str [], .nils]), (.loc 7, .cells true (cTToken x1_2))]⟩ (by decide) (by kernel_rfl) ?_
  refine SO.done ?_
  refine SC.seq ?_
  refine SC.seq ?_
  refine SC.region 3 rfl ?_
  refine SO.run c0 3 ⟨[(0, .slice .none 4 (eTToken.F a0)), (1, .int .i64 a1), (4, .ptr (.loc 4) 0), (7, .ptr (.loc 7) 0), (22, .bool (x1_2.Kind == 2))], [(.loc 4, .cells true [.int .i64 0, .int .i64 0, .int .i64 0, .str [], .nils]), (.loc 7, .cells true (cTToken x1_2))]⟩ (by decide) (by kernel_rfl) ?_
  refine SO.done ?_
  refine SC.cond (x1_2.Kind == 2) (by kernel_rfl) (fun ht => ?_) (fun ht => ?_)
  · replace h := Opt.t h ht
    refine SC.seq ?_
    refine SC.region 10 rfl ?_
    refine SO.run c0 10 ⟨[(4, .ptr (.loc 4) 0), (5, .int .i64 (IntKind.i64.wrap (a1 + 1))), (6, .bool true)], [(.loc 4, .cells true [.int .i64 10, .int .i64 x1_2.At, .int .i64 x1_2.N, .str [], .nils])]⟩ (by decide) (by kernel_rfl) ?_
    refine SO.done ?_
    refine SC.ret ?_
    replace h := Option.some.inj h
    subst h
    exact ⟨[.agg [.int .i64 10, .int .i64 x1_2.At, .int .i64 x1_2.N, .str [], .nils], .int .i64 (IntKind.i64.wrap (a1 + 1)), .bool true], by kernel_rfl, Wk.tuple (⟨Wk.agg (⟨Wk.refl _, Wk.refl _, Wk.refl _, Wk.refl _, Wk.nils _ _, trivial⟩), Wk.refl _, Wk.refl _, trivial⟩), trivial, by kernel_rfl⟩
  · replace h := Opt.f h ht
    refine SC.skip ?_
    refine SC.seq ?_
    refine SC.seq ?_
    refine SC.region 3 rfl ?_
    refine SO.run c0 2 ⟨[(0, .slice .none 4 (eTToken.F a0)), (1, .int .i64 a1), (4, .ptr (.loc 4) 0), (7, .ptr (.loc 7) 0), (30, .slice .none 4 (eTToken.F a0)), (31, .int .i64 a1)], [(.loc 4, .cells true [.int .i64 0, .int .i64 0, .int .i64 0, .str [], .nils]), (.loc 7, .cells true (cTToken x1_2))]⟩ (by decide) (by kernel_rfl) ?_
    obtain ⟨x4_2, hx4_2, h⟩ := Opt.ex h
    refine SO.call ⟨44, [.slice .none 4 (eTToken.F a0), .int .i64 a1, .str [116, 114, 117, 101]], [], [], some 32⟩ ⟨[(0, .slice .none 4 (eTToken.F a0)), (1, .int .i64 a1), (4, .ptr (.loc 4) 0), (7, .ptr (.loc 7) 0), (32, .bool x4_2)], [(.loc 4, .cells true [.int .i64 0, .int .i64 0, .int .i64 0, .str [], .nils]), (.loc 7, .cells true (cTToken x1_2))]⟩ (by decide) (by kernel_rfl) (ok_ref13_Says k a0 a1 [116, 114, 117, 101] x4_2 hx4_2) (by kernel_rfl) ?_
    refine SO.done ?_
    refine SC.cond x4_2 (by kernel_rfl) (fun ht => ?_) (fun ht => ?_)
    · replace h := Opt.t h ht
      refine SC.seq ?_
      refine SC.region 8 rfl ?_
      refine SO.run c0 8 ⟨[(4, .ptr (.loc 4) 0), (5, .int .i64 (IntKind.i64.wrap (a1 + 1))), (6, .bool true)], [(.loc 4, .cells true [.int .i64 11, .int .i64 x1_2.At, .int .i64 1, .str [], .nils])]⟩ (by decide) (by kernel_rfl) ?_
      refine SO.done ?_
      refine SC.ret ?_
      replace h := Option.some.inj h
      subst h
      exact ⟨[.agg [.int .i64 11, .int .i64 x1_2.At, .int .i64 1, .str [], .nils], .int .i64 (IntKind.i64.wrap (a1 + 1)), .bool true], by kernel_rfl, Wk.tuple (⟨Wk.agg (⟨Wk.refl _, Wk.refl _, Wk.refl _, Wk.refl _, Wk.nils _ _, trivial⟩), Wk.refl _, Wk.refl _, trivial⟩), trivial, by kernel_rfl⟩
    · replace h := Opt.f h ht
      refine SC.skip ?_
      refine SC.seq ?_
      refine SC.seq ?_
      refine SC.region 3 rfl ?_
      refine SO.run c0 2 ⟨[(0, .slice .none 4 (eTToken.F a0)), (1, .int .i64 a1), (4, .ptr (.loc 4) 0), (7, .ptr (.loc 7) 0), (38, .slice .none 4 (eTToken.F a0)), (39, .int .i64 a1)], [(.loc 4, .cells true [.int .i64 0, .int .i64 0, .int .i64 0, .str [], .nils]), (.loc 7, .cells true (cTToken x1_2))]⟩ (by decide) (by kernel_rfl) ?_
      obtain ⟨x6_2, hx6_2, h⟩ := Opt.ex h
      refine SO.call ⟨44, [.slice .none 4 (eTToken.F a0), .int .i64 a1, .str [102, 97, 108, 115, 101]], [], [], some 40⟩ ⟨[(0, .slice .none 4 (eTToken.F a0)), (1, .int .i64 a1), (4, .ptr (.loc 4) 0), (7, .ptr (.loc 7) 0), (40, .bool x6_2)], [(.loc 4, .cells true [.int .i64 0, .int .i64 0, .int .i64 0, .str [], .nils]), (.loc 7, .cells true (cTToken x1_2))]⟩ (by decide) (by kernel_rfl) (ok_ref13_Says k a0 a1 [102, 97, 108, 115, 101] x6_2 hx6_2) (by kernel_rfl) ?_
      refine SO.done ?_
      refine SC.cond x6_2 (by kernel_rfl) (fun ht => ?_) (fun ht => ?_)
      · replace h := Opt.t h ht
        refine SC.seq ?_
        refine SC.region 8 rfl ?_
        refine SO.run c0 8 ⟨[(4, .ptr (.loc 4) 0), (5, .int .i64 (IntKind.i64.wrap (a1 + 1))), (6, .bool true)], [(.loc 4, .cells true [.int .i64 11, .int .i64 x1_2.At, .int .i64 0, .str [], .nils])]⟩ (by decide) (by kernel_rfl) ?_
        refine SO.done ?_
        refine SC.ret ?_
        replace h := Option.some.inj h
        subst h
        exact ⟨[.agg [.int .i64 11, .int .i64 x1_2.At, .int .i64 0, .str [], .nils], .int .i64 (IntKind.i64.wrap (a1 + 1)), .bool true], by kernel_rfl, Wk.tuple (⟨Wk.agg (⟨Wk.refl _, Wk.refl _, Wk.refl _, Wk.refl _, Wk.nils _ _, trivial⟩), Wk.refl _, Wk.refl _, trivial⟩), trivial, by kernel_rfl⟩
      · replace h := Opt.f h ht
        refine SC.skip ?_
        refine SC.seq ?_
        refine SC.seq ?_
        refine SC.region 3 rfl ?_
        refine SO.run c0 3 ⟨[(0, .slice .none 4 (eTToken.F a0)), (1, .int .i64 a1), (4, .ptr (.loc 4) 0), (7, .ptr (.loc 7) 0), (48, .bool (x1_2.Kind == 1))], [(.loc 4, .cells true [.int .i64 0, .int .i64 0, .int .i64 0, .str [], .nils]), (.loc 7, .cells true (cTToken x1_2))]⟩ (by decide) (by kernel_rfl) ?_
        refine SO.done ?_
        refine SC.cond (x1_2.Kind == 1) (by kernel_rfl) (fun ht => ?_) (fun ht => ?_)
        · replace h := Opt.t h ht
          refine SC.seq ?_
          refine SC.seq ?_
          refine SC.region 4 rfl ?_
          refine SO.run c0 3 ⟨[(0, .slice .none 4 (eTToken.F a0)), (1, .int .i64 a1), (4, .ptr (.loc 4) 0), (7, .ptr (.loc 7) 0), (49, .slice .none 4 (eTToken.F a0)), (51, .int .i64 (IntKind.i64.wrap (a1 + 1)))], [(.loc 4, .cells true [.int .i64 0, .int .i64 0, .int .i64 0, .str [], .nils]), (.loc 7, .cells true (cTToken x1_2))]⟩ (by decide) (by kernel_rfl) ?_
          obtain ⟨x9_3, hx9_3, h⟩ := Opt.ex h
          refine SO.call ⟨45, [.slice .none 4 (eTToken.F a0), .int .i64 (IntKind.i64.wrap (a1 + 1)), .str [40]], [], [], some 52⟩ ⟨[(0, .slice .none 4 (eTToken.F a0)), (1, .int .i64 a1), (4, .ptr (.loc 4) 0), (7, .ptr (.loc 7) 0), (52, .bool x9_3)], [(.loc 4, .cells true [.int .i64 0, .int .i64 0, .int .i64 0, .str [], .nils]), (.loc 7, .cells true (cTToken x1_2))]⟩ (by decide) (by kernel_rfl) (ok_ref13_Is k a0 (IntKind.i64.wrap (a1 + 1)) [40] x9_3 hx9_3) (by kernel_rfl) ?_
          refine SO.done ?_
          refine SC.cond x9_3 (by kernel_rfl) (fun ht => ?_) (fun ht => ?_)
          · replace h := Opt.t h ht
            refine SC.seq ?_
            refine SC.region 11 rfl ?_
            refine SO.run c0 4 ⟨[(4, .ptr (.loc 4) 0), (53, .slice .none 4 (eTToken.F a0)), (54, .int .i64 a1), (56, .int .i64 x1_2.At)], [(.loc 4, .cells true [.int .i64 0, .int .i64 0, .int .i64 0, .str [], .nils])]⟩ (by decide) (by kernel_rfl) ?_
            obtain ⟨⟨x10_4_0, x10_4_1, x10_4_2⟩, hx10_4, h⟩ := Opt.ex h
            refine SO.call ⟨124, [.slice .none 4 (eTToken.F a0), .int .i64 a1, .int .i64 17, .int .i64 x1_2.At], [], [], some 57⟩ ⟨[(4, .ptr (.loc 4) 0), (57, .tuple [.agg (cTNode x10_4_0), .int .i64 x10_4_1, .bool x10_4_2])], [(.loc 4, .cells true [.int .i64 0, .int .i64 0, .int .i64 0, .str [], .nils])]⟩ (by decide) (by kernel_rfl) (ih_ref13_named a0 a1 17 x1_2.At (x10_4_0, x10_4_1, x10_4_2) hx10_4) (by kernel_rfl) ?_
            refine SO.run c0 11 ⟨[(4, .ptr (.loc 4) 0), (5, .int .i64 x10_4_1), (6, .bool x10_4_2)], [(.loc 4, .cells true (cTNode x10_4_0))]⟩ (by decide) (by kernel_rfl) ?_
            refine SO.done ?_
            refine SC.ret ?_
            replace h := Option.some.inj h
            subst h
            exact ⟨[.agg (cTNode x10_4_0), .int .i64 x10_4_1, .bool x10_4_2], by kernel_rfl, Wk.eq (by kernel_rfl), trivial, by kernel_rfl⟩
          · replace h := Opt.f h ht
            refine SC.skip ?_
            refine SC.seq ?_
            refine SC.region 10 rfl ?_
            refine SO.run c0 10 ⟨[(4, .ptr (.loc 4) 0), (5, .int .i64 (IntKind.i64.wrap (a1 + 1))), (6, .bool true)], [(.loc 4, .cells true [.int .i64 12, .int .i64 x1_2.At, .int .i64 0, .str x1_2.Text, .nils])]⟩ (by decide) (by kernel_rfl) ?_
            refine SO.done ?_
            refine SC.ret ?_
            replace h := Option.some.inj h
            subst h
            exact ⟨[.agg [.int .i64 12, .int .i64 x1_2.At, .int .i64 0, .str x1_2.Text, .nils], .int .i64 (IntKind.i64.wrap (a1 + 1)), .bool true], by kernel_rfl, Wk.tuple (⟨Wk.agg (⟨Wk.refl _, Wk.refl _, Wk.refl _, Wk.refl _, Wk.nils _ _, trivial⟩), Wk.refl _, Wk.refl _, trivial⟩), trivial, by kernel_rfl⟩
        · replace h := Opt.f h ht
          refine SC.skip ?_
          refine SC.seq ?_
          refine SC.seq ?_
          refine SC.region 3 rfl ?_
          refine SO.run c0 2 ⟨[(0, .slice .none 4 (eTToken.F a0)), (1, .int .i64 a1), (4, .ptr (.loc 4) 0), (7, .ptr (.loc 7) 0), (68, .slice .none 4 (eTToken.F a0)), (69, .int .i64 a1)], [(.loc 4, .cells true [.int .i64 0, .int .i64 0, .int .i64 0, .str [], .nils]), (.loc 7, .cells true (cTToken x1_2))]⟩ (by decide) (by kernel_rfl) ?_
          obtain ⟨x12_2, hx12_2, h⟩ := Opt.ex h
          refine SO.call ⟨44, [.slice .none 4 (eTToken.F a0), .int .i64 a1, .str [102, 111, 114, 107]], [], [], some 70⟩ ⟨[(0, .slice .none 4 (eTToken.F a0)), (1, .int .i64 a1), (4, .ptr (.loc 4) 0), (7, .ptr (.loc 7) 0), (70, .bool x12_2)], [(.loc 4, .cells true [.int .i64 0, .int .i64 0, .int .i64 0, .str [], .nils]), (.loc 7, .cells true (cTToken x1_2))]⟩ (by decide) (by kernel_rfl) (ok_ref13_Says k a0 a1 [102, 111, 114, 107] x12_2 hx12_2) (by kernel_rfl) ?_
          refine SO.done ?_
          refine SC.cond x12_2 (by kernel_rfl) (fun ht => ?_) (fun ht => ?_)
          · replace h := Opt.t h ht
            refine SC.seq ?_
            refine SC.region 12 rfl ?_
            refine SO.run c0 5 ⟨[(4, .ptr (.loc 4) 0), (71, .slice .none 4 (eTToken.F a0)), (73, .int .i64 (IntKind.i64.wrap (a1 + 1))), (75, .int .i64 x1_2.At)], [(.loc 4, .cells true [.int .i64 0, .int .i64 0, .int .i64 0, .str [], .nils])]⟩ (by decide) (by kernel_rfl) ?_
            obtain ⟨⟨x13_5_0, x13_5_1, x13_5_2⟩, hx13_5, h⟩ := Opt.ex h
            refine SO.call ⟨124, [.slice .none 4 (eTToken.F a0), .int .i64 (IntKind.i64.wrap (a1 + 1)), .int .i64 18, .int .i64 x1_2.At], [], [], some 76⟩ ⟨[(4, .ptr (.loc 4) 0), (76, .tuple [.agg (cTNode x13_5_0), .int .i64 x13_5_1, .bool x13_5_2])], [(.loc 4, .cells true [.int .i64 0, .int .i64 0, .int .i64 0, .str [], .nils])]⟩ (by decide) (by kernel_rfl) (ih_ref13_named a0 (IntKind.i64.wrap (a1 + 1)) 18 x1_2.At (x13_5_0, x13_5_1, x13_5_2) hx13_5) (by kernel_rfl) ?_
            refine SO.run c0 12 ⟨[(4, .ptr (.loc 4) 0), (5, .int .i64 x13_5_1), (6, .bool x13_5_2)], [(.loc 4, .cells true (cTNode x13_5_0))]⟩ (by decide) (by kernel_rfl) ?_
            refine SO.done ?_
            refine SC.ret ?_
            replace h := Option.some.inj h
            subst h
            exact ⟨[.agg (cTNode x13_5_0), .int .i64 x13_5_1, .bool x13_5_2], by kernel_rfl, Wk.eq (by kernel_rfl), trivial, by kernel_rfl⟩
          · replace h := Opt.f h ht
            refine SC.skip ?_
            refine SC.seq ?_
            refine SC.seq ?_
            refine SC.region 3 rfl ?_
            refine SO.run c0 2 ⟨[(0, .slice .none 4 (eTToken.F a0)), (1, .int .i64 a1), (4, .ptr (.loc 4) 0), (7, .ptr (.loc 7) 0), (80, .slice .none 4 (eTToken.F a0)), (81, .int .i64 a1)], [(.loc 4, .cells true [.int .i64 0, .int .i64 0, .int .i64 0, .str [], .nils]), (.loc 7, .cells true (cTToken x1_2))]⟩ (by decide) (by kernel_rfl) ?_
            obtain ⟨x14_2, hx14_2, h⟩ := Opt.ex h
            refine SO.call ⟨44, [.slice .none 4 (eTToken.F a0), .int .i64 a1, .str [110, 101, 119]], [], [], some 82⟩ ⟨[(0, .slice .none 4 (eTToken.F a0)), (1, .int .i64 a1), (4, .ptr (.loc 4) 0), (7, .ptr (.loc 7) 0), (82, .bool x14_2)], [(.loc 4, .cells true [.int .i64 0, .int .i64 0, .int .i64 0, .str [], .nils]), (.loc 7, .cells true (cTToken x1_2))]⟩ (by decide) (by kernel_rfl) (ok_ref13_Says k a0 a1 [110, 101, 119] x14_2 hx14_2) (by kernel_rfl) ?_
            refine SO.done ?_
            refine SC.cond x14_2 (by kernel_rfl) (fun ht => ?_) (fun ht => ?_)
            · replace h := Opt.t h ht
              refine SC.seq ?_
              refine SC.region 12 rfl ?_
              refine SO.run c0 3 ⟨[(0, .slice .none 4 (eTToken.F a0)), (4, .ptr (.loc 4) 0), (7, .ptr (.loc 7) 0), (84, .slice .none 4 (eTToken.F a0)), (86, .int .i64 (IntKind.i64.wrap (a1 + 1)))], [(.loc 4, .cells true [.int .i64 0, .int .i64 0, .int .i64 0, .str [], .nils]), (.loc 7, .cells true (cTToken x1_2))]⟩ (by decide) (by kernel_rfl) ?_
              obtain ⟨⟨x15_3_0, x15_3_1, x15_3_2⟩, hx15_3, h⟩ := Opt.ex h
              refine SO.call ⟨17, [.slice .none 4 (eTToken.F a0), .int .i64 (IntKind.i64.wrap (a1 + 1))], [], [], some 87⟩ ⟨[(0, .slice .none 4 (eTToken.F a0)), (4, .ptr (.loc 4) 0), (7, .ptr (.loc 7) 0), (87, .tuple [.agg (cTNode x15_3_0), .int .i64 x15_3_1, .bool x15_3_2])], [(.loc 4, .cells true [.int .i64 0, .int .i64 0, .int .i64 0, .str [], .nils]), (.loc 7, .cells true (cTToken x1_2))]⟩ (by decide) (by kernel_rfl) (ok_ref13_Type k a0 (IntKind.i64.wrap (a1 + 1)) (x15_3_0, x15_3_1, x15_3_2) hx15_3) (by kernel_rfl) ?_
              refine SO.run c0 12 ⟨[(0, .slice .none 4 (eTToken.F a0)), (4, .ptr (.loc 4) 0), (7, .ptr (.loc 7) 0), (8, .ptr (.loc 8) 0), (9, .int .i64 x15_3_1), (10, .bool x15_3_2)], [(.loc 4, .cells true [.int .i64 0, .int .i64 0, .int .i64 0, .str [], .nils]), (.loc 7, .cells true (cTToken x1_2)), (.loc 8, .cells true (cTNode x15_3_0))]⟩ (by decide) (by kernel_rfl) ?_
              refine SO.done ?_
              refine SC.seq ?_
              refine SC.seq ?_
              refine SC.region 2 rfl ?_
              refine SO.run c0 2 ⟨[(0, .slice .none 4 (eTToken.F a0)), (4, .ptr (.loc 4) 0), (7, .ptr (.loc 7) 0), (8, .ptr (.loc 8) 0), (9, .int .i64 x15_3_1), (92, .bool (!x15_3_2))], [(.loc 4, .cells true [.int .i64 0, .int .i64 0, .int .i64 0, .str [], .nils]), (.loc 7, .cells true (cTToken x1_2)), (.loc 8, .cells true (cTNode x15_3_0))]⟩ (by decide) (by kernel_rfl) ?_
              refine SO.done ?_
              refine SC.cond (!x15_3_2) (by kernel_rfl) (fun ht => ?_) (fun ht => ?_)
              · replace h := Opt.t h ht
                refine SC.seq ?_
                refine SC.region 5 rfl ?_
                refine SO.run c0 5 ⟨[(4, .ptr (.loc 4) 0), (5, .int .i64 x15_3_1), (6, .bool false)], [(.loc 4, .cells true [.int .i64 0, .int .i64 0, .int .i64 0, .str [], .nils])]⟩ (by decide) (by kernel_rfl) ?_
                refine SO.done ?_
                refine SC.ret ?_
                replace h := Option.some.inj h
                subst h
                exact ⟨[.agg [.int .i64 0, .int .i64 0, .int .i64 0, .str [], .nils], .int .i64 x15_3_1, .bool false], by kernel_rfl, Wk.tuple (⟨Wk.agg (⟨Wk.refl _, Wk.refl _, Wk.refl _, Wk.refl _, Wk.nils _ _, trivial⟩), Wk.refl _, Wk.refl _, trivial⟩), trivial, by kernel_rfl⟩
              · replace h := Opt.f h ht
                refine SC.skip ?_
                refine SC.seq ?_
                refine SC.region 10 rfl ?_
                refine SO.run c0 2 ⟨[(4, .ptr (.loc 4) 0), (7, .ptr (.loc 7) 0), (8, .ptr (.loc 8) 0), (96, .slice .none 4 (eTToken.F a0)), (97, .int .i64 x15_3_1)], [(.loc 4, .cells true [.int .i64 0, .int .i64 0, .int .i64 0, .str [], .nils]), (.loc 7, .cells true (cTToken x1_2)), (.loc 8, .cells true (cTNode x15_3_0))]⟩ (by decide) (by kernel_rfl) ?_
                obtain ⟨⟨x18_2_0, x18_2_1, x18_2_2⟩, hx18_2, h⟩ := Opt.ex h
                refine SO.call ⟨20, [.slice .none 4 (eTToken.F a0), .int .i64 x15_3_1], [], [], some 98⟩ ⟨[(4, .ptr (.loc 4) 0), (7, .ptr (.loc 7) 0), (8, .ptr (.loc 8) 0), (98, .tuple [.slice .none 5 (eTNode.F x18_2_0), .int .i64 x18_2_1, .bool x18_2_2])], [(.loc 4, .cells true [.int .i64 0, .int .i64 0, .int .i64 0, .str [], .nils]), (.loc 7, .cells true (cTToken x1_2)), (.loc 8, .cells true (cTNode x15_3_0))]⟩ (by decide) (by kernel_rfl) (ih_ref13_Args a0 x15_3_1 (x18_2_0, x18_2_1, x18_2_2) hx18_2) (by kernel_rfl) ?_
                refine SO.run c0 10 ⟨[(4, .ptr (.loc 4) 0), (7, .ptr (.loc 7) 0), (8, .ptr (.loc 8) 0), (11, .slice .none 5 (eTNode.F x18_2_0)), (12, .int .i64 x18_2_1), (13, .bool x18_2_2)], [(.loc 4, .cells true [.int .i64 0, .int .i64 0, .int .i64 0, .str [], .nils]), (.loc 7, .cells true (cTToken x1_2)), (.loc 8, .cells true (cTNode x15_3_0))]⟩ (by decide) (by kernel_rfl) ?_
                refine SO.done ?_
                refine SC.seq ?_
                refine SC.seq ?_
                refine SC.region 2 rfl ?_
                refine SO.run c0 2 ⟨[(4, .ptr (.loc 4) 0), (7, .ptr (.loc 7) 0), (8, .ptr (.loc 8) 0), (11, .slice .none 5 (eTNode.F x18_2_0)), (12, .int .i64 x18_2_1), (103, .bool (!x18_2_2))], [(.loc 4, .cells true [.int .i64 0, .int .i64 0, .int .i64 0, .str [], .nils]), (.loc 7, .cells true (cTToken x1_2)), (.loc 8, .cells true (cTNode x15_3_0))]⟩ (by decide) (by kernel_rfl) ?_
                refine SO.done ?_
                refine SC.cond (!x18_2_2) (by kernel_rfl) (fun ht => ?_) (fun ht => ?_)
                · replace h := Opt.t h ht
                  refine SC.seq ?_
                  refine SC.region 5 rfl ?_
                  refine SO.run c0 5 ⟨[(4, .ptr (.loc 4) 0), (5, .int .i64 x18_2_1), (6, .bool false)], [(.loc 4, .cells true [.int .i64 0, .int .i64 0, .int .i64 0, .str [], .nils])]⟩ (by decide) (by kernel_rfl) ?_
                  refine SO.done ?_
                  refine SC.ret ?_
                  replace h := Option.some.inj h
                  subst h
                  exact ⟨[.agg [.int .i64 0, .int .i64 0, .int .i64 0, .str [], .nils], .int .i64 x18_2_1, .bool false], by kernel_rfl, Wk.tuple (⟨Wk.agg (⟨Wk.refl _, Wk.refl _, Wk.refl _, Wk.refl _, Wk.nils _ _, trivial⟩), Wk.refl _, Wk.refl _, trivial⟩), trivial, by kernel_rfl⟩
                · replace h := Opt.f h ht
                  refine SC.skip ?_
                  refine SC.seq ?_
                  refine SC.drawT ?_
                  refine DD.run c0 3 ⟨[(4, .ptr (.loc 4) 0), (7, .ptr (.loc 7) 0), (8, .ptr (.loc 8) 0), (11, .slice .none 5 (eTNode.F x18_2_0)), (12, .int .i64 x18_2_1), (103, .bool (!x18_2_2)), (106, .ptr (.loc 7) 1), (107, .int .i64 x1_2.At), (108, .agg (cTNode x15_3_0))], [(.loc 4, .cells true [.int .i64 0, .int .i64 0, .int .i64 0, .str [], .nils]), (.loc 7, .cells true (cTToken x1_2)), (.loc 8, .cells true (cTNode x15_3_0))]⟩ (by decide) (by kernel_rfl) ?_
                  refine DD.op c0 { v := .slice .full 5 (eTNode.F [x15_3_0]) } ⟨[(4, .ptr (.loc 4) 0), (7, .ptr (.loc 7) 0), (8, .ptr (.loc 8) 0), (11, .slice .none 5 (eTNode.F x18_2_0)), (12, .int .i64 x18_2_1), (103, .bool (!x18_2_2)), (106, .ptr (.loc 7) 1), (107, .int .i64 x1_2.At), (108, .agg (cTNode x15_3_0)), (109, .slice .full 5 (eTNode.F [x15_3_0]))], [(.loc 4, .cells true [.int .i64 0, .int .i64 0, .int .i64 0, .str [], .nils]), (.loc 7, .cells true (cTToken x1_2)), (.loc 8, .cells true (cTNode x15_3_0))]⟩ ((show opR _ _ _ _ _ _ = some { v := .slice .full 5 [.agg (cTNode x15_3_0)] } from by kernel_rfl).trans (by simp only [FTNode, eTNode_F, fTNode_eq])) (by kernel_rfl) ?_
                  refine DD.run c0 5 ⟨[(4, .ptr (.loc 4) 0), (7, .ptr (.loc 7) 0), (8, .ptr (.loc 8) 0), (11, .slice .none 5 (eTNode.F x18_2_0)), (12, .int .i64 x18_2_1), (103, .bool (!x18_2_2)), (106, .ptr (.loc 7) 1), (107, .int .i64 x1_2.At), (108, .agg (cTNode x15_3_0)), (109, .slice .full 5 (eTNode.F [x15_3_0])), (110, .slice .none 5 (eTNode.F x18_2_0))], [(.loc 4, .cells true [.int .i64 0, .int .i64 0, .int .i64 0, .str [], .nils]), (.loc 7, .cells true (cTToken x1_2)), (.loc 8, .cells true (cTNode x15_3_0))]⟩ (by decide) (by kernel_rfl) ?_
                  obtain ⟨hr, h⟩ := Opt.g h
                  refine DD.op (cP [111]) { v := .slice .none 5 (eTNode.F ([x15_3_0] ++ x18_2_0)) } ⟨[(4, .ptr (.loc 4) 0), (7, .ptr (.loc 7) 0), (8, .ptr (.loc 8) 0), (11, .slice .none 5 (eTNode.F x18_2_0)), (12, .int .i64 x18_2_1), (103, .bool (!x18_2_2)), (106, .ptr (.loc 7) 1), (107, .int .i64 x1_2.At), (108, .agg (cTNode x15_3_0)), (109, .slice .full 5 (eTNode.F [x15_3_0])), (110, .slice .none 5 (eTNode.F x18_2_0)), (111, .slice .none 5 (eTNode.F ([x15_3_0] ++ x18_2_0)))], [(.loc 4, .cells true [.int .i64 0, .int .i64 0, .int .i64 0, .str [], .nils]), (.loc 7, .cells true (cTToken x1_2)), (.loc 8, .cells true (cTNode x15_3_0))]⟩ (apP eTNode 111 [(.loc 4, .cells true [.int .i64 0, .int .i64 0, .int .i64 0, .str [], .nils]), (.loc 7, .cells true (cTToken x1_2)), (.loc 8, .cells true (cTNode x15_3_0))] 27 27 5 64 [x15_3_0] x18_2_0 .none (by kernel_rfl) (by kernel_rfl) hr) (by kernel_rfl) ?_
                  refine DD.run c0 11 ⟨[(4, .ptr (.loc 4) 0), (5, .int .i64 x18_2_1), (6, .bool true), (7, .ptr (.loc 7) 0), (8, .ptr (.loc 8) 0), (11, .slice .none 5 (eTNode.F x18_2_0)), (12, .int .i64 x18_2_1), (103, .bool (!x18_2_2)), (106, .ptr (.loc 7) 1), (107, .int .i64 x1_2.At), (108, .agg (cTNode x15_3_0)), (109, .slice .full 5 (eTNode.F [x15_3_0])), (110, .slice .none 5 (eTNode.F x18_2_0)), (111, .slice .none 5 (eTNode.F ([x15_3_0] ++ x18_2_0))), (112, .agg [.int .i64 19, .int .i64 x1_2.At, .int .i64 0, .str [], .slice .none 5 (eTNode.F ([x15_3_0] ++ x18_2_0))]), (113, .int .i64 x18_2_1)], [(.loc 4, .cells true [.int .i64 19, .int .i64 x1_2.At, .int .i64 0, .str [], .slice .none 5 (eTNode.F ([x15_3_0] ++ x18_2_0))]), (.loc 7, .cells true (cTToken x1_2)), (.loc 8, .cells true (cTNode x15_3_0))]⟩ (by decide) (by kernel_rfl) ?_
                  refine DD.fin ⟨[(4, .ptr (.loc 4) 0), (5, .int .i64 x18_2_1), (6, .bool true)], [(.loc 4, .cells true [.int .i64 19, .int .i64 x1_2.At, .int .i64 0, .str [], .slice .none 5 (eTNode.F ([x15_3_0] ++ x18_2_0))])]⟩ rfl (by kernel_rfl) (by kernel_rfl) ?_
                  refine SC.ret ?_
                  replace h := Option.some.inj h
                  subst h
                  exact ⟨[.agg [.int .i64 19, .int .i64 x1_2.At, .int .i64 0, .str [], .slice .none 5 (eTNode.F ([x15_3_0] ++ x18_2_0))], .int .i64 x18_2_1, .bool true], by kernel_rfl, Wk.eq (by kernel_rfl), trivial, by kernel_rfl⟩
            · replace h := Opt.f h ht
              refine SC.skip ?_
              refine SC.seq ?_
              refine SC.seq ?_
              refine SC.region 4 rfl ?_
              refine SO.run c0 2 ⟨[(0, .slice .none 4 (eTToken.F a0)), (1, .int .i64 a1), (4, .ptr (.loc 4) 0), (114, .slice .none 4 (eTToken.F a0)), (115, .int .i64 a1)], [(.loc 4, .cells true [.int .i64 0, .int .i64 0, .int .i64 0, .str [], .nils])]⟩ (by decide) (by kernel_rfl) ?_
              obtain ⟨x22_2, hx22_2, h⟩ := Opt.ex h
              refine SO.call ⟨45, [.slice .none 4 (eTToken.F a0), .int .i64 a1, .str [40]], [], [], some 116⟩ ⟨[(0, .slice .none 4 (eTToken.F a0)), (1, .int .i64 a1), (4, .ptr (.loc 4) 0), (116, .bool x22_2)], [(.loc 4, .cells true [.int .i64 0, .int .i64 0, .int .i64 0, .str [], .nils])]⟩ (by decide) (by kernel_rfl) (ok_ref13_Is k a0 a1 [40] x22_2 hx22_2) (by kernel_rfl) ?_
              refine SO.run c0 4 ⟨[(0, .slice .none 4 (eTToken.F a0)), (1, .int .i64 a1), (4, .ptr (.loc 4) 0), (117, .bool (!x22_2))], [(.loc 4, .cells true [.int .i64 0, .int .i64 0, .int .i64 0, .str [], .nils])]⟩ (by decide) (by kernel_rfl) ?_
              refine SO.done ?_
              refine SC.cond (!x22_2) (by kernel_rfl) (fun ht => ?_) (fun ht => ?_)
              · replace h := Opt.t h ht
                refine SC.seq ?_
                refine SC.region 5 rfl ?_
                refine SO.run c0 5 ⟨[(4, .ptr (.loc 4) 0), (5, .int .i64 a1), (6, .bool false)], [(.loc 4, .cells true [.int .i64 0, .int .i64 0, .int .i64 0, .str [], .nils])]⟩ (by decide) (by kernel_rfl) ?_
                refine SO.done ?_
                refine SC.ret ?_
                replace h := Option.some.inj h
                subst h
                exact ⟨[.agg [.int .i64 0, .int .i64 0, .int .i64 0, .str [], .nils], .int .i64 a1, .bool false], by kernel_rfl, Wk.tuple (⟨Wk.agg (⟨Wk.refl _, Wk.refl _, Wk.refl _, Wk.refl _, Wk.nils _ _, trivial⟩), Wk.refl _, Wk.refl _, trivial⟩), trivial, by kernel_rfl⟩
              · replace h := Opt.f h ht
                refine SC.skip ?_
                refine SC.seq ?_
                refine SC.region 12 rfl ?_
                refine SO.run c0 3 ⟨[(0, .slice .none 4 (eTToken.F a0)), (4, .ptr (.loc 4) 0), (121, .slice .none 4 (eTToken.F a0)), (123, .int .i64 (IntKind.i64.wrap (a1 + 1)))], [(.loc 4, .cells true [.int .i64 0, .int .i64 0, .int .i64 0, .str [], .nils])]⟩ (by decide) (by kernel_rfl) ?_
                obtain ⟨⟨x24_3_0, x24_3_1, x24_3_2⟩, hx24_3, h⟩ := Opt.ex h
                refine SO.call ⟨13, [.slice .none 4 (eTToken.F a0), .int .i64 (IntKind.i64.wrap (a1 + 1))], [], [], some 124⟩ ⟨[(0, .slice .none 4 (eTToken.F a0)), (4, .ptr (.loc 4) 0), (124, .tuple [.agg (cTNode x24_3_0), .int .i64 x24_3_1, .bool x24_3_2])], [(.loc 4, .cells true [.int .i64 0, .int .i64 0, .int .i64 0, .str [], .nils])]⟩ (by decide) (by kernel_rfl) (ih_ref13_Expr a0 (IntKind.i64.wrap (a1 + 1)) (x24_3_0, x24_3_1, x24_3_2) hx24_3) (by kernel_rfl) ?_
                refine SO.run c0 12 ⟨[(0, .slice .none 4 (eTToken.F a0)), (4, .ptr (.loc 4) 0), (14, .ptr (.loc 14) 0), (15, .int .i64 x24_3_1), (16, .bool x24_3_2)], [(.loc 4, .cells true [.int .i64 0, .int .i64 0, .int .i64 0, .str [], .nils]), (.loc 14, .cells true (cTNode x24_3_0))]⟩ (by decide) (by kernel_rfl) ?_
                refine SO.done ?_
                refine SC.seq ?_
                refine SC.seq ?_
                refine SC.region 8 rfl ?_
                refine SO.run c0 3 ⟨[(0, .slice .none 4 (eTToken.F a0)), (4, .ptr (.loc 4) 0), (14, .ptr (.loc 14) 0), (15, .int .i64 x24_3_1), (130, .bool (!x24_3_2))], [(.loc 4, .cells true [.int .i64 0, .int .i64 0, .int .i64 0, .str [], .nils]), (.loc 14, .cells true (cTNode x24_3_0))]⟩ (by decide) (by kernel_rfl) ?_
                refine SO.joinK h (fun v : Bool => ⟨[(4, .ptr (.loc 4) 0), (14, .ptr (.loc 14) 0), (15, .int .i64 x24_3_1), (135, .bool v)], [(.loc 4, .cells true [.int .i64 0, .int .i64 0, .int .i64 0, .str [], .nils]), (.loc 14, .cells true (cTNode x24_3_0))]⟩) 8 (by decide) ?_ ?_
                · rintro g25_7_135 h
                  refine SO.eqS (S1 := ⟨[(4, .ptr (.loc 4) 0), (14, .ptr (.loc 14) 0), (15, .int .i64 x24_3_1), (135, .bool g25_7_135)], [(.loc 4, .cells true [.int .i64 0, .int .i64 0, .int .i64 0, .str [], .nils]), (.loc 14, .cells true (cTNode x24_3_0))]⟩) rfl ?_
                  refine SO.done ?_
                  refine SC.cond g25_7_135 (by kernel_rfl) (fun ht => ?_) (fun ht => ?_)
                  · replace h := Opt.t h ht
                    refine SC.seq ?_
                    refine SC.region 5 rfl ?_
                    refine SO.run c0 5 ⟨[(4, .ptr (.loc 4) 0), (5, .int .i64 x24_3_1), (6, .bool false)], [(.loc 4, .cells true [.int .i64 0, .int .i64 0, .int .i64 0, .str [], .nils])]⟩ (by decide) (by kernel_rfl) ?_
                    refine SO.done ?_
                    refine SC.ret ?_
                    replace h := Option.some.inj h
                    subst h
                    exact ⟨[.agg [.int .i64 0, .int .i64 0, .int .i64 0, .str [], .nils], .int .i64 x24_3_1, .bool false], by kernel_rfl, Wk.tuple (⟨Wk.agg (⟨Wk.refl _, Wk.refl _, Wk.refl _, Wk.refl _, Wk.nils _ _, trivial⟩), Wk.refl _, Wk.refl _, trivial⟩), trivial, by kernel_rfl⟩
                  · replace h := Opt.f h ht
                    refine SC.skip ?_
                    refine SC.seq ?_
                    refine SC.region 6 rfl ?_
                    refine SO.run c0 6 ⟨[(4, .ptr (.loc 4) 0), (5, .int .i64 (IntKind.i64.wrap (x24_3_1 + 1))), (6, .bool true)], [(.loc 4, .cells true (cTNode x24_3_0))]⟩ (by decide) (by kernel_rfl) ?_
                    refine SO.done ?_
                    refine SC.ret ?_
                    replace h := Option.some.inj h
                    subst h
                    exact ⟨[.agg (cTNode x24_3_0), .int .i64 (IntKind.i64.wrap (x24_3_1 + 1)), .bool true], by kernel_rfl, Wk.eq (by kernel_rfl), trivial, by kernel_rfl⟩
                · intro j_g25_7 h
                  refine SO.bool (!x24_3_2) (fun b => ⟨[(0, .slice .none 4 (eTToken.F a0)), (4, .ptr (.loc 4) 0), (14, .ptr (.loc 14) 0), (15, .int .i64 x24_3_1), (130, .bool b)], [(.loc 4, .cells true [.int .i64 0, .int .i64 0, .int .i64 0, .str [], .nils]), (.loc 14, .cells true (cTNode x24_3_0))]⟩) (fun ht => ?_) (fun ht => ?_)
                  · replace h := Opt.t h ht
                    refine SO.run c0 8 ⟨[(4, .ptr (.loc 4) 0), (14, .ptr (.loc 14) 0), (15, .int .i64 x24_3_1), (135, .bool true)], [(.loc 4, .cells true [.int .i64 0, .int .i64 0, .int .i64 0, .str [], .nils]), (.loc 14, .cells true (cTNode x24_3_0))]⟩ (by decide) (by kernel_rfl) ?_
                    exact SO.done ⟨true, rfl, h⟩
                  · replace h := Opt.f h ht
                    refine SO.run c0 5 ⟨[(4, .ptr (.loc 4) 0), (14, .ptr (.loc 14) 0), (15, .int .i64 x24_3_1), (130, .bool false), (131, .slice .none 4 (eTToken.F a0)), (132, .int .i64 x24_3_1)], [(.loc 4, .cells true [.int .i64 0, .int .i64 0, .int .i64 0, .str [], .nils]), (.loc 14, .cells true (cTNode x24_3_0))]⟩ (by decide) (by kernel_rfl) ?_
                    obtain ⟨x25_5, hx25_5, h⟩ := Opt.ex h
                    refine SO.call ⟨45, [.slice .none 4 (eTToken.F a0), .int .i64 x24_3_1, .str [41]], [], [], some 133⟩ ⟨[(4, .ptr (.loc 4) 0), (14, .ptr (.loc 14) 0), (15, .int .i64 x24_3_1), (130, .bool false), (133, .bool x25_5)], [(.loc 4, .cells true [.int .i64 0, .int .i64 0, .int .i64 0, .str [], .nils]), (.loc 14, .cells true (cTNode x24_3_0))]⟩ (by decide) (by kernel_rfl) (ok_ref13_Is k a0 x24_3_1 [41] x25_5 hx25_5) (by kernel_rfl) ?_
                    refine SO.run c0 8 ⟨[(4, .ptr (.loc 4) 0), (14, .ptr (.loc 14) 0), (15, .int .i64 x24_3_1), (135, .bool (!x25_5))], [(.loc 4, .cells true [.int .i64 0, .int .i64 0, .int .i64 0, .str [], .nils]), (.loc 14, .cells true (cTNode x24_3_0))]⟩ (by decide) (by kernel_rfl) ?_
                    exact SO.done ⟨(!x25_5), rfl, h⟩
theorem st_ref13_part (k : Nat) (ih_ref13_first : C_ref13_first k) (ih_ref13_Expr : C_ref13_Expr k) : C_ref13_part (k + 1) := by
  intro a0 a1 r h
  rw [ref13_part] at h
  refine SF.intro Tryd.func99 rfl Tryd.ntmps99 rfl (Nat.le_of_ble_eq_true rfl) (by decide) ?_
  refine SC.seq ?_
  refine SC.region 3 rfl ?_
  refine SO.run c0 3 ⟨[(0, .slice .none 4 (eTToken.F a0)), (1, .int .i64 a1), (4, .ptr (.loc 4) 0)], [(.loc 4, .cells true [.int .i64 0, .int .i64 0, .int .i64 0, .str [], .nils])]⟩ (by decide) (by kernel_rfl) ?_
  refine SO.done ?_
  refine SC.seq ?_
  refine SC.region 11 rfl ?_
  refine SO.run c0 2 ⟨[(0, .slice .none 4 (eTToken.F a0)), (4, .ptr (.loc 4) 0), (16, .slice .none 4 (eTToken.F a0)), (17, .int .i64 a1)], [(.loc 4, .cells true [.int .i64 0, .int .i64 0, .int .i64 0, .str [], .nils])]⟩ (by decide) (by kernel_rfl) ?_
  obtain ⟨⟨x1_2_0, x1_2_1, x1_2_2⟩, hx1_2, h⟩ := Opt.ex h
  refine SO.call ⟨112, [.slice .none 4 (eTToken.F a0), .int .i64 a1], [], [], some 18⟩ ⟨[(0, .slice .none 4 (eTToken.F a0)), (4, .ptr (.loc 4) 0), (18, .tuple [.agg (cTNode x1_2_0), .int .i64 x1_2_1, .bool x1_2_2])], [(.loc 4, .cells true [.int .i64 0, .int .i64 0, .int .i64 0, .str [], .nils])]⟩ (by decide) (by kernel_rfl) (ih_ref13_first a0 a1 (x1_2_0, x1_2_1, x1_2_2) hx1_2) (by kernel_rfl) ?_
  refine SO.run c0 11 ⟨[(0, .slice .none 4 (eTToken.F a0)), (4, .ptr (.loc 4) 0), (7, .ptr (.loc 7) 0), (8, .int .i64 x1_2_1), (9, .bool x1_2_2)], [(.loc 4, .cells true [.int .i64 0, .int .i64 0, .int .i64 0, .str [], .nils]), (.loc 7, .cells true (cTNode x1_2_0))]⟩ (by decide) (by kernel_rfl) ?_
  refine SO.done ?_
  refine SC.seq ?_
  refine SC.seq ?_
  refine SC.region 2 rfl ?_
  refine SO.run c0 2 ⟨[(0, .slice .none 4 (eTToken.F a0)), (4, .ptr (.loc 4) 0), (7, .ptr (.loc 7) 0), (8, .int .i64 x1_2_1), (23, .bool (!x1_2_2))], [(.loc 4, .cells true [.int .i64 0, .int .i64 0, .int .i64 0, .str [], .nils]), (.loc 7, .cells true (cTNode x1_2_0))]⟩ (by decide) (by kernel_rfl) ?_
  refine SO.done ?_
  refine SC.cond (!x1_2_2) (by kernel_rfl) (fun ht => ?_) (fun ht => ?_)
  · replace h := Opt.t h ht
    refine SC.seq ?_
    refine SC.region 5 rfl ?_
    refine SO.run c0 5 ⟨[(4, .ptr (.loc 4) 0), (5, .int .i64 x1_2_1), (6, .bool false)], [(.loc 4, .cells true [.int .i64 0, .int .i64 0, .int .i64 0, .str [], .nils])]⟩ (by decide) (by kernel_rfl) ?_
    refine SO.done ?_
    refine SC.ret ?_
    replace h := Option.some.inj h
    subst h
    exact ⟨[.agg [.int .i64 0, .int .i64 0, .int .i64 0, .str [], .nils], .int .i64 x1_2_1, .bool false], by kernel_rfl, Wk.tuple (⟨Wk.agg (⟨Wk.refl _, Wk.refl _, Wk.refl _, Wk.refl _, Wk.nils _ _, trivial⟩), Wk.refl _, Wk.refl _, trivial⟩), trivial, by kernel_rfl⟩
  · replace h := Opt.f h ht
    refine SC.skip ?_
    refine SC.block ?_
    refine SC.weak (S1 := ⟨[(0, .slice .none 4 (eTToken.F a0)), (4, .ptr (.loc 4) 0), (7, .ptr (.loc 7) 0), (8, .int .i64 x1_2_1)], [(.loc 4, .cells true [.int .i64 0, .int .i64 0, .int .i64 0, .str [], .nils]), (.loc 7, .cells true (cTNode x1_2_0))]⟩) ?_ ?_
    · exact ⟨⟨Wk.refl _, Wk.refl _, Wk.refl _, Wk.refl _, trivial⟩, ⟨⟨.cells true [.int .i64 0, .int .i64 0, .int .i64 0, .str [], .nils], by kernel_rfl, ObWk.cells (WkL.refl _)⟩, ⟨.cells true (cTNode x1_2_0), by kernel_rfl, ObWk.cells (WkL.refl _)⟩, trivial⟩, by kernel_rfl⟩
    apply SC.loopJ (r := r) h (fun v : Int × TNode => ⟨[(0, .slice .none 4 (eTToken.F a0)), (4, .ptr (.loc 4) 0), (7, .ptr (.loc 7) 0), (8, .int .i64 v.1)], [(.loc 4, .cells true [.int .i64 0, .int .i64 0, .int .i64 0, .str [], .nils]), (.loc 7, .cells true (cTNode v.2))]⟩)
    rintro ⟨l0_8, l0_oloc7⟩ r h
    refine SC.eqS (S1 := ⟨[(0, .slice .none 4 (eTToken.F a0)), (4, .ptr (.loc 4) 0), (7, .ptr (.loc 7) 0), (8, .int .i64 l0_8)], [(.loc 4, .cells true [.int .i64 0, .int .i64 0, .int .i64 0, .str [], .nils]), (.loc 7, .cells true (cTNode l0_oloc7))]⟩) rfl ?_
    refine SC.block ?_
    refine SC.seq ?_
    refine SC.region 5 rfl ?_
    refine SO.run c0 2 ⟨[(0, .slice .none 4 (eTToken.F a0)), (4, .ptr (.loc 4) 0), (7, .ptr (.loc 7) 0), (8, .int .i64 l0_8), (26, .slice .none 4 (eTToken.F a0)), (27, .int .i64 l0_8)], [(.loc 4, .cells true [.int .i64 0, .int .i64 0, .int .i64 0, .str [], .nils]), (.loc 7, .cells true (cTNode l0_oloc7))]⟩ (by decide) (by kernel_rfl) ?_
    obtain ⟨x4_2, hx4_2, h⟩ := Opt.ex h
    refine SO.call ⟨43, [.slice .none 4 (eTToken.F a0), .int .i64 l0_8], [], [], some 28⟩ ⟨[(0, .slice .none 4 (eTToken.F a0)), (4, .ptr (.loc 4) 0), (7, .ptr (.loc 7) 0), (8, .int .i64 l0_8), (28, .agg (cTToken x4_2))], [(.loc 4, .cells true [.int .i64 0, .int .i64 0, .int .i64 0, .str [], .nils]), (.loc 7, .cells true (cTNode l0_oloc7))]⟩ (by decide) (by kernel_rfl) (ok_ref13_Tok k a0 l0_8 x4_2 hx4_2) (by kernel_rfl) ?_
    refine SO.run c0 5 ⟨[(0, .slice .none 4 (eTToken.F a0)), (4, .ptr (.loc 4) 0), (7, .ptr (.loc 7) 0), (8, .int .i64 l0_8), (10, .int .i64 x4_2.At)], [(.loc 4, .cells true [.int .i64 0, .int .i64 0, .int .i64 0, .str [], .nils]), (.loc 7, .cells true (cTNode l0_oloc7))]⟩ (by decide) (by kernel_rfl) ?_
    refine SO.done ?_
    refine SC.seq ?_
    refine SC.seq ?_
    refine SC.region 3 rfl ?_
    refine SO.run c0 2 ⟨[(0, .slice .none 4 (eTToken.F a0)), (4, .ptr (.loc 4) 0), (7, .ptr (.loc 7) 0), (8, .int .i64 l0_8), (10, .int .i64 x4_2.At), (30, .slice .none 4 (eTToken.F a0)), (31, .int .i64 l0_8)], [(.loc 4, .cells true [.int .i64 0, .int .i64 0, .int .i64 0, .str [], .nils]), (.loc 7, .cells true (cTNode l0_oloc7))]⟩ (by decide) (by kernel_rfl) ?_
    obtain ⟨x5_2, hx5_2, h⟩ := Opt.ex h
    refine SO.call ⟨45, [.slice .none 4 (eTToken.F a0), .int .i64 l0_8, .str [46]], [], [], some 32⟩ ⟨[(0, .slice .none 4 (eTToken.F a0)), (4, .ptr (.loc 4) 0), (7, .ptr (.loc 7) 0), (8, .int .i64 l0_8), (10, .int .i64 x4_2.At), (32, .bool x5_2)], [(.loc 4, .cells true [.int .i64 0, .int .i64 0, .int .i64 0, .str [], .nils]), (.loc 7, .cells true (cTNode l0_oloc7))]⟩ (by decide) (by kernel_rfl) (ok_ref13_Is k a0 l0_8 [46] x5_2 hx5_2) (by kernel_rfl) ?_
    refine SO.done ?_
    refine SC.cond x5_2 (by kernel_rfl) (fun ht => ?_) (fun ht => ?_)
    · replace h := Opt.t h ht
      refine SC.seq ?_
      refine SC.region 6 rfl ?_
      refine SO.run c0 3 ⟨[(0, .slice .none 4 (eTToken.F a0)), (4, .ptr (.loc 4) 0), (7, .ptr (.loc 7) 0), (8, .int .i64 l0_8), (10, .int .i64 x4_2.At), (33, .slice .none 4 (eTToken.F a0)), (35, .int .i64 (IntKind.i64.wrap (l0_8 + 1)))], [(.loc 4, .cells true [.int .i64 0, .int .i64 0, .int .i64 0, .str [], .nils]), (.loc 7, .cells true (cTNode l0_oloc7))]⟩ (by decide) (by kernel_rfl) ?_
      obtain ⟨x6_3, hx6_3, h⟩ := Opt.ex h
      refine SO.call ⟨43, [.slice .none 4 (eTToken.F a0), .int .i64 (IntKind.i64.wrap (l0_8 + 1))], [], [], some 36⟩ ⟨[(0, .slice .none 4 (eTToken.F a0)), (4, .ptr (.loc 4) 0), (7, .ptr (.loc 7) 0), (8, .int .i64 l0_8), (10, .int .i64 x4_2.At), (36, .agg (cTToken x6_3))], [(.loc 4, .cells true [.int .i64 0, .int .i64 0, .int .i64 0, .str [], .nils]), (.loc 7, .cells true (cTNode l0_oloc7))]⟩ (by decide) (by kernel_rfl) (ok_ref13_Tok k a0 (IntKind.i64.wrap (l0_8 + 1)) x6_3 hx6_3) (by kernel_rfl) ?_
      refine SO.run c0 6 ⟨[(0, .slice .none 4 (eTToken.F a0)), (4, .ptr (.loc 4) 0), (7, .ptr (.loc 7) 0), (8, .int .i64 l0_8), (10, .int .i64 x4_2.At), (11, .ptr (.loc 11) 0)], [(.loc 4, .cells true [.int .i64 0, .int .i64 0, .int .i64 0, .str [], .nils]), (.loc 7, .cells true (cTNode l0_oloc7)), (.loc 11, .cells true (cTToken x6_3))]⟩ (by decide) (by kernel_rfl) ?_
      refine SO.done ?_
      refine SC.seq ?_
      refine SC.seq ?_
      refine SC.region 3 rfl ?_
      refine SO.run c0 3 ⟨[(0, .slice .none 4 (eTToken.F a0)), (4, .ptr (.loc 4) 0), (7, .ptr (.loc 7) 0), (8, .int .i64 l0_8), (10, .int .i64 x4_2.At), (11, .ptr (.loc 11) 0), (39, .bool (x6_3.Kind != 1))], [(.loc 4, .cells true [.int .i64 0, .int .i64 0, .int .i64 0, .str [], .nils]), (.loc 7, .cells true (cTNode l0_oloc7)), (.loc 11, .cells true (cTToken x6_3))]⟩ (by decide) (by kernel_rfl) ?_
      refine SO.done ?_
      refine SC.cond (x6_3.Kind != 1) (by kernel_rfl) (fun ht => ?_) (fun ht => ?_)
      · replace h := Opt.t h ht
        refine SC.seq ?_
        refine SC.region 6 rfl ?_
        refine SO.run c0 6 ⟨[(4, .ptr (.loc 4) 0), (5, .int .i64 (IntKind.i64.wrap (l0_8 + 1))), (6, .bool false)], [(.loc 4, .cells true [.int .i64 0, .int .i64 0, .int .i64 0, .str [], .nils])]⟩ (by decide) (by kernel_rfl) ?_
        refine SO.done ?_
        refine SC.ret ?_
        replace h := Option.some.inj h
        subst h
        refine ⟨_, rfl, ?_⟩
        exact ⟨[.agg [.int .i64 0, .int .i64 0, .int .i64 0, .str [], .nils], .int .i64 (IntKind.i64.wrap (l0_8 + 1)), .bool false], by kernel_rfl, Wk.tuple (⟨Wk.agg (⟨Wk.refl _, Wk.refl _, Wk.refl _, Wk.refl _, Wk.nils _ _, trivial⟩), Wk.refl _, Wk.refl _, trivial⟩), trivial, by kernel_rfl⟩
      · replace h := Opt.f h ht
        refine SC.skip ?_
        refine SC.seq ?_
        refine SC.region 7 rfl ?_
        refine SO.run c0 4 ⟨[(0, .slice .none 4 (eTToken.F a0)), (4, .ptr (.loc 4) 0), (7, .ptr (.loc 7) 0), (8, .int .i64 l0_8), (43, .int .i64 x4_2.At), (45, .str x6_3.Text), (46, .agg (cTNode l0_oloc7))], [(.loc 4, .cells true [.int .i64 0, .int .i64 0, .int .i64 0, .str [], .nils]), (.loc 7, .cells true (cTNode l0_oloc7))]⟩ (by decide) (by kernel_rfl) ?_
        refine SO.op c0 { v := .slice .full 5 (eTNode.F [l0_oloc7]) } ⟨[(0, .slice .none 4 (eTToken.F a0)), (4, .ptr (.loc 4) 0), (7, .ptr (.loc 7) 0), (8, .int .i64 l0_8), (43, .int .i64 x4_2.At), (45, .str x6_3.Text), (47, .slice .full 5 (eTNode.F [l0_oloc7]))], [(.loc 4, .cells true [.int .i64 0, .int .i64 0, .int .i64 0, .str [], .nils]), (.loc 7, .cells true (cTNode l0_oloc7))]⟩ (by decide) ((show opR _ _ _ _ _ _ = some { v := .slice .full 5 [.agg (cTNode l0_oloc7)] } from by kernel_rfl).trans (by simp only [FTNode, eTNode_F, fTNode_eq])) (by kernel_rfl) ?_
        refine SO.run c0 7 ⟨[(0, .slice .none 4 (eTToken.F a0)), (4, .ptr (.loc 4) 0), (7, .ptr (.loc 7) 0), (8, .int .i64 l0_8)], [(.loc 4, .cells true [.int .i64 0, .int .i64 0, .int .i64 0, .str [], .nils]), (.loc 7, .cells true [.int .i64 14, .int .i64 x4_2.At, .int .i64 0, .str x6_3.Text, .slice .full 5 (eTNode.F [l0_oloc7])])]⟩ (by decide) (by kernel_rfl) ?_
        refine SO.done ?_
        refine SC.seq ?_
        refine SC.region 3 rfl ?_
        refine SO.run c0 3 ⟨[(0, .slice .none 4 (eTToken.F a0)), (4, .ptr (.loc 4) 0), (7, .ptr (.loc 7) 0), (8, .int .i64 (IntKind.i64.wrap (l0_8 + 2)))], [(.loc 4, .cells true [.int .i64 0, .int .i64 0, .int .i64 0, .str [], .nils]), (.loc 7, .cells true [.int .i64 14, .int .i64 x4_2.At, .int .i64 0, .str x6_3.Text, .slice .full 5 (eTNode.F [l0_oloc7])])]⟩ (by decide) (by kernel_rfl) ?_
        refine SO.done ?_
        refine SC.weak (S1 := ⟨[(0, .slice .none 4 (eTToken.F a0)), (4, .ptr (.loc 4) 0), (7, .ptr (.loc 7) 0), (8, .int .i64 (IntKind.i64.wrap (l0_8 + 2)))], [(.loc 4, .cells true [.int .i64 0, .int .i64 0, .int .i64 0, .str [], .nils]), (.loc 7, .cells true [.int .i64 14, .int .i64 x4_2.At, .int .i64 0, .str x6_3.Text, .slice .none 5 (eTNode.F [l0_oloc7])])]⟩) ?_ ?_
        · exact ⟨⟨Wk.refl _, Wk.refl _, Wk.refl _, Wk.refl _, trivial⟩, ⟨⟨.cells true [.int .i64 0, .int .i64 0, .int .i64 0, .str [], .nils], by kernel_rfl, ObWk.cells (WkL.refl _)⟩, ⟨.cells true [.int .i64 14, .int .i64 x4_2.At, .int .i64 0, .str x6_3.Text, .slice .full 5 (eTNode.F [l0_oloc7])], by kernel_rfl, ObWk.cells (⟨Wk.refl _, Wk.refl _, Wk.refl _, Wk.refl _, Wk.tok _ _ _, trivial⟩)⟩, trivial⟩, by kernel_rfl⟩
        refine SC.exit ?_
        replace h := Option.some.inj h
        subst h
        exact ⟨((IntKind.i64.wrap (l0_8 + 2)), (TNode.mk 14 x4_2.At 0 x6_3.Text [l0_oloc7])), rfl, rfl⟩
    · replace h := Opt.f h ht
      refine SC.skip ?_
      refine SC.seq ?_
      refine SC.seq ?_
      refine SC.region 4 rfl ?_
      refine SO.run c0 2 ⟨[(0, .slice .none 4 (eTToken.F a0)), (4, .ptr (.loc 4) 0), (7, .ptr (.loc 7) 0), (8, .int .i64 l0_8), (10, .int .i64 x4_2.At), (51, .slice .none 4 (eTToken.F a0)), (52, .int .i64 l0_8)], [(.loc 4, .cells true [.int .i64 0, .int .i64 0, .int .i64 0, .str [], .nils]), (.loc 7, .cells true (cTNode l0_oloc7))]⟩ (by decide) (by kernel_rfl) ?_
      obtain ⟨x11_2, hx11_2, h⟩ := Opt.ex h
      refine SO.call ⟨45, [.slice .none 4 (eTToken.F a0), .int .i64 l0_8, .str [91]], [], [], some 53⟩ ⟨[(0, .slice .none 4 (eTToken.F a0)), (4, .ptr (.loc 4) 0), (7, .ptr (.loc 7) 0), (8, .int .i64 l0_8), (10, .int .i64 x4_2.At), (53, .bool x11_2)], [(.loc 4, .cells true [.int .i64 0, .int .i64 0, .int .i64 0, .str [], .nils]), (.loc 7, .cells true (cTNode l0_oloc7))]⟩ (by decide) (by kernel_rfl) (ok_ref13_Is k a0 l0_8 [91] x11_2 hx11_2) (by kernel_rfl) ?_
      refine SO.run c0 4 ⟨[(0, .slice .none 4 (eTToken.F a0)), (4, .ptr (.loc 4) 0), (7, .ptr (.loc 7) 0), (8, .int .i64 l0_8), (10, .int .i64 x4_2.At), (54, .bool (!x11_2))], [(.loc 4, .cells true [.int .i64 0, .int .i64 0, .int .i64 0, .str [], .nils]), (.loc 7, .cells true (cTNode l0_oloc7))]⟩ (by decide) (by kernel_rfl) ?_
      refine SO.done ?_
      refine SC.cond (!x11_2) (by kernel_rfl) (fun ht => ?_) (fun ht => ?_)
      · replace h := Opt.t h ht
        refine SC.seq ?_
        refine SC.region 5 rfl ?_
        refine SO.run c0 5 ⟨[(4, .ptr (.loc 4) 0), (5, .int .i64 l0_8), (6, .bool true)], [(.loc 4, .cells true (cTNode l0_oloc7))]⟩ (by decide) (by kernel_rfl) ?_
        refine SO.done ?_
        refine SC.ret ?_
        replace h := Option.some.inj h
        subst h
        refine ⟨_, rfl, ?_⟩
        exact ⟨[.agg (cTNode l0_oloc7), .int .i64 l0_8, .bool true], by kernel_rfl, Wk.eq (by kernel_rfl), trivial, by kernel_rfl⟩
      · replace h := Opt.f h ht
        refine SC.skip ?_
        refine SC.seq ?_
        refine SC.region 12 rfl ?_
        refine SO.run c0 3 ⟨[(0, .slice .none 4 (eTToken.F a0)), (4, .ptr (.loc 4) 0), (7, .ptr (.loc 7) 0), (10, .int .i64 x4_2.At), (58, .slice .none 4 (eTToken.F a0)), (60, .int .i64 (IntKind.i64.wrap (l0_8 + 1)))], [(.loc 4, .cells true [.int .i64 0, .int .i64 0, .int .i64 0, .str [], .nils]), (.loc 7, .cells true (cTNode l0_oloc7))]⟩ (by decide) (by kernel_rfl) ?_
        obtain ⟨⟨x13_3_0, x13_3_1, x13_3_2⟩, hx13_3, h⟩ := Opt.ex h
        refine SO.call ⟨13, [.slice .none 4 (eTToken.F a0), .int .i64 (IntKind.i64.wrap (l0_8 + 1))], [], [], some 61⟩ ⟨[(0, .slice .none 4 (eTToken.F a0)), (4, .ptr (.loc 4) 0), (7, .ptr (.loc 7) 0), (10, .int .i64 x4_2.At), (61, .tuple [.agg (cTNode x13_3_0), .int .i64 x13_3_1, .bool x13_3_2])], [(.loc 4, .cells true [.int .i64 0, .int .i64 0, .int .i64 0, .str [], .nils]), (.loc 7, .cells true (cTNode l0_oloc7))]⟩ (by decide) (by kernel_rfl) (ih_ref13_Expr a0 (IntKind.i64.wrap (l0_8 + 1)) (x13_3_0, x13_3_1, x13_3_2) hx13_3) (by kernel_rfl) ?_
        refine SO.run c0 12 ⟨[(0, .slice .none 4 (eTToken.F a0)), (4, .ptr (.loc 4) 0), (7, .ptr (.loc 7) 0), (10, .int .i64 x4_2.At), (12, .ptr (.loc 12) 0), (13, .int .i64 x13_3_1), (14, .bool x13_3_2)], [(.loc 4, .cells true [.int .i64 0, .int .i64 0, .int .i64 0, .str [], .nils]), (.loc 7, .cells true (cTNode l0_oloc7)), (.loc 12, .cells true (cTNode x13_3_0))]⟩ (by decide) (by kernel_rfl) ?_
        refine SO.done ?_
        refine SC.seq ?_
        refine SC.seq ?_
        refine SC.region 8 rfl ?_
        refine SO.run c0 3 ⟨[(0, .slice .none 4 (eTToken.F a0)), (4, .ptr (.loc 4) 0), (7, .ptr (.loc 7) 0), (10, .int .i64 x4_2.At), (12, .ptr (.loc 12) 0), (13, .int .i64 x13_3_1), (67, .bool (!x13_3_2))], [(.loc 4, .cells true [.int .i64 0, .int .i64 0, .int .i64 0, .str [], .nils]), (.loc 7, .cells true (cTNode l0_oloc7)), (.loc 12, .cells true (cTNode x13_3_0))]⟩ (by decide) (by kernel_rfl) ?_
        refine SO.joinK h (fun v : Bool => ⟨[(0, .slice .none 4 (eTToken.F a0)), (4, .ptr (.loc 4) 0), (7, .ptr (.loc 7) 0), (10, .int .i64 x4_2.At), (12, .ptr (.loc 12) 0), (13, .int .i64 x13_3_1), (72, .bool v)], [(.loc 4, .cells true [.int .i64 0, .int .i64 0, .int .i64 0, .str [], .nils]), (.loc 7, .cells true (cTNode l0_oloc7)), (.loc 12, .cells true (cTNode x13_3_0))]⟩) 8 (by decide) ?_ ?_
        · rintro g14_7_72 h
          refine SO.eqS (S1 := ⟨[(0, .slice .none 4 (eTToken.F a0)), (4, .ptr (.loc 4) 0), (7, .ptr (.loc 7) 0), (10, .int .i64 x4_2.At), (12, .ptr (.loc 12) 0), (13, .int .i64 x13_3_1), (72, .bool g14_7_72)], [(.loc 4, .cells true [.int .i64 0, .int .i64 0, .int .i64 0, .str [], .nils]), (.loc 7, .cells true (cTNode l0_oloc7)), (.loc 12, .cells true (cTNode x13_3_0))]⟩) rfl ?_
          refine SO.done ?_
          refine SC.cond g14_7_72 (by kernel_rfl) (fun ht => ?_) (fun ht => ?_)
          · replace h := Opt.t h ht
            refine SC.seq ?_
            refine SC.region 5 rfl ?_
            refine SO.run c0 5 ⟨[(4, .ptr (.loc 4) 0), (5, .int .i64 x13_3_1), (6, .bool false)], [(.loc 4, .cells true [.int .i64 0, .int .i64 0, .int .i64 0, .str [], .nils])]⟩ (by decide) (by kernel_rfl) ?_
            refine SO.done ?_
            refine SC.ret ?_
            replace h := Option.some.inj h
            subst h
            refine ⟨_, rfl, ?_⟩
            exact ⟨[.agg [.int .i64 0, .int .i64 0, .int .i64 0, .str [], .nils], .int .i64 x13_3_1, .bool false], by kernel_rfl, Wk.tuple (⟨Wk.agg (⟨Wk.refl _, Wk.refl _, Wk.refl _, Wk.refl _, Wk.nils _ _, trivial⟩), Wk.refl _, Wk.refl _, trivial⟩), trivial, by kernel_rfl⟩
          · replace h := Opt.f h ht
            refine SC.skip ?_
            refine SC.seq ?_
            refine SC.region 6 rfl ?_
            refine SO.run c0 3 ⟨[(0, .slice .none 4 (eTToken.F a0)), (4, .ptr (.loc 4) 0), (7, .ptr (.loc 7) 0), (13, .int .i64 x13_3_1), (75, .int .i64 x4_2.At), (76, .agg (cTNode l0_oloc7)), (77, .agg (cTNode x13_3_0))], [(.loc 4, .cells true [.int .i64 0, .int .i64 0, .int .i64 0, .str [], .nils]), (.loc 7, .cells true (cTNode l0_oloc7))]⟩ (by decide) (by kernel_rfl) ?_
            refine SO.op c0 { v := .slice .full 5 (eTNode.F [l0_oloc7, x13_3_0]) } ⟨[(0, .slice .none 4 (eTToken.F a0)), (4, .ptr (.loc 4) 0), (7, .ptr (.loc 7) 0), (13, .int .i64 x13_3_1), (75, .int .i64 x4_2.At), (78, .slice .full 5 (eTNode.F [l0_oloc7, x13_3_0]))], [(.loc 4, .cells true [.int .i64 0, .int .i64 0, .int .i64 0, .str [], .nils]), (.loc 7, .cells true (cTNode l0_oloc7))]⟩ (by decide) ((show opR _ _ _ _ _ _ = some { v := .slice .full 5 [.agg (cTNode l0_oloc7), .agg (cTNode x13_3_0)] } from by kernel_rfl).trans (by simp only [FTNode, eTNode_F, fTNode_eq])) (by kernel_rfl) ?_
            refine SO.run c0 6 ⟨[(0, .slice .none 4 (eTToken.F a0)), (4, .ptr (.loc 4) 0), (7, .ptr (.loc 7) 0), (13, .int .i64 x13_3_1)], [(.loc 4, .cells true [.int .i64 0, .int .i64 0, .int .i64 0, .str [], .nils]), (.loc 7, .cells true [.int .i64 13, .int .i64 x4_2.At, .int .i64 0, .str [], .slice .full 5 (eTNode.F [l0_oloc7, x13_3_0])])]⟩ (by decide) (by kernel_rfl) ?_
            refine SO.done ?_
            refine SC.region 3 rfl ?_
            refine SO.run c0 3 ⟨[(0, .slice .none 4 (eTToken.F a0)), (4, .ptr (.loc 4) 0), (7, .ptr (.loc 7) 0), (8, .int .i64 (IntKind.i64.wrap (x13_3_1 + 1)))], [(.loc 4, .cells true [.int .i64 0, .int .i64 0, .int .i64 0, .str [], .nils]), (.loc 7, .cells true [.int .i64 13, .int .i64 x4_2.At, .int .i64 0, .str [], .slice .full 5 (eTNode.F [l0_oloc7, x13_3_0])])]⟩ (by decide) (by kernel_rfl) ?_
            refine SO.weak (S1 := ⟨[(0, .slice .none 4 (eTToken.F a0)), (4, .ptr (.loc 4) 0), (7, .ptr (.loc 7) 0), (8, .int .i64 (IntKind.i64.wrap (x13_3_1 + 1)))], [(.loc 4, .cells true [.int .i64 0, .int .i64 0, .int .i64 0, .str [], .nils]), (.loc 7, .cells true [.int .i64 13, .int .i64 x4_2.At, .int .i64 0, .str [], .slice .none 5 (eTNode.F [l0_oloc7, x13_3_0])])]⟩) ?_ ?_
            · exact ⟨⟨Wk.refl _, Wk.refl _, Wk.refl _, Wk.refl _, trivial⟩, ⟨⟨.cells true [.int .i64 0, .int .i64 0, .int .i64 0, .str [], .nils], by kernel_rfl, ObWk.cells (WkL.refl _)⟩, ⟨.cells true [.int .i64 13, .int .i64 x4_2.At, .int .i64 0, .str [], .slice .full 5 (eTNode.F [l0_oloc7, x13_3_0])], by kernel_rfl, ObWk.cells (⟨Wk.refl _, Wk.refl _, Wk.refl _, Wk.refl _, Wk.tok _ _ _, trivial⟩)⟩, trivial⟩, by kernel_rfl⟩
            refine SO.done ?_
            replace h := Option.some.inj h
            subst h
            exact ⟨((IntKind.i64.wrap (x13_3_1 + 1)), (TNode.mk 13 x4_2.At 0 [] [l0_oloc7, x13_3_0])), rfl, rfl⟩
        · intro j_g14_7 h
          refine SO.bool (!x13_3_2) (fun b => ⟨[(0, .slice .none 4 (eTToken.F a0)), (4, .ptr (.loc 4) 0), (7, .ptr (.loc 7) 0), (10, .int .i64 x4_2.At), (12, .ptr (.loc 12) 0), (13, .int .i64 x13_3_1), (67, .bool b)], [(.loc 4, .cells true [.int .i64 0, .int .i64 0, .int .i64 0, .str [], .nils]), (.loc 7, .cells true (cTNode l0_oloc7)), (.loc 12, .cells true (cTNode x13_3_0))]⟩) (fun ht => ?_) (fun ht => ?_)
          · replace h := Opt.t h ht
            refine SO.run c0 8 ⟨[(0, .slice .none 4 (eTToken.F a0)), (4, .ptr (.loc 4) 0), (7, .ptr (.loc 7) 0), (10, .int .i64 x4_2.At), (12, .ptr (.loc 12) 0), (13, .int .i64 x13_3_1), (72, .bool true)], [(.loc 4, .cells true [.int .i64 0, .int .i64 0, .int .i64 0, .str [], .nils]), (.loc 7, .cells true (cTNode l0_oloc7)), (.loc 12, .cells true (cTNode x13_3_0))]⟩ (by decide) (by kernel_rfl) ?_
            exact SO.done ⟨true, rfl, h⟩
          · replace h := Opt.f h ht
            refine SO.run c0 5 ⟨[(0, .slice .none 4 (eTToken.F a0)), (4, .ptr (.loc 4) 0), (7, .ptr (.loc 7) 0), (10, .int .i64 x4_2.At), (12, .ptr (.loc 12) 0), (13, .int .i64 x13_3_1), (67, .bool false), (68, .slice .none 4 (eTToken.F a0)), (69, .int .i64 x13_3_1)], [(.loc 4, .cells true [.int .i64 0, .int .i64 0, .int .i64 0, .str [], .nils]), (.loc 7, .cells true (cTNode l0_oloc7)), (.loc 12, .cells true (cTNode x13_3_0))]⟩ (by decide) (by kernel_rfl) ?_
            obtain ⟨x14_5, hx14_5, h⟩ := Opt.ex h
            refine SO.call ⟨45, [.slice .none 4 (eTToken.F a0), .int .i64 x13_3_1, .str [93]], [], [], some 70⟩ ⟨[(0, .slice .none 4 (eTToken.F a0)), (4, .ptr (.loc 4) 0), (7, .ptr (.loc 7) 0), (10, .int .i64 x4_2.At), (12, .ptr (.loc 12) 0), (13, .int .i64 x13_3_1), (67, .bool false), (70, .bool x14_5)], [(.loc 4, .cells true [.int .i64 0, .int .i64 0, .int .i64 0, .str [], .nils]), (.loc 7, .cells true (cTNode l0_oloc7)), (.loc 12, .cells true (cTNode x13_3_0))]⟩ (by decide) (by kernel_rfl) (ok_ref13_Is k a0 x13_3_1 [93] x14_5 hx14_5) (by kernel_rfl) ?_
            refine SO.run c0 8 ⟨[(0, .slice .none 4 (eTToken.F a0)), (4, .ptr (.loc 4) 0), (7, .ptr (.loc 7) 0), (10, .int .i64 x4_2.At), (12, .ptr (.loc 12) 0), (13, .int .i64 x13_3_1), (72, .bool (!x14_5))], [(.loc 4, .cells true [.int .i64 0, .int .i64 0, .int .i64 0, .str [], .nils]), (.loc 7, .cells true (cTNode l0_oloc7)), (.loc 12, .cells true (cTNode x13_3_0))]⟩ (by decide) (by kernel_rfl) ?_
            exact SO.done ⟨(!x14_5), rfl, h⟩
theorem st_ref13_factor (k : Nat) (ih_ref13_part : C_ref13_part k) (ih_ref13_factor : C_ref13_factor k) : C_ref13_factor (k + 1) := by
  intro a0 a1 r h
  rw [ref13_factor] at h
  refine SF.intro Tryd.func73 rfl Tryd.ntmps73 rfl (Nat.le_of_ble_eq_true rfl) (by decide) ?_
  refine SC.seq ?_
  refine SC.region 3 rfl ?_
  refine SO.run c0 3 ⟨[(0, .slice .none 4 (eTToken.F a0)), (1, .int .i64 a1), (4, .ptr (.loc 4) 0)], [(.loc 4, .cells true [.int .i64 0, .int .i64 0, .int .i64 0, .str [], .nils])]⟩ (by decide) (by kernel_rfl) ?_
  refine SO.done ?_
  refine SC.seq ?_
  refine SC.region 1 rfl ?_
  refine SO.run c0 1 ⟨[(0, .slice .none 4 (eTToken.F a0)), (1, .int .i64 a1), (4, .ptr (.loc 4) 0), (7, .int .i64 0)], [(.loc 4, .cells true [.int .i64 0, .int .i64 0, .int .i64 0, .str [], .nils])]⟩ (by decide) (by kernel_rfl) ?_
  refine SO.done ?_
  apply SC.seqJ (r := r) h (fun v : Int => ⟨[(0, .slice .none 4 (eTToken.F a0)), (1, .int .i64 a1), (4, .ptr (.loc 4) 0), (7, .int .i64 v)], [(.loc 4, .cells true [.int .i64 0, .int .i64 0, .int .i64 0, .str [], .nils])]⟩)
  · rintro j0_7 r h
    refine SC.eqS (S1 := ⟨[(0, .slice .none 4 (eTToken.F a0)), (1, .int .i64 a1), (4, .ptr (.loc 4) 0), (7, .int .i64 j0_7)], [(.loc 4, .cells true [.int .i64 0, .int .i64 0, .int .i64 0, .str [], .nils])]⟩) rfl ?_
    apply SC.seqJ (r := r) h (fun v : Int => ⟨[(0, .slice .none 4 (eTToken.F a0)), (1, .int .i64 a1), (4, .ptr (.loc 4) 0), (7, .int .i64 v)], [(.loc 4, .cells true [.int .i64 0, .int .i64 0, .int .i64 0, .str [], .nils])]⟩)
    · rintro j1_7 r h
      refine SC.eqS (S1 := ⟨[(0, .slice .none 4 (eTToken.F a0)), (1, .int .i64 a1), (4, .ptr (.loc 4) 0), (7, .int .i64 j1_7)], [(.loc 4, .cells true [.int .i64 0, .int .i64 0, .int .i64 0, .str [], .nils])]⟩) rfl ?_
      refine SC.seq ?_
      refine SC.seq ?_
      refine SC.region 2 rfl ?_
      refine SO.run c0 2 ⟨[(0, .slice .none 4 (eTToken.F a0)), (1, .int .i64 a1), (4, .ptr (.loc 4) 0), (7, .int .i64 j1_7), (18, .bool (j1_7 == 0))], [(.loc 4, .cells true [.int .i64 0, .int .i64 0, .int .i64 0, .str [], .nils])]⟩ (by decide) (by kernel_rfl) ?_
      refine SO.done ?_
      refine SC.cond (j1_7 == 0) (by kernel_rfl) (fun ht => ?_) (fun ht => ?_)
      · replace h := Opt.t h ht
        refine SC.seq ?_
        refine SC.region 9 rfl ?_
        refine SO.run c0 2 ⟨[(4, .ptr (.loc 4) 0), (19, .slice .none 4 (eTToken.F a0)), (20, .int .i64 a1)], [(.loc 4, .cells true [.int .i64 0, .int .i64 0, .int .i64 0, .str [], .nils])]⟩ (by decide) (by kernel_rfl) ?_
        obtain ⟨⟨x7_2_0, x7_2_1, x7_2_2⟩, hx7_2, h⟩ := Opt.ex h
        refine SO.call ⟨99, [.slice .none 4 (eTToken.F a0), .int .i64 a1], [], [], some 21⟩ ⟨[(4, .ptr (.loc 4) 0), (21, .tuple [.agg (cTNode x7_2_0), .int .i64 x7_2_1, .bool x7_2_2])], [(.loc 4, .cells true [.int .i64 0, .int .i64 0, .int .i64 0, .str [], .nils])]⟩ (by decide) (by kernel_rfl) (ih_ref13_part a0 a1 (x7_2_0, x7_2_1, x7_2_2) hx7_2) (by kernel_rfl) ?_
        refine SO.run c0 9 ⟨[(4, .ptr (.loc 4) 0), (5, .int .i64 x7_2_1), (6, .bool x7_2_2)], [(.loc 4, .cells true (cTNode x7_2_0))]⟩ (by decide) (by kernel_rfl) ?_
        refine SO.done ?_
        refine SC.ret ?_
        replace h := Option.some.inj h
        subst h
        exact ⟨[.agg (cTNode x7_2_0), .int .i64 x7_2_1, .bool x7_2_2], by kernel_rfl, Wk.eq (by kernel_rfl), trivial, by kernel_rfl⟩
      · replace h := Opt.f h ht
        refine SC.skip ?_
        refine SC.seq ?_
        refine SC.region 12 rfl ?_
        refine SO.run c0 3 ⟨[(0, .slice .none 4 (eTToken.F a0)), (1, .int .i64 a1), (4, .ptr (.loc 4) 0), (7, .int .i64 j1_7), (26, .slice .none 4 (eTToken.F a0)), (28, .int .i64 (IntKind.i64.wrap (a1 + 1)))], [(.loc 4, .cells true [.int .i64 0, .int .i64 0, .int .i64 0, .str [], .nils])]⟩ (by decide) (by kernel_rfl) ?_
        obtain ⟨⟨x8_3_0, x8_3_1, x8_3_2⟩, hx8_3, h⟩ := Opt.ex h
        refine SO.call ⟨73, [.slice .none 4 (eTToken.F a0), .int .i64 (IntKind.i64.wrap (a1 + 1))], [], [], some 29⟩ ⟨[(0, .slice .none 4 (eTToken.F a0)), (1, .int .i64 a1), (4, .ptr (.loc 4) 0), (7, .int .i64 j1_7), (29, .tuple [.agg (cTNode x8_3_0), .int .i64 x8_3_1, .bool x8_3_2])], [(.loc 4, .cells true [.int .i64 0, .int .i64 0, .int .i64 0, .str [], .nils])]⟩ (by decide) (by kernel_rfl) (ih_ref13_factor a0 (IntKind.i64.wrap (a1 + 1)) (x8_3_0, x8_3_1, x8_3_2) hx8_3) (by kernel_rfl) ?_
        refine SO.run c0 12 ⟨[(0, .slice .none 4 (eTToken.F a0)), (1, .int .i64 a1), (4, .ptr (.loc 4) 0), (7, .int .i64 j1_7), (8, .ptr (.loc 8) 0), (9, .int .i64 x8_3_1), (10, .bool x8_3_2)], [(.loc 4, .cells true [.int .i64 0, .int .i64 0, .int .i64 0, .str [], .nils]), (.loc 8, .cells true (cTNode x8_3_0))]⟩ (by decide) (by kernel_rfl) ?_
        refine SO.done ?_
        refine SC.seq ?_
        refine SC.seq ?_
        refine SC.region 2 rfl ?_
        refine SO.run c0 2 ⟨[(0, .slice .none 4 (eTToken.F a0)), (1, .int .i64 a1), (4, .ptr (.loc 4) 0), (7, .int .i64 j1_7), (8, .ptr (.loc 8) 0), (9, .int .i64 x8_3_1), (34, .bool (!x8_3_2))], [(.loc 4, .cells true [.int .i64 0, .int .i64 0, .int .i64 0, .str [], .nils]), (.loc 8, .cells true (cTNode x8_3_0))]⟩ (by decide) (by kernel_rfl) ?_
        refine SO.done ?_
        refine SC.cond (!x8_3_2) (by kernel_rfl) (fun ht => ?_) (fun ht => ?_)
        · replace h := Opt.t h ht
          refine SC.seq ?_
          refine SC.region 5 rfl ?_
          refine SO.run c0 5 ⟨[(4, .ptr (.loc 4) 0), (5, .int .i64 x8_3_1), (6, .bool false)], [(.loc 4, .cells true [.int .i64 0, .int .i64 0, .int .i64 0, .str [], .nils])]⟩ (by decide) (by kernel_rfl) ?_
          refine SO.done ?_
          refine SC.ret ?_
          replace h := Option.some.inj h
          subst h
          exact ⟨[.agg [.int .i64 0, .int .i64 0, .int .i64 0, .str [], .nils], .int .i64 x8_3_1, .bool false], by kernel_rfl, Wk.tuple (⟨Wk.agg (⟨Wk.refl _, Wk.refl _, Wk.refl _, Wk.refl _, Wk.nils _ _, trivial⟩), Wk.refl _, Wk.refl _, trivial⟩), trivial, by kernel_rfl⟩
        · replace h := Opt.f h ht
          refine SC.skip ?_
          refine SC.seq ?_
          refine SC.drawT ?_
          refine DD.run c0 2 ⟨[(0, .slice .none 4 (eTToken.F a0)), (1, .int .i64 a1), (4, .ptr (.loc 4) 0), (7, .int .i64 j1_7), (8, .ptr (.loc 8) 0), (9, .int .i64 x8_3_1), (34, .bool (!x8_3_2)), (37, .slice .none 4 (eTToken.F a0)), (38, .int .i64 a1)], [(.loc 4, .cells true [.int .i64 0, .int .i64 0, .int .i64 0, .str [], .nils]), (.loc 8, .cells true (cTNode x8_3_0))]⟩ (by decide) (by kernel_rfl) ?_
          obtain ⟨x11_2, hx11_2, h⟩ := Opt.ex h
          refine DD.callT ⟨43, [.slice .none 4 (eTToken.F a0), .int .i64 a1], [], [], some 39⟩ ⟨[(0, .slice .none 4 (eTToken.F a0)), (1, .int .i64 a1), (4, .ptr (.loc 4) 0), (7, .int .i64 j1_7), (8, .ptr (.loc 8) 0), (9, .int .i64 x8_3_1), (34, .bool (!x8_3_2)), (37, .slice .none 4 (eTToken.F a0)), (38, .int .i64 a1), (39, .agg (cTToken x11_2))], [(.loc 4, .cells true [.int .i64 0, .int .i64 0, .int .i64 0, .str [], .nils]), (.loc 8, .cells true (cTNode x8_3_0))]⟩ (by kernel_rfl) (ok_ref13_Tok k a0 a1 x11_2 hx11_2) (by kernel_rfl) ?_
          refine DD.run c0 6 ⟨[(0, .slice .none 4 (eTToken.F a0)), (1, .int .i64 a1), (4, .ptr (.loc 4) 0), (7, .int .i64 j1_7), (8, .ptr (.loc 8) 0), (9, .int .i64 x8_3_1), (34, .bool (!x8_3_2)), (37, .slice .none 4 (eTToken.F a0)), (38, .int .i64 a1), (39, .agg (cTToken x11_2)), (40, .int .i64 x11_2.At), (41, .int .i64 j1_7), (42, .agg (cTNode x8_3_0))], [(.loc 4, .cells true [.int .i64 0, .int .i64 0, .int .i64 0, .str [], .nils]), (.loc 8, .cells true (cTNode x8_3_0))]⟩ (by decide) (by kernel_rfl) ?_
          refine DD.op c0 { v := .slice .full 5 (eTNode.F [x8_3_0]) } ⟨[(0, .slice .none 4 (eTToken.F a0)), (1, .int .i64 a1), (4, .ptr (.loc 4) 0), (7, .int .i64 j1_7), (8, .ptr (.loc 8) 0), (9, .int .i64 x8_3_1), (34, .bool (!x8_3_2)), (37, .slice .none 4 (eTToken.F a0)), (38, .int .i64 a1), (39, .agg (cTToken x11_2)), (40, .int .i64 x11_2.At), (41, .int .i64 j1_7), (42, .agg (cTNode x8_3_0)), (43, .slice .full 5 (eTNode.F [x8_3_0]))], [(.loc 4, .cells true [.int .i64 0, .int .i64 0, .int .i64 0, .str [], .nils]), (.loc 8, .cells true (cTNode x8_3_0))]⟩ ((show opR _ _ _ _ _ _ = some { v := .slice .full 5 [.agg (cTNode x8_3_0)] } from by kernel_rfl).trans (by simp only [FTNode, eTNode_F, fTNode_eq])) (by kernel_rfl) ?_
          refine DD.run c0 12 ⟨[(0, .slice .none 4 (eTToken.F a0)), (1, .int .i64 a1), (4, .ptr (.loc 4) 0), (5, .int .i64 x8_3_1), (6, .bool true), (7, .int .i64 j1_7), (8, .ptr (.loc 8) 0), (9, .int .i64 x8_3_1), (34, .bool (!x8_3_2)), (37, .slice .none 4 (eTToken.F a0)), (38, .int .i64 a1), (39, .agg (cTToken x11_2)), (40, .int .i64 x11_2.At), (41, .int .i64 j1_7), (42, .agg (cTNode x8_3_0)), (43, .slice .full 5 (eTNode.F [x8_3_0])), (44, .agg [.int .i64 15, .int .i64 x11_2.At, .int .i64 j1_7, .str [], .slice .full 5 (eTNode.F [x8_3_0])]), (45, .int .i64 x8_3_1)], [(.loc 4, .cells true [.int .i64 15, .int .i64 x11_2.At, .int .i64 j1_7, .str [], .slice .full 5 (eTNode.F [x8_3_0])]), (.loc 8, .cells true (cTNode x8_3_0))]⟩ (by decide) (by kernel_rfl) ?_
          refine DD.fin ⟨[(4, .ptr (.loc 4) 0), (5, .int .i64 x8_3_1), (6, .bool true)], [(.loc 4, .cells true [.int .i64 15, .int .i64 x11_2.At, .int .i64 j1_7, .str [], .slice .full 5 (eTNode.F [x8_3_0])])]⟩ rfl (by kernel_rfl) (by kernel_rfl) ?_
          refine SC.ret ?_
          replace h := Option.some.inj h
          subst h
          exact ⟨[.agg [.int .i64 15, .int .i64 x11_2.At, .int .i64 j1_7, .str [], .slice .full 5 (eTNode.F [x8_3_0])], .int .i64 x8_3_1, .bool true], by kernel_rfl, Wk.tuple (⟨Wk.agg (⟨Wk.refl _, Wk.refl _, Wk.refl _, Wk.refl _, Wk.tok _ _ _, trivial⟩), Wk.refl _, Wk.refl _, trivial⟩), trivial, by kernel_rfl⟩
    · intro j_j1 h
      refine SC.seq ?_
      refine SC.region 3 rfl ?_
      refine SO.run c0 2 ⟨[(0, .slice .none 4 (eTToken.F a0)), (1, .int .i64 a1), (4, .ptr (.loc 4) 0), (7, .int .i64 j0_7), (14, .slice .none 4 (eTToken.F a0)), (15, .int .i64 a1)], [(.loc 4, .cells true [.int .i64 0, .int .i64 0, .int .i64 0, .str [], .nils])]⟩ (by decide) (by kernel_rfl) ?_
      obtain ⟨x4_2, hx4_2, h⟩ := Opt.ex h
      refine SO.call ⟨45, [.slice .none 4 (eTToken.F a0), .int .i64 a1, .str [33]], [], [], some 16⟩ ⟨[(0, .slice .none 4 (eTToken.F a0)), (1, .int .i64 a1), (4, .ptr (.loc 4) 0), (7, .int .i64 j0_7), (16, .bool x4_2)], [(.loc 4, .cells true [.int .i64 0, .int .i64 0, .int .i64 0, .str [], .nils])]⟩ (by decide) (by kernel_rfl) (ok_ref13_Is k a0 a1 [33] x4_2 hx4_2) (by kernel_rfl) ?_
      refine SO.done ?_
      refine SC.cond x4_2 (by kernel_rfl) (fun ht => ?_) (fun ht => ?_)
      · replace h := Opt.t h ht
        refine SC.region 1 rfl ?_
        refine SO.run c0 1 ⟨[(0, .slice .none 4 (eTToken.F a0)), (1, .int .i64 a1), (4, .ptr (.loc 4) 0), (7, .int .i64 14)], [(.loc 4, .cells true [.int .i64 0, .int .i64 0, .int .i64 0, .str [], .nils])]⟩ (by decide) (by kernel_rfl) ?_
        refine SO.done ?_
        exact ⟨14, rfl, h⟩
      · replace h := Opt.f h ht
        refine SC.weak (S1 := ⟨[(0, .slice .none 4 (eTToken.F a0)), (1, .int .i64 a1), (4, .ptr (.loc 4) 0), (7, .int .i64 j0_7)], [(.loc 4, .cells true [.int .i64 0, .int .i64 0, .int .i64 0, .str [], .nils])]⟩) ?_ ?_
        · exact ⟨⟨Wk.refl _, Wk.refl _, Wk.refl _, Wk.refl _, trivial⟩, ⟨⟨.cells true [.int .i64 0, .int .i64 0, .int .i64 0, .str [], .nils], by kernel_rfl, ObWk.cells (WkL.refl _)⟩, trivial⟩, by kernel_rfl⟩
        refine SC.skip ?_
        exact ⟨j0_7, rfl, h⟩
  · intro j_j0 h
    refine SC.seq ?_
    refine SC.region 3 rfl ?_
    refine SO.run c0 2 ⟨[(0, .slice .none 4 (eTToken.F a0)), (1, .int .i64 a1), (4, .ptr (.loc 4) 0), (7, .int .i64 0), (11, .slice .none 4 (eTToken.F a0)), (12, .int .i64 a1)], [(.loc 4, .cells true [.int .i64 0, .int .i64 0, .int .i64 0, .str [], .nils])]⟩ (by decide) (by kernel_rfl) ?_
    obtain ⟨x2_2, hx2_2, h⟩ := Opt.ex h
    refine SO.call ⟨45, [.slice .none 4 (eTToken.F a0), .int .i64 a1, .str [45]], [], [], some 13⟩ ⟨[(0, .slice .none 4 (eTToken.F a0)), (1, .int .i64 a1), (4, .ptr (.loc 4) 0), (7, .int .i64 0), (13, .bool x2_2)], [(.loc 4, .cells true [.int .i64 0, .int .i64 0, .int .i64 0, .str [], .nils])]⟩ (by decide) (by kernel_rfl) (ok_ref13_Is k a0 a1 [45] x2_2 hx2_2) (by kernel_rfl) ?_
    refine SO.done ?_
    refine SC.cond x2_2 (by kernel_rfl) (fun ht => ?_) (fun ht => ?_)
    · replace h := Opt.t h ht
      refine SC.region 1 rfl ?_
      refine SO.run c0 1 ⟨[(0, .slice .none 4 (eTToken.F a0)), (1, .int .i64 a1), (4, .ptr (.loc 4) 0), (7, .int .i64 2)], [(.loc 4, .cells true [.int .i64 0, .int .i64 0, .int .i64 0, .str [], .nils])]⟩ (by decide) (by kernel_rfl) ?_
      refine SO.done ?_
      exact ⟨2, rfl, h⟩
    · replace h := Opt.f h ht
      refine SC.weak (S1 := ⟨[(0, .slice .none 4 (eTToken.F a0)), (1, .int .i64 a1), (4, .ptr (.loc 4) 0), (7, .int .i64 0)], [(.loc 4, .cells true [.int .i64 0, .int .i64 0, .int .i64 0, .str [], .nils])]⟩) ?_ ?_
      · exact ⟨⟨Wk.refl _, Wk.refl _, Wk.refl _, Wk.refl _, trivial⟩, ⟨⟨.cells true [.int .i64 0, .int .i64 0, .int .i64 0, .str [], .nils], by kernel_rfl, ObWk.cells (WkL.refl _)⟩, trivial⟩, by kernel_rfl⟩
      refine SC.skip ?_
      exact ⟨0, rfl, h⟩
theorem st_ref13_level (k : Nat) (ih_ref13_factor : C_ref13_factor k) (ih_ref13_level : C_ref13_level k) : C_ref13_level (k + 1) := by
  intro a0 a1 a2 r h
  rw [ref13_level] at h
  refine SF.intro Tryd.func37 rfl Tryd.ntmps37 rfl (Nat.le_of_ble_eq_true rfl) (by decide) ?_
  refine SC.seq ?_
  refine SC.region 3 rfl ?_
  refine SO.run c0 3 ⟨[(0, .slice .none 4 (eTToken.F a0)), (1, .int .i64 a1), (2, .int .i64 a2), (6, .ptr (.loc 6) 0)], [(.loc 6, .cells true [.int .i64 0, .int .i64 0, .int .i64 0, .str [], .nils])]⟩ (by decide) (by kernel_rfl) ?_
  refine SO.done ?_
  refine SC.seq ?_
  refine SC.seq ?_
  refine SC.region 2 rfl ?_
  refine SO.run c0 2 ⟨[(0, .slice .none 4 (eTToken.F a0)), (1, .int .i64 a1), (2, .int .i64 a2), (6, .ptr (.loc 6) 0), (17, .bool (decide (a2 > 5)))], [(.loc 6, .cells true [.int .i64 0, .int .i64 0, .int .i64 0, .str [], .nils])]⟩ (by decide) (by kernel_rfl) ?_
  refine SO.done ?_
  refine SC.cond (decide (a2 > 5)) (by kernel_rfl) (fun ht => ?_) (fun ht => ?_)
  · replace h := Opt.t h ht
    refine SC.seq ?_
    refine SC.region 9 rfl ?_
    refine SO.run c0 2 ⟨[(6, .ptr (.loc 6) 0), (18, .slice .none 4 (eTToken.F a0)), (19, .int .i64 a1)], [(.loc 6, .cells true [.int .i64 0, .int .i64 0, .int .i64 0, .str [], .nils])]⟩ (by decide) (by kernel_rfl) ?_
    obtain ⟨⟨x2_2_0, x2_2_1, x2_2_2⟩, hx2_2, h⟩ := Opt.ex h
    refine SO.call ⟨73, [.slice .none 4 (eTToken.F a0), .int .i64 a1], [], [], some 20⟩ ⟨[(6, .ptr (.loc 6) 0), (20, .tuple [.agg (cTNode x2_2_0), .int .i64 x2_2_1, .bool x2_2_2])], [(.loc 6, .cells true [.int .i64 0, .int .i64 0, .int .i64 0, .str [], .nils])]⟩ (by decide) (by kernel_rfl) (ih_ref13_factor a0 a1 (x2_2_0, x2_2_1, x2_2_2) hx2_2) (by kernel_rfl) ?_
    refine SO.run c0 9 ⟨[(6, .ptr (.loc 6) 0), (7, .int .i64 x2_2_1), (8, .bool x2_2_2)], [(.loc 6, .cells true (cTNode x2_2_0))]⟩ (by decide) (by kernel_rfl) ?_
    refine SO.done ?_
    refine SC.ret ?_
    replace h := Option.some.inj h
    subst h
    exact ⟨[.agg (cTNode x2_2_0), .int .i64 x2_2_1, .bool x2_2_2], by kernel_rfl, Wk.eq (by kernel_rfl), trivial, by kernel_rfl⟩
  · replace h := Opt.f h ht
    refine SC.skip ?_
    refine SC.seq ?_
    refine SC.region 13 rfl ?_
    refine SO.run c0 4 ⟨[(0, .slice .none 4 (eTToken.F a0)), (2, .int .i64 a2), (6, .ptr (.loc 6) 0), (25, .slice .none 4 (eTToken.F a0)), (26, .int .i64 a1), (28, .int .i64 (IntKind.i64.wrap (a2 + 1)))], [(.loc 6, .cells true [.int .i64 0, .int .i64 0, .int .i64 0, .str [], .nils])]⟩ (by decide) (by kernel_rfl) ?_
    obtain ⟨⟨x3_4_0, x3_4_1, x3_4_2⟩, hx3_4, h⟩ := Opt.ex h
    refine SO.call ⟨37, [.slice .none 4 (eTToken.F a0), .int .i64 a1, .int .i64 (IntKind.i64.wrap (a2 + 1))], [], [], some 29⟩ ⟨[(0, .slice .none 4 (eTToken.F a0)), (2, .int .i64 a2), (6, .ptr (.loc 6) 0), (29, .tuple [.agg (cTNode x3_4_0), .int .i64 x3_4_1, .bool x3_4_2])], [(.loc 6, .cells true [.int .i64 0, .int .i64 0, .int .i64 0, .str [], .nils])]⟩ (by decide) (by kernel_rfl) (ih_ref13_level a0 a1 (IntKind.i64.wrap (a2 + 1)) (x3_4_0, x3_4_1, x3_4_2) hx3_4) (by kernel_rfl) ?_
    refine SO.run c0 13 ⟨[(0, .slice .none 4 (eTToken.F a0)), (2, .int .i64 a2), (6, .ptr (.loc 6) 0), (9, .ptr (.loc 9) 0), (10, .int .i64 x3_4_1), (11, .bool x3_4_2)], [(.loc 6, .cells true [.int .i64 0, .int .i64 0, .int .i64 0, .str [], .nils]), (.loc 9, .cells true (cTNode x3_4_0))]⟩ (by decide) (by kernel_rfl) ?_
    refine SO.done ?_
    refine SC.seq ?_
    refine SC.seq ?_
    refine SC.region 2 rfl ?_
    refine SO.run c0 2 ⟨[(0, .slice .none 4 (eTToken.F a0)), (2, .int .i64 a2), (6, .ptr (.loc 6) 0), (9, .ptr (.loc 9) 0), (10, .int .i64 x3_4_1), (34, .bool (!x3_4_2))], [(.loc 6, .cells true [.int .i64 0, .int .i64 0, .int .i64 0, .str [], .nils]), (.loc 9, .cells true (cTNode x3_4_0))]⟩ (by decide) (by kernel_rfl) ?_
    refine SO.done ?_
    refine SC.cond (!x3_4_2) (by kernel_rfl) (fun ht => ?_) (fun ht => ?_)
    · replace h := Opt.t h ht
      refine SC.seq ?_
      refine SC.region 5 rfl ?_
      refine SO.run c0 5 ⟨[(6, .ptr (.loc 6) 0), (7, .int .i64 x3_4_1), (8, .bool false)], [(.loc 6, .cells true [.int .i64 0, .int .i64 0, .int .i64 0, .str [], .nils])]⟩ (by decide) (by kernel_rfl) ?_
      refine SO.done ?_
      refine SC.ret ?_
      replace h := Option.some.inj h
      subst h
      exact ⟨[.agg [.int .i64 0, .int .i64 0, .int .i64 0, .str [], .nils], .int .i64 x3_4_1, .bool false], by kernel_rfl, Wk.tuple (⟨Wk.agg (⟨Wk.refl _, Wk.refl _, Wk.refl _, Wk.refl _, Wk.nils _ _, trivial⟩), Wk.refl _, Wk.refl _, trivial⟩), trivial, by kernel_rfl⟩
    · replace h := Opt.f h ht
      refine SC.skip ?_
      refine SC.block ?_
      refine SC.weak (S1 := ⟨[(0, .slice .none 4 (eTToken.F a0)), (2, .int .i64 a2), (6, .ptr (.loc 6) 0), (9, .ptr (.loc 9) 0), (10, .int .i64 x3_4_1)], [(.loc 6, .cells true [.int .i64 0, .int .i64 0, .int .i64 0, .str [], .nils]), (.loc 9, .cells true (cTNode x3_4_0))]⟩) ?_ ?_
      · exact ⟨⟨Wk.refl _, Wk.refl _, Wk.refl _, Wk.refl _, Wk.refl _, trivial⟩, ⟨⟨.cells true [.int .i64 0, .int .i64 0, .int .i64 0, .str [], .nils], by kernel_rfl, ObWk.cells (WkL.refl _)⟩, ⟨.cells true (cTNode x3_4_0), by kernel_rfl, ObWk.cells (WkL.refl _)⟩, trivial⟩, by kernel_rfl⟩
      apply SC.loopJ (r := r) h (fun v : Int × TNode => ⟨[(0, .slice .none 4 (eTToken.F a0)), (2, .int .i64 a2), (6, .ptr (.loc 6) 0), (9, .ptr (.loc 9) 0), (10, .int .i64 v.1)], [(.loc 6, .cells true [.int .i64 0, .int .i64 0, .int .i64 0, .str [], .nils]), (.loc 9, .cells true (cTNode v.2))]⟩)
      rintro ⟨l0_10, l0_oloc9⟩ r h
      refine SC.eqS (S1 := ⟨[(0, .slice .none 4 (eTToken.F a0)), (2, .int .i64 a2), (6, .ptr (.loc 6) 0), (9, .ptr (.loc 9) 0), (10, .int .i64 l0_10)], [(.loc 6, .cells true [.int .i64 0, .int .i64 0, .int .i64 0, .str [], .nils]), (.loc 9, .cells true (cTNode l0_oloc9))]⟩) rfl ?_
      refine SC.block ?_
      refine SC.seq ?_
      refine SC.region 5 rfl ?_
      refine SO.run c0 3 ⟨[(0, .slice .none 4 (eTToken.F a0)), (2, .int .i64 a2), (6, .ptr (.loc 6) 0), (9, .ptr (.loc 9) 0), (10, .int .i64 l0_10), (37, .slice .none 4 (eTToken.F a0)), (38, .int .i64 l0_10), (39, .int .i64 a2)], [(.loc 6, .cells true [.int .i64 0, .int .i64 0, .int .i64 0, .str [], .nils]), (.loc 9, .cells true (cTNode l0_oloc9))]⟩ (by decide) (by kernel_rfl) ?_
      obtain ⟨x6_3, hx6_3, h⟩ := Opt.ex h
      refine SO.call ⟨74, [.slice .none 4 (eTToken.F a0), .int .i64 l0_10, .int .i64 a2], [], [], some 40⟩ ⟨[(0, .slice .none 4 (eTToken.F a0)), (2, .int .i64 a2), (6, .ptr (.loc 6) 0), (9, .ptr (.loc 9) 0), (10, .int .i64 l0_10), (40, .int .i64 x6_3)], [(.loc 6, .cells true [.int .i64 0, .int .i64 0, .int .i64 0, .str [], .nils]), (.loc 9, .cells true (cTNode l0_oloc9))]⟩ (by decide) (by kernel_rfl) (ok_ref13_sign k a0 l0_10 a2 x6_3 hx6_3) (by kernel_rfl) ?_
      refine SO.run c0 5 ⟨[(0, .slice .none 4 (eTToken.F a0)), (2, .int .i64 a2), (6, .ptr (.loc 6) 0), (9, .ptr (.loc 9) 0), (10, .int .i64 l0_10), (12, .int .i64 x6_3)], [(.loc 6, .cells true [.int .i64 0, .int .i64 0, .int .i64 0, .str [], .nils]), (.loc 9, .cells true (cTNode l0_oloc9))]⟩ (by decide) (by kernel_rfl) ?_
      refine SO.done ?_
      refine SC.seq ?_
      refine SC.seq ?_
      refine SC.region 2 rfl ?_
      refine SO.run c0 2 ⟨[(0, .slice .none 4 (eTToken.F a0)), (2, .int .i64 a2), (6, .ptr (.loc 6) 0), (9, .ptr (.loc 9) 0), (10, .int .i64 l0_10), (12, .int .i64 x6_3), (42, .bool (x6_3 == 0))], [(.loc 6, .cells true [.int .i64 0, .int .i64 0, .int .i64 0, .str [], .nils]), (.loc 9, .cells true (cTNode l0_oloc9))]⟩ (by decide) (by kernel_rfl) ?_
      refine SO.done ?_
      refine SC.cond (x6_3 == 0) (by kernel_rfl) (fun ht => ?_) (fun ht => ?_)
      · replace h := Opt.t h ht
        refine SC.seq ?_
        refine SC.region 5 rfl ?_
        refine SO.run c0 5 ⟨[(6, .ptr (.loc 6) 0), (7, .int .i64 l0_10), (8, .bool true)], [(.loc 6, .cells true (cTNode l0_oloc9))]⟩ (by decide) (by kernel_rfl) ?_
        refine SO.done ?_
        refine SC.ret ?_
        replace h := Option.some.inj h
        subst h
        refine ⟨_, rfl, ?_⟩
        exact ⟨[.agg (cTNode l0_oloc9), .int .i64 l0_10, .bool true], by kernel_rfl, Wk.eq (by kernel_rfl), trivial, by kernel_rfl⟩
      · replace h := Opt.f h ht
        refine SC.skip ?_
        refine SC.seq ?_
        refine SC.region 14 rfl ?_
        refine SO.run c0 5 ⟨[(0, .slice .none 4 (eTToken.F a0)), (2, .int .i64 a2), (6, .ptr (.loc 6) 0), (9, .ptr (.loc 9) 0), (10, .int .i64 l0_10), (12, .int .i64 x6_3), (46, .slice .none 4 (eTToken.F a0)), (48, .int .i64 (IntKind.i64.wrap (l0_10 + 1))), (50, .int .i64 (IntKind.i64.wrap (a2 + 1)))], [(.loc 6, .cells true [.int .i64 0, .int .i64 0, .int .i64 0, .str [], .nils]), (.loc 9, .cells true (cTNode l0_oloc9))]⟩ (by decide) (by kernel_rfl) ?_
        obtain ⟨⟨x9_5_0, x9_5_1, x9_5_2⟩, hx9_5, h⟩ := Opt.ex h
        refine SO.call ⟨37, [.slice .none 4 (eTToken.F a0), .int .i64 (IntKind.i64.wrap (l0_10 + 1)), .int .i64 (IntKind.i64.wrap (a2 + 1))], [], [], some 51⟩ ⟨[(0, .slice .none 4 (eTToken.F a0)), (2, .int .i64 a2), (6, .ptr (.loc 6) 0), (9, .ptr (.loc 9) 0), (10, .int .i64 l0_10), (12, .int .i64 x6_3), (51, .tuple [.agg (cTNode x9_5_0), .int .i64 x9_5_1, .bool x9_5_2])], [(.loc 6, .cells true [.int .i64 0, .int .i64 0, .int .i64 0, .str [], .nils]), (.loc 9, .cells true (cTNode l0_oloc9))]⟩ (by decide) (by kernel_rfl) (ih_ref13_level a0 (IntKind.i64.wrap (l0_10 + 1)) (IntKind.i64.wrap (a2 + 1)) (x9_5_0, x9_5_1, x9_5_2) hx9_5) (by kernel_rfl) ?_
        refine SO.run c0 14 ⟨[(0, .slice .none 4 (eTToken.F a0)), (2, .int .i64 a2), (6, .ptr (.loc 6) 0), (9, .ptr (.loc 9) 0), (10, .int .i64 l0_10), (12, .int .i64 x6_3), (13, .ptr (.loc 13) 0), (14, .int .i64 x9_5_1), (15, .bool x9_5_2)], [(.loc 6, .cells true [.int .i64 0, .int .i64 0, .int .i64 0, .str [], .nils]), (.loc 9, .cells true (cTNode l0_oloc9)), (.loc 13, .cells true (cTNode x9_5_0))]⟩ (by decide) (by kernel_rfl) ?_
        refine SO.done ?_
        refine SC.seq ?_
        refine SC.seq ?_
        refine SC.region 2 rfl ?_
        refine SO.run c0 2 ⟨[(0, .slice .none 4 (eTToken.F a0)), (2, .int .i64 a2), (6, .ptr (.loc 6) 0), (9, .ptr (.loc 9) 0), (10, .int .i64 l0_10), (12, .int .i64 x6_3), (13, .ptr (.loc 13) 0), (14, .int .i64 x9_5_1), (56, .bool (!x9_5_2))], [(.loc 6, .cells true [.int .i64 0, .int .i64 0, .int .i64 0, .str [], .nils]), (.loc 9, .cells true (cTNode l0_oloc9)), (.loc 13, .cells true (cTNode x9_5_0))]⟩ (by decide) (by kernel_rfl) ?_
        refine SO.done ?_
        refine SC.cond (!x9_5_2) (by kernel_rfl) (fun ht => ?_) (fun ht => ?_)
        · replace h := Opt.t h ht
          refine SC.seq ?_
          refine SC.region 5 rfl ?_
          refine SO.run c0 5 ⟨[(6, .ptr (.loc 6) 0), (7, .int .i64 x9_5_1), (8, .bool false)], [(.loc 6, .cells true [.int .i64 0, .int .i64 0, .int .i64 0, .str [], .nils])]⟩ (by decide) (by kernel_rfl) ?_
          refine SO.done ?_
          refine SC.ret ?_
          replace h := Option.some.inj h
          subst h
          refine ⟨_, rfl, ?_⟩
          exact ⟨[.agg [.int .i64 0, .int .i64 0, .int .i64 0, .str [], .nils], .int .i64 x9_5_1, .bool false], by kernel_rfl, Wk.tuple (⟨Wk.agg (⟨Wk.refl _, Wk.refl _, Wk.refl _, Wk.refl _, Wk.nils _ _, trivial⟩), Wk.refl _, Wk.refl _, trivial⟩), trivial, by kernel_rfl⟩
        · replace h := Opt.f h ht
          refine SC.skip ?_
          refine SC.seq ?_
          refine SC.drawT ?_
          refine DD.run c0 2 ⟨[(0, .slice .none 4 (eTToken.F a0)), (2, .int .i64 a2), (6, .ptr (.loc 6) 0), (9, .ptr (.loc 9) 0), (10, .int .i64 l0_10), (12, .int .i64 x6_3), (13, .ptr (.loc 13) 0), (14, .int .i64 x9_5_1), (56, .bool (!x9_5_2)), (59, .slice .none 4 (eTToken.F a0)), (60, .int .i64 l0_10)], [(.loc 6, .cells true [.int .i64 0, .int .i64 0, .int .i64 0, .str [], .nils]), (.loc 9, .cells true (cTNode l0_oloc9)), (.loc 13, .cells true (cTNode x9_5_0))]⟩ (by decide) (by kernel_rfl) ?_
          obtain ⟨x12_2, hx12_2, h⟩ := Opt.ex h
          refine DD.callT ⟨43, [.slice .none 4 (eTToken.F a0), .int .i64 l0_10], [], [], some 61⟩ ⟨[(0, .slice .none 4 (eTToken.F a0)), (2, .int .i64 a2), (6, .ptr (.loc 6) 0), (9, .ptr (.loc 9) 0), (10, .int .i64 l0_10), (12, .int .i64 x6_3), (13, .ptr (.loc 13) 0), (14, .int .i64 x9_5_1), (56, .bool (!x9_5_2)), (59, .slice .none 4 (eTToken.F a0)), (60, .int .i64 l0_10), (61, .agg (cTToken x12_2))], [(.loc 6, .cells true [.int .i64 0, .int .i64 0, .int .i64 0, .str [], .nils]), (.loc 9, .cells true (cTNode l0_oloc9)), (.loc 13, .cells true (cTNode x9_5_0))]⟩ (by kernel_rfl) (ok_ref13_Tok k a0 l0_10 x12_2 hx12_2) (by kernel_rfl) ?_
          refine DD.run c0 7 ⟨[(0, .slice .none 4 (eTToken.F a0)), (2, .int .i64 a2), (6, .ptr (.loc 6) 0), (9, .ptr (.loc 9) 0), (10, .int .i64 l0_10), (12, .int .i64 x6_3), (13, .ptr (.loc 13) 0), (14, .int .i64 x9_5_1), (56, .bool (!x9_5_2)), (59, .slice .none 4 (eTToken.F a0)), (60, .int .i64 l0_10), (61, .agg (cTToken x12_2)), (62, .int .i64 x12_2.At), (63, .int .i64 x6_3), (64, .agg (cTNode l0_oloc9)), (65, .agg (cTNode x9_5_0))], [(.loc 6, .cells true [.int .i64 0, .int .i64 0, .int .i64 0, .str [], .nils]), (.loc 9, .cells true (cTNode l0_oloc9)), (.loc 13, .cells true (cTNode x9_5_0))]⟩ (by decide) (by kernel_rfl) ?_
          refine DD.op c0 { v := .slice .full 5 (eTNode.F [l0_oloc9, x9_5_0]) } ⟨[(0, .slice .none 4 (eTToken.F a0)), (2, .int .i64 a2), (6, .ptr (.loc 6) 0), (9, .ptr (.loc 9) 0), (10, .int .i64 l0_10), (12, .int .i64 x6_3), (13, .ptr (.loc 13) 0), (14, .int .i64 x9_5_1), (56, .bool (!x9_5_2)), (59, .slice .none 4 (eTToken.F a0)), (60, .int .i64 l0_10), (61, .agg (cTToken x12_2)), (62, .int .i64 x12_2.At), (63, .int .i64 x6_3), (64, .agg (cTNode l0_oloc9)), (65, .agg (cTNode x9_5_0)), (66, .slice .full 5 (eTNode.F [l0_oloc9, x9_5_0]))], [(.loc 6, .cells true [.int .i64 0, .int .i64 0, .int .i64 0, .str [], .nils]), (.loc 9, .cells true (cTNode l0_oloc9)), (.loc 13, .cells true (cTNode x9_5_0))]⟩ ((show opR _ _ _ _ _ _ = some { v := .slice .full 5 [.agg (cTNode l0_oloc9), .agg (cTNode x9_5_0)] } from by kernel_rfl).trans (by simp only [FTNode, eTNode_F, fTNode_eq])) (by kernel_rfl) ?_
          refine DD.run c0 10 ⟨[(0, .slice .none 4 (eTToken.F a0)), (2, .int .i64 a2), (6, .ptr (.loc 6) 0), (9, .ptr (.loc 9) 0), (10, .int .i64 l0_10), (12, .int .i64 x6_3), (13, .ptr (.loc 13) 0), (14, .int .i64 x9_5_1), (56, .bool (!x9_5_2)), (59, .slice .none 4 (eTToken.F a0)), (60, .int .i64 l0_10), (61, .agg (cTToken x12_2)), (62, .int .i64 x12_2.At), (63, .int .i64 x6_3), (64, .agg (cTNode l0_oloc9)), (65, .agg (cTNode x9_5_0)), (66, .slice .full 5 (eTNode.F [l0_oloc9, x9_5_0])), (67, .agg [.int .i64 16, .int .i64 x12_2.At, .int .i64 x6_3, .str [], .slice .full 5 (eTNode.F [l0_oloc9, x9_5_0])])], [(.loc 6, .cells true [.int .i64 0, .int .i64 0, .int .i64 0, .str [], .nils]), (.loc 9, .cells true [.int .i64 16, .int .i64 x12_2.At, .int .i64 x6_3, .str [], .slice .full 5 (eTNode.F [l0_oloc9, x9_5_0])]), (.loc 13, .cells true (cTNode x9_5_0))]⟩ (by decide) (by kernel_rfl) ?_
          refine DD.fin ⟨[(0, .slice .none 4 (eTToken.F a0)), (2, .int .i64 a2), (6, .ptr (.loc 6) 0), (9, .ptr (.loc 9) 0), (14, .int .i64 x9_5_1)], [(.loc 6, .cells true [.int .i64 0, .int .i64 0, .int .i64 0, .str [], .nils]), (.loc 9, .cells true [.int .i64 16, .int .i64 x12_2.At, .int .i64 x6_3, .str [], .slice .full 5 (eTNode.F [l0_oloc9, x9_5_0])])]⟩ rfl (by kernel_rfl) (by kernel_rfl) ?_
          refine SC.seq ?_
          refine SC.region 2 rfl ?_
          refine SO.run c0 2 ⟨[(0, .slice .none 4 (eTToken.F a0)), (2, .int .i64 a2), (6, .ptr (.loc 6) 0), (9, .ptr (.loc 9) 0), (10, .int .i64 x9_5_1)], [(.loc 6, .cells true [.int .i64 0, .int .i64 0, .int .i64 0, .str [], .nils]), (.loc 9, .cells true [.int .i64 16, .int .i64 x12_2.At, .int .i64 x6_3, .str [], .slice .full 5 (eTNode.F [l0_oloc9, x9_5_0])])]⟩ (by decide) (by kernel_rfl) ?_
          refine SO.done ?_
          refine SC.seq ?_
          refine SC.region 2 rfl ?_
          refine SO.run c0 2 ⟨[(0, .slice .none 4 (eTToken.F a0)), (2, .int .i64 a2), (6, .ptr (.loc 6) 0), (9, .ptr (.loc 9) 0), (10, .int .i64 x9_5_1), (70, .bool (a2 == 3))], [(.loc 6, .cells true [.int .i64 0, .int .i64 0, .int .i64 0, .str [], .nils]), (.loc 9, .cells true [.int .i64 16, .int .i64 x12_2.At, .int .i64 x6_3, .str [], .slice .full 5 (eTNode.F [l0_oloc9, x9_5_0])])]⟩ (by decide) (by kernel_rfl) ?_
          refine SO.done ?_
          refine SC.cond (a2 == 3) (by kernel_rfl) (fun ht => ?_) (fun ht => ?_)
          · replace h := Opt.t h ht
            refine SC.seq ?_
            refine SC.region 5 rfl ?_
            refine SO.run c0 5 ⟨[(6, .ptr (.loc 6) 0), (7, .int .i64 x9_5_1), (8, .bool true)], [(.loc 6, .cells true [.int .i64 16, .int .i64 x12_2.At, .int .i64 x6_3, .str [], .slice .full 5 (eTNode.F [l0_oloc9, x9_5_0])])]⟩ (by decide) (by kernel_rfl) ?_
            refine SO.done ?_
            refine SC.ret ?_
            replace h := Option.some.inj h
            subst h
            refine ⟨_, rfl, ?_⟩
            exact ⟨[.agg [.int .i64 16, .int .i64 x12_2.At, .int .i64 x6_3, .str [], .slice .full 5 (eTNode.F [l0_oloc9, x9_5_0])], .int .i64 x9_5_1, .bool true], by kernel_rfl, Wk.tuple (⟨Wk.agg (⟨Wk.refl _, Wk.refl _, Wk.refl _, Wk.refl _, Wk.tok _ _ _, trivial⟩), Wk.refl _, Wk.refl _, trivial⟩), trivial, by kernel_rfl⟩
          · replace h := Opt.f h ht
            refine SC.weak (S1 := ⟨[(0, .slice .none 4 (eTToken.F a0)), (2, .int .i64 a2), (6, .ptr (.loc 6) 0), (9, .ptr (.loc 9) 0), (10, .int .i64 x9_5_1)], [(.loc 6, .cells true [.int .i64 0, .int .i64 0, .int .i64 0, .str [], .nils]), (.loc 9, .cells true [.int .i64 16, .int .i64 x12_2.At, .int .i64 x6_3, .str [], .slice .none 5 (eTNode.F [l0_oloc9, x9_5_0])])]⟩) ?_ ?_
            · exact ⟨⟨Wk.refl _, Wk.refl _, Wk.refl _, Wk.refl _, Wk.refl _, trivial⟩, ⟨⟨.cells true [.int .i64 0, .int .i64 0, .int .i64 0, .str [], .nils], by kernel_rfl, ObWk.cells (WkL.refl _)⟩, ⟨.cells true [.int .i64 16, .int .i64 x12_2.At, .int .i64 x6_3, .str [], .slice .full 5 (eTNode.F [l0_oloc9, x9_5_0])], by kernel_rfl, ObWk.cells (⟨Wk.refl _, Wk.refl _, Wk.refl _, Wk.refl _, Wk.tok _ _ _, trivial⟩)⟩, trivial⟩, by kernel_rfl⟩
            refine SC.skip ?_
            replace h := Option.some.inj h
            subst h
            exact ⟨(x9_5_1, (TNode.mk 16 x12_2.At x6_3 [] [l0_oloc9, x9_5_0])), rfl, rfl⟩
theorem st_ref13_Expr (k : Nat) (ih_ref13_level : C_ref13_level k) : C_ref13_Expr (k + 1) := by
  intro a0 a1 r h
  rw [ref13_Expr] at h
  refine SF.intro Tryd.func13 rfl Tryd.ntmps13 rfl (Nat.le_of_ble_eq_true rfl) (by decide) ?_
  refine SC.seq ?_
  refine SC.region 3 rfl ?_
  refine SO.run c0 3 ⟨[(0, .slice .none 4 (eTToken.F a0)), (1, .int .i64 a1), (4, .ptr (.loc 4) 0)], [(.loc 4, .cells true [.int .i64 0, .int .i64 0, .int .i64 0, .str [], .nils])]⟩ (by decide) (by kernel_rfl) ?_
  refine SO.done ?_
  refine SC.seq ?_
  refine SC.region 9 rfl ?_
  refine SO.run c0 2 ⟨[(4, .ptr (.loc 4) 0), (7, .slice .none 4 (eTToken.F a0)), (8, .int .i64 a1)], [(.loc 4, .cells true [.int .i64 0, .int .i64 0, .int .i64 0, .str [], .nils])]⟩ (by decide) (by kernel_rfl) ?_
  obtain ⟨⟨x1_2_0, x1_2_1, x1_2_2⟩, hx1_2, h⟩ := Opt.ex h
  refine SO.call ⟨37, [.slice .none 4 (eTToken.F a0), .int .i64 a1, .int .i64 1], [], [], some 9⟩ ⟨[(4, .ptr (.loc 4) 0), (9, .tuple [.agg (cTNode x1_2_0), .int .i64 x1_2_1, .bool x1_2_2])], [(.loc 4, .cells true [.int .i64 0, .int .i64 0, .int .i64 0, .str [], .nils])]⟩ (by decide) (by kernel_rfl) (ih_ref13_level a0 a1 1 (x1_2_0, x1_2_1, x1_2_2) hx1_2) (by kernel_rfl) ?_
  refine SO.run c0 9 ⟨[(4, .ptr (.loc 4) 0), (5, .int .i64 x1_2_1), (6, .bool x1_2_2)], [(.loc 4, .cells true (cTNode x1_2_0))]⟩ (by decide) (by kernel_rfl) ?_
  refine SO.done ?_
  refine SC.ret ?_
  replace h := Option.some.inj h
  subst h
  exact ⟨[.agg (cTNode x1_2_0), .int .i64 x1_2_1, .bool x1_2_2], by kernel_rfl, Wk.eq (by kernel_rfl), trivial, by kernel_rfl⟩
theorem st_ref13_Args (k : Nat) (ih_ref13_Expr : C_ref13_Expr k) : C_ref13_Args (k + 1) := by
  intro a0 a1 r h
  rw [ref13_Args] at h
  refine SF.intro Tryd.func20 rfl Tryd.ntmps20 rfl (Nat.le_of_ble_eq_true rfl) (by decide) ?_
  refine SC.seq ?_
  refine SC.region 3 rfl ?_
  refine SO.run c0 3 ⟨[(0, .slice .none 4 (eTToken.F a0)), (1, .int .i64 a1)], []⟩ (by decide) (by kernel_rfl) ?_
  refine SO.done ?_
  refine SC.seq ?_
  refine SC.seq ?_
  refine SC.region 4 rfl ?_
  refine SO.run c0 2 ⟨[(0, .slice .none 4 (eTToken.F a0)), (1, .int .i64 a1), (11, .slice .none 4 (eTToken.F a0)), (12, .int .i64 a1)], []⟩ (by decide) (by kernel_rfl) ?_
  obtain ⟨x1_2, hx1_2, h⟩ := Opt.ex h
  refine SO.call ⟨45, [.slice .none 4 (eTToken.F a0), .int .i64 a1, .str [40]], [], [], some 13⟩ ⟨[(0, .slice .none 4 (eTToken.F a0)), (1, .int .i64 a1), (13, .bool x1_2)], []⟩ (by decide) (by kernel_rfl) (ok_ref13_Is k a0 a1 [40] x1_2 hx1_2) (by kernel_rfl) ?_
  refine SO.run c0 4 ⟨[(0, .slice .none 4 (eTToken.F a0)), (1, .int .i64 a1), (14, .bool (!x1_2))], []⟩ (by decide) (by kernel_rfl) ?_
  refine SO.done ?_
  refine SC.cond (!x1_2) (by kernel_rfl) (fun ht => ?_) (fun ht => ?_)
  · replace h := Opt.t h ht
    refine SC.seq ?_
    refine SC.region 4 rfl ?_
    refine SO.run c0 4 ⟨[(4, .nils), (5, .int .i64 a1), (6, .bool false)], []⟩ (by decide) (by kernel_rfl) ?_
    refine SO.done ?_
    refine SC.ret ?_
    replace h := Option.some.inj h
    subst h
    exact ⟨[.nils, .int .i64 a1, .bool false], by kernel_rfl, Wk.tuple (⟨Wk.nils _ _, Wk.refl _, Wk.refl _, trivial⟩), trivial, by kernel_rfl⟩
  · replace h := Opt.f h ht
    refine SC.skip ?_
    refine SC.seq ?_
    refine SC.region 3 rfl ?_
    refine SO.run c0 3 ⟨[(0, .slice .none 4 (eTToken.F a0)), (1, .int .i64 (IntKind.i64.wrap (a1 + 1)))], []⟩ (by decide) (by kernel_rfl) ?_
    refine SO.done ?_
    refine SC.seq ?_
    refine SC.seq ?_
    refine SC.region 3 rfl ?_
    refine SO.run c0 2 ⟨[(0, .slice .none 4 (eTToken.F a0)), (1, .int .i64 (IntKind.i64.wrap (a1 + 1))), (18, .slice .none 4 (eTToken.F a0)), (19, .int .i64 (IntKind.i64.wrap (a1 + 1)))], []⟩ (by decide) (by kernel_rfl) ?_
    obtain ⟨x4_2, hx4_2, h⟩ := Opt.ex h
    refine SO.call ⟨45, [.slice .none 4 (eTToken.F a0), .int .i64 (IntKind.i64.wrap (a1 + 1)), .str [41]], [], [], some 20⟩ ⟨[(0, .slice .none 4 (eTToken.F a0)), (1, .int .i64 (IntKind.i64.wrap (a1 + 1))), (20, .bool x4_2)], []⟩ (by decide) (by kernel_rfl) (ok_ref13_Is k a0 (IntKind.i64.wrap (a1 + 1)) [41] x4_2 hx4_2) (by kernel_rfl) ?_
    refine SO.done ?_
    refine SC.cond x4_2 (by kernel_rfl) (fun ht => ?_) (fun ht => ?_)
    · replace h := Opt.t h ht
      refine SC.seq ?_
      refine SC.region 5 rfl ?_
      refine SO.run c0 5 ⟨[(4, .nils), (5, .int .i64 (IntKind.i64.wrap ((IntKind.i64.wrap (a1 + 1)) + 1))), (6, .bool true)], []⟩ (by decide) (by kernel_rfl) ?_
      refine SO.done ?_
      refine SC.ret ?_
      replace h := Option.some.inj h
      subst h
      exact ⟨[.nils, .int .i64 (IntKind.i64.wrap ((IntKind.i64.wrap (a1 + 1)) + 1)), .bool true], by kernel_rfl, Wk.tuple (⟨Wk.nils _ _, Wk.refl _, Wk.refl _, trivial⟩), trivial, by kernel_rfl⟩
    · replace h := Opt.f h ht
      refine SC.skip ?_
      refine SC.seq ?_
      refine SC.region 1 rfl ?_
      refine SO.run c0 1 ⟨[(0, .slice .none 4 (eTToken.F a0)), (1, .int .i64 (IntKind.i64.wrap (a1 + 1))), (7, .nils)], []⟩ (by decide) (by kernel_rfl) ?_
      refine SO.begin (.loc 7) 5 7 none ⟨[(0, .slice .none 4 (eTToken.F a0)), (1, .int .i64 (IntKind.i64.wrap (a1 + 1))), (7, .slice (.buf (.loc 7)) 5 (eTNode.F []))], [(.loc 7, .buf 5 0)]⟩ (by kernel_rfl) ?_
      refine SO.done ?_
      refine SC.block ?_
      apply SC.loopJ (r := r) h (fun v : Int × List TNode => ⟨[(0, .slice .none 4 (eTToken.F a0)), (1, .int .i64 v.1), (7, .slice (.buf (.loc 7)) 5 (eTNode.F v.2))], [(.loc 7, .buf 5 (v.2.length))]⟩)
      rintro ⟨l0_1, l0_7⟩ r h
      refine SC.eqS (S1 := ⟨[(0, .slice .none 4 (eTToken.F a0)), (1, .int .i64 l0_1), (7, .slice (.buf (.loc 7)) 5 (eTNode.F l0_7))], [(.loc 7, .buf 5 (l0_7.length))]⟩) rfl ?_
      refine SC.block ?_
      refine SC.seq ?_
      refine SC.region 11 rfl ?_
      refine SO.run c0 2 ⟨[(0, .slice .none 4 (eTToken.F a0)), (7, .slice (.buf (.loc 7)) 5 (eTNode.F l0_7)), (24, .slice .none 4 (eTToken.F a0)), (25, .int .i64 l0_1)], [(.loc 7, .buf 5 (l0_7.length))]⟩ (by decide) (by kernel_rfl) ?_
      obtain ⟨⟨x7_2_0, x7_2_1, x7_2_2⟩, hx7_2, h⟩ := Opt.ex h
      refine SO.call ⟨13, [.slice .none 4 (eTToken.F a0), .int .i64 l0_1], [], [], some 26⟩ ⟨[(0, .slice .none 4 (eTToken.F a0)), (7, .slice (.buf (.loc 7)) 5 (eTNode.F l0_7)), (26, .tuple [.agg (cTNode x7_2_0), .int .i64 x7_2_1, .bool x7_2_2])], [(.loc 7, .buf 5 (l0_7.length))]⟩ (by decide) (by kernel_rfl) (ih_ref13_Expr a0 l0_1 (x7_2_0, x7_2_1, x7_2_2) hx7_2) (by kernel_rfl) ?_
      refine SO.run c0 11 ⟨[(0, .slice .none 4 (eTToken.F a0)), (7, .slice (.buf (.loc 7)) 5 (eTNode.F l0_7)), (8, .ptr (.loc 8) 0), (9, .int .i64 x7_2_1), (10, .bool x7_2_2)], [(.loc 7, .buf 5 (l0_7.length)), (.loc 8, .cells true (cTNode x7_2_0))]⟩ (by decide) (by kernel_rfl) ?_
      refine SO.done ?_
      refine SC.seq ?_
      refine SC.seq ?_
      refine SC.region 2 rfl ?_
      refine SO.run c0 2 ⟨[(0, .slice .none 4 (eTToken.F a0)), (7, .slice (.buf (.loc 7)) 5 (eTNode.F l0_7)), (8, .ptr (.loc 8) 0), (9, .int .i64 x7_2_1), (31, .bool (!x7_2_2))], [(.loc 7, .buf 5 (l0_7.length)), (.loc 8, .cells true (cTNode x7_2_0))]⟩ (by decide) (by kernel_rfl) ?_
      refine SO.done ?_
      refine SC.cond (!x7_2_2) (by kernel_rfl) (fun ht => ?_) (fun ht => ?_)
      · replace h := Opt.t h ht
        refine SC.seq ?_
        refine SC.region 4 rfl ?_
        refine SO.run c0 4 ⟨[(4, .nils), (5, .int .i64 x7_2_1), (6, .bool false)], []⟩ (by decide) (by kernel_rfl) ?_
        refine SO.done ?_
        refine SC.ret ?_
        replace h := Option.some.inj h
        subst h
        refine ⟨_, rfl, ?_⟩
        exact ⟨[.nils, .int .i64 x7_2_1, .bool false], by kernel_rfl, Wk.tuple (⟨Wk.nils _ _, Wk.refl _, Wk.refl _, trivial⟩), trivial, by kernel_rfl⟩
      · replace h := Opt.f h ht
        refine SC.skip ?_
        refine SC.seq ?_
        refine SC.region 5 rfl ?_
        refine SO.run c0 2 ⟨[(0, .slice .none 4 (eTToken.F a0)), (9, .int .i64 x7_2_1), (33, .slice (.buf (.loc 7)) 5 (eTNode.F l0_7)), (34, .agg (cTNode x7_2_0))], [(.loc 7, .buf 5 (l0_7.length))]⟩ (by decide) (by kernel_rfl) ?_
        refine SO.op c0 { v := .slice .full 5 (eTNode.F [x7_2_0]) } ⟨[(0, .slice .none 4 (eTToken.F a0)), (9, .int .i64 x7_2_1), (33, .slice (.buf (.loc 7)) 5 (eTNode.F l0_7)), (35, .slice .full 5 (eTNode.F [x7_2_0]))], [(.loc 7, .buf 5 (l0_7.length))]⟩ (by decide) ((show opR _ _ _ _ _ _ = some { v := .slice .full 5 [.agg (cTNode x7_2_0)] } from by kernel_rfl).trans (by simp only [FTNode, eTNode_F, fTNode_eq])) (by kernel_rfl) ?_
        obtain ⟨hr, h⟩ := Opt.g h
        refine SO.op c0 { v := .slice (.buf (.loc 7)) 5 (eTNode.F (l0_7 ++ [x7_2_0])), ws := [(.loc 7, .buf 5 ((l0_7 ++ [x7_2_0]).length))], rd := [.loc 7] } ⟨[(0, .slice .none 4 (eTToken.F a0)), (9, .int .i64 x7_2_1), (36, .slice (.buf (.loc 7)) 5 (eTNode.F (l0_7 ++ [x7_2_0])))], [(.loc 7, .buf 5 ((l0_7 ++ [x7_2_0]).length))]⟩ (by decide) (apB eTNode false 36 [(.loc 7, .buf 5 (l0_7.length))] 27 27 (.loc 7) 5 64 l0_7 [x7_2_0] .full (by kernel_rfl) (by kernel_rfl) (by kernel_rfl) hr) (by kernel_rfl) ?_
        refine SO.run c0 5 ⟨[(0, .slice .none 4 (eTToken.F a0)), (7, .slice (.buf (.loc 7)) 5 (eTNode.F (l0_7 ++ [x7_2_0]))), (9, .int .i64 x7_2_1)], [(.loc 7, .buf 5 ((l0_7 ++ [x7_2_0]).length))]⟩ (by decide) (by kernel_rfl) ?_
        refine SO.done ?_
        refine SC.seq ?_
        refine SC.seq ?_
        refine SC.region 3 rfl ?_
        refine SO.run c0 2 ⟨[(0, .slice .none 4 (eTToken.F a0)), (7, .slice (.buf (.loc 7)) 5 (eTNode.F (l0_7 ++ [x7_2_0]))), (9, .int .i64 x7_2_1), (37, .slice .none 4 (eTToken.F a0)), (38, .int .i64 x7_2_1)], [(.loc 7, .buf 5 ((l0_7 ++ [x7_2_0]).length))]⟩ (by decide) (by kernel_rfl) ?_
        obtain ⟨x11_2, hx11_2, h⟩ := Opt.ex h
        refine SO.call ⟨45, [.slice .none 4 (eTToken.F a0), .int .i64 x7_2_1, .str [41]], [], [], some 39⟩ ⟨[(0, .slice .none 4 (eTToken.F a0)), (7, .slice (.buf (.loc 7)) 5 (eTNode.F (l0_7 ++ [x7_2_0]))), (9, .int .i64 x7_2_1), (39, .bool x11_2)], [(.loc 7, .buf 5 ((l0_7 ++ [x7_2_0]).length))]⟩ (by decide) (by kernel_rfl) (ok_ref13_Is k a0 x7_2_1 [41] x11_2 hx11_2) (by kernel_rfl) ?_
        refine SO.done ?_
        refine SC.cond x11_2 (by kernel_rfl) (fun ht => ?_) (fun ht => ?_)
        · replace h := Opt.t h ht
          refine SC.seq ?_
          refine SC.region 6 rfl ?_
          refine SO.run c0 6 ⟨[(4, .slice (.buf (.loc 7)) 5 (eTNode.F (l0_7 ++ [x7_2_0]))), (5, .int .i64 (IntKind.i64.wrap (x7_2_1 + 1))), (6, .bool true)], [(.loc 7, .buf 5 ((l0_7 ++ [x7_2_0]).length))]⟩ (by decide) (by kernel_rfl) ?_
          refine SO.done ?_
          refine SC.ret ?_
          replace h := Option.some.inj h
          subst h
          refine ⟨_, rfl, ?_⟩
          exact ⟨[.slice (.buf (.loc 7)) 5 (eTNode.F (l0_7 ++ [x7_2_0])), .int .i64 (IntKind.i64.wrap (x7_2_1 + 1)), .bool true], by kernel_rfl, Wk.tuple (⟨Wk.tok _ _ _, Wk.refl _, Wk.refl _, trivial⟩), trivial, by kernel_rfl⟩
        · replace h := Opt.f h ht
          refine SC.skip ?_
          refine SC.seq ?_
          refine SC.seq ?_
          refine SC.region 4 rfl ?_
          refine SO.run c0 2 ⟨[(0, .slice .none 4 (eTToken.F a0)), (7, .slice (.buf (.loc 7)) 5 (eTNode.F (l0_7 ++ [x7_2_0]))), (9, .int .i64 x7_2_1), (43, .slice .none 4 (eTToken.F a0)), (44, .int .i64 x7_2_1)], [(.loc 7, .buf 5 ((l0_7 ++ [x7_2_0]).length))]⟩ (by decide) (by kernel_rfl) ?_
          obtain ⟨x13_2, hx13_2, h⟩ := Opt.ex h
          refine SO.call ⟨45, [.slice .none 4 (eTToken.F a0), .int .i64 x7_2_1, .str [44]], [], [], some 45⟩ ⟨[(0, .slice .none 4 (eTToken.F a0)), (7, .slice (.buf (.loc 7)) 5 (eTNode.F (l0_7 ++ [x7_2_0]))), (9, .int .i64 x7_2_1), (45, .bool x13_2)], [(.loc 7, .buf 5 ((l0_7 ++ [x7_2_0]).length))]⟩ (by decide) (by kernel_rfl) (ok_ref13_Is k a0 x7_2_1 [44] x13_2 hx13_2) (by kernel_rfl) ?_
          refine SO.run c0 4 ⟨[(0, .slice .none 4 (eTToken.F a0)), (7, .slice (.buf (.loc 7)) 5 (eTNode.F (l0_7 ++ [x7_2_0]))), (9, .int .i64 x7_2_1), (46, .bool (!x13_2))], [(.loc 7, .buf 5 ((l0_7 ++ [x7_2_0]).length))]⟩ (by decide) (by kernel_rfl) ?_
          refine SO.done ?_
          refine SC.cond (!x13_2) (by kernel_rfl) (fun ht => ?_) (fun ht => ?_)
          · replace h := Opt.t h ht
            refine SC.seq ?_
            refine SC.region 4 rfl ?_
            refine SO.run c0 4 ⟨[(4, .nils), (5, .int .i64 x7_2_1), (6, .bool false)], []⟩ (by decide) (by kernel_rfl) ?_
            refine SO.done ?_
            refine SC.ret ?_
            replace h := Option.some.inj h
            subst h
            refine ⟨_, rfl, ?_⟩
            exact ⟨[.nils, .int .i64 x7_2_1, .bool false], by kernel_rfl, Wk.tuple (⟨Wk.nils _ _, Wk.refl _, Wk.refl _, trivial⟩), trivial, by kernel_rfl⟩
          · replace h := Opt.f h ht
            refine SC.skip ?_
            refine SC.region 3 rfl ?_
            refine SO.run c0 3 ⟨[(0, .slice .none 4 (eTToken.F a0)), (1, .int .i64 (IntKind.i64.wrap (x7_2_1 + 1))), (7, .slice (.buf (.loc 7)) 5 (eTNode.F (l0_7 ++ [x7_2_0])))], [(.loc 7, .buf 5 ((l0_7 ++ [x7_2_0]).length))]⟩ (by decide) (by kernel_rfl) ?_
            refine SO.done ?_
            replace h := Option.some.inj h
            subst h
            exact ⟨((IntKind.i64.wrap (x7_2_1 + 1)), (l0_7 ++ [x7_2_0])), rfl, rfl⟩
theorem all_ref13_named : ∀ k, C_ref13_named k ∧ C_ref13_first k ∧ C_ref13_part k ∧ C_ref13_factor k ∧ C_ref13_level k ∧ C_ref13_Expr k ∧ C_ref13_Args k
  | 0 => ⟨(by intro a0 a1 a2 a3 r h; rw [ref13_named] at h; cases h), (by intro a0 a1 r h; rw [ref13_first] at h; cases h), (by intro a0 a1 r h; rw [ref13_part] at h; cases h), (by intro a0 a1 r h; rw [ref13_factor] at h; cases h), (by intro a0 a1 a2 r h; rw [ref13_level] at h; cases h), (by intro a0 a1 r h; rw [ref13_Expr] at h; cases h), (by intro a0 a1 r h; rw [ref13_Args] at h; cases h)⟩
  | k + 1 => by
    obtain ⟨h0, h1, h2, h3, h4, h5, h6⟩ := all_ref13_named k
    exact ⟨st_ref13_named k h6, st_ref13_first k h0 h5 h6, st_ref13_part k h1 h5, st_ref13_factor k h2 h3, st_ref13_level k h3 h4, st_ref13_Expr k h4, st_ref13_Args k h5⟩
theorem ok_ref13_named (k : Nat) (a0 : List TToken) (a1 : Int) (a2 : Int) (a3 : Int) (r : TNode × Int × Bool) (h : ref13_named k a0 a1 a2 a3 = some r) :
    SF Z 124 [.slice .none 4 (eTToken.F a0), .int .i64 a1, .int .i64 a2, .int .i64 a3] [] (.tuple [.agg (cTNode r.1), .int .i64 r.2.1, .bool r.2.2]) [] := (all_ref13_named k).1 a0 a1 a2 a3 r h
theorem ok_ref13_first (k : Nat) (a0 : List TToken) (a1 : Int) (r : TNode × Int × Bool) (h : ref13_first k a0 a1 = some r) :
    SF Z 112 [.slice .none 4 (eTToken.F a0), .int .i64 a1] [] (.tuple [.agg (cTNode r.1), .int .i64 r.2.1, .bool r.2.2]) [] := (all_ref13_named k).2.1 a0 a1 r h
theorem ok_ref13_part (k : Nat) (a0 : List TToken) (a1 : Int) (r : TNode × Int × Bool) (h : ref13_part k a0 a1 = some r) :
    SF Z 99 [.slice .none 4 (eTToken.F a0), .int .i64 a1] [] (.tuple [.agg (cTNode r.1), .int .i64 r.2.1, .bool r.2.2]) [] := (all_ref13_named k).2.2.1 a0 a1 r h
theorem ok_ref13_factor (k : Nat) (a0 : List TToken) (a1 : Int) (r : TNode × Int × Bool) (h : ref13_factor k a0 a1 = some r) :
    SF Z 73 [.slice .none 4 (eTToken.F a0), .int .i64 a1] [] (.tuple [.agg (cTNode r.1), .int .i64 r.2.1, .bool r.2.2]) [] := (all_ref13_named k).2.2.2.1 a0 a1 r h
theorem ok_ref13_level (k : Nat) (a0 : List TToken) (a1 : Int) (a2 : Int) (r : TNode × Int × Bool) (h : ref13_level k a0 a1 a2 = some r) :
    SF Z 37 [.slice .none 4 (eTToken.F a0), .int .i64 a1, .int .i64 a2] [] (.tuple [.agg (cTNode r.1), .int .i64 r.2.1, .bool r.2.2]) [] := (all_ref13_named k).2.2.2.2.1 a0 a1 a2 r h
theorem ok_ref13_Expr (k : Nat) (a0 : List TToken) (a1 : Int) (r : TNode × Int × Bool) (h : ref13_Expr k a0 a1 = some r) :
    SF Z 13 [.slice .none 4 (eTToken.F a0), .int .i64 a1] [] (.tuple [.agg (cTNode r.1), .int .i64 r.2.1, .bool r.2.2]) [] := (all_ref13_named k).2.2.2.2.2.1 a0 a1 r h
theorem ok_ref13_Args (k : Nat) (a0 : List TToken) (a1 : Int) (r : List TNode × Int × Bool) (h : ref13_Args k a0 a1 = some r) :
    SF Z 20 [.slice .none 4 (eTToken.F a0), .int .i64 a1] [] (.tuple [.slice .none 5 (eTNode.F r.1), .int .i64 r.2.1, .bool r.2.2]) [] := (all_ref13_named k).2.2.2.2.2.2 a0 a1 r h
theorem ok_law13_ExprParts (k : Nat) (a0 : List UInt8) (a1 : Int) (r : Bool) (h : law13_ExprParts k a0 a1 = some r) :
    SF Z 5 [.str a0, .int .i64 a1] [] (.bool r) [] := by
  unfold law13_ExprParts at h
  refine SF.intro Tryd.func5 rfl Tryd.ntmps5 rfl (Nat.le_of_ble_eq_true rfl) (by decide) ?_
  refine SC.seq ?_
  refine SC.region 1 rfl ?_
  refine SO.run c0 1 ⟨[(0, .str a0), (1, .int .i64 a1)], []⟩ (by decide) (by kernel_rfl) ?_
  refine SO.done ?_
  refine SC.seq ?_
  refine SC.seq ?_
  refine SC.region 7 rfl ?_
  obtain ⟨x1_0, hx1_0, h⟩ := Opt.ex h
  refine SO.call ⟨10, [], [], [], some 21⟩ ⟨[(0, .str a0), (1, .int .i64 a1), (21, .bool x1_0)], []⟩ (by decide) (by kernel_rfl) (ok_law13_works k x1_0 hx1_0) (by kernel_rfl) ?_
  refine SO.run c0 3 ⟨[(0, .str a0), (1, .int .i64 a1), (23, .bool (!x1_0))], []⟩ (by decide) (by kernel_rfl) ?_
  refine SO.runB c0 7 (!x1_0) (fun b => ⟨[(0, .str a0), (1, .int .i64 a1), (23, .bool b)], []⟩) (fun b => ⟨[(0, .str a0), (1, .int .i64 a1), (27, .bool (b || (decide (((a0.length : Int)) > 400))))], []⟩) (by decide) (by kernel_rfl) (by kernel_rfl) ?_
  refine SO.done ?_
  refine SC.cond ((!x1_0) || (decide (((a0.length : Int)) > 400))) (by kernel_rfl) (fun ht => ?_) (fun ht => ?_)
  · replace h := Opt.t h ht
    refine SC.seq ?_
    refine SC.region 2 rfl ?_
    obtain ⟨x2_0, hx2_0, h⟩ := Opt.ex h
    refine SO.call ⟨10, [], [], [], some 28⟩ ⟨[(28, .bool x2_0)], []⟩ (by decide) (by kernel_rfl) (ok_law13_works k x2_0 hx2_0) (by kernel_rfl) ?_
    refine SO.run c0 2 ⟨[(4, .bool x2_0)], []⟩ (by decide) (by kernel_rfl) ?_
    refine SO.done ?_
    refine SC.ret ?_
    replace h := Option.some.inj h
    subst h
    exact ⟨[.bool x2_0], by kernel_rfl, Wk.eq (by kernel_rfl), trivial, by kernel_rfl⟩
  · replace h := Opt.f h ht
    refine SC.skip ?_
    refine SC.seq ?_
    refine SC.region 9 rfl ?_
    refine SO.run c0 1 ⟨[(1, .int .i64 a1), (30, .str a0)], []⟩ (by decide) (by kernel_rfl) ?_
    obtain ⟨⟨x3_1_0, x3_1_1, x3_1_2⟩, hx3_1, h⟩ := Opt.ex h
    refine SO.call ⟨11, [.str a0], [], [], some 31⟩ ⟨[(1, .int .i64 a1), (31, .tuple [.slice .none 4 (eTToken.F x3_1_0), .int .i64 x3_1_1, .int .i64 x3_1_2])], []⟩ (by decide) (by kernel_rfl) (ok_ref10_All k a0 (x3_1_0, x3_1_1, x3_1_2) hx3_1) (by kernel_rfl) ?_
    refine SO.run c0 9 ⟨[(1, .int .i64 a1), (5, .slice .none 4 (eTToken.F x3_1_0)), (7, .int .i64 x3_1_2)], []⟩ (by decide) (by kernel_rfl) ?_
    refine SO.done ?_
    refine SC.seq ?_
    refine SC.seq ?_
    refine SC.region 2 rfl ?_
    refine SO.run c0 2 ⟨[(1, .int .i64 a1), (5, .slice .none 4 (eTToken.F x3_1_0)), (36, .bool (x3_1_2 != 0))], []⟩ (by decide) (by kernel_rfl) ?_
    refine SO.done ?_
    refine SC.cond (x3_1_2 != 0) (by kernel_rfl) (fun ht => ?_) (fun ht => ?_)
    · replace h := Opt.t h ht
      refine SC.seq ?_
      refine SC.region 1 rfl ?_
      refine SO.run c0 1 ⟨[(4, .bool true)], []⟩ (by decide) (by kernel_rfl) ?_
      refine SO.done ?_
      refine SC.ret ?_
      replace h := Option.some.inj h
      subst h
      exact ⟨[.bool true], by kernel_rfl, Wk.eq (by kernel_rfl), trivial, by kernel_rfl⟩
    · replace h := Opt.f h ht
      refine SC.skip ?_
      refine SC.seq ?_
      refine SC.region 11 rfl ?_
      refine SO.run c0 2 ⟨[(1, .int .i64 a1), (5, .slice .none 4 (eTToken.F x3_1_0)), (38, .slice .none 4 (eTToken.F x3_1_0)), (39, .int .i64 a1)], []⟩ (by decide) (by kernel_rfl) ?_
      obtain ⟨⟨x6_2_0, x6_2_1, x6_2_2⟩, hx6_2, h⟩ := Opt.ex h
      refine SO.call ⟨16, [.slice .none 4 (eTToken.F x3_1_0), .int .i64 a1], [], [], some 40⟩ ⟨[(1, .int .i64 a1), (5, .slice .none 4 (eTToken.F x3_1_0)), (40, .tuple [.agg (cTNode x6_2_0), .int .i64 x6_2_1, .int .i64 x6_2_2])], []⟩ (by decide) (by kernel_rfl) (ok_expr_Type k x3_1_0 a1 (x6_2_0, x6_2_1, x6_2_2) hx6_2) (by kernel_rfl) ?_
      refine SO.run c0 11 ⟨[(1, .int .i64 a1), (5, .slice .none 4 (eTToken.F x3_1_0)), (8, .ptr (.loc 8) 0), (9, .int .i64 x6_2_1), (10, .int .i64 x6_2_2)], [(.loc 8, .cells true (cTNode x6_2_0))]⟩ (by decide) (by kernel_rfl) ?_
      refine SO.done ?_
      refine SC.seq ?_
      refine SC.region 11 rfl ?_
      refine SO.run c0 2 ⟨[(1, .int .i64 a1), (5, .slice .none 4 (eTToken.F x3_1_0)), (8, .ptr (.loc 8) 0), (9, .int .i64 x6_2_1), (10, .int .i64 x6_2_2), (45, .slice .none 4 (eTToken.F x3_1_0)), (46, .int .i64 a1)], [(.loc 8, .cells true (cTNode x6_2_0))]⟩ (by decide) (by kernel_rfl) ?_
      obtain ⟨⟨x7_2_0, x7_2_1, x7_2_2⟩, hx7_2, h⟩ := Opt.ex h
      refine SO.call ⟨17, [.slice .none 4 (eTToken.F x3_1_0), .int .i64 a1], [], [], some 47⟩ ⟨[(1, .int .i64 a1), (5, .slice .none 4 (eTToken.F x3_1_0)), (8, .ptr (.loc 8) 0), (9, .int .i64 x6_2_1), (10, .int .i64 x6_2_2), (47, .tuple [.agg (cTNode x7_2_0), .int .i64 x7_2_1, .bool x7_2_2])], [(.loc 8, .cells true (cTNode x6_2_0))]⟩ (by decide) (by kernel_rfl) (ok_ref13_Type k x3_1_0 a1 (x7_2_0, x7_2_1, x7_2_2) hx7_2) (by kernel_rfl) ?_
      refine SO.run c0 11 ⟨[(1, .int .i64 a1), (5, .slice .none 4 (eTToken.F x3_1_0)), (8, .ptr (.loc 8) 0), (9, .int .i64 x6_2_1), (10, .int .i64 x6_2_2), (11, .ptr (.loc 11) 0), (12, .int .i64 x7_2_1), (13, .bool x7_2_2)], [(.loc 8, .cells true (cTNode x6_2_0)), (.loc 11, .cells true (cTNode x7_2_0))]⟩ (by decide) (by kernel_rfl) ?_
      refine SO.done ?_
      refine SC.seq ?_
      refine SC.seq ?_
      refine SC.region 31 rfl ?_
      refine SO.run c0 2 ⟨[(1, .int .i64 a1), (5, .slice .none 4 (eTToken.F x3_1_0)), (8, .ptr (.loc 8) 0), (9, .int .i64 x6_2_1), (10, .int .i64 x6_2_2), (12, .int .i64 x7_2_1), (13, .bool x7_2_2), (51, .agg (cTNode x6_2_0)), (52, .agg (cTNode x7_2_0))], [(.loc 8, .cells true (cTNode x6_2_0))]⟩ (by decide) (by kernel_rfl) ?_
      obtain ⟨x8_2, hx8_2, h⟩ := Opt.ex h
      refine SO.call ⟨14, [.agg (cTNode x6_2_0), .agg (cTNode x7_2_0)], [], [], some 53⟩ ⟨[(1, .int .i64 a1), (5, .slice .none 4 (eTToken.F x3_1_0)), (8, .ptr (.loc 8) 0), (9, .int .i64 x6_2_1), (10, .int .i64 x6_2_2), (12, .int .i64 x7_2_1), (13, .bool x7_2_2), (53, .bool x8_2)], [(.loc 8, .cells true (cTNode x6_2_0))]⟩ (by decide) (by kernel_rfl) (ok_ref13_Placed k x6_2_0 x7_2_0 x8_2 hx8_2) (by kernel_rfl) ?_
      refine SO.run c0 5 ⟨[(1, .int .i64 a1), (5, .slice .none 4 (eTToken.F x3_1_0)), (8, .ptr (.loc 8) 0), (9, .int .i64 x6_2_1), (10, .int .i64 x6_2_2), (12, .int .i64 x7_2_1), (13, .bool x7_2_2), (55, .bool (!x8_2))], [(.loc 8, .cells true (cTNode x6_2_0))]⟩ (by decide) (by kernel_rfl) ?_
      refine SO.runB c0 9 (!x8_2) (fun b => ⟨[(1, .int .i64 a1), (5, .slice .none 4 (eTToken.F x3_1_0)), (8, .ptr (.loc 8) 0), (9, .int .i64 x6_2_1), (10, .int .i64 x6_2_2), (12, .int .i64 x7_2_1), (13, .bool x7_2_2), (55, .bool b)], [(.loc 8, .cells true (cTNode x6_2_0))]⟩) (fun b => ⟨[(1, .int .i64 a1), (5, .slice .none 4 (eTToken.F x3_1_0)), (8, .ptr (.loc 8) 0), (10, .int .i64 x6_2_2), (13, .bool x7_2_2), (59, .bool (b || (x6_2_1 != x7_2_1)))], [(.loc 8, .cells true (cTNode x6_2_0))]⟩) (by decide) (by kernel_rfl) (by kernel_rfl) ?_
      refine SO.run c0 10 ⟨[(1, .int .i64 a1), (5, .slice .none 4 (eTToken.F x3_1_0)), (8, .ptr (.loc 8) 0), (10, .int .i64 x6_2_2), (13, .bool x7_2_2), (60, .bool ((!x8_2) || (x6_2_1 != x7_2_1)))], [(.loc 8, .cells true (cTNode x6_2_0))]⟩ (by decide) (by kernel_rfl) ?_
      refine SO.runB c0 15 ((!x8_2) || (x6_2_1 != x7_2_1)) (fun b => ⟨[(1, .int .i64 a1), (5, .slice .none 4 (eTToken.F x3_1_0)), (8, .ptr (.loc 8) 0), (10, .int .i64 x6_2_2), (13, .bool x7_2_2), (60, .bool b)], [(.loc 8, .cells true (cTNode x6_2_0))]⟩) (fun b => ⟨[(1, .int .i64 a1), (5, .slice .none 4 (eTToken.F x3_1_0)), (8, .ptr (.loc 8) 0), (10, .int .i64 x6_2_2), (13, .bool x7_2_2), (65, .bool (b || (!((x6_2_2 == 0) == x7_2_2))))], [(.loc 8, .cells true (cTNode x6_2_0))]⟩) (by decide) (by kernel_rfl) (by kernel_rfl) ?_
      refine SO.run c0 16 ⟨[(1, .int .i64 a1), (5, .slice .none 4 (eTToken.F x3_1_0)), (8, .ptr (.loc 8) 0), (10, .int .i64 x6_2_2), (13, .bool x7_2_2), (66, .bool (((!x8_2) || (x6_2_1 != x7_2_1)) || (!((x6_2_2 == 0) == x7_2_2))))], [(.loc 8, .cells true (cTNode x6_2_0))]⟩ (by decide) (by kernel_rfl) ?_
      refine SO.meet 23 ⟨[(1, .int .i64 a1), (5, .slice .none 4 (eTToken.F x3_1_0)), (8, .ptr (.loc 8) 0), (13, .bool x7_2_2), (73, .bool ((((!x8_2) || (x6_2_1 != x7_2_1)) || (!((x6_2_2 == 0) == x7_2_2))) || ((!x7_2_2) && (x6_2_2 != 1))))], [(.loc 8, .cells true (cTNode x6_2_0))]⟩ (by decide) ?_ ?_
      · refine SO.bool (((!x8_2) || (x6_2_1 != x7_2_1)) || (!((x6_2_2 == 0) == x7_2_2))) (fun b => ⟨[(1, .int .i64 a1), (5, .slice .none 4 (eTToken.F x3_1_0)), (8, .ptr (.loc 8) 0), (10, .int .i64 x6_2_2), (13, .bool x7_2_2), (66, .bool b)], [(.loc 8, .cells true (cTNode x6_2_0))]⟩) (fun ht0 => ?_) (fun ht0 => ?_)
        · refine SO.run c0 23 ⟨[(1, .int .i64 a1), (5, .slice .none 4 (eTToken.F x3_1_0)), (8, .ptr (.loc 8) 0), (13, .bool x7_2_2), (73, .bool true)], [(.loc 8, .cells true (cTNode x6_2_0))]⟩ (by decide) (by kernel_rfl) ?_
          exact SO.done (by (try rw [ht0]); kernel_rfl)
        · refine SO.run c0 19 ⟨[(1, .int .i64 a1), (5, .slice .none 4 (eTToken.F x3_1_0)), (8, .ptr (.loc 8) 0), (10, .int .i64 x6_2_2), (13, .bool x7_2_2), (66, .bool false), (69, .bool (!x7_2_2))], [(.loc 8, .cells true (cTNode x6_2_0))]⟩ (by decide) (by kernel_rfl) ?_
          refine SO.bool (!x7_2_2) (fun b => ⟨[(1, .int .i64 a1), (5, .slice .none 4 (eTToken.F x3_1_0)), (8, .ptr (.loc 8) 0), (10, .int .i64 x6_2_2), (13, .bool x7_2_2), (66, .bool false), (69, .bool b)], [(.loc 8, .cells true (cTNode x6_2_0))]⟩) (fun ht1 => ?_) (fun ht1 => ?_)
          · refine SO.run c0 23 ⟨[(1, .int .i64 a1), (5, .slice .none 4 (eTToken.F x3_1_0)), (8, .ptr (.loc 8) 0), (13, .bool x7_2_2), (73, .bool (x6_2_2 != 1))], [(.loc 8, .cells true (cTNode x6_2_0))]⟩ (by decide) (by kernel_rfl) ?_
            exact SO.done (by (try rw [ht0]); (try rw [ht1]); kernel_rfl)
          · refine SO.run c0 23 ⟨[(1, .int .i64 a1), (5, .slice .none 4 (eTToken.F x3_1_0)), (8, .ptr (.loc 8) 0), (13, .bool x7_2_2), (73, .bool false)], [(.loc 8, .cells true (cTNode x6_2_0))]⟩ (by decide) (by kernel_rfl) ?_
            exact SO.done (by (try rw [ht0]); (try rw [ht1]); kernel_rfl)
      · refine SO.run c0 24 ⟨[(1, .int .i64 a1), (5, .slice .none 4 (eTToken.F x3_1_0)), (8, .ptr (.loc 8) 0), (13, .bool x7_2_2), (74, .bool ((((!x8_2) || (x6_2_1 != x7_2_1)) || (!((x6_2_2 == 0) == x7_2_2))) || ((!x7_2_2) && (x6_2_2 != 1))))], [(.loc 8, .cells true (cTNode x6_2_0))]⟩ (by decide) (by kernel_rfl) ?_
        refine SO.joinK h (fun v : Bool => ⟨[(1, .int .i64 a1), (5, .slice .none 4 (eTToken.F x3_1_0)), (81, .bool v)], []⟩) 31 (by decide) ?_ ?_
        · rintro g8_30_81 h
          refine SO.eqS (S1 := ⟨[(1, .int .i64 a1), (5, .slice .none 4 (eTToken.F x3_1_0)), (81, .bool g8_30_81)], []⟩) rfl ?_
          refine SO.done ?_
          refine SC.cond g8_30_81 (by kernel_rfl) (fun ht => ?_) (fun ht => ?_)
          · replace h := Opt.t h ht
            refine SC.seq ?_
            refine SC.region 1 rfl ?_
            refine SO.run c0 1 ⟨[(4, .bool false)], []⟩ (by decide) (by kernel_rfl) ?_
            refine SO.done ?_
            refine SC.ret ?_
            replace h := Option.some.inj h
            subst h
            exact ⟨[.bool false], by kernel_rfl, Wk.eq (by kernel_rfl), trivial, by kernel_rfl⟩
          · replace h := Opt.f h ht
            refine SC.skip ?_
            refine SC.seq ?_
            refine SC.region 10 rfl ?_
            refine SO.run c0 2 ⟨[(1, .int .i64 a1), (5, .slice .none 4 (eTToken.F x3_1_0)), (83, .slice .none 4 (eTToken.F x3_1_0)), (84, .int .i64 a1)], []⟩ (by decide) (by kernel_rfl) ?_
            obtain ⟨⟨x10_2_0, x10_2_1, x10_2_2⟩, hx10_2, h⟩ := Opt.ex h
            refine SO.call ⟨19, [.slice .none 4 (eTToken.F x3_1_0), .int .i64 a1], [], [], some 85⟩ ⟨[(1, .int .i64 a1), (5, .slice .none 4 (eTToken.F x3_1_0)), (85, .tuple [.slice .none 5 (eTNode.F x10_2_0), .int .i64 x10_2_1, .int .i64 x10_2_2])], []⟩ (by decide) (by kernel_rfl) (ok_expr_Args k x3_1_0 a1 (x10_2_0, x10_2_1, x10_2_2) hx10_2) (by kernel_rfl) ?_
            refine SO.run c0 10 ⟨[(1, .int .i64 a1), (5, .slice .none 4 (eTToken.F x3_1_0)), (14, .slice .none 5 (eTNode.F x10_2_0)), (15, .int .i64 x10_2_1), (16, .int .i64 x10_2_2)], []⟩ (by decide) (by kernel_rfl) ?_
            refine SO.done ?_
            refine SC.seq ?_
            refine SC.region 10 rfl ?_
            refine SO.run c0 2 ⟨[(14, .slice .none 5 (eTNode.F x10_2_0)), (15, .int .i64 x10_2_1), (16, .int .i64 x10_2_2), (90, .slice .none 4 (eTToken.F x3_1_0)), (91, .int .i64 a1)], []⟩ (by decide) (by kernel_rfl) ?_
            obtain ⟨⟨x11_2_0, x11_2_1, x11_2_2⟩, hx11_2, h⟩ := Opt.ex h
            refine SO.call ⟨20, [.slice .none 4 (eTToken.F x3_1_0), .int .i64 a1], [], [], some 92⟩ ⟨[(14, .slice .none 5 (eTNode.F x10_2_0)), (15, .int .i64 x10_2_1), (16, .int .i64 x10_2_2), (92, .tuple [.slice .none 5 (eTNode.F x11_2_0), .int .i64 x11_2_1, .bool x11_2_2])], []⟩ (by decide) (by kernel_rfl) (ok_ref13_Args k x3_1_0 a1 (x11_2_0, x11_2_1, x11_2_2) hx11_2) (by kernel_rfl) ?_
            refine SO.run c0 10 ⟨[(14, .slice .none 5 (eTNode.F x10_2_0)), (15, .int .i64 x10_2_1), (16, .int .i64 x10_2_2), (17, .slice .none 5 (eTNode.F x11_2_0)), (18, .int .i64 x11_2_1), (19, .bool x11_2_2)], []⟩ (by decide) (by kernel_rfl) ?_
            refine SO.done ?_
            refine SC.seq ?_
            refine SC.seq ?_
            refine SC.region 24 rfl ?_
            refine SO.run c0 6 ⟨[(14, .slice .none 5 (eTNode.F x10_2_0)), (15, .int .i64 x10_2_1), (16, .int .i64 x10_2_2), (17, .slice .none 5 (eTNode.F x11_2_0)), (18, .int .i64 x11_2_1), (19, .bool x11_2_2), (101, .bool (((x10_2_0.length : Int)) != ((x11_2_0.length : Int))))], []⟩ (by decide) (Eq.trans (b := some ⟨[(14, .slice .none 5 (eTNode.F x10_2_0)), (15, .int .i64 x10_2_1), (16, .int .i64 x10_2_2), (17, .slice .none 5 (eTNode.F x11_2_0)), (18, .int .i64 x11_2_1), (19, .bool x11_2_2), (101, .bool ((((eTNode.F x10_2_0).length : Int)) != (((eTNode.F x11_2_0).length : Int))))], []⟩) (by kernel_rfl) (by simp only [LE.len])) ?_
            refine SO.runB c0 10 (((x10_2_0.length : Int)) != ((x11_2_0.length : Int))) (fun b => ⟨[(14, .slice .none 5 (eTNode.F x10_2_0)), (15, .int .i64 x10_2_1), (16, .int .i64 x10_2_2), (17, .slice .none 5 (eTNode.F x11_2_0)), (18, .int .i64 x11_2_1), (19, .bool x11_2_2), (101, .bool b)], []⟩) (fun b => ⟨[(14, .slice .none 5 (eTNode.F x10_2_0)), (16, .int .i64 x10_2_2), (17, .slice .none 5 (eTNode.F x11_2_0)), (19, .bool x11_2_2), (105, .bool (b || (x10_2_1 != x11_2_1)))], []⟩) (by decide) (by kernel_rfl) (by kernel_rfl) ?_
            refine SO.run c0 11 ⟨[(14, .slice .none 5 (eTNode.F x10_2_0)), (16, .int .i64 x10_2_2), (17, .slice .none 5 (eTNode.F x11_2_0)), (19, .bool x11_2_2), (106, .bool ((((x10_2_0.length : Int)) != ((x11_2_0.length : Int))) || (x10_2_1 != x11_2_1)))], []⟩ (by decide) (by kernel_rfl) ?_
            refine SO.runB c0 16 ((((x10_2_0.length : Int)) != ((x11_2_0.length : Int))) || (x10_2_1 != x11_2_1)) (fun b => ⟨[(14, .slice .none 5 (eTNode.F x10_2_0)), (16, .int .i64 x10_2_2), (17, .slice .none 5 (eTNode.F x11_2_0)), (19, .bool x11_2_2), (106, .bool b)], []⟩) (fun b => ⟨[(14, .slice .none 5 (eTNode.F x10_2_0)), (16, .int .i64 x10_2_2), (17, .slice .none 5 (eTNode.F x11_2_0)), (19, .bool x11_2_2), (111, .bool (b || (!((x10_2_2 == 0) == x11_2_2))))], []⟩) (by decide) (by kernel_rfl) (by kernel_rfl) ?_
            refine SO.run c0 17 ⟨[(14, .slice .none 5 (eTNode.F x10_2_0)), (16, .int .i64 x10_2_2), (17, .slice .none 5 (eTNode.F x11_2_0)), (19, .bool x11_2_2), (112, .bool (((((x10_2_0.length : Int)) != ((x11_2_0.length : Int))) || (x10_2_1 != x11_2_1)) || (!((x10_2_2 == 0) == x11_2_2))))], []⟩ (by decide) (by kernel_rfl) ?_
            refine SO.meet 24 ⟨[(14, .slice .none 5 (eTNode.F x10_2_0)), (17, .slice .none 5 (eTNode.F x11_2_0)), (119, .bool ((((((x10_2_0.length : Int)) != ((x11_2_0.length : Int))) || (x10_2_1 != x11_2_1)) || (!((x10_2_2 == 0) == x11_2_2))) || ((!x11_2_2) && (x10_2_2 != 1))))], []⟩ (by decide) ?_ ?_
            · refine SO.bool (((((x10_2_0.length : Int)) != ((x11_2_0.length : Int))) || (x10_2_1 != x11_2_1)) || (!((x10_2_2 == 0) == x11_2_2))) (fun b => ⟨[(14, .slice .none 5 (eTNode.F x10_2_0)), (16, .int .i64 x10_2_2), (17, .slice .none 5 (eTNode.F x11_2_0)), (19, .bool x11_2_2), (112, .bool b)], []⟩) (fun ht0 => ?_) (fun ht0 => ?_)
              · refine SO.run c0 24 ⟨[(14, .slice .none 5 (eTNode.F x10_2_0)), (17, .slice .none 5 (eTNode.F x11_2_0)), (119, .bool true)], []⟩ (by decide) (by kernel_rfl) ?_
                exact SO.done (by (try rw [ht0]); kernel_rfl)
              · refine SO.run c0 20 ⟨[(14, .slice .none 5 (eTNode.F x10_2_0)), (16, .int .i64 x10_2_2), (17, .slice .none 5 (eTNode.F x11_2_0)), (112, .bool false), (115, .bool (!x11_2_2))], []⟩ (by decide) (by kernel_rfl) ?_
                refine SO.bool (!x11_2_2) (fun b => ⟨[(14, .slice .none 5 (eTNode.F x10_2_0)), (16, .int .i64 x10_2_2), (17, .slice .none 5 (eTNode.F x11_2_0)), (112, .bool false), (115, .bool b)], []⟩) (fun ht1 => ?_) (fun ht1 => ?_)
                · refine SO.run c0 24 ⟨[(14, .slice .none 5 (eTNode.F x10_2_0)), (17, .slice .none 5 (eTNode.F x11_2_0)), (119, .bool (x10_2_2 != 1))], []⟩ (by decide) (by kernel_rfl) ?_
                  exact SO.done (by (try rw [ht0]); (try rw [ht1]); kernel_rfl)
                · refine SO.run c0 24 ⟨[(14, .slice .none 5 (eTNode.F x10_2_0)), (17, .slice .none 5 (eTNode.F x11_2_0)), (119, .bool false)], []⟩ (by decide) (by kernel_rfl) ?_
                  exact SO.done (by (try rw [ht0]); (try rw [ht1]); kernel_rfl)
            · refine SO.done ?_
              refine SC.cond ((((((x10_2_0.length : Int)) != ((x11_2_0.length : Int))) || (x10_2_1 != x11_2_1)) || (!((x10_2_2 == 0) == x11_2_2))) || ((!x11_2_2) && (x10_2_2 != 1))) (by kernel_rfl) (fun ht => ?_) (fun ht => ?_)
              · replace h := Opt.t h ht
                refine SC.seq ?_
                refine SC.region 1 rfl ?_
                refine SO.run c0 1 ⟨[(4, .bool false)], []⟩ (by decide) (by kernel_rfl) ?_
                refine SO.done ?_
                refine SC.ret ?_
                replace h := Option.some.inj h
                subst h
                exact ⟨[.bool false], by kernel_rfl, Wk.eq (by kernel_rfl), trivial, by kernel_rfl⟩
              · replace h := Opt.f h ht
                refine SC.skip ?_
                apply SC.seqJ (r := r) h (fun v : Unit => ⟨[], []⟩)
                · rintro ⟨⟩ r h
                  refine SC.eqS (S1 := ⟨[], []⟩) rfl ?_
                  refine SC.seq ?_
                  refine SC.region 1 rfl ?_
                  refine SO.run c0 1 ⟨[(4, .bool true)], []⟩ (by decide) (by kernel_rfl) ?_
                  refine SO.done ?_
                  refine SC.ret ?_
                  replace h := Option.some.inj h
                  subst h
                  exact ⟨[.bool true], by kernel_rfl, Wk.eq (by kernel_rfl), trivial, by kernel_rfl⟩
                · intro j_j0 h
                  refine SC.seq ?_
                  refine SC.region 1 rfl ?_
                  refine SO.run c0 1 ⟨[(14, .slice .none 5 (eTNode.F x10_2_0)), (17, .slice .none 5 (eTNode.F x11_2_0)), (20, .int .i64 0)], []⟩ (by decide) (by kernel_rfl) ?_
                  refine SO.done ?_
                  refine SC.block ?_
                  apply SC.loopJ (r := r) h (fun v : Int => ⟨[(14, .slice .none 5 (eTNode.F x10_2_0)), (17, .slice .none 5 (eTNode.F x11_2_0)), (20, .int .i64 v)], []⟩)
                  rintro l1_20 r h
                  refine SC.eqS (S1 := ⟨[(14, .slice .none 5 (eTNode.F x10_2_0)), (17, .slice .none 5 (eTNode.F x11_2_0)), (20, .int .i64 l1_20)], []⟩) rfl ?_
                  refine SC.seq ?_
                  refine SC.seq ?_
                  refine SC.region 4 rfl ?_
                  refine SO.run c0 4 ⟨[(14, .slice .none 5 (eTNode.F x10_2_0)), (17, .slice .none 5 (eTNode.F x11_2_0)), (20, .int .i64 l1_20), (123, .bool (decide (l1_20 < ((x10_2_0.length : Int)))))], []⟩ (by decide) (Eq.trans (b := some ⟨[(14, .slice .none 5 (eTNode.F x10_2_0)), (17, .slice .none 5 (eTNode.F x11_2_0)), (20, .int .i64 l1_20), (123, .bool (decide (l1_20 < (((eTNode.F x10_2_0).length : Int)))))], []⟩) (by kernel_rfl) (by simp only [LE.len])) ?_
                  refine SO.done ?_
                  refine SC.cond (decide (l1_20 < ((x10_2_0.length : Int)))) (by kernel_rfl) (fun ht => ?_) (fun ht => ?_)
                  · replace h := Opt.t h ht
                    refine SC.skip ?_
                    refine SC.seq ?_
                    refine SC.block ?_
                    refine SC.seq ?_
                    refine SC.drawS 18 rfl (by kernel_rfl) ?_
                    refine QD.run 2 ⟨[(14, .slice .none 5 (eTNode.F x10_2_0)), (17, .slice .none 5 (eTNode.F x11_2_0)), (20, .int .i64 l1_20), (123, .bool (decide (l1_20 < ((x10_2_0.length : Int))))), (126, .slice .none 5 (eTNode.F x10_2_0)), (127, .int .i64 l1_20)], []⟩ (by decide) (by kernel_rfl) ?_
                    obtain ⟨x17_2, hx17_2, h⟩ := Opt.ex h
                    refine QD.op (.pin (cTNode x17_2)) ⟨[(14, .slice .none 5 (eTNode.F x10_2_0)), (17, .slice .none 5 (eTNode.F x11_2_0)), (20, .int .i64 l1_20), (123, .bool (decide (l1_20 < ((x10_2_0.length : Int))))), (126, .slice .none 5 (eTNode.F x10_2_0)), (127, .int .i64 l1_20), (128, .pin (cTNode x17_2))], []⟩ (by decide) (ixR eTNode 27 .none 5 x10_2_0 .i64 l1_20 x17_2 (cTNode x17_2) (by kernel_rfl) (by kernel_rfl) hx17_2 (xTNode x17_2)) (by kernel_rfl) ?_
                    refine QD.run 6 ⟨[(14, .slice .none 5 (eTNode.F x10_2_0)), (17, .slice .none 5 (eTNode.F x11_2_0)), (20, .int .i64 l1_20), (123, .bool (decide (l1_20 < ((x10_2_0.length : Int))))), (126, .slice .none 5 (eTNode.F x10_2_0)), (127, .int .i64 l1_20), (128, .pin (cTNode x17_2)), (129, .agg (cTNode x17_2)), (130, .slice .none 5 (eTNode.F x11_2_0)), (131, .int .i64 l1_20)], []⟩ (by decide) (by kernel_rfl) ?_
                    obtain ⟨x17_6, hx17_6, h⟩ := Opt.ex h
                    refine QD.op (.pin (cTNode x17_6)) ⟨[(14, .slice .none 5 (eTNode.F x10_2_0)), (17, .slice .none 5 (eTNode.F x11_2_0)), (20, .int .i64 l1_20), (123, .bool (decide (l1_20 < ((x10_2_0.length : Int))))), (126, .slice .none 5 (eTNode.F x10_2_0)), (127, .int .i64 l1_20), (128, .pin (cTNode x17_2)), (129, .agg (cTNode x17_2)), (130, .slice .none 5 (eTNode.F x11_2_0)), (131, .int .i64 l1_20), (132, .pin (cTNode x17_6))], []⟩ (by decide) (ixR eTNode 27 .none 5 x11_2_0 .i64 l1_20 x17_6 (cTNode x17_6) (by kernel_rfl) (by kernel_rfl) hx17_6 (xTNode x17_6)) (by kernel_rfl) ?_
                    refine QD.run 8 ⟨[(14, .slice .none 5 (eTNode.F x10_2_0)), (17, .slice .none 5 (eTNode.F x11_2_0)), (20, .int .i64 l1_20), (123, .bool (decide (l1_20 < ((x10_2_0.length : Int))))), (126, .slice .none 5 (eTNode.F x10_2_0)), (127, .int .i64 l1_20), (128, .pin (cTNode x17_2)), (129, .agg (cTNode x17_2)), (130, .slice .none 5 (eTNode.F x11_2_0)), (131, .int .i64 l1_20), (132, .pin (cTNode x17_6)), (133, .agg (cTNode x17_6))], []⟩ (by decide) (by kernel_rfl) ?_
                    obtain ⟨x17_8, hx17_8, h⟩ := Opt.ex h
                    refine QD.callT ⟨14, [.agg (cTNode x17_2), .agg (cTNode x17_6)], [], [], some 134⟩ ⟨[(14, .slice .none 5 (eTNode.F x10_2_0)), (17, .slice .none 5 (eTNode.F x11_2_0)), (20, .int .i64 l1_20), (123, .bool (decide (l1_20 < ((x10_2_0.length : Int))))), (126, .slice .none 5 (eTNode.F x10_2_0)), (127, .int .i64 l1_20), (128, .pin (cTNode x17_2)), (129, .agg (cTNode x17_2)), (130, .slice .none 5 (eTNode.F x11_2_0)), (131, .int .i64 l1_20), (132, .pin (cTNode x17_6)), (133, .agg (cTNode x17_6)), (134, .bool x17_8)], []⟩ (by decide) (by kernel_rfl) (ok_ref13_Placed k x17_2 x17_6 x17_8 hx17_8) (by kernel_rfl) (by kernel_rfl) (by kernel_rfl) ?_
                    refine QD.run 11 ⟨[(14, .slice .none 5 (eTNode.F x10_2_0)), (17, .slice .none 5 (eTNode.F x11_2_0)), (20, .int .i64 l1_20), (123, .bool (decide (l1_20 < ((x10_2_0.length : Int))))), (126, .slice .none 5 (eTNode.F x10_2_0)), (127, .int .i64 l1_20), (128, .pin (cTNode x17_2)), (129, .agg (cTNode x17_2)), (130, .slice .none 5 (eTNode.F x11_2_0)), (131, .int .i64 l1_20), (132, .pin (cTNode x17_6)), (133, .agg (cTNode x17_6)), (134, .bool x17_8), (135, .bool (!x17_8)), (136, .bool (!x17_8))], []⟩ (by decide) (by kernel_rfl) ?_
                    refine QD.joinJ h (fun v : Bool => ⟨[(14, .slice .none 5 (eTNode.F x10_2_0)), (17, .slice .none 5 (eTNode.F x11_2_0)), (20, .int .i64 l1_20), (143, .bool v)], []⟩) 18 (by decide) (fun v => by kernel_rfl) ?_ ?_
                    · rintro g17_17_143 h
                      refine QD.eqS (S1 := ⟨[(14, .slice .none 5 (eTNode.F x10_2_0)), (17, .slice .none 5 (eTNode.F x11_2_0)), (20, .int .i64 l1_20), (143, .bool g17_17_143)], []⟩) rfl ?_
                      refine QD.fin ⟨[(14, .slice .none 5 (eTNode.F x10_2_0)), (17, .slice .none 5 (eTNode.F x11_2_0)), (20, .int .i64 l1_20), (143, .bool g17_17_143)], []⟩ (by kernel_rfl) ?_
                      refine SC.cond g17_17_143 (by kernel_rfl) (fun ht => ?_) (fun ht => ?_)
                      · replace h := Opt.t h ht
                        refine SC.seq ?_
                        refine SC.region 1 rfl ?_
                        refine SO.run c0 1 ⟨[(4, .bool false)], []⟩ (by decide) (by kernel_rfl) ?_
                        refine SO.done ?_
                        refine SC.ret ?_
                        replace h := Option.some.inj h
                        subst h
                        refine ⟨_, rfl, ?_⟩
                        exact ⟨[.bool false], by kernel_rfl, Wk.eq (by kernel_rfl), trivial, by kernel_rfl⟩
                      · replace h := Opt.f h ht
                        refine SC.skip ?_
                        refine SC.region 3 rfl ?_
                        refine SO.run c0 3 ⟨[(14, .slice .none 5 (eTNode.F x10_2_0)), (17, .slice .none 5 (eTNode.F x11_2_0)), (20, .int .i64 (IntKind.i64.wrap (l1_20 + 1)))], []⟩ (by decide) (by kernel_rfl) ?_
                        refine SO.done ?_
                        replace h := Option.some.inj h
                        subst h
                        exact ⟨(IntKind.i64.wrap (l1_20 + 1)), rfl, rfl⟩
                    · intro j_g17_17 h
                      refine QD.bool (!x17_8) (fun b => ⟨[(14, .slice .none 5 (eTNode.F x10_2_0)), (17, .slice .none 5 (eTNode.F x11_2_0)), (20, .int .i64 l1_20), (123, .bool (decide (l1_20 < ((x10_2_0.length : Int))))), (126, .slice .none 5 (eTNode.F x10_2_0)), (127, .int .i64 l1_20), (128, .pin (cTNode x17_2)), (129, .agg (cTNode x17_2)), (130, .slice .none 5 (eTNode.F x11_2_0)), (131, .int .i64 l1_20), (132, .pin (cTNode x17_6)), (133, .agg (cTNode x17_6)), (134, .bool x17_8), (135, .bool (!x17_8)), (136, .bool b)], []⟩) (fun ht => ?_) (fun ht => ?_)
                      · replace h := Opt.t h ht
                        refine QD.run 18 ⟨[(14, .slice .none 5 (eTNode.F x10_2_0)), (17, .slice .none 5 (eTNode.F x11_2_0)), (20, .int .i64 l1_20), (123, .bool (decide (l1_20 < ((x10_2_0.length : Int))))), (126, .slice .none 5 (eTNode.F x10_2_0)), (127, .int .i64 l1_20), (128, .pin (cTNode x17_2)), (129, .agg (cTNode x17_2)), (130, .slice .none 5 (eTNode.F x11_2_0)), (131, .int .i64 l1_20), (132, .pin (cTNode x17_6)), (133, .agg (cTNode x17_6)), (134, .bool x17_8), (135, .bool (!x17_8)), (136, .bool true), (137, .tuple []), (138, .tuple []), (139, .tuple []), (140, .tuple []), (141, .tuple []), (142, .tuple []), (143, .bool true)], []⟩ (by decide) (by kernel_rfl) ?_
                        exact QD.done ⟨true, ⟨by kernel_rfl, rfl⟩, h⟩
                      · replace h := Opt.f h ht
                        refine QD.run 13 ⟨[(14, .slice .none 5 (eTNode.F x10_2_0)), (17, .slice .none 5 (eTNode.F x11_2_0)), (20, .int .i64 l1_20), (123, .bool (decide (l1_20 < ((x10_2_0.length : Int))))), (126, .slice .none 5 (eTNode.F x10_2_0)), (127, .int .i64 l1_20), (128, .pin (cTNode x17_2)), (129, .agg (cTNode x17_2)), (130, .slice .none 5 (eTNode.F x11_2_0)), (131, .int .i64 l1_20), (132, .pin (cTNode x17_6)), (133, .agg (cTNode x17_6)), (134, .bool x17_8), (135, .bool (!x17_8)), (136, .bool false), (137, .slice .none 5 (eTNode.F x10_2_0)), (138, .int .i64 l1_20)], []⟩ (by decide) (by kernel_rfl) ?_
                        obtain ⟨x17_13, hx17_13, h⟩ := Opt.ex h
                        refine QD.op (.pin (cTNode x17_13)) ⟨[(14, .slice .none 5 (eTNode.F x10_2_0)), (17, .slice .none 5 (eTNode.F x11_2_0)), (20, .int .i64 l1_20), (123, .bool (decide (l1_20 < ((x10_2_0.length : Int))))), (126, .slice .none 5 (eTNode.F x10_2_0)), (127, .int .i64 l1_20), (128, .pin (cTNode x17_2)), (129, .agg (cTNode x17_2)), (130, .slice .none 5 (eTNode.F x11_2_0)), (131, .int .i64 l1_20), (132, .pin (cTNode x17_6)), (133, .agg (cTNode x17_6)), (134, .bool x17_8), (135, .bool (!x17_8)), (136, .bool false), (137, .slice .none 5 (eTNode.F x10_2_0)), (138, .int .i64 l1_20), (139, .pin (cTNode x17_13))], []⟩ (by decide) (ixR eTNode 27 .none 5 x10_2_0 .i64 l1_20 x17_13 (cTNode x17_13) (by kernel_rfl) (by kernel_rfl) hx17_13 (xTNode x17_13)) (by kernel_rfl) ?_
                        refine QD.run 15 ⟨[(14, .slice .none 5 (eTNode.F x10_2_0)), (17, .slice .none 5 (eTNode.F x11_2_0)), (20, .int .i64 l1_20), (123, .bool (decide (l1_20 < ((x10_2_0.length : Int))))), (126, .slice .none 5 (eTNode.F x10_2_0)), (127, .int .i64 l1_20), (128, .pin (cTNode x17_2)), (129, .agg (cTNode x17_2)), (130, .slice .none 5 (eTNode.F x11_2_0)), (131, .int .i64 l1_20), (132, .pin (cTNode x17_6)), (133, .agg (cTNode x17_6)), (134, .bool x17_8), (135, .bool (!x17_8)), (136, .bool false), (137, .slice .none 5 (eTNode.F x10_2_0)), (138, .int .i64 l1_20), (139, .pin (cTNode x17_13)), (140, .agg (cTNode x17_13))], []⟩ (by decide) (by kernel_rfl) ?_
                        obtain ⟨x17_15, hx17_15, h⟩ := Opt.ex h
                        refine QD.callT ⟨15, [.agg (cTNode x17_13)], [], [], some 141⟩ ⟨[(14, .slice .none 5 (eTNode.F x10_2_0)), (17, .slice .none 5 (eTNode.F x11_2_0)), (20, .int .i64 l1_20), (123, .bool (decide (l1_20 < ((x10_2_0.length : Int))))), (126, .slice .none 5 (eTNode.F x10_2_0)), (127, .int .i64 l1_20), (128, .pin (cTNode x17_2)), (129, .agg (cTNode x17_2)), (130, .slice .none 5 (eTNode.F x11_2_0)), (131, .int .i64 l1_20), (132, .pin (cTNode x17_6)), (133, .agg (cTNode x17_6)), (134, .bool x17_8), (135, .bool (!x17_8)), (136, .bool false), (137, .slice .none 5 (eTNode.F x10_2_0)), (138, .int .i64 l1_20), (139, .pin (cTNode x17_13)), (140, .agg (cTNode x17_13)), (141, .bool x17_15)], []⟩ (by decide) (by kernel_rfl) (ok_ref11_Expr k x17_13 x17_15 hx17_15) (by kernel_rfl) (by kernel_rfl) (by kernel_rfl) ?_
                        refine QD.run 18 ⟨[(14, .slice .none 5 (eTNode.F x10_2_0)), (17, .slice .none 5 (eTNode.F x11_2_0)), (20, .int .i64 l1_20), (123, .bool (decide (l1_20 < ((x10_2_0.length : Int))))), (126, .slice .none 5 (eTNode.F x10_2_0)), (127, .int .i64 l1_20), (128, .pin (cTNode x17_2)), (129, .agg (cTNode x17_2)), (130, .slice .none 5 (eTNode.F x11_2_0)), (131, .int .i64 l1_20), (132, .pin (cTNode x17_6)), (133, .agg (cTNode x17_6)), (134, .bool x17_8), (135, .bool (!x17_8)), (136, .bool false), (137, .slice .none 5 (eTNode.F x10_2_0)), (138, .int .i64 l1_20), (139, .pin (cTNode x17_13)), (140, .agg (cTNode x17_13)), (141, .bool x17_15), (142, .bool (!x17_15)), (143, .bool (!x17_15))], []⟩ (by decide) (by kernel_rfl) ?_
                        exact QD.done ⟨(!x17_15), ⟨by kernel_rfl, rfl⟩, h⟩
                  · replace h := Opt.f h ht
                    refine SC.weak (S1 := ⟨[], []⟩) ?_ ?_
                    · exact ⟨trivial, trivial, by kernel_rfl⟩
                    refine SC.exit ?_
                    obtain ⟨r1, hh, e1⟩ := Opt.inr h
                    clear h
                    subst e1
                    have h := hh
                    clear hh
                    refine ⟨_, rfl, ?_⟩
                    exact ⟨(), rfl, h⟩
        · intro j_g8_30 h
          refine SO.bool ((((!x8_2) || (x6_2_1 != x7_2_1)) || (!((x6_2_2 == 0) == x7_2_2))) || ((!x7_2_2) && (x6_2_2 != 1))) (fun b => ⟨[(1, .int .i64 a1), (5, .slice .none 4 (eTToken.F x3_1_0)), (8, .ptr (.loc 8) 0), (13, .bool x7_2_2), (74, .bool b)], [(.loc 8, .cells true (cTNode x6_2_0))]⟩) (fun ht => ?_) (fun ht => ?_)
          · replace h := Opt.t h ht
            refine SO.run c0 31 ⟨[(1, .int .i64 a1), (5, .slice .none 4 (eTToken.F x3_1_0)), (81, .bool true)], []⟩ (by decide) (by kernel_rfl) ?_
            exact SO.done ⟨true, rfl, h⟩
          · replace h := Opt.f h ht
            refine SO.run c0 26 ⟨[(1, .int .i64 a1), (5, .slice .none 4 (eTToken.F x3_1_0)), (8, .ptr (.loc 8) 0), (74, .bool false), (76, .bool x7_2_2)], [(.loc 8, .cells true (cTNode x6_2_0))]⟩ (by decide) (by kernel_rfl) ?_
            refine SO.joinK h (fun v : Bool => ⟨[(1, .int .i64 a1), (5, .slice .none 4 (eTToken.F x3_1_0)), (74, .bool false), (80, .bool v)], []⟩) 30 (by decide) ?_ ?_
            · rintro g8_29_80 h
              refine SO.eqS (S1 := ⟨[(1, .int .i64 a1), (5, .slice .none 4 (eTToken.F x3_1_0)), (74, .bool false), (80, .bool g8_29_80)], []⟩) rfl ?_
              refine SO.run c0 31 ⟨[(1, .int .i64 a1), (5, .slice .none 4 (eTToken.F x3_1_0)), (81, .bool g8_29_80)], []⟩ (by decide) (by kernel_rfl) ?_
              exact SO.done ⟨g8_29_80, rfl, h⟩
            · intro j_g8_29 h
              refine SO.bool x7_2_2 (fun b => ⟨[(1, .int .i64 a1), (5, .slice .none 4 (eTToken.F x3_1_0)), (8, .ptr (.loc 8) 0), (74, .bool false), (76, .bool b)], [(.loc 8, .cells true (cTNode x6_2_0))]⟩) (fun ht => ?_) (fun ht => ?_)
              · replace h := Opt.t h ht
                refine SO.run c0 27 ⟨[(1, .int .i64 a1), (5, .slice .none 4 (eTToken.F x3_1_0)), (74, .bool false), (76, .bool true), (77, .agg (cTNode x6_2_0))], []⟩ (by decide) (by kernel_rfl) ?_
                obtain ⟨x8_27, hx8_27, h⟩ := Opt.ex h
                refine SO.call ⟨18, [.agg (cTNode x6_2_0)], [], [], some 78⟩ ⟨[(1, .int .i64 a1), (5, .slice .none 4 (eTToken.F x3_1_0)), (74, .bool false), (76, .bool true), (78, .bool x8_27)], []⟩ (by decide) (by kernel_rfl) (ok_ref11_Type k x6_2_0 x8_27 hx8_27) (by kernel_rfl) ?_
                refine SO.run c0 30 ⟨[(1, .int .i64 a1), (5, .slice .none 4 (eTToken.F x3_1_0)), (74, .bool false), (80, .bool (!x8_27))], []⟩ (by decide) (by kernel_rfl) ?_
                exact SO.done ⟨(!x8_27), rfl, h⟩
              · replace h := Opt.f h ht
                refine SO.run c0 30 ⟨[(1, .int .i64 a1), (5, .slice .none 4 (eTToken.F x3_1_0)), (74, .bool false), (80, .bool false)], []⟩ (by decide) (by kernel_rfl) ?_
                exact SO.done ⟨false, rfl, h⟩
theorem ok_law13_ExprGoesOn (k : Nat) (a0 : List UInt8) (a1 : List UInt8) (r : Bool) (h : law13_ExprGoesOn k a0 a1 = some r) :
    SF Z 4 [.str a0, .str a1] [] (.bool r) [] := by
  unfold law13_ExprGoesOn at h
  refine SF.intro Tryd.func4 rfl Tryd.ntmps4 rfl (Nat.le_of_ble_eq_true rfl) (by decide) ?_
  refine SC.seq ?_
  refine SC.region 1 rfl ?_
  refine SO.run c0 1 ⟨[(0, .str a0), (1, .str a1)], []⟩ (by decide) (by kernel_rfl) ?_
  refine SO.done ?_
  refine SC.seq ?_
  refine SC.seq ?_
  refine SC.region 12 rfl ?_
  obtain ⟨x1_0, hx1_0, h⟩ := Opt.ex h
  refine SO.call ⟨10, [], [], [], some 17⟩ ⟨[(0, .str a0), (1, .str a1), (17, .bool x1_0)], []⟩ (by decide) (by kernel_rfl) (ok_law13_works k x1_0 hx1_0) (by kernel_rfl) ?_
  refine SO.run c0 3 ⟨[(0, .str a0), (1, .str a1), (19, .bool (!x1_0))], []⟩ (by decide) (by kernel_rfl) ?_
  refine SO.runB c0 7 (!x1_0) (fun b => ⟨[(0, .str a0), (1, .str a1), (19, .bool b)], []⟩) (fun b => ⟨[(0, .str a0), (1, .str a1), (23, .bool (b || (decide (((a0.length : Int)) > 300))))], []⟩) (by decide) (by kernel_rfl) (by kernel_rfl) ?_
  refine SO.run c0 8 ⟨[(0, .str a0), (1, .str a1), (24, .bool ((!x1_0) || (decide (((a0.length : Int)) > 300))))], []⟩ (by decide) (by kernel_rfl) ?_
  refine SO.runB c0 12 ((!x1_0) || (decide (((a0.length : Int)) > 300))) (fun b => ⟨[(0, .str a0), (1, .str a1), (24, .bool b)], []⟩) (fun b => ⟨[(0, .str a0), (1, .str a1), (28, .bool (b || (decide (((a1.length : Int)) > 100))))], []⟩) (by decide) (by kernel_rfl) (by kernel_rfl) ?_
  refine SO.done ?_
  refine SC.cond (((!x1_0) || (decide (((a0.length : Int)) > 300))) || (decide (((a1.length : Int)) > 100))) (by kernel_rfl) (fun ht => ?_) (fun ht => ?_)
  · replace h := Opt.t h ht
    refine SC.seq ?_
    refine SC.region 2 rfl ?_
    obtain ⟨x2_0, hx2_0, h⟩ := Opt.ex h
    refine SO.call ⟨10, [], [], [], some 29⟩ ⟨[(29, .bool x2_0)], []⟩ (by decide) (by kernel_rfl) (ok_law13_works k x2_0 hx2_0) (by kernel_rfl) ?_
    refine SO.run c0 2 ⟨[(4, .bool x2_0)], []⟩ (by decide) (by kernel_rfl) ?_
    refine SO.done ?_
    refine SC.ret ?_
    replace h := Option.some.inj h
    subst h
    exact ⟨[.bool x2_0], by kernel_rfl, Wk.eq (by kernel_rfl), trivial, by kernel_rfl⟩
  · replace h := Opt.f h ht
    refine SC.skip ?_
    refine SC.seq ?_
    refine SC.region 9 rfl ?_
    refine SO.run c0 1 ⟨[(1, .str a1), (31, .str a0)], []⟩ (by decide) (by kernel_rfl) ?_
    obtain ⟨⟨x3_1_0, x3_1_1, x3_1_2⟩, hx3_1, h⟩ := Opt.ex h
    refine SO.call ⟨11, [.str a0], [], [], some 32⟩ ⟨[(1, .str a1), (32, .tuple [.slice .none 4 (eTToken.F x3_1_0), .int .i64 x3_1_1, .int .i64 x3_1_2])], []⟩ (by decide) (by kernel_rfl) (ok_ref10_All k a0 (x3_1_0, x3_1_1, x3_1_2) hx3_1) (by kernel_rfl) ?_
    refine SO.run c0 9 ⟨[(1, .str a1), (5, .slice .none 4 (eTToken.F x3_1_0)), (7, .int .i64 x3_1_2)], []⟩ (by decide) (by kernel_rfl) ?_
    refine SO.done ?_
    refine SC.seq ?_
    refine SC.region 9 rfl ?_
    refine SO.run c0 1 ⟨[(5, .slice .none 4 (eTToken.F x3_1_0)), (7, .int .i64 x3_1_2), (37, .str a1)], []⟩ (by decide) (by kernel_rfl) ?_
    obtain ⟨⟨x4_1_0, x4_1_1, x4_1_2⟩, hx4_1, h⟩ := Opt.ex h
    refine SO.call ⟨11, [.str a1], [], [], some 38⟩ ⟨[(5, .slice .none 4 (eTToken.F x3_1_0)), (7, .int .i64 x3_1_2), (38, .tuple [.slice .none 4 (eTToken.F x4_1_0), .int .i64 x4_1_1, .int .i64 x4_1_2])], []⟩ (by decide) (by kernel_rfl) (ok_ref10_All k a1 (x4_1_0, x4_1_1, x4_1_2) hx4_1) (by kernel_rfl) ?_
    refine SO.run c0 9 ⟨[(5, .slice .none 4 (eTToken.F x3_1_0)), (7, .int .i64 x3_1_2), (8, .slice .none 4 (eTToken.F x4_1_0)), (10, .int .i64 x4_1_2)], []⟩ (by decide) (by kernel_rfl) ?_
    refine SO.done ?_
    refine SC.seq ?_
    refine SC.seq ?_
    refine SC.region 11 rfl ?_
    refine SO.run c0 3 ⟨[(5, .slice .none 4 (eTToken.F x3_1_0)), (8, .slice .none 4 (eTToken.F x4_1_0)), (10, .int .i64 x4_1_2), (44, .bool (x3_1_2 != 0))], []⟩ (by decide) (by kernel_rfl) ?_
    refine SO.runB c0 6 (x3_1_2 != 0) (fun b => ⟨[(5, .slice .none 4 (eTToken.F x3_1_0)), (8, .slice .none 4 (eTToken.F x4_1_0)), (10, .int .i64 x4_1_2), (44, .bool b)], []⟩) (fun b => ⟨[(5, .slice .none 4 (eTToken.F x3_1_0)), (8, .slice .none 4 (eTToken.F x4_1_0)), (47, .bool (b || (x4_1_2 != 0)))], []⟩) (by decide) (by kernel_rfl) (by kernel_rfl) ?_
    refine SO.run c0 7 ⟨[(5, .slice .none 4 (eTToken.F x3_1_0)), (8, .slice .none 4 (eTToken.F x4_1_0)), (48, .bool ((x3_1_2 != 0) || (x4_1_2 != 0)))], []⟩ (by decide) (by kernel_rfl) ?_
    refine SO.runB c0 11 ((x3_1_2 != 0) || (x4_1_2 != 0)) (fun b => ⟨[(5, .slice .none 4 (eTToken.F x3_1_0)), (8, .slice .none 4 (eTToken.F x4_1_0)), (48, .bool b)], []⟩) (fun b => ⟨[(5, .slice .none 4 (eTToken.F x3_1_0)), (8, .slice .none 4 (eTToken.F x4_1_0)), (52, .bool (b || (((x3_1_0.length : Int)) == 0)))], []⟩) (by decide) (Eq.trans (b := some ⟨[(5, .slice .none 4 (eTToken.F x3_1_0)), (8, .slice .none 4 (eTToken.F x4_1_0)), (52, .bool (true || ((((eTToken.F x3_1_0).length : Int)) == 0)))], []⟩) (by kernel_rfl) (by simp only [LE.len])) (Eq.trans (b := some ⟨[(5, .slice .none 4 (eTToken.F x3_1_0)), (8, .slice .none 4 (eTToken.F x4_1_0)), (52, .bool (false || ((((eTToken.F x3_1_0).length : Int)) == 0)))], []⟩) (by kernel_rfl) (by simp only [LE.len])) ?_
    refine SO.done ?_
    refine SC.cond (((x3_1_2 != 0) || (x4_1_2 != 0)) || (((x3_1_0.length : Int)) == 0)) (by kernel_rfl) (fun ht => ?_) (fun ht => ?_)
    · replace h := Opt.t h ht
      refine SC.seq ?_
      refine SC.region 1 rfl ?_
      refine SO.run c0 1 ⟨[(4, .bool true)], []⟩ (by decide) (by kernel_rfl) ?_
      refine SO.done ?_
      refine SC.ret ?_
      replace h := Option.some.inj h
      subst h
      exact ⟨[.bool true], by kernel_rfl, Wk.eq (by kernel_rfl), trivial, by kernel_rfl⟩
    · replace h := Opt.f h ht
      refine SC.skip ?_
      refine SC.seq ?_
      refine SC.region 10 rfl ?_
      refine SO.run c0 1 ⟨[(5, .slice .none 4 (eTToken.F x3_1_0)), (8, .slice .none 4 (eTToken.F x4_1_0)), (54, .slice .none 4 (eTToken.F x3_1_0))], []⟩ (by decide) (by kernel_rfl) ?_
      obtain ⟨⟨x7_1_0, x7_1_1, x7_1_2⟩, hx7_1, h⟩ := Opt.ex h
      refine SO.call ⟨12, [.slice .none 4 (eTToken.F x3_1_0), .int .i64 0], [], [], some 55⟩ ⟨[(5, .slice .none 4 (eTToken.F x3_1_0)), (8, .slice .none 4 (eTToken.F x4_1_0)), (55, .tuple [.agg (cTNode x7_1_0), .int .i64 x7_1_1, .int .i64 x7_1_2])], []⟩ (by decide) (by kernel_rfl) (ok_expr_Expr k x3_1_0 0 (x7_1_0, x7_1_1, x7_1_2) hx7_1) (by kernel_rfl) ?_
      refine SO.run c0 10 ⟨[(5, .slice .none 4 (eTToken.F x3_1_0)), (8, .slice .none 4 (eTToken.F x4_1_0)), (12, .int .i64 x7_1_1), (13, .int .i64 x7_1_2)], []⟩ (by decide) (by kernel_rfl) ?_
      refine SO.done ?_
      refine SC.seq ?_
      refine SC.seq ?_
      refine SC.region 9 rfl ?_
      refine SO.run c0 3 ⟨[(5, .slice .none 4 (eTToken.F x3_1_0)), (8, .slice .none 4 (eTToken.F x4_1_0)), (12, .int .i64 x7_1_1), (61, .bool (x7_1_2 == 0))], []⟩ (by decide) (by kernel_rfl) ?_
      refine SO.runB c0 9 (x7_1_2 == 0) (fun b => ⟨[(5, .slice .none 4 (eTToken.F x3_1_0)), (8, .slice .none 4 (eTToken.F x4_1_0)), (12, .int .i64 x7_1_1), (61, .bool b)], []⟩) (fun b => ⟨[(5, .slice .none 4 (eTToken.F x3_1_0)), (8, .slice .none 4 (eTToken.F x4_1_0)), (12, .int .i64 x7_1_1), (67, .bool (b || (decide (x7_1_1 ≥ (IntKind.i64.wrap (((x3_1_0.length : Int)) - 1))))))], []⟩) (by decide) (Eq.trans (b := some ⟨[(5, .slice .none 4 (eTToken.F x3_1_0)), (8, .slice .none 4 (eTToken.F x4_1_0)), (12, .int .i64 x7_1_1), (67, .bool (true || (decide (x7_1_1 ≥ (IntKind.i64.wrap ((((eTToken.F x3_1_0).length : Int)) - 1))))))], []⟩) (by kernel_rfl) (by simp only [LE.len])) (Eq.trans (b := some ⟨[(5, .slice .none 4 (eTToken.F x3_1_0)), (8, .slice .none 4 (eTToken.F x4_1_0)), (12, .int .i64 x7_1_1), (67, .bool (false || (decide (x7_1_1 ≥ (IntKind.i64.wrap ((((eTToken.F x3_1_0).length : Int)) - 1))))))], []⟩) (by kernel_rfl) (by simp only [LE.len])) ?_
      refine SO.done ?_
      refine SC.cond ((x7_1_2 == 0) || (decide (x7_1_1 ≥ (IntKind.i64.wrap (((x3_1_0.length : Int)) - 1))))) (by kernel_rfl) (fun ht => ?_) (fun ht => ?_)
      · replace h := Opt.t h ht
        refine SC.seq ?_
        refine SC.region 1 rfl ?_
        refine SO.run c0 1 ⟨[(4, .bool true)], []⟩ (by decide) (by kernel_rfl) ?_
        refine SO.done ?_
        refine SC.ret ?_
        replace h := Option.some.inj h
        subst h
        exact ⟨[.bool true], by kernel_rfl, Wk.eq (by kernel_rfl), trivial, by kernel_rfl⟩
      · replace h := Opt.f h ht
        refine SC.skip ?_
        refine SC.seq ?_
        refine SC.region 18 rfl ?_
        refine SO.run c0 5 ⟨[(8, .slice .none 4 (eTToken.F x4_1_0)), (12, .int .i64 x7_1_1), (69, .slice .full 4 (eTToken.F [])), (70, .slice .none 4 (eTToken.F x3_1_0)), (73, .int .i64 (IntKind.i64.wrap (((x3_1_0.length : Int)) - 1)))], []⟩ (by decide) (Eq.trans (b := some ⟨[(8, .slice .none 4 (eTToken.F x4_1_0)), (12, .int .i64 x7_1_1), (69, .slice .full 4 (eTToken.F [])), (70, .slice .none 4 (eTToken.F x3_1_0)), (73, .int .i64 (IntKind.i64.wrap ((((eTToken.F x3_1_0).length : Int)) - 1)))], []⟩) (by kernel_rfl) (by simp only [LE.len])) ?_
        obtain ⟨x10_5, hx10_5, h⟩ := Opt.ex h
        refine SO.op c0 { v := .slice .none 4 (eTToken.F x10_5) } ⟨[(8, .slice .none 4 (eTToken.F x4_1_0)), (12, .int .i64 x7_1_1), (69, .slice .full 4 (eTToken.F [])), (74, .slice .none 4 (eTToken.F x10_5))], []⟩ (by decide) (slN eTToken 4 x10_5 (slR eTToken 23 .none 4 x3_1_0 .i64 .i64 none (some (IntKind.i64.wrap (((x3_1_0.length : Int)) - 1))) x10_5 (by kernel_rfl) (by kernel_rfl) hx10_5) (ite_self _)) (by kernel_rfl) ?_
        refine SO.begin (.loc 69) 4 69 none ⟨[(8, .slice .none 4 (eTToken.F x4_1_0)), (12, .int .i64 x7_1_1), (69, .slice (.buf (.loc 69)) 4 (eTToken.F [])), (74, .slice .none 4 (eTToken.F x10_5))], [(.loc 69, .buf 4 0)]⟩ (by kernel_rfl) ?_
        obtain ⟨hr, h⟩ := Opt.g h
        refine SO.op c0 { v := .slice (.buf (.loc 69)) 4 (eTToken.F ([] ++ x10_5)), ws := [(.loc 69, .buf 4 (([] ++ x10_5).length))], rd := [.loc 69] } ⟨[(8, .slice .none 4 (eTToken.F x4_1_0)), (12, .int .i64 x7_1_1), (75, .slice (.buf (.loc 69)) 4 (eTToken.F ([] ++ x10_5)))], [(.loc 69, .buf 4 (([] ++ x10_5).length))]⟩ (by decide) (apB eTToken false 75 [(.loc 69, .buf 4 0)] 23 23 (.loc 69) 4 40 [] x10_5 .none (by kernel_rfl) (by kernel_rfl) (by kernel_rfl) hr) (by kernel_rfl) ?_
        refine SO.run c0 8 ⟨[(12, .int .i64 x7_1_1), (75, .slice (.buf (.loc 69)) 4 (eTToken.F ([] ++ x10_5))), (76, .slice .none 4 (eTToken.F x4_1_0))], [(.loc 69, .buf 4 (([] ++ x10_5).length))]⟩ (by decide) (by kernel_rfl) ?_
        obtain ⟨hr, h⟩ := Opt.g h
        refine SO.op c0 { v := .slice (.buf (.loc 69)) 4 (eTToken.F (([] ++ x10_5) ++ x4_1_0)), ws := [(.loc 69, .buf 4 ((([] ++ x10_5) ++ x4_1_0).length))], rd := [.loc 69] } ⟨[(12, .int .i64 x7_1_1), (77, .slice (.buf (.loc 69)) 4 (eTToken.F (([] ++ x10_5) ++ x4_1_0)))], [(.loc 69, .buf 4 ((([] ++ x10_5) ++ x4_1_0).length))]⟩ (by decide) (apB eTToken false 77 [(.loc 69, .buf 4 (([] ++ x10_5).length))] 23 23 (.loc 69) 4 40 ([] ++ x10_5) x4_1_0 .none (by kernel_rfl) (by kernel_rfl) (by kernel_rfl) hr) (by kernel_rfl) ?_
        obtain ⟨⟨x10_9_0, x10_9_1, x10_9_2⟩, hx10_9, h⟩ := Opt.ex h
        refine SO.call ⟨12, [.slice .none 4 (eTToken.F (([] ++ x10_5) ++ x4_1_0)), .int .i64 0], [], [], some 78⟩ ⟨[(12, .int .i64 x7_1_1), (78, .tuple [.agg (cTNode x10_9_0), .int .i64 x10_9_1, .int .i64 x10_9_2])], []⟩ (by decide) (by kernel_rfl) (ok_expr_Expr k (([] ++ x10_5) ++ x4_1_0) 0 (x10_9_0, x10_9_1, x10_9_2) hx10_9) (by kernel_rfl) ?_
        refine SO.run c0 18 ⟨[(12, .int .i64 x7_1_1), (15, .int .i64 x10_9_1), (16, .int .i64 x10_9_2)], []⟩ (by decide) (by kernel_rfl) ?_
        refine SO.done ?_
        refine SC.seq ?_
        refine SC.region 8 rfl ?_
        refine SO.run c0 3 ⟨[(12, .int .i64 x7_1_1), (15, .int .i64 x10_9_1), (84, .bool (x10_9_2 == 1))], []⟩ (by decide) (by kernel_rfl) ?_
        refine SO.runB c0 7 (x10_9_2 == 1) (fun b => ⟨[(12, .int .i64 x7_1_1), (15, .int .i64 x10_9_1), (84, .bool b)], []⟩) (fun b => ⟨[(88, .bool (b && (x10_9_1 == x7_1_1)))], []⟩) (by decide) (by kernel_rfl) (by kernel_rfl) ?_
        refine SO.run c0 8 ⟨[(4, .bool ((x10_9_2 == 1) && (x10_9_1 == x7_1_1)))], []⟩ (by decide) (by kernel_rfl) ?_
        refine SO.done ?_
        refine SC.ret ?_
        replace h := Option.some.inj h
        subst h
        exact ⟨[.bool ((x10_9_2 == 1) && (x10_9_1 == x7_1_1))], by kernel_rfl, Wk.eq (by kernel_rfl), trivial, by kernel_rfl⟩
theorem ok_law13_ExprReads (k : Nat) (a0 : List UInt8) (a1 : Int) (r : Bool) (h : law13_ExprReads k a0 a1 = some r) :
    SF Z 3 [.str a0, .int .i64 a1] [] (.bool r) [] := by
  unfold law13_ExprReads at h
  refine SF.intro Tryd.func3 rfl Tryd.ntmps3 rfl (Nat.le_of_ble_eq_true rfl) (by decide) ?_
  refine SC.seq ?_
  refine SC.region 1 rfl ?_
  refine SO.run c0 1 ⟨[(0, .str a0), (1, .int .i64 a1)], []⟩ (by decide) (by kernel_rfl) ?_
  refine SO.done ?_
  refine SC.seq ?_
  refine SC.seq ?_
  refine SC.region 7 rfl ?_
  obtain ⟨x1_0, hx1_0, h⟩ := Opt.ex h
  refine SO.call ⟨10, [], [], [], some 14⟩ ⟨[(0, .str a0), (1, .int .i64 a1), (14, .bool x1_0)], []⟩ (by decide) (by kernel_rfl) (ok_law13_works k x1_0 hx1_0) (by kernel_rfl) ?_
  refine SO.run c0 3 ⟨[(0, .str a0), (1, .int .i64 a1), (16, .bool (!x1_0))], []⟩ (by decide) (by kernel_rfl) ?_
  refine SO.runB c0 7 (!x1_0) (fun b => ⟨[(0, .str a0), (1, .int .i64 a1), (16, .bool b)], []⟩) (fun b => ⟨[(0, .str a0), (1, .int .i64 a1), (20, .bool (b || (decide (((a0.length : Int)) > 400))))], []⟩) (by decide) (by kernel_rfl) (by kernel_rfl) ?_
  refine SO.done ?_
  refine SC.cond ((!x1_0) || (decide (((a0.length : Int)) > 400))) (by kernel_rfl) (fun ht => ?_) (fun ht => ?_)
  · replace h := Opt.t h ht
    refine SC.seq ?_
    refine SC.region 2 rfl ?_
    obtain ⟨x2_0, hx2_0, h⟩ := Opt.ex h
    refine SO.call ⟨10, [], [], [], some 21⟩ ⟨[(21, .bool x2_0)], []⟩ (by decide) (by kernel_rfl) (ok_law13_works k x2_0 hx2_0) (by kernel_rfl) ?_
    refine SO.run c0 2 ⟨[(4, .bool x2_0)], []⟩ (by decide) (by kernel_rfl) ?_
    refine SO.done ?_
    refine SC.ret ?_
    replace h := Option.some.inj h
    subst h
    exact ⟨[.bool x2_0], by kernel_rfl, Wk.eq (by kernel_rfl), trivial, by kernel_rfl⟩
  · replace h := Opt.f h ht
    refine SC.skip ?_
    refine SC.seq ?_
    refine SC.region 9 rfl ?_
    refine SO.run c0 1 ⟨[(1, .int .i64 a1), (23, .str a0)], []⟩ (by decide) (by kernel_rfl) ?_
    obtain ⟨⟨x3_1_0, x3_1_1, x3_1_2⟩, hx3_1, h⟩ := Opt.ex h
    refine SO.call ⟨11, [.str a0], [], [], some 24⟩ ⟨[(1, .int .i64 a1), (24, .tuple [.slice .none 4 (eTToken.F x3_1_0), .int .i64 x3_1_1, .int .i64 x3_1_2])], []⟩ (by decide) (by kernel_rfl) (ok_ref10_All k a0 (x3_1_0, x3_1_1, x3_1_2) hx3_1) (by kernel_rfl) ?_
    refine SO.run c0 9 ⟨[(1, .int .i64 a1), (5, .slice .none 4 (eTToken.F x3_1_0)), (7, .int .i64 x3_1_2)], []⟩ (by decide) (by kernel_rfl) ?_
    refine SO.done ?_
    refine SC.seq ?_
    refine SC.seq ?_
    refine SC.region 2 rfl ?_
    refine SO.run c0 2 ⟨[(1, .int .i64 a1), (5, .slice .none 4 (eTToken.F x3_1_0)), (29, .bool (x3_1_2 != 0))], []⟩ (by decide) (by kernel_rfl) ?_
    refine SO.done ?_
    refine SC.cond (x3_1_2 != 0) (by kernel_rfl) (fun ht => ?_) (fun ht => ?_)
    · replace h := Opt.t h ht
      refine SC.seq ?_
      refine SC.region 1 rfl ?_
      refine SO.run c0 1 ⟨[(4, .bool true)], []⟩ (by decide) (by kernel_rfl) ?_
      refine SO.done ?_
      refine SC.ret ?_
      replace h := Option.some.inj h
      subst h
      exact ⟨[.bool true], by kernel_rfl, Wk.eq (by kernel_rfl), trivial, by kernel_rfl⟩
    · replace h := Opt.f h ht
      refine SC.skip ?_
      refine SC.seq ?_
      refine SC.region 11 rfl ?_
      refine SO.run c0 2 ⟨[(1, .int .i64 a1), (5, .slice .none 4 (eTToken.F x3_1_0)), (31, .slice .none 4 (eTToken.F x3_1_0)), (32, .int .i64 a1)], []⟩ (by decide) (by kernel_rfl) ?_
      obtain ⟨⟨x6_2_0, x6_2_1, x6_2_2⟩, hx6_2, h⟩ := Opt.ex h
      refine SO.call ⟨12, [.slice .none 4 (eTToken.F x3_1_0), .int .i64 a1], [], [], some 33⟩ ⟨[(1, .int .i64 a1), (5, .slice .none 4 (eTToken.F x3_1_0)), (33, .tuple [.agg (cTNode x6_2_0), .int .i64 x6_2_1, .int .i64 x6_2_2])], []⟩ (by decide) (by kernel_rfl) (ok_expr_Expr k x3_1_0 a1 (x6_2_0, x6_2_1, x6_2_2) hx6_2) (by kernel_rfl) ?_
      refine SO.run c0 11 ⟨[(1, .int .i64 a1), (5, .slice .none 4 (eTToken.F x3_1_0)), (8, .ptr (.loc 8) 0), (9, .int .i64 x6_2_1), (10, .int .i64 x6_2_2)], [(.loc 8, .cells true (cTNode x6_2_0))]⟩ (by decide) (by kernel_rfl) ?_
      refine SO.done ?_
      refine SC.seq ?_
      refine SC.region 11 rfl ?_
      refine SO.run c0 2 ⟨[(1, .int .i64 a1), (5, .slice .none 4 (eTToken.F x3_1_0)), (8, .ptr (.loc 8) 0), (9, .int .i64 x6_2_1), (10, .int .i64 x6_2_2), (38, .slice .none 4 (eTToken.F x3_1_0)), (39, .int .i64 a1)], [(.loc 8, .cells true (cTNode x6_2_0))]⟩ (by decide) (by kernel_rfl) ?_
      obtain ⟨⟨x7_2_0, x7_2_1, x7_2_2⟩, hx7_2, h⟩ := Opt.ex h
      refine SO.call ⟨13, [.slice .none 4 (eTToken.F x3_1_0), .int .i64 a1], [], [], some 40⟩ ⟨[(1, .int .i64 a1), (5, .slice .none 4 (eTToken.F x3_1_0)), (8, .ptr (.loc 8) 0), (9, .int .i64 x6_2_1), (10, .int .i64 x6_2_2), (40, .tuple [.agg (cTNode x7_2_0), .int .i64 x7_2_1, .bool x7_2_2])], [(.loc 8, .cells true (cTNode x6_2_0))]⟩ (by decide) (by kernel_rfl) (ok_ref13_Expr k x3_1_0 a1 (x7_2_0, x7_2_1, x7_2_2) hx7_2) (by kernel_rfl) ?_
      refine SO.run c0 11 ⟨[(1, .int .i64 a1), (5, .slice .none 4 (eTToken.F x3_1_0)), (8, .ptr (.loc 8) 0), (9, .int .i64 x6_2_1), (10, .int .i64 x6_2_2), (11, .ptr (.loc 11) 0), (12, .int .i64 x7_2_1), (13, .bool x7_2_2)], [(.loc 8, .cells true (cTNode x6_2_0)), (.loc 11, .cells true (cTNode x7_2_0))]⟩ (by decide) (by kernel_rfl) ?_
      refine SO.done ?_
      refine SC.seq ?_
      refine SC.seq ?_
      refine SC.region 23 rfl ?_
      refine SO.run c0 2 ⟨[(1, .int .i64 a1), (5, .slice .none 4 (eTToken.F x3_1_0)), (8, .ptr (.loc 8) 0), (9, .int .i64 x6_2_1), (10, .int .i64 x6_2_2), (12, .int .i64 x7_2_1), (13, .bool x7_2_2), (44, .agg (cTNode x6_2_0)), (45, .agg (cTNode x7_2_0))], [(.loc 8, .cells true (cTNode x6_2_0))]⟩ (by decide) (by kernel_rfl) ?_
      obtain ⟨x8_2, hx8_2, h⟩ := Opt.ex h
      refine SO.call ⟨14, [.agg (cTNode x6_2_0), .agg (cTNode x7_2_0)], [], [], some 46⟩ ⟨[(1, .int .i64 a1), (5, .slice .none 4 (eTToken.F x3_1_0)), (8, .ptr (.loc 8) 0), (9, .int .i64 x6_2_1), (10, .int .i64 x6_2_2), (12, .int .i64 x7_2_1), (13, .bool x7_2_2), (46, .bool x8_2)], [(.loc 8, .cells true (cTNode x6_2_0))]⟩ (by decide) (by kernel_rfl) (ok_ref13_Placed k x6_2_0 x7_2_0 x8_2 hx8_2) (by kernel_rfl) ?_
      refine SO.run c0 5 ⟨[(1, .int .i64 a1), (5, .slice .none 4 (eTToken.F x3_1_0)), (8, .ptr (.loc 8) 0), (9, .int .i64 x6_2_1), (10, .int .i64 x6_2_2), (12, .int .i64 x7_2_1), (13, .bool x7_2_2), (48, .bool (!x8_2))], [(.loc 8, .cells true (cTNode x6_2_0))]⟩ (by decide) (by kernel_rfl) ?_
      refine SO.runB c0 9 (!x8_2) (fun b => ⟨[(1, .int .i64 a1), (5, .slice .none 4 (eTToken.F x3_1_0)), (8, .ptr (.loc 8) 0), (9, .int .i64 x6_2_1), (10, .int .i64 x6_2_2), (12, .int .i64 x7_2_1), (13, .bool x7_2_2), (48, .bool b)], [(.loc 8, .cells true (cTNode x6_2_0))]⟩) (fun b => ⟨[(1, .int .i64 a1), (5, .slice .none 4 (eTToken.F x3_1_0)), (8, .ptr (.loc 8) 0), (9, .int .i64 x6_2_1), (10, .int .i64 x6_2_2), (13, .bool x7_2_2), (52, .bool (b || (x6_2_1 != x7_2_1)))], [(.loc 8, .cells true (cTNode x6_2_0))]⟩) (by decide) (by kernel_rfl) (by kernel_rfl) ?_
      refine SO.run c0 10 ⟨[(1, .int .i64 a1), (5, .slice .none 4 (eTToken.F x3_1_0)), (8, .ptr (.loc 8) 0), (9, .int .i64 x6_2_1), (10, .int .i64 x6_2_2), (13, .bool x7_2_2), (53, .bool ((!x8_2) || (x6_2_1 != x7_2_1)))], [(.loc 8, .cells true (cTNode x6_2_0))]⟩ (by decide) (by kernel_rfl) ?_
      refine SO.runB c0 15 ((!x8_2) || (x6_2_1 != x7_2_1)) (fun b => ⟨[(1, .int .i64 a1), (5, .slice .none 4 (eTToken.F x3_1_0)), (8, .ptr (.loc 8) 0), (9, .int .i64 x6_2_1), (10, .int .i64 x6_2_2), (13, .bool x7_2_2), (53, .bool b)], [(.loc 8, .cells true (cTNode x6_2_0))]⟩) (fun b => ⟨[(1, .int .i64 a1), (5, .slice .none 4 (eTToken.F x3_1_0)), (8, .ptr (.loc 8) 0), (9, .int .i64 x6_2_1), (10, .int .i64 x6_2_2), (13, .bool x7_2_2), (58, .bool (b || (!((x6_2_2 == 0) == x7_2_2))))], [(.loc 8, .cells true (cTNode x6_2_0))]⟩) (by decide) (by kernel_rfl) (by kernel_rfl) ?_
      refine SO.run c0 16 ⟨[(1, .int .i64 a1), (5, .slice .none 4 (eTToken.F x3_1_0)), (8, .ptr (.loc 8) 0), (9, .int .i64 x6_2_1), (10, .int .i64 x6_2_2), (13, .bool x7_2_2), (59, .bool (((!x8_2) || (x6_2_1 != x7_2_1)) || (!((x6_2_2 == 0) == x7_2_2))))], [(.loc 8, .cells true (cTNode x6_2_0))]⟩ (by decide) (by kernel_rfl) ?_
      refine SO.meet 23 ⟨[(1, .int .i64 a1), (5, .slice .none 4 (eTToken.F x3_1_0)), (8, .ptr (.loc 8) 0), (9, .int .i64 x6_2_1), (13, .bool x7_2_2), (66, .bool ((((!x8_2) || (x6_2_1 != x7_2_1)) || (!((x6_2_2 == 0) == x7_2_2))) || ((!x7_2_2) && (x6_2_2 != 1))))], [(.loc 8, .cells true (cTNode x6_2_0))]⟩ (by decide) ?_ ?_
      · refine SO.bool (((!x8_2) || (x6_2_1 != x7_2_1)) || (!((x6_2_2 == 0) == x7_2_2))) (fun b => ⟨[(1, .int .i64 a1), (5, .slice .none 4 (eTToken.F x3_1_0)), (8, .ptr (.loc 8) 0), (9, .int .i64 x6_2_1), (10, .int .i64 x6_2_2), (13, .bool x7_2_2), (59, .bool b)], [(.loc 8, .cells true (cTNode x6_2_0))]⟩) (fun ht0 => ?_) (fun ht0 => ?_)
        · refine SO.run c0 23 ⟨[(1, .int .i64 a1), (5, .slice .none 4 (eTToken.F x3_1_0)), (8, .ptr (.loc 8) 0), (9, .int .i64 x6_2_1), (13, .bool x7_2_2), (66, .bool true)], [(.loc 8, .cells true (cTNode x6_2_0))]⟩ (by decide) (by kernel_rfl) ?_
          exact SO.done (by (try rw [ht0]); kernel_rfl)
        · refine SO.run c0 19 ⟨[(1, .int .i64 a1), (5, .slice .none 4 (eTToken.F x3_1_0)), (8, .ptr (.loc 8) 0), (9, .int .i64 x6_2_1), (10, .int .i64 x6_2_2), (13, .bool x7_2_2), (59, .bool false), (62, .bool (!x7_2_2))], [(.loc 8, .cells true (cTNode x6_2_0))]⟩ (by decide) (by kernel_rfl) ?_
          refine SO.bool (!x7_2_2) (fun b => ⟨[(1, .int .i64 a1), (5, .slice .none 4 (eTToken.F x3_1_0)), (8, .ptr (.loc 8) 0), (9, .int .i64 x6_2_1), (10, .int .i64 x6_2_2), (13, .bool x7_2_2), (59, .bool false), (62, .bool b)], [(.loc 8, .cells true (cTNode x6_2_0))]⟩) (fun ht1 => ?_) (fun ht1 => ?_)
          · refine SO.run c0 23 ⟨[(1, .int .i64 a1), (5, .slice .none 4 (eTToken.F x3_1_0)), (8, .ptr (.loc 8) 0), (9, .int .i64 x6_2_1), (13, .bool x7_2_2), (66, .bool (x6_2_2 != 1))], [(.loc 8, .cells true (cTNode x6_2_0))]⟩ (by decide) (by kernel_rfl) ?_
            exact SO.done (by (try rw [ht0]); (try rw [ht1]); kernel_rfl)
          · refine SO.run c0 23 ⟨[(1, .int .i64 a1), (5, .slice .none 4 (eTToken.F x3_1_0)), (8, .ptr (.loc 8) 0), (9, .int .i64 x6_2_1), (13, .bool x7_2_2), (66, .bool false)], [(.loc 8, .cells true (cTNode x6_2_0))]⟩ (by decide) (by kernel_rfl) ?_
            exact SO.done (by (try rw [ht0]); (try rw [ht1]); kernel_rfl)
      · refine SO.done ?_
        refine SC.cond ((((!x8_2) || (x6_2_1 != x7_2_1)) || (!((x6_2_2 == 0) == x7_2_2))) || ((!x7_2_2) && (x6_2_2 != 1))) (by kernel_rfl) (fun ht => ?_) (fun ht => ?_)
        · replace h := Opt.t h ht
          refine SC.seq ?_
          refine SC.region 1 rfl ?_
          refine SO.run c0 1 ⟨[(4, .bool false)], []⟩ (by decide) (by kernel_rfl) ?_
          refine SO.done ?_
          refine SC.ret ?_
          replace h := Option.some.inj h
          subst h
          exact ⟨[.bool false], by kernel_rfl, Wk.eq (by kernel_rfl), trivial, by kernel_rfl⟩
        · replace h := Opt.f h ht
          refine SC.skip ?_
          refine SC.seq ?_
          refine SC.region 18 rfl ?_
          refine SO.run c0 3 ⟨[(1, .int .i64 a1), (5, .slice .none 4 (eTToken.F x3_1_0)), (8, .ptr (.loc 8) 0), (9, .int .i64 x6_2_1), (69, .bool (!x7_2_2))], [(.loc 8, .cells true (cTNode x6_2_0))]⟩ (by decide) (by kernel_rfl) ?_
          refine SO.joinK h (fun v : Bool => ⟨[(83, .bool v)], []⟩) 17 (by decide) ?_ ?_
          · rintro g10_16_83 h
            refine SO.eqS (S1 := ⟨[(83, .bool g10_16_83)], []⟩) rfl ?_
            refine SO.run c0 18 ⟨[(4, .bool g10_16_83)], []⟩ (by decide) (by kernel_rfl) ?_
            refine SO.done ?_
            refine SC.ret ?_
            replace h := Option.some.inj h
            subst h
            exact ⟨[.bool g10_16_83], by kernel_rfl, Wk.eq (by kernel_rfl), trivial, by kernel_rfl⟩
          · intro j_g10_16 h
            refine SO.bool (!x7_2_2) (fun b => ⟨[(1, .int .i64 a1), (5, .slice .none 4 (eTToken.F x3_1_0)), (8, .ptr (.loc 8) 0), (9, .int .i64 x6_2_1), (69, .bool b)], [(.loc 8, .cells true (cTNode x6_2_0))]⟩) (fun ht => ?_) (fun ht => ?_)
            · replace h := Opt.t h ht
              refine SO.run c0 17 ⟨[(83, .bool true)], []⟩ (by decide) (by kernel_rfl) ?_
              exact SO.done ⟨true, rfl, h⟩
            · replace h := Opt.f h ht
              refine SO.run c0 4 ⟨[(1, .int .i64 a1), (5, .slice .none 4 (eTToken.F x3_1_0)), (9, .int .i64 x6_2_1), (69, .bool false), (70, .agg (cTNode x6_2_0))], []⟩ (by decide) (by kernel_rfl) ?_
              obtain ⟨x10_4, hx10_4, h⟩ := Opt.ex h
              refine SO.call ⟨15, [.agg (cTNode x6_2_0)], [], [], some 71⟩ ⟨[(1, .int .i64 a1), (5, .slice .none 4 (eTToken.F x3_1_0)), (9, .int .i64 x6_2_1), (69, .bool false), (71, .bool x10_4)], []⟩ (by decide) (by kernel_rfl) (ok_ref11_Expr k x6_2_0 x10_4 hx10_4) (by kernel_rfl) ?_
              refine SO.run c0 6 ⟨[(1, .int .i64 a1), (5, .slice .none 4 (eTToken.F x3_1_0)), (9, .int .i64 x6_2_1), (69, .bool false), (72, .bool x10_4)], []⟩ (by decide) (by kernel_rfl) ?_
              refine SO.runB c0 10 x10_4 (fun b => ⟨[(1, .int .i64 a1), (5, .slice .none 4 (eTToken.F x3_1_0)), (9, .int .i64 x6_2_1), (69, .bool false), (72, .bool b)], []⟩) (fun b => ⟨[(5, .slice .none 4 (eTToken.F x3_1_0)), (9, .int .i64 x6_2_1), (69, .bool false), (76, .bool (b && (decide (x6_2_1 > a1))))], []⟩) (by decide) (by kernel_rfl) (by kernel_rfl) ?_
              refine SO.run c0 11 ⟨[(5, .slice .none 4 (eTToken.F x3_1_0)), (9, .int .i64 x6_2_1), (69, .bool false), (77, .bool (x10_4 && (decide (x6_2_1 > a1))))], []⟩ (by decide) (by kernel_rfl) ?_
              refine SO.runB c0 16 (x10_4 && (decide (x6_2_1 > a1))) (fun b => ⟨[(5, .slice .none 4 (eTToken.F x3_1_0)), (9, .int .i64 x6_2_1), (69, .bool false), (77, .bool b)], []⟩) (fun b => ⟨[(69, .bool false), (82, .bool (b && (decide (x6_2_1 < ((x3_1_0.length : Int))))))], []⟩) (by decide) (Eq.trans (b := some ⟨[(69, .bool false), (82, .bool (true && (decide (x6_2_1 < (((eTToken.F x3_1_0).length : Int))))))], []⟩) (by kernel_rfl) (by simp only [LE.len])) (Eq.trans (b := some ⟨[(69, .bool false), (82, .bool (false && (decide (x6_2_1 < (((eTToken.F x3_1_0).length : Int))))))], []⟩) (by kernel_rfl) (by simp only [LE.len])) ?_
              refine SO.run c0 17 ⟨[(83, .bool ((x10_4 && (decide (x6_2_1 > a1))) && (decide (x6_2_1 < ((x3_1_0.length : Int))))))], []⟩ (by decide) (by kernel_rfl) ?_
              exact SO.done ⟨((x10_4 && (decide (x6_2_1 > a1))) && (decide (x6_2_1 < ((x3_1_0.length : Int))))), rfl, h⟩
end Go.Proofs.YtbhncegmohnfhaaDoor.AE
