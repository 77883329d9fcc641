/- The code of these functions comes to what the printed functions answer. Printed by wip/dev/gen.py. No condition. -/
import Derived.Test.YtbhncegmohnfhaaDoorZAE
import Derived.Test.YtbhncegmohnfhaaDoorZAF
set_option linter.unusedVariables false
set_option maxRecDepth 100000
namespace Go.Proofs.YtbhncegmohnfhaaDoor.AE
open Go F
theorem ok_ref10_class (k : Nat) (a0 : Int) (r : Int) (h : ref10_class k a0 = some r) :
    SF Z 33 [.int .u8 a0] [] (.int .i64 r) [] := by
  unfold ref10_class at h
  refine SF.intro Tryd.func33 rfl Tryd.ntmps33 rfl (Nat.le_of_ble_eq_true rfl) (by decide) ?_
  refine SC.seq ?_
  refine SC.region 1 rfl ?_
  refine SO.run c0 1 ⟨[(0, .int .u8 a0)], []⟩ (by decide) (by kernel_rfl) ?_
  refine SO.done ?_
  refine SC.seq ?_
  refine SC.seq ?_
  refine SC.region 18 rfl ?_
  refine SO.run c0 3 ⟨[(0, .int .u8 a0), (5, .bool (a0 == 95))], []⟩ (by decide) (by kernel_rfl) ?_
  refine SO.meet 10 ⟨[(0, .int .u8 a0), (12, .bool ((a0 == 95) || ((decide (a0 ≥ 97)) && (decide (a0 ≤ 122)))))], []⟩ (by decide) ?_ ?_
  · refine SO.bool (a0 == 95) (fun b => ⟨[(0, .int .u8 a0), (5, .bool b)], []⟩) (fun ht0 => ?_) (fun ht0 => ?_)
    · refine SO.run c0 10 ⟨[(0, .int .u8 a0), (12, .bool true)], []⟩ (by decide) (by kernel_rfl) ?_
      exact SO.done (by (try rw [ht0]); kernel_rfl)
    · refine SO.run c0 6 ⟨[(0, .int .u8 a0), (5, .bool false), (8, .bool (decide (a0 ≥ 97)))], []⟩ (by decide) (by kernel_rfl) ?_
      refine SO.bool (decide (a0 ≥ 97)) (fun b => ⟨[(0, .int .u8 a0), (5, .bool false), (8, .bool b)], []⟩) (fun ht1 => ?_) (fun ht1 => ?_)
      · refine SO.run c0 10 ⟨[(0, .int .u8 a0), (12, .bool (decide (a0 ≤ 122)))], []⟩ (by decide) (by kernel_rfl) ?_
        exact SO.done (by (try rw [ht0]); (try rw [ht1]); kernel_rfl)
      · refine SO.run c0 10 ⟨[(0, .int .u8 a0), (12, .bool false)], []⟩ (by decide) (by kernel_rfl) ?_
        exact SO.done (by (try rw [ht0]); (try rw [ht1]); kernel_rfl)
  · refine SO.run c0 11 ⟨[(0, .int .u8 a0), (13, .bool ((a0 == 95) || ((decide (a0 ≥ 97)) && (decide (a0 ≤ 122)))))], []⟩ (by decide) (by kernel_rfl) ?_
    refine SO.meet 18 ⟨[(0, .int .u8 a0), (20, .bool (((a0 == 95) || ((decide (a0 ≥ 97)) && (decide (a0 ≤ 122)))) || ((decide (a0 ≥ 65)) && (decide (a0 ≤ 90)))))], []⟩ (by decide) ?_ ?_
    · refine SO.bool ((a0 == 95) || ((decide (a0 ≥ 97)) && (decide (a0 ≤ 122)))) (fun b => ⟨[(0, .int .u8 a0), (13, .bool b)], []⟩) (fun ht0 => ?_) (fun ht0 => ?_)
      · refine SO.run c0 18 ⟨[(0, .int .u8 a0), (20, .bool true)], []⟩ (by decide) (by kernel_rfl) ?_
        exact SO.done (by (try rw [ht0]); kernel_rfl)
      · refine SO.run c0 14 ⟨[(0, .int .u8 a0), (13, .bool false), (16, .bool (decide (a0 ≥ 65)))], []⟩ (by decide) (by kernel_rfl) ?_
        refine SO.bool (decide (a0 ≥ 65)) (fun b => ⟨[(0, .int .u8 a0), (13, .bool false), (16, .bool b)], []⟩) (fun ht1 => ?_) (fun ht1 => ?_)
        · refine SO.run c0 18 ⟨[(0, .int .u8 a0), (20, .bool (decide (a0 ≤ 90)))], []⟩ (by decide) (by kernel_rfl) ?_
          exact SO.done (by (try rw [ht0]); (try rw [ht1]); kernel_rfl)
        · refine SO.run c0 18 ⟨[(0, .int .u8 a0), (20, .bool false)], []⟩ (by decide) (by kernel_rfl) ?_
          exact SO.done (by (try rw [ht0]); (try rw [ht1]); kernel_rfl)
    · refine SO.done ?_
      refine SC.cond (((a0 == 95) || ((decide (a0 ≥ 97)) && (decide (a0 ≤ 122)))) || ((decide (a0 ≥ 65)) && (decide (a0 ≤ 90)))) (by kernel_rfl) (fun ht => ?_) (fun ht => ?_)
      · replace h := Opt.t h ht
        refine SC.seq ?_
        refine SC.region 1 rfl ?_
        refine SO.run c0 1 ⟨[(2, .int .i64 1)], []⟩ (by decide) (by kernel_rfl) ?_
        refine SO.done ?_
        refine SC.ret ?_
        replace h := Option.some.inj h
        subst h
        exact ⟨[.int .i64 1], by kernel_rfl, Wk.eq (by kernel_rfl), trivial, by kernel_rfl⟩
      · replace h := Opt.f h ht
        refine SC.skip ?_
        refine SC.seq ?_
        refine SC.seq ?_
        refine SC.region 6 rfl ?_
        refine SO.run c0 3 ⟨[(0, .int .u8 a0), (23, .bool (decide (a0 ≥ 48)))], []⟩ (by decide) (by kernel_rfl) ?_
        refine SO.runB c0 6 (decide (a0 ≥ 48)) (fun b => ⟨[(0, .int .u8 a0), (23, .bool b)], []⟩) (fun b => ⟨[(0, .int .u8 a0), (26, .bool (b && (decide (a0 ≤ 57))))], []⟩) (by decide) (by kernel_rfl) (by kernel_rfl) ?_
        refine SO.done ?_
        refine SC.cond ((decide (a0 ≥ 48)) && (decide (a0 ≤ 57))) (by kernel_rfl) (fun ht => ?_) (fun ht => ?_)
        · replace h := Opt.t h ht
          refine SC.seq ?_
          refine SC.region 1 rfl ?_
          refine SO.run c0 1 ⟨[(2, .int .i64 2)], []⟩ (by decide) (by kernel_rfl) ?_
          refine SO.done ?_
          refine SC.ret ?_
          replace h := Option.some.inj h
          subst h
          exact ⟨[.int .i64 2], by kernel_rfl, Wk.eq (by kernel_rfl), trivial, by kernel_rfl⟩
        · replace h := Opt.f h ht
          refine SC.skip ?_
          refine SC.seq ?_
          refine SC.seq ?_
          refine SC.region 14 rfl ?_
          refine SO.run c0 3 ⟨[(0, .int .u8 a0), (29, .bool (a0 == 32))], []⟩ (by decide) (by kernel_rfl) ?_
          refine SO.runB c0 6 (a0 == 32) (fun b => ⟨[(0, .int .u8 a0), (29, .bool b)], []⟩) (fun b => ⟨[(0, .int .u8 a0), (32, .bool (b || (a0 == 9)))], []⟩) (by decide) (by kernel_rfl) (by kernel_rfl) ?_
          refine SO.run c0 7 ⟨[(0, .int .u8 a0), (33, .bool ((a0 == 32) || (a0 == 9)))], []⟩ (by decide) (by kernel_rfl) ?_
          refine SO.runB c0 10 ((a0 == 32) || (a0 == 9)) (fun b => ⟨[(0, .int .u8 a0), (33, .bool b)], []⟩) (fun b => ⟨[(0, .int .u8 a0), (36, .bool (b || (a0 == 10)))], []⟩) (by decide) (by kernel_rfl) (by kernel_rfl) ?_
          refine SO.run c0 11 ⟨[(0, .int .u8 a0), (37, .bool (((a0 == 32) || (a0 == 9)) || (a0 == 10)))], []⟩ (by decide) (by kernel_rfl) ?_
          refine SO.runB c0 14 (((a0 == 32) || (a0 == 9)) || (a0 == 10)) (fun b => ⟨[(0, .int .u8 a0), (37, .bool b)], []⟩) (fun b => ⟨[(0, .int .u8 a0), (40, .bool (b || (a0 == 13)))], []⟩) (by decide) (by kernel_rfl) (by kernel_rfl) ?_
          refine SO.done ?_
          refine SC.cond ((((a0 == 32) || (a0 == 9)) || (a0 == 10)) || (a0 == 13)) (by kernel_rfl) (fun ht => ?_) (fun ht => ?_)
          · replace h := Opt.t h ht
            refine SC.seq ?_
            refine SC.region 1 rfl ?_
            refine SO.run c0 1 ⟨[(2, .int .i64 3)], []⟩ (by decide) (by kernel_rfl) ?_
            refine SO.done ?_
            refine SC.ret ?_
            replace h := Option.some.inj h
            subst h
            exact ⟨[.int .i64 3], by kernel_rfl, Wk.eq (by kernel_rfl), trivial, by kernel_rfl⟩
          · replace h := Opt.f h ht
            refine SC.skip ?_
            refine SC.seq ?_
            refine SC.seq ?_
            refine SC.region 2 rfl ?_
            refine SO.run c0 2 ⟨[(42, .bool (a0 == 35))], []⟩ (by decide) (by kernel_rfl) ?_
            refine SO.done ?_
            refine SC.cond (a0 == 35) (by kernel_rfl) (fun ht => ?_) (fun ht => ?_)
            · replace h := Opt.t h ht
              refine SC.seq ?_
              refine SC.region 1 rfl ?_
              refine SO.run c0 1 ⟨[(2, .int .i64 4)], []⟩ (by decide) (by kernel_rfl) ?_
              refine SO.done ?_
              refine SC.ret ?_
              replace h := Option.some.inj h
              subst h
              exact ⟨[.int .i64 4], by kernel_rfl, Wk.eq (by kernel_rfl), trivial, by kernel_rfl⟩
            · replace h := Opt.f h ht
              refine SC.skip ?_
              refine SC.seq ?_
              refine SC.region 1 rfl ?_
              refine SO.run c0 1 ⟨[(2, .int .i64 0)], []⟩ (by decide) (by kernel_rfl) ?_
              refine SO.done ?_
              refine SC.ret ?_
              replace h := Option.some.inj h
              subst h
              exact ⟨[.int .i64 0], by kernel_rfl, Wk.eq (by kernel_rfl), trivial, by kernel_rfl⟩
theorem ok_ref09_All (k : Nat) (r : List (List UInt8)) (h : ref09_All k = some r) :
    SF Z 93 [] [] (.slice .none 1 (eStr.F r)) [] := by
  unfold ref09_All at h
  refine SF.intro Tryd.func93 rfl Tryd.ntmps93 rfl (Nat.le_of_ble_eq_true rfl) (by decide) ?_
  refine SC.seq ?_
  refine SC.region 1 rfl ?_
  refine SO.run c0 1 ⟨[], []⟩ (by decide) (by kernel_rfl) ?_
  refine SO.done ?_
  refine SC.seq ?_
  refine SC.region 2 rfl ?_
  refine SO.run c0 2 ⟨[(0, .slice .full 1 (eStr.F [[114, 101, 99], [105, 115, 111], [102, 117, 110], [109, 101, 114, 103, 101], [109, 97, 105, 110], [118, 97, 114], [105, 102], [101, 108, 115, 101], [119, 104, 105, 108, 101], [114, 101, 116, 117, 114, 110], [102, 111, 114, 107], [106, 111, 105, 110], [112, 114, 105, 110, 116], [110, 101, 119], [98, 121], [105, 110, 116], [98, 111, 111, 108], [114, 101, 118], [116, 114, 117, 101], [102, 97, 108, 115, 101]]))], []⟩ (by decide) (by kernel_rfl) ?_
  refine SO.done ?_
  refine SC.ret ?_
  replace h := Option.some.inj h
  subst h
  exact ⟨[.slice .full 1 (eStr.F [[114, 101, 99], [105, 115, 111], [102, 117, 110], [109, 101, 114, 103, 101], [109, 97, 105, 110], [118, 97, 114], [105, 102], [101, 108, 115, 101], [119, 104, 105, 108, 101], [114, 101, 116, 117, 114, 110], [102, 111, 114, 107], [106, 111, 105, 110], [112, 114, 105, 110, 116], [110, 101, 119], [98, 121], [105, 110, 116], [98, 111, 111, 108], [114, 101, 118], [116, 114, 117, 101], [102, 97, 108, 115, 101]])], by kernel_rfl, Wk.tok _ _ _, trivial, by kernel_rfl⟩
theorem ok_ref09_Is (k : Nat) (a0 : List UInt8) (r : Bool) (h : ref09_Is k a0 = some r) :
    SF Z 67 [.str a0] [] (.bool r) [] := by
  unfold ref09_Is at h
  refine SF.intro Tryd.func67 rfl Tryd.ntmps67 rfl (Nat.le_of_ble_eq_true rfl) (by decide) ?_
  refine SC.seq ?_
  refine SC.region 1 rfl ?_
  refine SO.run c0 1 ⟨[(0, .str a0)], []⟩ (by decide) (by kernel_rfl) ?_
  refine SO.done ?_
  refine SC.seq ?_
  refine SC.region 2 rfl ?_
  obtain ⟨x1_0, hx1_0, h⟩ := Opt.ex h
  refine SO.call ⟨93, [], [], [], some 5⟩ ⟨[(0, .str a0), (5, .slice .none 1 (eStr.F x1_0))], []⟩ (by decide) (by kernel_rfl) (ok_ref09_All k x1_0 hx1_0) (by kernel_rfl) ?_
  refine SO.run c0 2 ⟨[(0, .str a0), (3, .slice .none 1 (eStr.F x1_0))], []⟩ (by decide) (by kernel_rfl) ?_
  refine SO.done ?_
  apply SC.seqJ (r := r) h (fun v : Unit => ⟨[], []⟩)
  · rintro ⟨⟩ r h
    refine SC.eqS (S1 := ⟨[], []⟩) rfl ?_
    refine SC.seq ?_
    refine SC.region 1 rfl ?_
    refine SO.run c0 1 ⟨[(2, .bool false)], []⟩ (by decide) (by kernel_rfl) ?_
    refine SO.done ?_
    refine SC.ret ?_
    replace h := Option.some.inj h
    subst h
    exact ⟨[.bool false], by kernel_rfl, Wk.eq (by kernel_rfl), trivial, by kernel_rfl⟩
  · intro j_j0 h
    refine SC.seq ?_
    refine SC.region 1 rfl ?_
    refine SO.run c0 1 ⟨[(0, .str a0), (3, .slice .none 1 (eStr.F x1_0)), (4, .int .i64 0)], []⟩ (by decide) (by kernel_rfl) ?_
    refine SO.done ?_
    refine SC.block ?_
    apply SC.loopJ (r := r) h (fun v : Int => ⟨[(0, .str a0), (3, .slice .none 1 (eStr.F x1_0)), (4, .int .i64 v)], []⟩)
    rintro l1_4 r h
    refine SC.eqS (S1 := ⟨[(0, .str a0), (3, .slice .none 1 (eStr.F x1_0)), (4, .int .i64 l1_4)], []⟩) rfl ?_
    refine SC.seq ?_
    refine SC.seq ?_
    refine SC.region 4 rfl ?_
    refine SO.run c0 4 ⟨[(0, .str a0), (3, .slice .none 1 (eStr.F x1_0)), (4, .int .i64 l1_4), (9, .bool (decide (l1_4 < ((x1_0.length : Int)))))], []⟩ (by decide) (Eq.trans (b := some ⟨[(0, .str a0), (3, .slice .none 1 (eStr.F x1_0)), (4, .int .i64 l1_4), (9, .bool (decide (l1_4 < (((eStr.F x1_0).length : Int)))))], []⟩) (by kernel_rfl) (by simp only [LE.len])) ?_
    refine SO.done ?_
    refine SC.cond (decide (l1_4 < ((x1_0.length : Int)))) (by kernel_rfl) (fun ht => ?_) (fun ht => ?_)
    · replace h := Opt.t h ht
      refine SC.skip ?_
      refine SC.seq ?_
      refine SC.block ?_
      refine SC.seq ?_
      refine SC.region 6 rfl ?_
      refine SO.run c0 2 ⟨[(0, .str a0), (3, .slice .none 1 (eStr.F x1_0)), (4, .int .i64 l1_4), (12, .slice .none 1 (eStr.F x1_0)), (13, .int .i64 l1_4)], []⟩ (by decide) (by kernel_rfl) ?_
      obtain ⟨x5_2, hx5_2, h⟩ := Opt.ex h
      refine SO.op c0 { v := .pin [.str x5_2] } ⟨[(0, .str a0), (3, .slice .none 1 (eStr.F x1_0)), (4, .int .i64 l1_4), (14, .pin [.str x5_2])], []⟩ (by decide) (ixR eStr 77 .none 1 x1_0 .i64 l1_4 x5_2 [.str x5_2] (by kernel_rfl) (by kernel_rfl) hx5_2 (rfl)) (by kernel_rfl) ?_
      refine SO.run c0 6 ⟨[(0, .str a0), (3, .slice .none 1 (eStr.F x1_0)), (4, .int .i64 l1_4), (17, .bool (x5_2 == a0))], []⟩ (by decide) (by kernel_rfl) ?_
      refine SO.done ?_
      refine SC.cond (x5_2 == a0) (by kernel_rfl) (fun ht => ?_) (fun ht => ?_)
      · replace h := Opt.t h ht
        refine SC.seq ?_
        refine SC.region 1 rfl ?_
        refine SO.run c0 1 ⟨[(2, .bool true)], []⟩ (by decide) (by kernel_rfl) ?_
        refine SO.done ?_
        refine SC.ret ?_
        replace h := Option.some.inj h
        subst h
        refine ⟨_, rfl, ?_⟩
        exact ⟨[.bool true], by kernel_rfl, Wk.eq (by kernel_rfl), trivial, by kernel_rfl⟩
      · replace h := Opt.f h ht
        refine SC.skip ?_
        refine SC.region 3 rfl ?_
        refine SO.run c0 3 ⟨[(0, .str a0), (3, .slice .none 1 (eStr.F x1_0)), (4, .int .i64 (IntKind.i64.wrap (l1_4 + 1)))], []⟩ (by decide) (by kernel_rfl) ?_
        refine SO.done ?_
        replace h := Option.some.inj h
        subst h
        exact ⟨(IntKind.i64.wrap (l1_4 + 1)), rfl, rfl⟩
    · replace h := Opt.f h ht
      refine SC.weak (S1 := ⟨[], []⟩) ?_ ?_
      · exact ⟨trivial, trivial, by kernel_rfl⟩
      refine SC.exit ?_
      obtain ⟨r1, hh, e1⟩ := Opt.inr h
      clear h
      subst e1
      have h := hh
      clear hh
      refine ⟨_, rfl, ?_⟩
      exact ⟨(), rfl, h⟩
theorem ok_ref01_Read (k : Nat) (a0 : List UInt8) (r : Int × Int) (h : ref01_Read k a0 = some r) :
    SF Z 68 [.str a0] [] (.tuple [.int .i64 r.1, .int .i64 r.2]) [] := by
  unfold ref01_Read at h
  refine SF.intro Tryd.func68 rfl Tryd.ntmps68 rfl (Nat.le_of_ble_eq_true rfl) (by decide) ?_
  refine SC.seq ?_
  refine SC.region 2 rfl ?_
  refine SO.run c0 2 ⟨[(0, .str a0)], []⟩ (by decide) (by kernel_rfl) ?_
  refine SO.done ?_
  refine SC.seq ?_
  refine SC.seq ?_
  refine SC.region 2 rfl ?_
  refine SO.run c0 2 ⟨[(0, .str a0), (8, .bool (a0 == []))], []⟩ (by decide) (by kernel_rfl) ?_
  refine SO.done ?_
  refine SC.cond (a0 == []) (by kernel_rfl) (fun ht => ?_) (fun ht => ?_)
  · replace h := Opt.t h ht
    refine SC.seq ?_
    refine SC.region 2 rfl ?_
    refine SO.run c0 2 ⟨[(2, .int .i64 0), (3, .int .i64 1)], []⟩ (by decide) (by kernel_rfl) ?_
    refine SO.done ?_
    refine SC.ret ?_
    replace h := Option.some.inj h
    subst h
    exact ⟨[.int .i64 0, .int .i64 1], by kernel_rfl, Wk.eq (by kernel_rfl), trivial, by kernel_rfl⟩
  · replace h := Opt.f h ht
    refine SC.skip ?_
    refine SC.seq ?_
    refine SC.region 1 rfl ?_
    refine SO.run c0 1 ⟨[(0, .str a0), (4, .int .u64 0)], []⟩ (by decide) (by kernel_rfl) ?_
    refine SO.done ?_
    refine SC.seq ?_
    refine SC.region 1 rfl ?_
    refine SO.run c0 1 ⟨[(0, .str a0), (4, .int .u64 0), (5, .bool false)], []⟩ (by decide) (by kernel_rfl) ?_
    refine SO.done ?_
    apply SC.seqJ (r := r) h (fun v : Int × Bool => ⟨[(4, .int .u64 v.1), (5, .bool v.2)], []⟩)
    · rintro ⟨j0_4, j0_5⟩ r h
      refine SC.eqS (S1 := ⟨[(4, .int .u64 j0_4), (5, .bool j0_5)], []⟩) rfl ?_
      refine SC.seq ?_
      refine SC.seq ?_
      refine SC.region 5 rfl ?_
      refine SO.run c0 2 ⟨[(4, .int .u64 j0_4), (38, .bool j0_5)], []⟩ (by decide) (by kernel_rfl) ?_
      refine SO.runB c0 5 j0_5 (fun b => ⟨[(4, .int .u64 j0_4), (38, .bool b)], []⟩) (fun b => ⟨[(4, .int .u64 j0_4), (41, .bool (b || (decide (j0_4 ≥ 9223372036854775808))))], []⟩) (by decide) (by kernel_rfl) (by kernel_rfl) ?_
      refine SO.done ?_
      refine SC.cond (j0_5 || (decide (j0_4 ≥ 9223372036854775808))) (by kernel_rfl) (fun ht => ?_) (fun ht => ?_)
      · replace h := Opt.t h ht
        refine SC.seq ?_
        refine SC.region 2 rfl ?_
        refine SO.run c0 2 ⟨[(2, .int .i64 0), (3, .int .i64 2)], []⟩ (by decide) (by kernel_rfl) ?_
        refine SO.done ?_
        refine SC.ret ?_
        replace h := Option.some.inj h
        subst h
        exact ⟨[.int .i64 0, .int .i64 2], by kernel_rfl, Wk.eq (by kernel_rfl), trivial, by kernel_rfl⟩
      · replace h := Opt.f h ht
        refine SC.skip ?_
        refine SC.seq ?_
        refine SC.region 4 rfl ?_
        refine SO.run c0 4 ⟨[(2, .int .i64 (IntKind.i64.wrap j0_4)), (3, .int .i64 0)], []⟩ (by decide) (by kernel_rfl) ?_
        refine SO.done ?_
        refine SC.ret ?_
        replace h := Option.some.inj h
        subst h
        exact ⟨[.int .i64 (IntKind.i64.wrap j0_4), .int .i64 0], by kernel_rfl, Wk.eq (by kernel_rfl), trivial, by kernel_rfl⟩
    · intro j_j0 h
      refine SC.seq ?_
      refine SC.region 1 rfl ?_
      refine SO.run c0 1 ⟨[(0, .str a0), (4, .int .u64 0), (5, .bool false), (6, .int .i64 0)], []⟩ (by decide) (by kernel_rfl) ?_
      refine SO.done ?_
      refine SC.block ?_
      apply SC.loopJ (r := r) h (fun v : Int × Bool × Int => ⟨[(0, .str a0), (4, .int .u64 v.1), (5, .bool v.2.1), (6, .int .i64 v.2.2)], []⟩)
      rintro ⟨l1_4, l1_5, l1_6⟩ r h
      refine SC.eqS (S1 := ⟨[(0, .str a0), (4, .int .u64 l1_4), (5, .bool l1_5), (6, .int .i64 l1_6)], []⟩) rfl ?_
      refine SC.seq ?_
      refine SC.seq ?_
      refine SC.region 4 rfl ?_
      refine SO.run c0 4 ⟨[(0, .str a0), (4, .int .u64 l1_4), (5, .bool l1_5), (6, .int .i64 l1_6), (12, .bool (decide (l1_6 < ((a0.length : Int)))))], []⟩ (by decide) (by kernel_rfl) ?_
      refine SO.done ?_
      refine SC.cond (decide (l1_6 < ((a0.length : Int)))) (by kernel_rfl) (fun ht => ?_) (fun ht => ?_)
      · replace h := Opt.t h ht
        refine SC.skip ?_
        apply SC.seqJ (r := r) h (fun v : Int × Bool => ⟨[(0, .str a0), (4, .int .u64 v.1), (5, .bool v.2), (6, .int .i64 l1_6)], []⟩)
        · rintro ⟨j2_4, j2_5⟩ r h
          refine SC.eqS (S1 := ⟨[(0, .str a0), (4, .int .u64 j2_4), (5, .bool j2_5), (6, .int .i64 l1_6)], []⟩) rfl ?_
          refine SC.region 3 rfl ?_
          refine SO.run c0 3 ⟨[(0, .str a0), (4, .int .u64 j2_4), (5, .bool j2_5), (6, .int .i64 (IntKind.i64.wrap (l1_6 + 1)))], []⟩ (by decide) (by kernel_rfl) ?_
          refine SO.done ?_
          replace h := Option.some.inj h
          subst h
          exact ⟨(j2_4, j2_5, (IntKind.i64.wrap (l1_6 + 1))), rfl, rfl⟩
        · intro j_j2 h
          refine SC.block ?_
          refine SC.seq ?_
          refine SC.seq ?_
          refine SC.region 10 rfl ?_
          refine SO.run c0 2 ⟨[(0, .str a0), (4, .int .u64 l1_4), (5, .bool l1_5), (6, .int .i64 l1_6), (15, .str a0), (16, .int .i64 l1_6)], []⟩ (by decide) (by kernel_rfl) ?_
          obtain ⟨x8_2, hx8_2, h⟩ := Opt.ex h
          refine SO.op c0 { v := .int .u8 (x8_2.toNat : Int) } ⟨[(0, .str a0), (4, .int .u64 l1_4), (5, .bool l1_5), (6, .int .i64 l1_6), (17, .int .u8 (x8_2.toNat : Int))], []⟩ (by decide) (ixS 9 a0 .i64 l1_6 x8_2 (by kernel_rfl) (by kernel_rfl) hx8_2) (by kernel_rfl) ?_
          refine SO.run c0 5 ⟨[(0, .str a0), (4, .int .u64 l1_4), (5, .bool l1_5), (6, .int .i64 l1_6), (19, .bool (decide ((x8_2.toNat : Int) < 48)))], []⟩ (by decide) (by kernel_rfl) ?_
          refine SO.joinK h (fun v : Bool => ⟨[(0, .str a0), (4, .int .u64 l1_4), (5, .bool l1_5), (6, .int .i64 l1_6), (24, .bool v)], []⟩) 10 (by decide) ?_ ?_
          · rintro g8_9_24 h
            refine SO.eqS (S1 := ⟨[(0, .str a0), (4, .int .u64 l1_4), (5, .bool l1_5), (6, .int .i64 l1_6), (24, .bool g8_9_24)], []⟩) rfl ?_
            refine SO.done ?_
            refine SC.cond g8_9_24 (by kernel_rfl) (fun ht => ?_) (fun ht => ?_)
            · replace h := Opt.t h ht
              refine SC.seq ?_
              refine SC.region 2 rfl ?_
              refine SO.run c0 2 ⟨[(2, .int .i64 0), (3, .int .i64 1)], []⟩ (by decide) (by kernel_rfl) ?_
              refine SO.done ?_
              refine SC.ret ?_
              replace h := Option.some.inj h
              subst h
              refine ⟨_, rfl, ?_⟩
              exact ⟨[.int .i64 0, .int .i64 1], by kernel_rfl, Wk.eq (by kernel_rfl), trivial, by kernel_rfl⟩
            · replace h := Opt.f h ht
              refine SC.skip ?_
              apply SC.seqJ (r := r) h (fun v : Bool => ⟨[(0, .str a0), (4, .int .u64 l1_4), (5, .bool v), (6, .int .i64 l1_6)], []⟩)
              · rintro j3_5 r h
                refine SC.eqS (S1 := ⟨[(0, .str a0), (4, .int .u64 l1_4), (5, .bool j3_5), (6, .int .i64 l1_6)], []⟩) rfl ?_
                refine SC.seq ?_
                refine SC.region 2 rfl ?_
                refine SO.run c0 2 ⟨[(0, .str a0), (4, .int .u64 l1_4), (5, .bool j3_5), (6, .int .i64 l1_6), (28, .bool (!j3_5))], []⟩ (by decide) (by kernel_rfl) ?_
                refine SO.done ?_
                refine SC.cond (!j3_5) (by kernel_rfl) (fun ht => ?_) (fun ht => ?_)
                · replace h := Opt.t h ht
                  refine SC.region 9 rfl ?_
                  refine SO.run c0 4 ⟨[(0, .str a0), (5, .bool j3_5), (6, .int .i64 l1_6), (30, .int .u64 (IntKind.u64.wrap (10 * l1_4))), (31, .str a0), (32, .int .i64 l1_6)], []⟩ (by decide) (by kernel_rfl) ?_
                  obtain ⟨x13_4, hx13_4, h⟩ := Opt.ex h
                  refine SO.op c0 { v := .int .u8 (x13_4.toNat : Int) } ⟨[(0, .str a0), (5, .bool j3_5), (6, .int .i64 l1_6), (30, .int .u64 (IntKind.u64.wrap (10 * l1_4))), (33, .int .u8 (x13_4.toNat : Int))], []⟩ (by decide) (ixS 9 a0 .i64 l1_6 x13_4 (by kernel_rfl) (by kernel_rfl) hx13_4) (by kernel_rfl) ?_
                  refine SO.run c0 9 ⟨[(0, .str a0), (4, .int .u64 (IntKind.u64.wrap ((IntKind.u64.wrap (10 * l1_4)) + (IntKind.u64.wrap (IntKind.u8.wrap ((x13_4.toNat : Int) - 48)))))), (5, .bool j3_5), (6, .int .i64 l1_6)], []⟩ (by decide) (by kernel_rfl) ?_
                  refine SO.done ?_
                  exact ⟨((IntKind.u64.wrap ((IntKind.u64.wrap (10 * l1_4)) + (IntKind.u64.wrap (IntKind.u8.wrap ((x13_4.toNat : Int) - 48))))), j3_5), rfl, h⟩
                · replace h := Opt.f h ht
                  refine SC.weak (S1 := ⟨[(0, .str a0), (4, .int .u64 l1_4), (5, .bool j3_5), (6, .int .i64 l1_6)], []⟩) ?_ ?_
                  · exact ⟨⟨Wk.refl _, Wk.refl _, Wk.refl _, Wk.refl _, trivial⟩, trivial, by kernel_rfl⟩
                  refine SC.skip ?_
                  exact ⟨(l1_4, j3_5), rfl, h⟩
              · intro j_j3 h
                refine SC.seq ?_
                refine SC.region 2 rfl ?_
                refine SO.run c0 2 ⟨[(0, .str a0), (4, .int .u64 l1_4), (5, .bool l1_5), (6, .int .i64 l1_6), (26, .bool (decide (l1_4 > 1000000000000000000)))], []⟩ (by decide) (by kernel_rfl) ?_
                refine SO.done ?_
                refine SC.cond (decide (l1_4 > 1000000000000000000)) (by kernel_rfl) (fun ht => ?_) (fun ht => ?_)
                · replace h := Opt.t h ht
                  refine SC.region 1 rfl ?_
                  refine SO.run c0 1 ⟨[(0, .str a0), (4, .int .u64 l1_4), (5, .bool true), (6, .int .i64 l1_6)], []⟩ (by decide) (by kernel_rfl) ?_
                  refine SO.done ?_
                  exact ⟨true, rfl, h⟩
                · replace h := Opt.f h ht
                  refine SC.weak (S1 := ⟨[(0, .str a0), (4, .int .u64 l1_4), (5, .bool l1_5), (6, .int .i64 l1_6)], []⟩) ?_ ?_
                  · exact ⟨⟨Wk.refl _, Wk.refl _, Wk.refl _, Wk.refl _, trivial⟩, trivial, by kernel_rfl⟩
                  refine SC.skip ?_
                  exact ⟨l1_5, rfl, h⟩
          · intro j_g8_9 h
            refine SO.bool (decide ((x8_2.toNat : Int) < 48)) (fun b => ⟨[(0, .str a0), (4, .int .u64 l1_4), (5, .bool l1_5), (6, .int .i64 l1_6), (19, .bool b)], []⟩) (fun ht => ?_) (fun ht => ?_)
            · replace h := Opt.t h ht
              refine SO.run c0 10 ⟨[(0, .str a0), (4, .int .u64 l1_4), (5, .bool l1_5), (6, .int .i64 l1_6), (24, .bool true)], []⟩ (by decide) (by kernel_rfl) ?_
              exact SO.done ⟨true, rfl, h⟩
            · replace h := Opt.f h ht
              refine SO.run c0 7 ⟨[(0, .str a0), (4, .int .u64 l1_4), (5, .bool l1_5), (6, .int .i64 l1_6), (19, .bool false), (20, .str a0), (21, .int .i64 l1_6)], []⟩ (by decide) (by kernel_rfl) ?_
              obtain ⟨x8_7, hx8_7, h⟩ := Opt.ex h
              refine SO.op c0 { v := .int .u8 (x8_7.toNat : Int) } ⟨[(0, .str a0), (4, .int .u64 l1_4), (5, .bool l1_5), (6, .int .i64 l1_6), (19, .bool false), (22, .int .u8 (x8_7.toNat : Int))], []⟩ (by decide) (ixS 9 a0 .i64 l1_6 x8_7 (by kernel_rfl) (by kernel_rfl) hx8_7) (by kernel_rfl) ?_
              refine SO.run c0 10 ⟨[(0, .str a0), (4, .int .u64 l1_4), (5, .bool l1_5), (6, .int .i64 l1_6), (24, .bool (decide ((x8_7.toNat : Int) > 57)))], []⟩ (by decide) (by kernel_rfl) ?_
              exact SO.done ⟨(decide ((x8_7.toNat : Int) > 57)), rfl, h⟩
      · replace h := Opt.f h ht
        refine SC.weak (S1 := ⟨[(4, .int .u64 l1_4), (5, .bool l1_5)], []⟩) ?_ ?_
        · exact ⟨⟨Wk.refl _, Wk.refl _, trivial⟩, trivial, by kernel_rfl⟩
        refine SC.exit ?_
        obtain ⟨r1, hh, e1⟩ := Opt.inr h
        clear h
        subst e1
        have h := hh
        clear hh
        refine ⟨_, rfl, ?_⟩
        exact ⟨(l1_4, l1_5), rfl, h⟩
theorem ok_ref09_Spell (k : Nat) (a0 : Int) (r : List UInt8) (h : ref09_Spell k a0 = some r) :
    SF Z 94 [.int .i64 a0] [] (.str r) [] := by
  unfold ref09_Spell at h
  refine SF.intro Tryd.func94 rfl Tryd.ntmps94 rfl (Nat.le_of_ble_eq_true rfl) (by decide) ?_
  refine SC.seq ?_
  refine SC.region 1 rfl ?_
  refine SO.run c0 1 ⟨[(0, .int .i64 a0)], []⟩ (by decide) (by kernel_rfl) ?_
  refine SO.done ?_
  refine SC.seq ?_
  refine SC.region 2 rfl ?_
  refine SO.run c0 2 ⟨[(0, .int .i64 a0), (3, .slice .full 1 (eStr.F [[43], [45], [42], [47], [37], [61, 61], [33, 61], [60], [60, 61], [62], [62, 61], [38, 38], [124, 124], [33]]))], []⟩ (by decide) (by kernel_rfl) ?_
  refine SO.done ?_
  refine SC.seq ?_
  refine SC.seq ?_
  refine SC.region 6 rfl ?_
  refine SO.run c0 3 ⟨[(0, .int .i64 a0), (3, .slice .full 1 (eStr.F [[43], [45], [42], [47], [37], [61, 61], [33, 61], [60], [60, 61], [62], [62, 61], [38, 38], [124, 124], [33]])), (7, .bool (decide (a0 < 1)))], []⟩ (by decide) (by kernel_rfl) ?_
  refine SO.runB c0 6 (decide (a0 < 1)) (fun b => ⟨[(0, .int .i64 a0), (3, .slice .full 1 (eStr.F [[43], [45], [42], [47], [37], [61, 61], [33, 61], [60], [60, 61], [62], [62, 61], [38, 38], [124, 124], [33]])), (7, .bool b)], []⟩) (fun b => ⟨[(0, .int .i64 a0), (3, .slice .full 1 (eStr.F [[43], [45], [42], [47], [37], [61, 61], [33, 61], [60], [60, 61], [62], [62, 61], [38, 38], [124, 124], [33]])), (10, .bool (b || (decide (a0 > 14))))], []⟩) (by decide) (by kernel_rfl) (by kernel_rfl) ?_
  refine SO.done ?_
  refine SC.cond ((decide (a0 < 1)) || (decide (a0 > 14))) (by kernel_rfl) (fun ht => ?_) (fun ht => ?_)
  · replace h := Opt.t h ht
    refine SC.seq ?_
    refine SC.region 1 rfl ?_
    refine SO.run c0 1 ⟨[(2, .str [])], []⟩ (by decide) (by kernel_rfl) ?_
    refine SO.done ?_
    refine SC.ret ?_
    replace h := Option.some.inj h
    subst h
    exact ⟨[.str []], by kernel_rfl, Wk.eq (by kernel_rfl), trivial, by kernel_rfl⟩
  · replace h := Opt.f h ht
    refine SC.skip ?_
    refine SC.seq ?_
    refine SC.region 6 rfl ?_
    refine SO.run c0 3 ⟨[(11, .slice .full 1 (eStr.F [[43], [45], [42], [47], [37], [61, 61], [33, 61], [60], [60, 61], [62], [62, 61], [38, 38], [124, 124], [33]])), (13, .int .i64 (IntKind.i64.wrap (a0 - 1)))], []⟩ (by decide) (by kernel_rfl) ?_
    obtain ⟨x4_3, hx4_3, h⟩ := Opt.ex h
    refine SO.op c0 { v := .pin [.str x4_3] } ⟨[(14, .pin [.str x4_3])], []⟩ (by decide) (ixR eStr 77 .full 1 [[43], [45], [42], [47], [37], [61, 61], [33, 61], [60], [60, 61], [62], [62, 61], [38, 38], [124, 124], [33]] .i64 (IntKind.i64.wrap (a0 - 1)) x4_3 [.str x4_3] (by kernel_rfl) (by kernel_rfl) hx4_3 (rfl)) (by kernel_rfl) ?_
    refine SO.run c0 6 ⟨[(2, .str x4_3)], []⟩ (by decide) (by kernel_rfl) ?_
    refine SO.done ?_
    refine SC.ret ?_
    replace h := Option.some.inj h
    subst h
    exact ⟨[.str x4_3], by kernel_rfl, Wk.eq (by kernel_rfl), trivial, by kernel_rfl⟩
theorem ok_ref09_Mark (k : Nat) (a0 : List UInt8) (r : List UInt8) (h : ref09_Mark k a0 = some r) :
    SF Z 69 [.str a0] [] (.str r) [] := by
  unfold ref09_Mark at h
  refine SF.intro Tryd.func69 rfl Tryd.ntmps69 rfl (Nat.le_of_ble_eq_true rfl) (by decide) ?_
  refine SC.seq ?_
  refine SC.region 1 rfl ?_
  refine SO.run c0 1 ⟨[(0, .str a0)], []⟩ (by decide) (by kernel_rfl) ?_
  refine SO.done ?_
  refine SC.seq ?_
  refine SC.region 2 rfl ?_
  refine SO.run c0 2 ⟨[(0, .str a0), (3, .slice .full 1 (eStr.F [[40], [41], [123], [125], [91], [93], [44], [59], [46], [61]]))], []⟩ (by decide) (by kernel_rfl) ?_
  refine SO.begin (.loc 3) 1 3 none ⟨[(0, .str a0), (3, .slice (.buf (.loc 3)) 1 (eStr.F [[40], [41], [123], [125], [91], [93], [44], [59], [46], [61]]))], [(.loc 3, .buf 1 ([[40], [41], [123], [125], [91], [93], [44], [59], [46], [61]].length))]⟩ (by kernel_rfl) ?_
  refine SO.done ?_
  apply SC.seqJ (r := r) h (fun v : List (List UInt8) => ⟨[(0, .str a0), (3, .slice (.buf (.loc 3)) 1 (eStr.F v))], [(.loc 3, .buf 1 (v.length))]⟩)
  · rintro j0_3 r h
    refine SC.eqS (S1 := ⟨[(0, .str a0), (3, .slice (.buf (.loc 3)) 1 (eStr.F j0_3))], [(.loc 3, .buf 1 (j0_3.length))]⟩) rfl ?_
    refine SC.seq ?_
    refine SC.region 1 rfl ?_
    refine SO.run c0 1 ⟨[(0, .str a0), (3, .slice (.buf (.loc 3)) 1 (eStr.F j0_3)), (5, .str [])], [(.loc 3, .buf 1 (j0_3.length))]⟩ (by decide) (by kernel_rfl) ?_
    refine SO.done ?_
    apply SC.seqJ (r := r) h (fun v : List UInt8 => ⟨[(5, .str v)], []⟩)
    · rintro j2_5 r h
      refine SC.eqS (S1 := ⟨[(5, .str j2_5)], []⟩) rfl ?_
      refine SC.seq ?_
      refine SC.region 2 rfl ?_
      refine SO.run c0 2 ⟨[(2, .str j2_5)], []⟩ (by decide) (by kernel_rfl) ?_
      refine SO.done ?_
      refine SC.ret ?_
      replace h := Option.some.inj h
      subst h
      exact ⟨[.str j2_5], by kernel_rfl, Wk.eq (by kernel_rfl), trivial, by kernel_rfl⟩
    · intro j_j2 h
      refine SC.seq ?_
      refine SC.region 1 rfl ?_
      refine SO.run c0 1 ⟨[(0, .str a0), (3, .slice (.buf (.loc 3)) 1 (eStr.F j0_3)), (5, .str []), (6, .int .i64 0)], [(.loc 3, .buf 1 (j0_3.length))]⟩ (by decide) (by kernel_rfl) ?_
      refine SO.done ?_
      refine SC.block ?_
      apply SC.loopJ (r := r) h (fun v : List UInt8 × Int => ⟨[(0, .str a0), (3, .slice (.buf (.loc 3)) 1 (eStr.F j0_3)), (5, .str v.1), (6, .int .i64 v.2)], [(.loc 3, .buf 1 (j0_3.length))]⟩)
      rintro ⟨l3_5, l3_6⟩ r h
      refine SC.eqS (S1 := ⟨[(0, .str a0), (3, .slice (.buf (.loc 3)) 1 (eStr.F j0_3)), (5, .str l3_5), (6, .int .i64 l3_6)], [(.loc 3, .buf 1 (j0_3.length))]⟩) rfl ?_
      refine SC.seq ?_
      refine SC.seq ?_
      refine SC.region 4 rfl ?_
      refine SO.run c0 4 ⟨[(0, .str a0), (3, .slice (.buf (.loc 3)) 1 (eStr.F j0_3)), (5, .str l3_5), (6, .int .i64 l3_6), (20, .bool (decide (l3_6 < ((j0_3.length : Int)))))], [(.loc 3, .buf 1 (j0_3.length))]⟩ (by decide) (Eq.trans (b := some ⟨[(0, .str a0), (3, .slice (.buf (.loc 3)) 1 (eStr.F j0_3)), (5, .str l3_5), (6, .int .i64 l3_6), (20, .bool (decide (l3_6 < (((eStr.F j0_3).length : Int)))))], [(.loc 3, .buf 1 (j0_3.length))]⟩) (by kernel_rfl) (by simp only [LE.len])) ?_
      refine SO.done ?_
      refine SC.cond (decide (l3_6 < ((j0_3.length : Int)))) (by kernel_rfl) (fun ht => ?_) (fun ht => ?_)
      · replace h := Opt.t h ht
        refine SC.skip ?_
        apply SC.seqJ (r := r) h (fun v : List UInt8 => ⟨[(0, .str a0), (3, .slice (.buf (.loc 3)) 1 (eStr.F j0_3)), (5, .str v), (6, .int .i64 l3_6)], [(.loc 3, .buf 1 (j0_3.length))]⟩)
        · rintro j4_5 r h
          refine SC.eqS (S1 := ⟨[(0, .str a0), (3, .slice (.buf (.loc 3)) 1 (eStr.F j0_3)), (5, .str j4_5), (6, .int .i64 l3_6)], [(.loc 3, .buf 1 (j0_3.length))]⟩) rfl ?_
          refine SC.region 3 rfl ?_
          refine SO.run c0 3 ⟨[(0, .str a0), (3, .slice (.buf (.loc 3)) 1 (eStr.F j0_3)), (5, .str j4_5), (6, .int .i64 (IntKind.i64.wrap (l3_6 + 1)))], [(.loc 3, .buf 1 (j0_3.length))]⟩ (by decide) (by kernel_rfl) ?_
          refine SO.done ?_
          replace h := Option.some.inj h
          subst h
          exact ⟨(j4_5, (IntKind.i64.wrap (l3_6 + 1))), rfl, rfl⟩
        · intro j_j4 h
          refine SC.block ?_
          refine SC.seq ?_
          refine SC.drawS 32 rfl (by kernel_rfl) ?_
          refine QD.run 2 ⟨[(0, .str a0), (3, .slice (.buf (.loc 3)) 1 (eStr.F j0_3)), (5, .str l3_5), (6, .int .i64 l3_6), (20, .bool (decide (l3_6 < ((j0_3.length : Int))))), (23, .slice (.buf (.loc 3)) 1 (eStr.F j0_3)), (24, .int .i64 l3_6)], [(.loc 3, .buf 1 (j0_3.length))]⟩ (by decide) (by kernel_rfl) ?_
          obtain ⟨x10_2, hx10_2, h⟩ := Opt.ex h
          refine QD.op (.pin [.str x10_2]) ⟨[(0, .str a0), (3, .slice (.buf (.loc 3)) 1 (eStr.F j0_3)), (5, .str l3_5), (6, .int .i64 l3_6), (20, .bool (decide (l3_6 < ((j0_3.length : Int))))), (23, .slice (.buf (.loc 3)) 1 (eStr.F j0_3)), (24, .int .i64 l3_6), (25, .pin [.str x10_2])], [(.loc 3, .buf 1 (j0_3.length))]⟩ (by decide) (ixR eStr 77 (.buf (.loc 3)) 1 j0_3 .i64 l3_6 x10_2 [.str x10_2] (by kernel_rfl) (by kernel_rfl) hx10_2 (rfl)) (by kernel_rfl) ?_
          refine QD.run 9 ⟨[(0, .str a0), (3, .slice (.buf (.loc 3)) 1 (eStr.F j0_3)), (5, .str l3_5), (6, .int .i64 l3_6), (20, .bool (decide (l3_6 < ((j0_3.length : Int))))), (23, .slice (.buf (.loc 3)) 1 (eStr.F j0_3)), (24, .int .i64 l3_6), (25, .pin [.str x10_2]), (26, .str x10_2), (27, .int .i64 ((x10_2.length : Int))), (28, .str a0), (29, .int .i64 ((a0.length : Int))), (30, .bool (decide (((x10_2.length : Int)) ≤ ((a0.length : Int))))), (31, .bool (decide (((x10_2.length : Int)) ≤ ((a0.length : Int)))))], [(.loc 3, .buf 1 (j0_3.length))]⟩ (by decide) (by kernel_rfl) ?_
          refine QD.joinJ h (fun v : Bool => ⟨[(0, .str a0), (3, .slice (.buf (.loc 3)) 1 (eStr.F j0_3)), (5, .str l3_5), (6, .int .i64 l3_6), (44, .bool v)], [(.loc 3, .buf 1 (j0_3.length))]⟩) 22 (by decide) (fun v => by kernel_rfl) ?_ ?_
          · rintro g10_21_44 h
            refine QD.eqS (S1 := ⟨[(0, .str a0), (3, .slice (.buf (.loc 3)) 1 (eStr.F j0_3)), (5, .str l3_5), (6, .int .i64 l3_6), (44, .bool g10_21_44)], [(.loc 3, .buf 1 (j0_3.length))]⟩) rfl ?_
            refine QD.run 23 ⟨[(0, .str a0), (3, .slice (.buf (.loc 3)) 1 (eStr.F j0_3)), (5, .str l3_5), (6, .int .i64 l3_6), (44, .bool g10_21_44), (45, .bool g10_21_44)], [(.loc 3, .buf 1 (j0_3.length))]⟩ (by decide) (by kernel_rfl) ?_
            refine QD.joinJ h (fun v : Bool => ⟨[(0, .str a0), (3, .slice (.buf (.loc 3)) 1 (eStr.F j0_3)), (5, .str l3_5), (6, .int .i64 l3_6), (54, .bool v)], [(.loc 3, .buf 1 (j0_3.length))]⟩) 32 (by decide) (fun v => by kernel_rfl) ?_ ?_
            · rintro g10_31_54 h
              refine QD.eqS (S1 := ⟨[(0, .str a0), (3, .slice (.buf (.loc 3)) 1 (eStr.F j0_3)), (5, .str l3_5), (6, .int .i64 l3_6), (54, .bool g10_31_54)], [(.loc 3, .buf 1 (j0_3.length))]⟩) rfl ?_
              refine QD.fin ⟨[(0, .str a0), (3, .slice (.buf (.loc 3)) 1 (eStr.F j0_3)), (5, .str l3_5), (6, .int .i64 l3_6), (54, .bool g10_31_54)], [(.loc 3, .buf 1 (j0_3.length))]⟩ (by kernel_rfl) ?_
              refine SC.cond g10_31_54 (by kernel_rfl) (fun ht => ?_) (fun ht => ?_)
              · replace h := Opt.t h ht
                refine SC.region 5 rfl ?_
                refine SO.run c0 2 ⟨[(0, .str a0), (3, .slice (.buf (.loc 3)) 1 (eStr.F j0_3)), (6, .int .i64 l3_6), (55, .slice (.buf (.loc 3)) 1 (eStr.F j0_3)), (56, .int .i64 l3_6)], [(.loc 3, .buf 1 (j0_3.length))]⟩ (by decide) (by kernel_rfl) ?_
                obtain ⟨x11_2, hx11_2, h⟩ := Opt.ex h
                refine SO.op c0 { v := .pin [.str x11_2] } ⟨[(0, .str a0), (3, .slice (.buf (.loc 3)) 1 (eStr.F j0_3)), (6, .int .i64 l3_6), (57, .pin [.str x11_2])], [(.loc 3, .buf 1 (j0_3.length))]⟩ (by decide) (ixR eStr 77 (.buf (.loc 3)) 1 j0_3 .i64 l3_6 x11_2 [.str x11_2] (by kernel_rfl) (by kernel_rfl) hx11_2 (rfl)) (by kernel_rfl) ?_
                refine SO.run c0 5 ⟨[(0, .str a0), (3, .slice (.buf (.loc 3)) 1 (eStr.F j0_3)), (5, .str x11_2), (6, .int .i64 l3_6)], [(.loc 3, .buf 1 (j0_3.length))]⟩ (by decide) (by kernel_rfl) ?_
                refine SO.done ?_
                exact ⟨x11_2, rfl, h⟩
              · replace h := Opt.f h ht
                refine SC.weak (S1 := ⟨[(0, .str a0), (3, .slice (.buf (.loc 3)) 1 (eStr.F j0_3)), (5, .str l3_5), (6, .int .i64 l3_6)], [(.loc 3, .buf 1 (j0_3.length))]⟩) ?_ ?_
                · exact ⟨⟨Wk.refl _, Wk.refl _, Wk.refl _, Wk.refl _, trivial⟩, ⟨⟨.buf 1 (j0_3.length), by kernel_rfl, ObWk.buf rfl⟩, trivial⟩, by kernel_rfl⟩
                refine SC.skip ?_
                exact ⟨l3_5, rfl, h⟩
            · intro j_g10_31 h
              refine QD.bool g10_21_44 (fun b => ⟨[(0, .str a0), (3, .slice (.buf (.loc 3)) 1 (eStr.F j0_3)), (5, .str l3_5), (6, .int .i64 l3_6), (44, .bool g10_21_44), (45, .bool b)], [(.loc 3, .buf 1 (j0_3.length))]⟩) (fun ht => ?_) (fun ht => ?_)
              · replace h := Opt.t h ht
                refine QD.run 25 ⟨[(0, .str a0), (3, .slice (.buf (.loc 3)) 1 (eStr.F j0_3)), (5, .str l3_5), (6, .int .i64 l3_6), (44, .bool g10_21_44), (45, .bool true), (46, .slice (.buf (.loc 3)) 1 (eStr.F j0_3)), (47, .int .i64 l3_6)], [(.loc 3, .buf 1 (j0_3.length))]⟩ (by decide) (by kernel_rfl) ?_
                obtain ⟨x10_25, hx10_25, h⟩ := Opt.ex h
                refine QD.op (.pin [.str x10_25]) ⟨[(0, .str a0), (3, .slice (.buf (.loc 3)) 1 (eStr.F j0_3)), (5, .str l3_5), (6, .int .i64 l3_6), (44, .bool g10_21_44), (45, .bool true), (46, .slice (.buf (.loc 3)) 1 (eStr.F j0_3)), (47, .int .i64 l3_6), (48, .pin [.str x10_25])], [(.loc 3, .buf 1 (j0_3.length))]⟩ (by decide) (ixR eStr 77 (.buf (.loc 3)) 1 j0_3 .i64 l3_6 x10_25 [.str x10_25] (by kernel_rfl) (by kernel_rfl) hx10_25 (rfl)) (by kernel_rfl) ?_
                refine QD.run 32 ⟨[(0, .str a0), (3, .slice (.buf (.loc 3)) 1 (eStr.F j0_3)), (5, .str l3_5), (6, .int .i64 l3_6), (44, .bool g10_21_44), (45, .bool true), (46, .slice (.buf (.loc 3)) 1 (eStr.F j0_3)), (47, .int .i64 l3_6), (48, .pin [.str x10_25]), (49, .str x10_25), (50, .int .i64 ((x10_25.length : Int))), (51, .str l3_5), (52, .int .i64 ((l3_5.length : Int))), (53, .bool (decide (((x10_25.length : Int)) > ((l3_5.length : Int))))), (54, .bool (decide (((x10_25.length : Int)) > ((l3_5.length : Int)))))], [(.loc 3, .buf 1 (j0_3.length))]⟩ (by decide) (by kernel_rfl) ?_
                exact QD.done ⟨(decide (((x10_25.length : Int)) > ((l3_5.length : Int)))), ⟨by kernel_rfl, rfl⟩, h⟩
              · replace h := Opt.f h ht
                refine QD.run 32 ⟨[(0, .str a0), (3, .slice (.buf (.loc 3)) 1 (eStr.F j0_3)), (5, .str l3_5), (6, .int .i64 l3_6), (44, .bool g10_21_44), (45, .bool false), (46, .tuple []), (47, .tuple []), (48, .tuple []), (49, .tuple []), (50, .tuple []), (51, .tuple []), (52, .tuple []), (53, .tuple []), (54, .bool false)], [(.loc 3, .buf 1 (j0_3.length))]⟩ (by decide) (by kernel_rfl) ?_
                exact QD.done ⟨false, ⟨by kernel_rfl, rfl⟩, h⟩
          · intro j_g10_21 h
            refine QD.bool (decide (((x10_2.length : Int)) ≤ ((a0.length : Int)))) (fun b => ⟨[(0, .str a0), (3, .slice (.buf (.loc 3)) 1 (eStr.F j0_3)), (5, .str l3_5), (6, .int .i64 l3_6), (20, .bool (decide (l3_6 < ((j0_3.length : Int))))), (23, .slice (.buf (.loc 3)) 1 (eStr.F j0_3)), (24, .int .i64 l3_6), (25, .pin [.str x10_2]), (26, .str x10_2), (27, .int .i64 (x10_2.length : Int)), (28, .str a0), (29, .int .i64 (a0.length : Int)), (30, .bool (decide (((x10_2.length : Int)) ≤ ((a0.length : Int))))), (31, .bool b)], [(.loc 3, .buf 1 (j0_3.length))]⟩) (fun ht => ?_) (fun ht => ?_)
            · replace h := Opt.t h ht
              refine QD.run 12 ⟨[(0, .str a0), (3, .slice (.buf (.loc 3)) 1 (eStr.F j0_3)), (5, .str l3_5), (6, .int .i64 l3_6), (20, .bool (decide (l3_6 < ((j0_3.length : Int))))), (23, .slice (.buf (.loc 3)) 1 (eStr.F j0_3)), (24, .int .i64 l3_6), (25, .pin [.str x10_2]), (26, .str x10_2), (27, .int .i64 (x10_2.length : Int)), (28, .str a0), (29, .int .i64 (a0.length : Int)), (30, .bool (decide (((x10_2.length : Int)) ≤ ((a0.length : Int))))), (31, .bool true), (32, .str a0), (33, .slice (.buf (.loc 3)) 1 (eStr.F j0_3)), (34, .int .i64 l3_6)], [(.loc 3, .buf 1 (j0_3.length))]⟩ (by decide) (by kernel_rfl) ?_
              obtain ⟨x10_12, hx10_12, h⟩ := Opt.ex h
              refine QD.op (.pin [.str x10_12]) ⟨[(0, .str a0), (3, .slice (.buf (.loc 3)) 1 (eStr.F j0_3)), (5, .str l3_5), (6, .int .i64 l3_6), (20, .bool (decide (l3_6 < ((j0_3.length : Int))))), (23, .slice (.buf (.loc 3)) 1 (eStr.F j0_3)), (24, .int .i64 l3_6), (25, .pin [.str x10_2]), (26, .str x10_2), (27, .int .i64 (x10_2.length : Int)), (28, .str a0), (29, .int .i64 (a0.length : Int)), (30, .bool (decide (((x10_2.length : Int)) ≤ ((a0.length : Int))))), (31, .bool true), (32, .str a0), (33, .slice (.buf (.loc 3)) 1 (eStr.F j0_3)), (34, .int .i64 l3_6), (35, .pin [.str x10_12])], [(.loc 3, .buf 1 (j0_3.length))]⟩ (by decide) (ixR eStr 77 (.buf (.loc 3)) 1 j0_3 .i64 l3_6 x10_12 [.str x10_12] (by kernel_rfl) (by kernel_rfl) hx10_12 (rfl)) (by kernel_rfl) ?_
              refine QD.run 15 ⟨[(0, .str a0), (3, .slice (.buf (.loc 3)) 1 (eStr.F j0_3)), (5, .str l3_5), (6, .int .i64 l3_6), (20, .bool (decide (l3_6 < ((j0_3.length : Int))))), (23, .slice (.buf (.loc 3)) 1 (eStr.F j0_3)), (24, .int .i64 l3_6), (25, .pin [.str x10_2]), (26, .str x10_2), (27, .int .i64 (x10_2.length : Int)), (28, .str a0), (29, .int .i64 (a0.length : Int)), (30, .bool (decide (((x10_2.length : Int)) ≤ ((a0.length : Int))))), (31, .bool true), (32, .str a0), (33, .slice (.buf (.loc 3)) 1 (eStr.F j0_3)), (34, .int .i64 l3_6), (35, .pin [.str x10_12]), (36, .str x10_12), (37, .int .i64 ((x10_12.length : Int)))], [(.loc 3, .buf 1 (j0_3.length))]⟩ (by decide) (by kernel_rfl) ?_
              obtain ⟨x10_15, hx10_15, h⟩ := Opt.ex h
              refine QD.op (.str x10_15) ⟨[(0, .str a0), (3, .slice (.buf (.loc 3)) 1 (eStr.F j0_3)), (5, .str l3_5), (6, .int .i64 l3_6), (20, .bool (decide (l3_6 < ((j0_3.length : Int))))), (23, .slice (.buf (.loc 3)) 1 (eStr.F j0_3)), (24, .int .i64 l3_6), (25, .pin [.str x10_2]), (26, .str x10_2), (27, .int .i64 (x10_2.length : Int)), (28, .str a0), (29, .int .i64 (a0.length : Int)), (30, .bool (decide (((x10_2.length : Int)) ≤ ((a0.length : Int))))), (31, .bool true), (32, .str a0), (33, .slice (.buf (.loc 3)) 1 (eStr.F j0_3)), (34, .int .i64 l3_6), (35, .pin [.str x10_12]), (36, .str x10_12), (37, .int .i64 (x10_12.length : Int)), (38, .str x10_15)], [(.loc 3, .buf 1 (j0_3.length))]⟩ (by decide) (slS 9 a0 .i64 .i64 none (some (x10_12.length : Int)) x10_15 (by kernel_rfl) (by kernel_rfl) hx10_15) (by kernel_rfl) ?_
              refine QD.run 18 ⟨[(0, .str a0), (3, .slice (.buf (.loc 3)) 1 (eStr.F j0_3)), (5, .str l3_5), (6, .int .i64 l3_6), (20, .bool (decide (l3_6 < ((j0_3.length : Int))))), (23, .slice (.buf (.loc 3)) 1 (eStr.F j0_3)), (24, .int .i64 l3_6), (25, .pin [.str x10_2]), (26, .str x10_2), (27, .int .i64 (x10_2.length : Int)), (28, .str a0), (29, .int .i64 (a0.length : Int)), (30, .bool (decide (((x10_2.length : Int)) ≤ ((a0.length : Int))))), (31, .bool true), (32, .str a0), (33, .slice (.buf (.loc 3)) 1 (eStr.F j0_3)), (34, .int .i64 l3_6), (35, .pin [.str x10_12]), (36, .str x10_12), (37, .int .i64 (x10_12.length : Int)), (38, .str x10_15), (39, .slice (.buf (.loc 3)) 1 (eStr.F j0_3)), (40, .int .i64 l3_6)], [(.loc 3, .buf 1 (j0_3.length))]⟩ (by decide) (by kernel_rfl) ?_
              obtain ⟨x10_18, hx10_18, h⟩ := Opt.ex h
              refine QD.op (.pin [.str x10_18]) ⟨[(0, .str a0), (3, .slice (.buf (.loc 3)) 1 (eStr.F j0_3)), (5, .str l3_5), (6, .int .i64 l3_6), (20, .bool (decide (l3_6 < ((j0_3.length : Int))))), (23, .slice (.buf (.loc 3)) 1 (eStr.F j0_3)), (24, .int .i64 l3_6), (25, .pin [.str x10_2]), (26, .str x10_2), (27, .int .i64 (x10_2.length : Int)), (28, .str a0), (29, .int .i64 (a0.length : Int)), (30, .bool (decide (((x10_2.length : Int)) ≤ ((a0.length : Int))))), (31, .bool true), (32, .str a0), (33, .slice (.buf (.loc 3)) 1 (eStr.F j0_3)), (34, .int .i64 l3_6), (35, .pin [.str x10_12]), (36, .str x10_12), (37, .int .i64 (x10_12.length : Int)), (38, .str x10_15), (39, .slice (.buf (.loc 3)) 1 (eStr.F j0_3)), (40, .int .i64 l3_6), (41, .pin [.str x10_18])], [(.loc 3, .buf 1 (j0_3.length))]⟩ (by decide) (ixR eStr 77 (.buf (.loc 3)) 1 j0_3 .i64 l3_6 x10_18 [.str x10_18] (by kernel_rfl) (by kernel_rfl) hx10_18 (rfl)) (by kernel_rfl) ?_
              refine QD.run 22 ⟨[(0, .str a0), (3, .slice (.buf (.loc 3)) 1 (eStr.F j0_3)), (5, .str l3_5), (6, .int .i64 l3_6), (20, .bool (decide (l3_6 < ((j0_3.length : Int))))), (23, .slice (.buf (.loc 3)) 1 (eStr.F j0_3)), (24, .int .i64 l3_6), (25, .pin [.str x10_2]), (26, .str x10_2), (27, .int .i64 (x10_2.length : Int)), (28, .str a0), (29, .int .i64 (a0.length : Int)), (30, .bool (decide (((x10_2.length : Int)) ≤ ((a0.length : Int))))), (31, .bool true), (32, .str a0), (33, .slice (.buf (.loc 3)) 1 (eStr.F j0_3)), (34, .int .i64 l3_6), (35, .pin [.str x10_12]), (36, .str x10_12), (37, .int .i64 (x10_12.length : Int)), (38, .str x10_15), (39, .slice (.buf (.loc 3)) 1 (eStr.F j0_3)), (40, .int .i64 l3_6), (41, .pin [.str x10_18]), (42, .str x10_18), (43, .bool (x10_15 == x10_18)), (44, .bool (x10_15 == x10_18))], [(.loc 3, .buf 1 (j0_3.length))]⟩ (by decide) (by kernel_rfl) ?_
              exact QD.done ⟨(x10_15 == x10_18), ⟨by kernel_rfl, rfl⟩, h⟩
            · replace h := Opt.f h ht
              refine QD.run 22 ⟨[(0, .str a0), (3, .slice (.buf (.loc 3)) 1 (eStr.F j0_3)), (5, .str l3_5), (6, .int .i64 l3_6), (20, .bool (decide (l3_6 < ((j0_3.length : Int))))), (23, .slice (.buf (.loc 3)) 1 (eStr.F j0_3)), (24, .int .i64 l3_6), (25, .pin [.str x10_2]), (26, .str x10_2), (27, .int .i64 (x10_2.length : Int)), (28, .str a0), (29, .int .i64 (a0.length : Int)), (30, .bool (decide (((x10_2.length : Int)) ≤ ((a0.length : Int))))), (31, .bool false), (32, .tuple []), (33, .tuple []), (34, .tuple []), (35, .tuple []), (36, .tuple []), (37, .tuple []), (38, .tuple []), (39, .tuple []), (40, .tuple []), (41, .tuple []), (42, .tuple []), (43, .tuple []), (44, .bool false)], [(.loc 3, .buf 1 (j0_3.length))]⟩ (by decide) (by kernel_rfl) ?_
              exact QD.done ⟨false, ⟨by kernel_rfl, rfl⟩, h⟩
      · replace h := Opt.f h ht
        refine SC.weak (S1 := ⟨[(5, .str l3_5)], []⟩) ?_ ?_
        · exact ⟨⟨Wk.refl _, trivial⟩, trivial, by kernel_rfl⟩
        refine SC.exit ?_
        obtain ⟨r1, hh, e1⟩ := Opt.inr h
        clear h
        subst e1
        have h := hh
        clear hh
        refine ⟨_, rfl, ?_⟩
        exact ⟨l3_5, rfl, h⟩
  · intro j_j0 h
    refine SC.seq ?_
    refine SC.region 1 rfl ?_
    refine SO.run c0 1 ⟨[(0, .str a0), (3, .slice (.buf (.loc 3)) 1 (eStr.F [[40], [41], [123], [125], [91], [93], [44], [59], [46], [61]])), (4, .int .i64 1)], [(.loc 3, .buf 1 ([[40], [41], [123], [125], [91], [93], [44], [59], [46], [61]].length))]⟩ (by decide) (by kernel_rfl) ?_
    refine SO.done ?_
    refine SC.block ?_
    apply SC.loopJ (r := r) h (fun v : List (List UInt8) × Int => ⟨[(0, .str a0), (3, .slice (.buf (.loc 3)) 1 (eStr.F v.1)), (4, .int .i64 v.2)], [(.loc 3, .buf 1 (v.1.length))]⟩)
    rintro ⟨l1_3, l1_4⟩ r h
    refine SC.eqS (S1 := ⟨[(0, .str a0), (3, .slice (.buf (.loc 3)) 1 (eStr.F l1_3)), (4, .int .i64 l1_4)], [(.loc 3, .buf 1 (l1_3.length))]⟩) rfl ?_
    refine SC.seq ?_
    refine SC.seq ?_
    refine SC.region 2 rfl ?_
    refine SO.run c0 2 ⟨[(0, .str a0), (3, .slice (.buf (.loc 3)) 1 (eStr.F l1_3)), (4, .int .i64 l1_4), (9, .bool (decide (l1_4 ≤ 14)))], [(.loc 3, .buf 1 (l1_3.length))]⟩ (by decide) (by kernel_rfl) ?_
    refine SO.done ?_
    refine SC.cond (decide (l1_4 ≤ 14)) (by kernel_rfl) (fun ht => ?_) (fun ht => ?_)
    · replace h := Opt.t h ht
      refine SC.skip ?_
      refine SC.seq ?_
      refine SC.block ?_
      refine SC.region 6 rfl ?_
      refine SO.run c0 2 ⟨[(0, .str a0), (4, .int .i64 l1_4), (12, .slice (.buf (.loc 3)) 1 (eStr.F l1_3)), (13, .int .i64 l1_4)], [(.loc 3, .buf 1 (l1_3.length))]⟩ (by decide) (by kernel_rfl) ?_
      obtain ⟨x5_2, hx5_2, h⟩ := Opt.ex h
      refine SO.call ⟨94, [.int .i64 l1_4], [], [], some 14⟩ ⟨[(0, .str a0), (4, .int .i64 l1_4), (12, .slice (.buf (.loc 3)) 1 (eStr.F l1_3)), (14, .str x5_2)], [(.loc 3, .buf 1 (l1_3.length))]⟩ (by decide) (by kernel_rfl) (ok_ref09_Spell k l1_4 x5_2 hx5_2) (by kernel_rfl) ?_
      refine SO.run c0 4 ⟨[(0, .str a0), (4, .int .i64 l1_4), (12, .slice (.buf (.loc 3)) 1 (eStr.F l1_3)), (15, .slice .full 1 (eStr.F [x5_2]))], [(.loc 3, .buf 1 (l1_3.length))]⟩ (by decide) (by kernel_rfl) ?_
      obtain ⟨hr, h⟩ := Opt.g h
      refine SO.op c0 { v := .slice (.buf (.loc 3)) 1 (eStr.F (l1_3 ++ [x5_2])), ws := [(.loc 3, .buf 1 ((l1_3 ++ [x5_2]).length))], rd := [.loc 3] } ⟨[(0, .str a0), (4, .int .i64 l1_4), (16, .slice (.buf (.loc 3)) 1 (eStr.F (l1_3 ++ [x5_2])))], [(.loc 3, .buf 1 ((l1_3 ++ [x5_2]).length))]⟩ (by decide) (apB eStr false 16 [(.loc 3, .buf 1 (l1_3.length))] 77 77 (.loc 3) 1 16 l1_3 [x5_2] .full (by kernel_rfl) (by kernel_rfl) (by kernel_rfl) hr) (by kernel_rfl) ?_
      refine SO.run c0 6 ⟨[(0, .str a0), (3, .slice (.buf (.loc 3)) 1 (eStr.F (l1_3 ++ [x5_2]))), (4, .int .i64 l1_4)], [(.loc 3, .buf 1 ((l1_3 ++ [x5_2]).length))]⟩ (by decide) (by kernel_rfl) ?_
      refine SO.done ?_
      refine SC.region 3 rfl ?_
      refine SO.run c0 3 ⟨[(0, .str a0), (3, .slice (.buf (.loc 3)) 1 (eStr.F (l1_3 ++ [x5_2]))), (4, .int .i64 (IntKind.i64.wrap (l1_4 + 1)))], [(.loc 3, .buf 1 ((l1_3 ++ [x5_2]).length))]⟩ (by decide) (by kernel_rfl) ?_
      refine SO.done ?_
      replace h := Option.some.inj h
      subst h
      exact ⟨((l1_3 ++ [x5_2]), (IntKind.i64.wrap (l1_4 + 1))), rfl, rfl⟩
    · replace h := Opt.f h ht
      refine SC.weak (S1 := ⟨[(0, .str a0), (3, .slice (.buf (.loc 3)) 1 (eStr.F l1_3))], [(.loc 3, .buf 1 (l1_3.length))]⟩) ?_ ?_
      · exact ⟨⟨Wk.refl _, Wk.refl _, trivial⟩, ⟨⟨.buf 1 (l1_3.length), by kernel_rfl, ObWk.buf rfl⟩, trivial⟩, by kernel_rfl⟩
      refine SC.exit ?_
      obtain ⟨r1, hh, e1⟩ := Opt.inr h
      clear h
      subst e1
      have h := hh
      clear hh
      refine ⟨_, rfl, ?_⟩
      exact ⟨l1_3, rfl, h⟩
theorem ok_ref10_one (k : Nat) (a0 : List UInt8) (a1 : Int) (r : TToken × Int) (h : ref10_one k a0 a1 = some r) :
    SF Z 34 [.str a0, .int .i64 a1] [] (.tuple [.agg (cTToken r.1), .int .i64 r.2]) [] := by
  unfold ref10_one at h
  refine SF.intro Tryd.func34 rfl Tryd.ntmps34 rfl (Nat.le_of_ble_eq_true rfl) (by decide) ?_
  refine SC.seq ?_
  refine SC.region 2 rfl ?_
  refine SO.run c0 2 ⟨[(0, .str a0), (1, .int .i64 a1), (4, .ptr (.loc 4) 0)], [(.loc 4, .cells true [.int .i64 0, .int .i64 0, .int .i64 0, .str []])]⟩ (by decide) (by kernel_rfl) ?_
  refine SO.done ?_
  refine SC.seq ?_
  refine SC.region 5 rfl ?_
  refine SO.run c0 2 ⟨[(0, .str a0), (1, .int .i64 a1), (4, .ptr (.loc 4) 0), (12, .str a0), (13, .int .i64 a1)], [(.loc 4, .cells true [.int .i64 0, .int .i64 0, .int .i64 0, .str []])]⟩ (by decide) (by kernel_rfl) ?_
  obtain ⟨x1_2, hx1_2, h⟩ := Opt.ex h
  refine SO.op c0 { v := .int .u8 (x1_2.toNat : Int) } ⟨[(0, .str a0), (1, .int .i64 a1), (4, .ptr (.loc 4) 0), (14, .int .u8 (x1_2.toNat : Int))], [(.loc 4, .cells true [.int .i64 0, .int .i64 0, .int .i64 0, .str []])]⟩ (by decide) (ixS 9 a0 .i64 a1 x1_2 (by kernel_rfl) (by kernel_rfl) hx1_2) (by kernel_rfl) ?_
  obtain ⟨x1_3, hx1_3, h⟩ := Opt.ex h
  refine SO.call ⟨33, [.int .u8 (x1_2.toNat : Int)], [], [], some 15⟩ ⟨[(0, .str a0), (1, .int .i64 a1), (4, .ptr (.loc 4) 0), (15, .int .i64 x1_3)], [(.loc 4, .cells true [.int .i64 0, .int .i64 0, .int .i64 0, .str []])]⟩ (by decide) (by kernel_rfl) (ok_ref10_class k (x1_2.toNat : Int) x1_3 hx1_3) (by kernel_rfl) ?_
  refine SO.run c0 5 ⟨[(0, .str a0), (1, .int .i64 a1), (4, .ptr (.loc 4) 0), (6, .int .i64 x1_3)], [(.loc 4, .cells true [.int .i64 0, .int .i64 0, .int .i64 0, .str []])]⟩ (by decide) (by kernel_rfl) ?_
  refine SO.done ?_
  refine SC.seq ?_
  refine SC.region 2 rfl ?_
  refine SO.run c0 2 ⟨[(0, .str a0), (1, .int .i64 a1), (4, .ptr (.loc 4) 0), (6, .int .i64 x1_3), (7, .int .i64 a1)], [(.loc 4, .cells true [.int .i64 0, .int .i64 0, .int .i64 0, .str []])]⟩ (by decide) (by kernel_rfl) ?_
  refine SO.done ?_
  refine SC.seq ?_
  refine SC.seq ?_
  refine SC.region 2 rfl ?_
  refine SO.run c0 2 ⟨[(0, .str a0), (1, .int .i64 a1), (4, .ptr (.loc 4) 0), (6, .int .i64 x1_3), (7, .int .i64 a1), (18, .bool (x1_3 == 1))], [(.loc 4, .cells true [.int .i64 0, .int .i64 0, .int .i64 0, .str []])]⟩ (by decide) (by kernel_rfl) ?_
  refine SO.done ?_
  refine SC.cond (x1_3 == 1) (by kernel_rfl) (fun ht => ?_) (fun ht => ?_)
  · replace h := Opt.t h ht
    apply SC.seqJ (r := r) h (fun v : Int => ⟨[(0, .str a0), (1, .int .i64 a1), (4, .ptr (.loc 4) 0), (7, .int .i64 v)], [(.loc 4, .cells true [.int .i64 0, .int .i64 0, .int .i64 0, .str []])]⟩)
    · rintro j0_7 r h
      refine SC.eqS (S1 := ⟨[(0, .str a0), (1, .int .i64 a1), (4, .ptr (.loc 4) 0), (7, .int .i64 j0_7)], [(.loc 4, .cells true [.int .i64 0, .int .i64 0, .int .i64 0, .str []])]⟩) rfl ?_
      refine SC.seq ?_
      refine SC.region 8 rfl ?_
      refine SO.run c0 4 ⟨[(4, .ptr (.loc 4) 0), (39, .int .i64 a1), (40, .str a0), (41, .int .i64 a1), (42, .int .i64 j0_7)], [(.loc 4, .cells true [.int .i64 0, .int .i64 0, .int .i64 0, .str []])]⟩ (by decide) (by kernel_rfl) ?_
      obtain ⟨x6_4, hx6_4, h⟩ := Opt.ex h
      refine SO.op c0 { v := .str x6_4 } ⟨[(4, .ptr (.loc 4) 0), (39, .int .i64 a1), (43, .str x6_4)], [(.loc 4, .cells true [.int .i64 0, .int .i64 0, .int .i64 0, .str []])]⟩ (by decide) (slS 9 a0 .i64 .i64 (some a1) (some j0_7) x6_4 (by kernel_rfl) (by kernel_rfl) hx6_4) (by kernel_rfl) ?_
      refine SO.run c0 8 ⟨[(4, .ptr (.loc 4) 0), (8, .ptr (.loc 8) 0)], [(.loc 4, .cells true [.int .i64 0, .int .i64 0, .int .i64 0, .str []]), (.loc 8, .cells true [.int .i64 1, .int .i64 a1, .int .i64 0, .str x6_4])]⟩ (by decide) (by kernel_rfl) ?_
      refine SO.done ?_
      apply SC.seqJ (r := r) h (fun v : Int => ⟨[(4, .ptr (.loc 4) 0), (8, .ptr (.loc 8) 0)], [(.loc 4, .cells true [.int .i64 0, .int .i64 0, .int .i64 0, .str []]), (.loc 8, .cells true [.int .i64 v, .int .i64 a1, .int .i64 0, .str x6_4])]⟩)
      · rintro j2_oloc8_0 r h
        refine SC.eqS (S1 := ⟨[(4, .ptr (.loc 4) 0), (8, .ptr (.loc 8) 0)], [(.loc 4, .cells true [.int .i64 0, .int .i64 0, .int .i64 0, .str []]), (.loc 8, .cells true [.int .i64 j2_oloc8_0, .int .i64 a1, .int .i64 0, .str x6_4])]⟩) rfl ?_
        refine SC.seq ?_
        refine SC.seq ?_
        refine SC.region 4 rfl ?_
        refine SO.run c0 4 ⟨[(4, .ptr (.loc 4) 0), (8, .ptr (.loc 8) 0), (52, .bool (decide (((x6_4.length : Int)) > 32)))], [(.loc 4, .cells true [.int .i64 0, .int .i64 0, .int .i64 0, .str []]), (.loc 8, .cells true [.int .i64 j2_oloc8_0, .int .i64 a1, .int .i64 0, .str x6_4])]⟩ (by decide) (by kernel_rfl) ?_
        refine SO.done ?_
        refine SC.cond (decide (((x6_4.length : Int)) > 32)) (by kernel_rfl) (fun ht => ?_) (fun ht => ?_)
        · replace h := Opt.t h ht
          refine SC.seq ?_
          refine SC.region 3 rfl ?_
          refine SO.run c0 3 ⟨[(4, .ptr (.loc 4) 0), (5, .int .i64 3)], [(.loc 4, .cells true [.int .i64 j2_oloc8_0, .int .i64 a1, .int .i64 0, .str x6_4])]⟩ (by decide) (by kernel_rfl) ?_
          refine SO.done ?_
          refine SC.ret ?_
          replace h := Option.some.inj h
          subst h
          exact ⟨[.agg [.int .i64 j2_oloc8_0, .int .i64 a1, .int .i64 0, .str x6_4], .int .i64 3], by kernel_rfl, Wk.eq (by kernel_rfl), trivial, by kernel_rfl⟩
        · replace h := Opt.f h ht
          refine SC.skip ?_
          refine SC.seq ?_
          refine SC.region 3 rfl ?_
          refine SO.run c0 3 ⟨[(4, .ptr (.loc 4) 0), (5, .int .i64 0)], [(.loc 4, .cells true [.int .i64 j2_oloc8_0, .int .i64 a1, .int .i64 0, .str x6_4])]⟩ (by decide) (by kernel_rfl) ?_
          refine SO.done ?_
          refine SC.ret ?_
          replace h := Option.some.inj h
          subst h
          exact ⟨[.agg [.int .i64 j2_oloc8_0, .int .i64 a1, .int .i64 0, .str x6_4], .int .i64 0], by kernel_rfl, Wk.eq (by kernel_rfl), trivial, by kernel_rfl⟩
      · intro j_j2 h
        refine SC.seq ?_
        refine SC.region 3 rfl ?_
        refine SO.run c0 2 ⟨[(4, .ptr (.loc 4) 0), (8, .ptr (.loc 8) 0), (46, .str x6_4)], [(.loc 4, .cells true [.int .i64 0, .int .i64 0, .int .i64 0, .str []]), (.loc 8, .cells true [.int .i64 1, .int .i64 a1, .int .i64 0, .str x6_4])]⟩ (by decide) (by kernel_rfl) ?_
        obtain ⟨x7_2, hx7_2, h⟩ := Opt.ex h
        refine SO.call ⟨67, [.str x6_4], [], [], some 47⟩ ⟨[(4, .ptr (.loc 4) 0), (8, .ptr (.loc 8) 0), (47, .bool x7_2)], [(.loc 4, .cells true [.int .i64 0, .int .i64 0, .int .i64 0, .str []]), (.loc 8, .cells true [.int .i64 1, .int .i64 a1, .int .i64 0, .str x6_4])]⟩ (by decide) (by kernel_rfl) (ok_ref09_Is k x6_4 x7_2 hx7_2) (by kernel_rfl) ?_
        refine SO.done ?_
        refine SC.cond x7_2 (by kernel_rfl) (fun ht => ?_) (fun ht => ?_)
        · replace h := Opt.t h ht
          refine SC.region 2 rfl ?_
          refine SO.run c0 2 ⟨[(4, .ptr (.loc 4) 0), (8, .ptr (.loc 8) 0)], [(.loc 4, .cells true [.int .i64 0, .int .i64 0, .int .i64 0, .str []]), (.loc 8, .cells true [.int .i64 3, .int .i64 a1, .int .i64 0, .str x6_4])]⟩ (by decide) (by kernel_rfl) ?_
          refine SO.done ?_
          exact ⟨3, rfl, h⟩
        · replace h := Opt.f h ht
          refine SC.weak (S1 := ⟨[(4, .ptr (.loc 4) 0), (8, .ptr (.loc 8) 0)], [(.loc 4, .cells true [.int .i64 0, .int .i64 0, .int .i64 0, .str []]), (.loc 8, .cells true [.int .i64 1, .int .i64 a1, .int .i64 0, .str x6_4])]⟩) ?_ ?_
          · exact ⟨⟨Wk.refl _, Wk.refl _, trivial⟩, ⟨⟨.cells true [.int .i64 0, .int .i64 0, .int .i64 0, .str []], by kernel_rfl, ObWk.cells (WkL.refl _)⟩, ⟨.cells true [.int .i64 1, .int .i64 a1, .int .i64 0, .str x6_4], by kernel_rfl, ObWk.cells (WkL.refl _)⟩, trivial⟩, by kernel_rfl⟩
          refine SC.skip ?_
          exact ⟨1, rfl, h⟩
    · intro j_j0 h
      refine SC.block ?_
      refine SC.weak (S1 := ⟨[(0, .str a0), (1, .int .i64 a1), (4, .ptr (.loc 4) 0), (7, .int .i64 a1)], [(.loc 4, .cells true [.int .i64 0, .int .i64 0, .int .i64 0, .str []])]⟩) ?_ ?_
      · exact ⟨⟨Wk.refl _, Wk.refl _, Wk.refl _, Wk.refl _, trivial⟩, ⟨⟨.cells true [.int .i64 0, .int .i64 0, .int .i64 0, .str []], by kernel_rfl, ObWk.cells (WkL.refl _)⟩, trivial⟩, by kernel_rfl⟩
      apply SC.loopJ (r := r) h (fun v : Int => ⟨[(0, .str a0), (1, .int .i64 a1), (4, .ptr (.loc 4) 0), (7, .int .i64 v)], [(.loc 4, .cells true [.int .i64 0, .int .i64 0, .int .i64 0, .str []])]⟩)
      rintro l1_7 r h
      refine SC.eqS (S1 := ⟨[(0, .str a0), (1, .int .i64 a1), (4, .ptr (.loc 4) 0), (7, .int .i64 l1_7)], [(.loc 4, .cells true [.int .i64 0, .int .i64 0, .int .i64 0, .str []])]⟩) rfl ?_
      refine SC.seq ?_
      refine SC.seq ?_
      refine SC.region 18 rfl ?_
      refine SO.run c0 5 ⟨[(0, .str a0), (1, .int .i64 a1), (4, .ptr (.loc 4) 0), (7, .int .i64 l1_7), (23, .bool (decide (l1_7 < ((a0.length : Int)))))], [(.loc 4, .cells true [.int .i64 0, .int .i64 0, .int .i64 0, .str []])]⟩ (by decide) (by kernel_rfl) ?_
      refine SO.joinK h (fun v : Bool => ⟨[(0, .str a0), (1, .int .i64 a1), (4, .ptr (.loc 4) 0), (7, .int .i64 l1_7), (36, .bool v)], [(.loc 4, .cells true [.int .i64 0, .int .i64 0, .int .i64 0, .str []])]⟩) 18 (by decide) ?_ ?_
      · rintro g4_17_36 h
        refine SO.eqS (S1 := ⟨[(0, .str a0), (1, .int .i64 a1), (4, .ptr (.loc 4) 0), (7, .int .i64 l1_7), (36, .bool g4_17_36)], [(.loc 4, .cells true [.int .i64 0, .int .i64 0, .int .i64 0, .str []])]⟩) rfl ?_
        refine SO.done ?_
        refine SC.cond g4_17_36 (by kernel_rfl) (fun ht => ?_) (fun ht => ?_)
        · replace h := Opt.t h ht
          refine SC.skip ?_
          refine SC.block ?_
          refine SC.region 3 rfl ?_
          refine SO.run c0 3 ⟨[(0, .str a0), (1, .int .i64 a1), (4, .ptr (.loc 4) 0), (7, .int .i64 (IntKind.i64.wrap (l1_7 + 1)))], [(.loc 4, .cells true [.int .i64 0, .int .i64 0, .int .i64 0, .str []])]⟩ (by decide) (by kernel_rfl) ?_
          refine SO.done ?_
          replace h := Option.some.inj h
          subst h
          exact ⟨(IntKind.i64.wrap (l1_7 + 1)), rfl, rfl⟩
        · replace h := Opt.f h ht
          refine SC.weak (S1 := ⟨[(0, .str a0), (1, .int .i64 a1), (4, .ptr (.loc 4) 0), (7, .int .i64 l1_7)], [(.loc 4, .cells true [.int .i64 0, .int .i64 0, .int .i64 0, .str []])]⟩) ?_ ?_
          · exact ⟨⟨Wk.refl _, Wk.refl _, Wk.refl _, Wk.refl _, trivial⟩, ⟨⟨.cells true [.int .i64 0, .int .i64 0, .int .i64 0, .str []], by kernel_rfl, ObWk.cells (WkL.refl _)⟩, trivial⟩, by kernel_rfl⟩
          refine SC.exit ?_
          obtain ⟨r1, hh, e1⟩ := Opt.inr h
          clear h
          subst e1
          have h := hh
          clear hh
          refine ⟨_, rfl, ?_⟩
          exact ⟨l1_7, rfl, h⟩
      · intro j_g4_17 h
        refine SO.bool (decide (l1_7 < ((a0.length : Int)))) (fun b => ⟨[(0, .str a0), (1, .int .i64 a1), (4, .ptr (.loc 4) 0), (7, .int .i64 l1_7), (23, .bool b)], [(.loc 4, .cells true [.int .i64 0, .int .i64 0, .int .i64 0, .str []])]⟩) (fun ht => ?_) (fun ht => ?_)
        · replace h := Opt.t h ht
          refine SO.run c0 7 ⟨[(0, .str a0), (1, .int .i64 a1), (4, .ptr (.loc 4) 0), (7, .int .i64 l1_7), (23, .bool true), (24, .str a0), (25, .int .i64 l1_7)], [(.loc 4, .cells true [.int .i64 0, .int .i64 0, .int .i64 0, .str []])]⟩ (by decide) (by kernel_rfl) ?_
          obtain ⟨x4_7, hx4_7, h⟩ := Opt.ex h
          refine SO.op c0 { v := .int .u8 (x4_7.toNat : Int) } ⟨[(0, .str a0), (1, .int .i64 a1), (4, .ptr (.loc 4) 0), (7, .int .i64 l1_7), (23, .bool true), (26, .int .u8 (x4_7.toNat : Int))], [(.loc 4, .cells true [.int .i64 0, .int .i64 0, .int .i64 0, .str []])]⟩ (by decide) (ixS 9 a0 .i64 l1_7 x4_7 (by kernel_rfl) (by kernel_rfl) hx4_7) (by kernel_rfl) ?_
          obtain ⟨x4_8, hx4_8, h⟩ := Opt.ex h
          refine SO.call ⟨33, [.int .u8 (x4_7.toNat : Int)], [], [], some 27⟩ ⟨[(0, .str a0), (1, .int .i64 a1), (4, .ptr (.loc 4) 0), (7, .int .i64 l1_7), (23, .bool true), (27, .int .i64 x4_8)], [(.loc 4, .cells true [.int .i64 0, .int .i64 0, .int .i64 0, .str []])]⟩ (by decide) (by kernel_rfl) (ok_ref10_class k (x4_7.toNat : Int) x4_8 hx4_8) (by kernel_rfl) ?_
          refine SO.run c0 11 ⟨[(0, .str a0), (1, .int .i64 a1), (4, .ptr (.loc 4) 0), (7, .int .i64 l1_7), (23, .bool true), (29, .bool (x4_8 == 1))], [(.loc 4, .cells true [.int .i64 0, .int .i64 0, .int .i64 0, .str []])]⟩ (by decide) (by kernel_rfl) ?_
          refine SO.joinK h (fun v : Bool => ⟨[(0, .str a0), (1, .int .i64 a1), (4, .ptr (.loc 4) 0), (7, .int .i64 l1_7), (23, .bool true), (35, .bool v)], [(.loc 4, .cells true [.int .i64 0, .int .i64 0, .int .i64 0, .str []])]⟩) 17 (by decide) ?_ ?_
          · rintro g4_16_35 h
            refine SO.eqS (S1 := ⟨[(0, .str a0), (1, .int .i64 a1), (4, .ptr (.loc 4) 0), (7, .int .i64 l1_7), (23, .bool true), (35, .bool g4_16_35)], [(.loc 4, .cells true [.int .i64 0, .int .i64 0, .int .i64 0, .str []])]⟩) rfl ?_
            refine SO.run c0 18 ⟨[(0, .str a0), (1, .int .i64 a1), (4, .ptr (.loc 4) 0), (7, .int .i64 l1_7), (36, .bool g4_16_35)], [(.loc 4, .cells true [.int .i64 0, .int .i64 0, .int .i64 0, .str []])]⟩ (by decide) (by kernel_rfl) ?_
            exact SO.done ⟨g4_16_35, rfl, h⟩
          · intro j_g4_16 h
            refine SO.bool (x4_8 == 1) (fun b => ⟨[(0, .str a0), (1, .int .i64 a1), (4, .ptr (.loc 4) 0), (7, .int .i64 l1_7), (23, .bool true), (29, .bool b)], [(.loc 4, .cells true [.int .i64 0, .int .i64 0, .int .i64 0, .str []])]⟩) (fun ht => ?_) (fun ht => ?_)
            · replace h := Opt.t h ht
              refine SO.run c0 17 ⟨[(0, .str a0), (1, .int .i64 a1), (4, .ptr (.loc 4) 0), (7, .int .i64 l1_7), (23, .bool true), (35, .bool true)], [(.loc 4, .cells true [.int .i64 0, .int .i64 0, .int .i64 0, .str []])]⟩ (by decide) (by kernel_rfl) ?_
              exact SO.done ⟨true, rfl, h⟩
            · replace h := Opt.f h ht
              refine SO.run c0 13 ⟨[(0, .str a0), (1, .int .i64 a1), (4, .ptr (.loc 4) 0), (7, .int .i64 l1_7), (23, .bool true), (29, .bool false), (30, .str a0), (31, .int .i64 l1_7)], [(.loc 4, .cells true [.int .i64 0, .int .i64 0, .int .i64 0, .str []])]⟩ (by decide) (by kernel_rfl) ?_
              obtain ⟨x4_13, hx4_13, h⟩ := Opt.ex h
              refine SO.op c0 { v := .int .u8 (x4_13.toNat : Int) } ⟨[(0, .str a0), (1, .int .i64 a1), (4, .ptr (.loc 4) 0), (7, .int .i64 l1_7), (23, .bool true), (29, .bool false), (32, .int .u8 (x4_13.toNat : Int))], [(.loc 4, .cells true [.int .i64 0, .int .i64 0, .int .i64 0, .str []])]⟩ (by decide) (ixS 9 a0 .i64 l1_7 x4_13 (by kernel_rfl) (by kernel_rfl) hx4_13) (by kernel_rfl) ?_
              obtain ⟨x4_14, hx4_14, h⟩ := Opt.ex h
              refine SO.call ⟨33, [.int .u8 (x4_13.toNat : Int)], [], [], some 33⟩ ⟨[(0, .str a0), (1, .int .i64 a1), (4, .ptr (.loc 4) 0), (7, .int .i64 l1_7), (23, .bool true), (29, .bool false), (33, .int .i64 x4_14)], [(.loc 4, .cells true [.int .i64 0, .int .i64 0, .int .i64 0, .str []])]⟩ (by decide) (by kernel_rfl) (ok_ref10_class k (x4_13.toNat : Int) x4_14 hx4_14) (by kernel_rfl) ?_
              refine SO.run c0 17 ⟨[(0, .str a0), (1, .int .i64 a1), (4, .ptr (.loc 4) 0), (7, .int .i64 l1_7), (23, .bool true), (35, .bool (x4_14 == 2))], [(.loc 4, .cells true [.int .i64 0, .int .i64 0, .int .i64 0, .str []])]⟩ (by decide) (by kernel_rfl) ?_
              exact SO.done ⟨(x4_14 == 2), rfl, h⟩
        · replace h := Opt.f h ht
          refine SO.run c0 18 ⟨[(0, .str a0), (1, .int .i64 a1), (4, .ptr (.loc 4) 0), (7, .int .i64 l1_7), (36, .bool false)], [(.loc 4, .cells true [.int .i64 0, .int .i64 0, .int .i64 0, .str []])]⟩ (by decide) (by kernel_rfl) ?_
          exact SO.done ⟨false, rfl, h⟩
  · replace h := Opt.f h ht
    refine SC.skip ?_
    refine SC.seq ?_
    refine SC.seq ?_
    refine SC.region 2 rfl ?_
    refine SO.run c0 2 ⟨[(0, .str a0), (1, .int .i64 a1), (4, .ptr (.loc 4) 0), (7, .int .i64 a1), (56, .bool (x1_3 == 2))], [(.loc 4, .cells true [.int .i64 0, .int .i64 0, .int .i64 0, .str []])]⟩ (by decide) (by kernel_rfl) ?_
    refine SO.done ?_
    refine SC.cond (x1_3 == 2) (by kernel_rfl) (fun ht => ?_) (fun ht => ?_)
    · replace h := Opt.t h ht
      apply SC.seqJ (r := r) h (fun v : Int => ⟨[(0, .str a0), (1, .int .i64 a1), (4, .ptr (.loc 4) 0), (7, .int .i64 v)], [(.loc 4, .cells true [.int .i64 0, .int .i64 0, .int .i64 0, .str []])]⟩)
      · rintro j3_7 r h
        refine SC.eqS (S1 := ⟨[(0, .str a0), (1, .int .i64 a1), (4, .ptr (.loc 4) 0), (7, .int .i64 j3_7)], [(.loc 4, .cells true [.int .i64 0, .int .i64 0, .int .i64 0, .str []])]⟩) rfl ?_
        refine SC.seq ?_
        refine SC.region 10 rfl ?_
        refine SO.run c0 3 ⟨[(0, .str a0), (1, .int .i64 a1), (4, .ptr (.loc 4) 0), (7, .int .i64 j3_7), (71, .str a0), (72, .int .i64 a1), (73, .int .i64 j3_7)], [(.loc 4, .cells true [.int .i64 0, .int .i64 0, .int .i64 0, .str []])]⟩ (by decide) (by kernel_rfl) ?_
        obtain ⟨x15_3, hx15_3, h⟩ := Opt.ex h
        refine SO.op c0 { v := .str x15_3 } ⟨[(0, .str a0), (1, .int .i64 a1), (4, .ptr (.loc 4) 0), (7, .int .i64 j3_7), (74, .str x15_3)], [(.loc 4, .cells true [.int .i64 0, .int .i64 0, .int .i64 0, .str []])]⟩ (by decide) (slS 9 a0 .i64 .i64 (some a1) (some j3_7) x15_3 (by kernel_rfl) (by kernel_rfl) hx15_3) (by kernel_rfl) ?_
        obtain ⟨⟨x15_4_0, x15_4_1⟩, hx15_4, h⟩ := Opt.ex h
        refine SO.call ⟨68, [.str x15_3], [], [], some 75⟩ ⟨[(0, .str a0), (1, .int .i64 a1), (4, .ptr (.loc 4) 0), (7, .int .i64 j3_7), (75, .tuple [.int .i64 x15_4_0, .int .i64 x15_4_1])], [(.loc 4, .cells true [.int .i64 0, .int .i64 0, .int .i64 0, .str []])]⟩ (by decide) (by kernel_rfl) (ok_ref01_Read k x15_3 (x15_4_0, x15_4_1) hx15_4) (by kernel_rfl) ?_
        refine SO.run c0 10 ⟨[(0, .str a0), (1, .int .i64 a1), (4, .ptr (.loc 4) 0), (7, .int .i64 j3_7), (9, .int .i64 x15_4_0), (10, .int .i64 x15_4_1)], [(.loc 4, .cells true [.int .i64 0, .int .i64 0, .int .i64 0, .str []])]⟩ (by decide) (by kernel_rfl) ?_
        refine SO.done ?_
        refine SC.seq ?_
        refine SC.region 10 rfl ?_
        refine SO.run c0 5 ⟨[(4, .ptr (.loc 4) 0), (10, .int .i64 x15_4_1), (78, .int .i64 a1), (79, .int .i64 x15_4_0), (80, .str a0), (81, .int .i64 a1), (82, .int .i64 j3_7)], [(.loc 4, .cells true [.int .i64 0, .int .i64 0, .int .i64 0, .str []])]⟩ (by decide) (by kernel_rfl) ?_
        obtain ⟨x16_5, hx16_5, h⟩ := Opt.ex h
        refine SO.op c0 { v := .str x16_5 } ⟨[(4, .ptr (.loc 4) 0), (10, .int .i64 x15_4_1), (78, .int .i64 a1), (79, .int .i64 x15_4_0), (83, .str x16_5)], [(.loc 4, .cells true [.int .i64 0, .int .i64 0, .int .i64 0, .str []])]⟩ (by decide) (slS 9 a0 .i64 .i64 (some a1) (some j3_7) x16_5 (by kernel_rfl) (by kernel_rfl) hx16_5) (by kernel_rfl) ?_
        refine SO.run c0 10 ⟨[(4, .ptr (.loc 4) 0), (5, .int .i64 x15_4_1)], [(.loc 4, .cells true [.int .i64 2, .int .i64 a1, .int .i64 x15_4_0, .str x16_5])]⟩ (by decide) (by kernel_rfl) ?_
        refine SO.done ?_
        refine SC.ret ?_
        replace h := Option.some.inj h
        subst h
        exact ⟨[.agg [.int .i64 2, .int .i64 a1, .int .i64 x15_4_0, .str x16_5], .int .i64 x15_4_1], by kernel_rfl, Wk.eq (by kernel_rfl), trivial, by kernel_rfl⟩
      · intro j_j3 h
        refine SC.block ?_
        refine SC.weak (S1 := ⟨[(0, .str a0), (1, .int .i64 a1), (4, .ptr (.loc 4) 0), (7, .int .i64 a1)], [(.loc 4, .cells true [.int .i64 0, .int .i64 0, .int .i64 0, .str []])]⟩) ?_ ?_
        · exact ⟨⟨Wk.refl _, Wk.refl _, Wk.refl _, Wk.refl _, trivial⟩, ⟨⟨.cells true [.int .i64 0, .int .i64 0, .int .i64 0, .str []], by kernel_rfl, ObWk.cells (WkL.refl _)⟩, trivial⟩, by kernel_rfl⟩
        apply SC.loopJ (r := r) h (fun v : Int => ⟨[(0, .str a0), (1, .int .i64 a1), (4, .ptr (.loc 4) 0), (7, .int .i64 v)], [(.loc 4, .cells true [.int .i64 0, .int .i64 0, .int .i64 0, .str []])]⟩)
        rintro l4_7 r h
        refine SC.eqS (S1 := ⟨[(0, .str a0), (1, .int .i64 a1), (4, .ptr (.loc 4) 0), (7, .int .i64 l4_7)], [(.loc 4, .cells true [.int .i64 0, .int .i64 0, .int .i64 0, .str []])]⟩) rfl ?_
        refine SC.seq ?_
        refine SC.seq ?_
        refine SC.region 11 rfl ?_
        refine SO.run c0 5 ⟨[(0, .str a0), (1, .int .i64 a1), (4, .ptr (.loc 4) 0), (7, .int .i64 l4_7), (61, .bool (decide (l4_7 < ((a0.length : Int)))))], [(.loc 4, .cells true [.int .i64 0, .int .i64 0, .int .i64 0, .str []])]⟩ (by decide) (by kernel_rfl) ?_
        refine SO.joinK h (fun v : Bool => ⟨[(0, .str a0), (1, .int .i64 a1), (4, .ptr (.loc 4) 0), (7, .int .i64 l4_7), (67, .bool v)], [(.loc 4, .cells true [.int .i64 0, .int .i64 0, .int .i64 0, .str []])]⟩) 11 (by decide) ?_ ?_
        · rintro g13_10_67 h
          refine SO.eqS (S1 := ⟨[(0, .str a0), (1, .int .i64 a1), (4, .ptr (.loc 4) 0), (7, .int .i64 l4_7), (67, .bool g13_10_67)], [(.loc 4, .cells true [.int .i64 0, .int .i64 0, .int .i64 0, .str []])]⟩) rfl ?_
          refine SO.done ?_
          refine SC.cond g13_10_67 (by kernel_rfl) (fun ht => ?_) (fun ht => ?_)
          · replace h := Opt.t h ht
            refine SC.skip ?_
            refine SC.block ?_
            refine SC.region 3 rfl ?_
            refine SO.run c0 3 ⟨[(0, .str a0), (1, .int .i64 a1), (4, .ptr (.loc 4) 0), (7, .int .i64 (IntKind.i64.wrap (l4_7 + 1)))], [(.loc 4, .cells true [.int .i64 0, .int .i64 0, .int .i64 0, .str []])]⟩ (by decide) (by kernel_rfl) ?_
            refine SO.done ?_
            replace h := Option.some.inj h
            subst h
            exact ⟨(IntKind.i64.wrap (l4_7 + 1)), rfl, rfl⟩
          · replace h := Opt.f h ht
            refine SC.weak (S1 := ⟨[(0, .str a0), (1, .int .i64 a1), (4, .ptr (.loc 4) 0), (7, .int .i64 l4_7)], [(.loc 4, .cells true [.int .i64 0, .int .i64 0, .int .i64 0, .str []])]⟩) ?_ ?_
            · exact ⟨⟨Wk.refl _, Wk.refl _, Wk.refl _, Wk.refl _, trivial⟩, ⟨⟨.cells true [.int .i64 0, .int .i64 0, .int .i64 0, .str []], by kernel_rfl, ObWk.cells (WkL.refl _)⟩, trivial⟩, by kernel_rfl⟩
            refine SC.exit ?_
            obtain ⟨r1, hh, e1⟩ := Opt.inr h
            clear h
            subst e1
            have h := hh
            clear hh
            refine ⟨_, rfl, ?_⟩
            exact ⟨l4_7, rfl, h⟩
        · intro j_g13_10 h
          refine SO.bool (decide (l4_7 < ((a0.length : Int)))) (fun b => ⟨[(0, .str a0), (1, .int .i64 a1), (4, .ptr (.loc 4) 0), (7, .int .i64 l4_7), (61, .bool b)], [(.loc 4, .cells true [.int .i64 0, .int .i64 0, .int .i64 0, .str []])]⟩) (fun ht => ?_) (fun ht => ?_)
          · replace h := Opt.t h ht
            refine SO.run c0 7 ⟨[(0, .str a0), (1, .int .i64 a1), (4, .ptr (.loc 4) 0), (7, .int .i64 l4_7), (61, .bool true), (62, .str a0), (63, .int .i64 l4_7)], [(.loc 4, .cells true [.int .i64 0, .int .i64 0, .int .i64 0, .str []])]⟩ (by decide) (by kernel_rfl) ?_
            obtain ⟨x13_7, hx13_7, h⟩ := Opt.ex h
            refine SO.op c0 { v := .int .u8 (x13_7.toNat : Int) } ⟨[(0, .str a0), (1, .int .i64 a1), (4, .ptr (.loc 4) 0), (7, .int .i64 l4_7), (61, .bool true), (64, .int .u8 (x13_7.toNat : Int))], [(.loc 4, .cells true [.int .i64 0, .int .i64 0, .int .i64 0, .str []])]⟩ (by decide) (ixS 9 a0 .i64 l4_7 x13_7 (by kernel_rfl) (by kernel_rfl) hx13_7) (by kernel_rfl) ?_
            obtain ⟨x13_8, hx13_8, h⟩ := Opt.ex h
            refine SO.call ⟨33, [.int .u8 (x13_7.toNat : Int)], [], [], some 65⟩ ⟨[(0, .str a0), (1, .int .i64 a1), (4, .ptr (.loc 4) 0), (7, .int .i64 l4_7), (61, .bool true), (65, .int .i64 x13_8)], [(.loc 4, .cells true [.int .i64 0, .int .i64 0, .int .i64 0, .str []])]⟩ (by decide) (by kernel_rfl) (ok_ref10_class k (x13_7.toNat : Int) x13_8 hx13_8) (by kernel_rfl) ?_
            refine SO.run c0 11 ⟨[(0, .str a0), (1, .int .i64 a1), (4, .ptr (.loc 4) 0), (7, .int .i64 l4_7), (67, .bool (x13_8 == 2))], [(.loc 4, .cells true [.int .i64 0, .int .i64 0, .int .i64 0, .str []])]⟩ (by decide) (by kernel_rfl) ?_
            exact SO.done ⟨(x13_8 == 2), rfl, h⟩
          · replace h := Opt.f h ht
            refine SO.run c0 11 ⟨[(0, .str a0), (1, .int .i64 a1), (4, .ptr (.loc 4) 0), (7, .int .i64 l4_7), (67, .bool false)], [(.loc 4, .cells true [.int .i64 0, .int .i64 0, .int .i64 0, .str []])]⟩ (by decide) (by kernel_rfl) ?_
            exact SO.done ⟨false, rfl, h⟩
    · replace h := Opt.f h ht
      refine SC.skip ?_
      refine SC.seq ?_
      refine SC.region 10 rfl ?_
      refine SO.run c0 7 ⟨[(1, .int .i64 a1), (4, .ptr (.loc 4) 0), (86, .str a0), (87, .int .i64 a1), (92, .int .i64 (mn (IntKind.i64.wrap (a1 + 2)) ((a0.length : Int))))], [(.loc 4, .cells true [.int .i64 0, .int .i64 0, .int .i64 0, .str []])]⟩ (by decide) (by kernel_rfl) ?_
      obtain ⟨x17_7, hx17_7, h⟩ := Opt.ex h
      refine SO.op c0 { v := .str x17_7 } ⟨[(1, .int .i64 a1), (4, .ptr (.loc 4) 0), (93, .str x17_7)], [(.loc 4, .cells true [.int .i64 0, .int .i64 0, .int .i64 0, .str []])]⟩ (by decide) (slS 9 a0 .i64 .i64 (some a1) (some (mn (IntKind.i64.wrap (a1 + 2)) ((a0.length : Int)))) x17_7 (by kernel_rfl) (by kernel_rfl) hx17_7) (by kernel_rfl) ?_
      obtain ⟨x17_8, hx17_8, h⟩ := Opt.ex h
      refine SO.call ⟨69, [.str x17_7], [], [], some 94⟩ ⟨[(1, .int .i64 a1), (4, .ptr (.loc 4) 0), (94, .str x17_8)], [(.loc 4, .cells true [.int .i64 0, .int .i64 0, .int .i64 0, .str []])]⟩ (by decide) (by kernel_rfl) (ok_ref09_Mark k x17_7 x17_8 hx17_8) (by kernel_rfl) ?_
      refine SO.run c0 10 ⟨[(1, .int .i64 a1), (4, .ptr (.loc 4) 0), (11, .str x17_8)], [(.loc 4, .cells true [.int .i64 0, .int .i64 0, .int .i64 0, .str []])]⟩ (by decide) (by kernel_rfl) ?_
      refine SO.done ?_
      refine SC.seq ?_
      refine SC.seq ?_
      refine SC.region 2 rfl ?_
      refine SO.run c0 2 ⟨[(1, .int .i64 a1), (4, .ptr (.loc 4) 0), (11, .str x17_8), (96, .bool (x17_8 == []))], [(.loc 4, .cells true [.int .i64 0, .int .i64 0, .int .i64 0, .str []])]⟩ (by decide) (by kernel_rfl) ?_
      refine SO.done ?_
      refine SC.cond (x17_8 == []) (by kernel_rfl) (fun ht => ?_) (fun ht => ?_)
      · replace h := Opt.t h ht
        refine SC.seq ?_
        refine SC.region 4 rfl ?_
        refine SO.run c0 4 ⟨[(4, .ptr (.loc 4) 0), (5, .int .i64 1)], [(.loc 4, .cells true [.int .i64 0, .int .i64 a1, .int .i64 0, .str []])]⟩ (by decide) (by kernel_rfl) ?_
        refine SO.done ?_
        refine SC.ret ?_
        replace h := Option.some.inj h
        subst h
        exact ⟨[.agg [.int .i64 0, .int .i64 a1, .int .i64 0, .str []], .int .i64 1], by kernel_rfl, Wk.eq (by kernel_rfl), trivial, by kernel_rfl⟩
      · replace h := Opt.f h ht
        refine SC.skip ?_
        refine SC.seq ?_
        refine SC.region 5 rfl ?_
        refine SO.run c0 5 ⟨[(4, .ptr (.loc 4) 0), (5, .int .i64 0)], [(.loc 4, .cells true [.int .i64 4, .int .i64 a1, .int .i64 0, .str x17_8])]⟩ (by decide) (by kernel_rfl) ?_
        refine SO.done ?_
        refine SC.ret ?_
        replace h := Option.some.inj h
        subst h
        exact ⟨[.agg [.int .i64 4, .int .i64 a1, .int .i64 0, .str x17_8], .int .i64 0], by kernel_rfl, Wk.eq (by kernel_rfl), trivial, by kernel_rfl⟩
theorem ok_ref10_All (k : Nat) (a0 : List UInt8) (r : List TToken × Int × Int) (h : ref10_All k a0 = some r) :
    SF Z 11 [.str a0] [] (.tuple [.slice .none 4 (eTToken.F r.1), .int .i64 r.2.1, .int .i64 r.2.2]) [] := by
  unfold ref10_All at h
  refine SF.intro Tryd.func11 rfl Tryd.ntmps11 rfl (Nat.le_of_ble_eq_true rfl) (by decide) ?_
  refine SC.seq ?_
  refine SC.region 3 rfl ?_
  refine SO.run c0 3 ⟨[(0, .str a0)], []⟩ (by decide) (by kernel_rfl) ?_
  refine SO.done ?_
  refine SC.seq ?_
  refine SC.seq ?_
  refine SC.region 3 rfl ?_
  refine SO.run c0 3 ⟨[(0, .str a0), (12, .bool (decide (((a0.length : Int)) > 16384)))], []⟩ (by decide) (by kernel_rfl) ?_
  refine SO.done ?_
  refine SC.cond (decide (((a0.length : Int)) > 16384)) (by kernel_rfl) (fun ht => ?_) (fun ht => ?_)
  · replace h := Opt.t h ht
    refine SC.seq ?_
    refine SC.region 3 rfl ?_
    refine SO.run c0 3 ⟨[(2, .nils), (3, .int .i64 16384), (4, .int .i64 3)], []⟩ (by decide) (by kernel_rfl) ?_
    refine SO.done ?_
    refine SC.ret ?_
    replace h := Option.some.inj h
    subst h
    exact ⟨[.nils, .int .i64 16384, .int .i64 3], by kernel_rfl, Wk.tuple (⟨Wk.nils _ _, Wk.refl _, Wk.refl _, trivial⟩), trivial, by kernel_rfl⟩
  · replace h := Opt.f h ht
    refine SC.skip ?_
    refine SC.seq ?_
    refine SC.region 1 rfl ?_
    refine SO.run c0 1 ⟨[(0, .str a0), (5, .nils)], []⟩ (by decide) (by kernel_rfl) ?_
    refine SO.begin (.loc 5) 4 5 none ⟨[(0, .str a0), (5, .slice (.buf (.loc 5)) 4 (eTToken.F []))], [(.loc 5, .buf 4 0)]⟩ (by kernel_rfl) ?_
    refine SO.done ?_
    apply SC.seqJ (r := r) h (fun v : List TToken => ⟨[(0, .str a0), (5, .slice (.buf (.loc 5)) 4 (eTToken.F v))], [(.loc 5, .buf 4 (v.length))]⟩)
    · rintro j0_5 r h
      refine SC.eqS (S1 := ⟨[(0, .str a0), (5, .slice (.buf (.loc 5)) 4 (eTToken.F j0_5))], [(.loc 5, .buf 4 (j0_5.length))]⟩) rfl ?_
      refine SC.seq ?_
      refine SC.region 9 rfl ?_
      refine SO.run c0 5 ⟨[(58, .slice (.buf (.loc 5)) 4 (eTToken.F j0_5)), (62, .slice .full 4 (eTToken.F [(TToken.mk 0 ((a0.length : Int)) 0 [])]))], [(.loc 5, .buf 4 (j0_5.length))]⟩ (by decide) (by kernel_rfl) ?_
      obtain ⟨hr, h⟩ := Opt.g h
      refine SO.op c0 { v := .slice (.buf (.loc 5)) 4 (eTToken.F (j0_5 ++ [(TToken.mk 0 ((a0.length : Int)) 0 [])])), ws := [(.loc 5, .buf 4 ((j0_5 ++ [(TToken.mk 0 ((a0.length : Int)) 0 [])]).length))], rd := [.loc 5] } ⟨[(63, .slice (.buf (.loc 5)) 4 (eTToken.F (j0_5 ++ [(TToken.mk 0 ((a0.length : Int)) 0 [])])))], [(.loc 5, .buf 4 ((j0_5 ++ [(TToken.mk 0 ((a0.length : Int)) 0 [])]).length))]⟩ (by decide) (apB eTToken false 63 [(.loc 5, .buf 4 (j0_5.length))] 23 23 (.loc 5) 4 40 j0_5 [(TToken.mk 0 ((a0.length : Int)) 0 [])] .full (by kernel_rfl) (by kernel_rfl) (by kernel_rfl) hr) (by kernel_rfl) ?_
      refine SO.run c0 9 ⟨[(2, .slice (.buf (.loc 5)) 4 (eTToken.F (j0_5 ++ [(TToken.mk 0 ((a0.length : Int)) 0 [])]))), (3, .int .i64 0), (4, .int .i64 0)], [(.loc 5, .buf 4 ((j0_5 ++ [(TToken.mk 0 ((a0.length : Int)) 0 [])]).length))]⟩ (by decide) (by kernel_rfl) ?_
      refine SO.done ?_
      refine SC.ret ?_
      replace h := Option.some.inj h
      subst h
      exact ⟨[.slice (.buf (.loc 5)) 4 (eTToken.F (j0_5 ++ [(TToken.mk 0 ((a0.length : Int)) 0 [])])), .int .i64 0, .int .i64 0], by kernel_rfl, Wk.tuple (⟨Wk.tok _ _ _, Wk.refl _, Wk.refl _, trivial⟩), trivial, by kernel_rfl⟩
    · intro j_j0 h
      refine SC.seq ?_
      refine SC.region 1 rfl ?_
      refine SO.run c0 1 ⟨[(0, .str a0), (5, .slice (.buf (.loc 5)) 4 (eTToken.F [])), (6, .int .i64 0)], [(.loc 5, .buf 4 0)]⟩ (by decide) (by kernel_rfl) ?_
      refine SO.done ?_
      refine SC.block ?_
      apply SC.loopJ (r := r) h (fun v : List TToken × Int => ⟨[(0, .str a0), (5, .slice (.buf (.loc 5)) 4 (eTToken.F v.1)), (6, .int .i64 v.2)], [(.loc 5, .buf 4 (v.1.length))]⟩)
      rintro ⟨l1_5, l1_6⟩ r h
      refine SC.eqS (S1 := ⟨[(0, .str a0), (5, .slice (.buf (.loc 5)) 4 (eTToken.F l1_5)), (6, .int .i64 l1_6)], [(.loc 5, .buf 4 (l1_5.length))]⟩) rfl ?_
      refine SC.seq ?_
      refine SC.seq ?_
      refine SC.region 4 rfl ?_
      refine SO.run c0 4 ⟨[(0, .str a0), (5, .slice (.buf (.loc 5)) 4 (eTToken.F l1_5)), (6, .int .i64 l1_6), (16, .bool (decide (l1_6 < ((a0.length : Int)))))], [(.loc 5, .buf 4 (l1_5.length))]⟩ (by decide) (by kernel_rfl) ?_
      refine SO.done ?_
      refine SC.cond (decide (l1_6 < ((a0.length : Int)))) (by kernel_rfl) (fun ht => ?_) (fun ht => ?_)
      · replace h := Opt.t h ht
        refine SC.skip ?_
        refine SC.block ?_
        refine SC.seq ?_
        refine SC.region 5 rfl ?_
        refine SO.run c0 2 ⟨[(0, .str a0), (5, .slice (.buf (.loc 5)) 4 (eTToken.F l1_5)), (6, .int .i64 l1_6), (17, .str a0), (18, .int .i64 l1_6)], [(.loc 5, .buf 4 (l1_5.length))]⟩ (by decide) (by kernel_rfl) ?_
        obtain ⟨x6_2, hx6_2, h⟩ := Opt.ex h
        refine SO.op c0 { v := .int .u8 (x6_2.toNat : Int) } ⟨[(0, .str a0), (5, .slice (.buf (.loc 5)) 4 (eTToken.F l1_5)), (6, .int .i64 l1_6), (19, .int .u8 (x6_2.toNat : Int))], [(.loc 5, .buf 4 (l1_5.length))]⟩ (by decide) (ixS 9 a0 .i64 l1_6 x6_2 (by kernel_rfl) (by kernel_rfl) hx6_2) (by kernel_rfl) ?_
        obtain ⟨x6_3, hx6_3, h⟩ := Opt.ex h
        refine SO.call ⟨33, [.int .u8 (x6_2.toNat : Int)], [], [], some 20⟩ ⟨[(0, .str a0), (5, .slice (.buf (.loc 5)) 4 (eTToken.F l1_5)), (6, .int .i64 l1_6), (20, .int .i64 x6_3)], [(.loc 5, .buf 4 (l1_5.length))]⟩ (by decide) (by kernel_rfl) (ok_ref10_class k (x6_2.toNat : Int) x6_3 hx6_3) (by kernel_rfl) ?_
        refine SO.run c0 5 ⟨[(0, .str a0), (5, .slice (.buf (.loc 5)) 4 (eTToken.F l1_5)), (6, .int .i64 l1_6), (7, .int .i64 x6_3)], [(.loc 5, .buf 4 (l1_5.length))]⟩ (by decide) (by kernel_rfl) ?_
        refine SO.done ?_
        refine SC.seq ?_
        refine SC.seq ?_
        refine SC.region 2 rfl ?_
        refine SO.run c0 2 ⟨[(0, .str a0), (5, .slice (.buf (.loc 5)) 4 (eTToken.F l1_5)), (6, .int .i64 l1_6), (7, .int .i64 x6_3), (22, .bool (x6_3 == 3))], [(.loc 5, .buf 4 (l1_5.length))]⟩ (by decide) (by kernel_rfl) ?_
        refine SO.done ?_
        refine SC.cond (x6_3 == 3) (by kernel_rfl) (fun ht => ?_) (fun ht => ?_)
        · replace h := Opt.t h ht
          refine SC.seq ?_
          refine SC.region 3 rfl ?_
          refine SO.run c0 3 ⟨[(0, .str a0), (5, .slice (.buf (.loc 5)) 4 (eTToken.F l1_5)), (6, .int .i64 (IntKind.i64.wrap (l1_6 + 1)))], [(.loc 5, .buf 4 (l1_5.length))]⟩ (by decide) (by kernel_rfl) ?_
          refine SO.done ?_
          refine SC.exit ?_
          replace h := Option.some.inj h
          subst h
          exact ⟨(l1_5, (IntKind.i64.wrap (l1_6 + 1))), rfl, rfl⟩
        · replace h := Opt.f h ht
          refine SC.skip ?_
          refine SC.seq ?_
          refine SC.seq ?_
          refine SC.region 2 rfl ?_
          refine SO.run c0 2 ⟨[(0, .str a0), (5, .slice (.buf (.loc 5)) 4 (eTToken.F l1_5)), (6, .int .i64 l1_6), (26, .bool (x6_3 == 4))], [(.loc 5, .buf 4 (l1_5.length))]⟩ (by decide) (by kernel_rfl) ?_
          refine SO.done ?_
          refine SC.cond (x6_3 == 4) (by kernel_rfl) (fun ht => ?_) (fun ht => ?_)
          · replace h := Opt.t h ht
            apply SC.seqJ (r := r) h (fun v : Int => ⟨[(0, .str a0), (5, .slice (.buf (.loc 5)) 4 (eTToken.F l1_5)), (6, .int .i64 v)], [(.loc 5, .buf 4 (l1_5.length))]⟩)
            · rintro j2_6 r h
              refine SC.eqS (S1 := ⟨[(0, .str a0), (5, .slice (.buf (.loc 5)) 4 (eTToken.F l1_5)), (6, .int .i64 j2_6)], [(.loc 5, .buf 4 (l1_5.length))]⟩) rfl ?_
              refine SC.exit ?_
              replace h := Option.some.inj h
              subst h
              exact ⟨(l1_5, j2_6), rfl, rfl⟩
            · intro j_j2 h
              refine SC.block ?_
              refine SC.weak (S1 := ⟨[(0, .str a0), (5, .slice (.buf (.loc 5)) 4 (eTToken.F l1_5)), (6, .int .i64 l1_6)], [(.loc 5, .buf 4 (l1_5.length))]⟩) ?_ ?_
              · exact ⟨⟨Wk.refl _, Wk.refl _, Wk.refl _, trivial⟩, ⟨⟨.buf 4 (l1_5.length), by kernel_rfl, ObWk.buf rfl⟩, trivial⟩, by kernel_rfl⟩
              apply SC.loopJ (r := r) h (fun v : Int => ⟨[(0, .str a0), (5, .slice (.buf (.loc 5)) 4 (eTToken.F l1_5)), (6, .int .i64 v)], [(.loc 5, .buf 4 (l1_5.length))]⟩)
              rintro l3_6 r h
              refine SC.eqS (S1 := ⟨[(0, .str a0), (5, .slice (.buf (.loc 5)) 4 (eTToken.F l1_5)), (6, .int .i64 l3_6)], [(.loc 5, .buf 4 (l1_5.length))]⟩) rfl ?_
              refine SC.seq ?_
              refine SC.seq ?_
              refine SC.region 10 rfl ?_
              refine SO.run c0 5 ⟨[(0, .str a0), (5, .slice (.buf (.loc 5)) 4 (eTToken.F l1_5)), (6, .int .i64 l3_6), (31, .bool (decide (l3_6 < ((a0.length : Int)))))], [(.loc 5, .buf 4 (l1_5.length))]⟩ (by decide) (by kernel_rfl) ?_
              refine SO.joinK h (fun v : Bool => ⟨[(0, .str a0), (5, .slice (.buf (.loc 5)) 4 (eTToken.F l1_5)), (6, .int .i64 l3_6), (36, .bool v)], [(.loc 5, .buf 4 (l1_5.length))]⟩) 10 (by decide) ?_ ?_
              · rintro g10_9_36 h
                refine SO.eqS (S1 := ⟨[(0, .str a0), (5, .slice (.buf (.loc 5)) 4 (eTToken.F l1_5)), (6, .int .i64 l3_6), (36, .bool g10_9_36)], [(.loc 5, .buf 4 (l1_5.length))]⟩) rfl ?_
                refine SO.done ?_
                refine SC.cond g10_9_36 (by kernel_rfl) (fun ht => ?_) (fun ht => ?_)
                · replace h := Opt.t h ht
                  refine SC.skip ?_
                  refine SC.block ?_
                  refine SC.region 3 rfl ?_
                  refine SO.run c0 3 ⟨[(0, .str a0), (5, .slice (.buf (.loc 5)) 4 (eTToken.F l1_5)), (6, .int .i64 (IntKind.i64.wrap (l3_6 + 1)))], [(.loc 5, .buf 4 (l1_5.length))]⟩ (by decide) (by kernel_rfl) ?_
                  refine SO.done ?_
                  replace h := Option.some.inj h
                  subst h
                  exact ⟨(IntKind.i64.wrap (l3_6 + 1)), rfl, rfl⟩
                · replace h := Opt.f h ht
                  refine SC.weak (S1 := ⟨[(0, .str a0), (5, .slice (.buf (.loc 5)) 4 (eTToken.F l1_5)), (6, .int .i64 l3_6)], [(.loc 5, .buf 4 (l1_5.length))]⟩) ?_ ?_
                  · exact ⟨⟨Wk.refl _, Wk.refl _, Wk.refl _, trivial⟩, ⟨⟨.buf 4 (l1_5.length), by kernel_rfl, ObWk.buf rfl⟩, trivial⟩, by kernel_rfl⟩
                  refine SC.exit ?_
                  obtain ⟨r1, hh, e1⟩ := Opt.inr h
                  clear h
                  subst e1
                  have h := hh
                  clear hh
                  refine ⟨_, rfl, ?_⟩
                  exact ⟨l3_6, rfl, h⟩
              · intro j_g10_9 h
                refine SO.bool (decide (l3_6 < ((a0.length : Int)))) (fun b => ⟨[(0, .str a0), (5, .slice (.buf (.loc 5)) 4 (eTToken.F l1_5)), (6, .int .i64 l3_6), (31, .bool b)], [(.loc 5, .buf 4 (l1_5.length))]⟩) (fun ht => ?_) (fun ht => ?_)
                · replace h := Opt.t h ht
                  refine SO.run c0 7 ⟨[(0, .str a0), (5, .slice (.buf (.loc 5)) 4 (eTToken.F l1_5)), (6, .int .i64 l3_6), (31, .bool true), (32, .str a0), (33, .int .i64 l3_6)], [(.loc 5, .buf 4 (l1_5.length))]⟩ (by decide) (by kernel_rfl) ?_
                  obtain ⟨x10_7, hx10_7, h⟩ := Opt.ex h
                  refine SO.op c0 { v := .int .u8 (x10_7.toNat : Int) } ⟨[(0, .str a0), (5, .slice (.buf (.loc 5)) 4 (eTToken.F l1_5)), (6, .int .i64 l3_6), (31, .bool true), (34, .int .u8 (x10_7.toNat : Int))], [(.loc 5, .buf 4 (l1_5.length))]⟩ (by decide) (ixS 9 a0 .i64 l3_6 x10_7 (by kernel_rfl) (by kernel_rfl) hx10_7) (by kernel_rfl) ?_
                  refine SO.run c0 10 ⟨[(0, .str a0), (5, .slice (.buf (.loc 5)) 4 (eTToken.F l1_5)), (6, .int .i64 l3_6), (36, .bool ((x10_7.toNat : Int) != 10))], [(.loc 5, .buf 4 (l1_5.length))]⟩ (by decide) (by kernel_rfl) ?_
                  exact SO.done ⟨((x10_7.toNat : Int) != 10), rfl, h⟩
                · replace h := Opt.f h ht
                  refine SO.run c0 10 ⟨[(0, .str a0), (5, .slice (.buf (.loc 5)) 4 (eTToken.F l1_5)), (6, .int .i64 l3_6), (36, .bool false)], [(.loc 5, .buf 4 (l1_5.length))]⟩ (by decide) (by kernel_rfl) ?_
                  exact SO.done ⟨false, rfl, h⟩
          · replace h := Opt.f h ht
            refine SC.skip ?_
            refine SC.seq ?_
            refine SC.region 9 rfl ?_
            refine SO.run c0 2 ⟨[(0, .str a0), (5, .slice (.buf (.loc 5)) 4 (eTToken.F l1_5)), (6, .int .i64 l1_6), (40, .str a0), (41, .int .i64 l1_6)], [(.loc 5, .buf 4 (l1_5.length))]⟩ (by decide) (by kernel_rfl) ?_
            obtain ⟨⟨x12_2_0, x12_2_1⟩, hx12_2, h⟩ := Opt.ex h
            refine SO.call ⟨34, [.str a0, .int .i64 l1_6], [], [], some 42⟩ ⟨[(0, .str a0), (5, .slice (.buf (.loc 5)) 4 (eTToken.F l1_5)), (6, .int .i64 l1_6), (42, .tuple [.agg (cTToken x12_2_0), .int .i64 x12_2_1])], [(.loc 5, .buf 4 (l1_5.length))]⟩ (by decide) (by kernel_rfl) (ok_ref10_one k a0 l1_6 (x12_2_0, x12_2_1) hx12_2) (by kernel_rfl) ?_
            refine SO.run c0 9 ⟨[(0, .str a0), (5, .slice (.buf (.loc 5)) 4 (eTToken.F l1_5)), (6, .int .i64 l1_6), (8, .ptr (.loc 8) 0), (9, .int .i64 x12_2_1)], [(.loc 5, .buf 4 (l1_5.length)), (.loc 8, .cells true (cTToken x12_2_0))]⟩ (by decide) (by kernel_rfl) ?_
            refine SO.done ?_
            refine SC.seq ?_
            refine SC.seq ?_
            refine SC.region 2 rfl ?_
            refine SO.run c0 2 ⟨[(0, .str a0), (5, .slice (.buf (.loc 5)) 4 (eTToken.F l1_5)), (6, .int .i64 l1_6), (8, .ptr (.loc 8) 0), (9, .int .i64 x12_2_1), (46, .bool (x12_2_1 != 0))], [(.loc 5, .buf 4 (l1_5.length)), (.loc 8, .cells true (cTToken x12_2_0))]⟩ (by decide) (by kernel_rfl) ?_
            refine SO.done ?_
            refine SC.cond (x12_2_1 != 0) (by kernel_rfl) (fun ht => ?_) (fun ht => ?_)
            · replace h := Opt.t h ht
              refine SC.seq ?_
              refine SC.region 5 rfl ?_
              refine SO.run c0 5 ⟨[(2, .nils), (3, .int .i64 l1_6), (4, .int .i64 x12_2_1)], []⟩ (by decide) (by kernel_rfl) ?_
              refine SO.done ?_
              refine SC.ret ?_
              replace h := Option.some.inj h
              subst h
              refine ⟨_, rfl, ?_⟩
              exact ⟨[.nils, .int .i64 l1_6, .int .i64 x12_2_1], by kernel_rfl, Wk.tuple (⟨Wk.nils _ _, Wk.refl _, Wk.refl _, trivial⟩), trivial, by kernel_rfl⟩
            · replace h := Opt.f h ht
              refine SC.skip ?_
              refine SC.seq ?_
              refine SC.region 5 rfl ?_
              refine SO.run c0 3 ⟨[(0, .str a0), (6, .int .i64 l1_6), (8, .ptr (.loc 8) 0), (49, .slice (.buf (.loc 5)) 4 (eTToken.F l1_5)), (51, .slice .full 4 (eTToken.F [x12_2_0]))], [(.loc 5, .buf 4 (l1_5.length)), (.loc 8, .cells true (cTToken x12_2_0))]⟩ (by decide) (by kernel_rfl) ?_
              obtain ⟨hr, h⟩ := Opt.g h
              refine SO.op c0 { v := .slice (.buf (.loc 5)) 4 (eTToken.F (l1_5 ++ [x12_2_0])), ws := [(.loc 5, .buf 4 ((l1_5 ++ [x12_2_0]).length))], rd := [.loc 5] } ⟨[(0, .str a0), (6, .int .i64 l1_6), (8, .ptr (.loc 8) 0), (52, .slice (.buf (.loc 5)) 4 (eTToken.F (l1_5 ++ [x12_2_0])))], [(.loc 5, .buf 4 ((l1_5 ++ [x12_2_0]).length)), (.loc 8, .cells true (cTToken x12_2_0))]⟩ (by decide) (apB eTToken false 52 [(.loc 5, .buf 4 (l1_5.length)), (.loc 8, .cells true (cTToken x12_2_0))] 23 23 (.loc 5) 4 40 l1_5 [x12_2_0] .full (by kernel_rfl) (by kernel_rfl) (by kernel_rfl) hr) (by kernel_rfl) ?_
              refine SO.run c0 5 ⟨[(0, .str a0), (5, .slice (.buf (.loc 5)) 4 (eTToken.F (l1_5 ++ [x12_2_0]))), (6, .int .i64 l1_6), (8, .ptr (.loc 8) 0)], [(.loc 5, .buf 4 ((l1_5 ++ [x12_2_0]).length)), (.loc 8, .cells true (cTToken x12_2_0))]⟩ (by decide) (by kernel_rfl) ?_
              refine SO.done ?_
              refine SC.region 6 rfl ?_
              refine SO.run c0 6 ⟨[(0, .str a0), (5, .slice (.buf (.loc 5)) 4 (eTToken.F (l1_5 ++ [x12_2_0]))), (6, .int .i64 (IntKind.i64.wrap (l1_6 + ((x12_2_0.Text.length : Int)))))], [(.loc 5, .buf 4 ((l1_5 ++ [x12_2_0]).length))]⟩ (by decide) (by kernel_rfl) ?_
              refine SO.done ?_
              replace h := Option.some.inj h
              subst h
              exact ⟨((l1_5 ++ [x12_2_0]), (IntKind.i64.wrap (l1_6 + ((x12_2_0.Text.length : Int))))), rfl, rfl⟩
      · replace h := Opt.f h ht
        refine SC.weak (S1 := ⟨[(0, .str a0), (5, .slice (.buf (.loc 5)) 4 (eTToken.F l1_5))], [(.loc 5, .buf 4 (l1_5.length))]⟩) ?_ ?_
        · exact ⟨⟨Wk.refl _, Wk.refl _, trivial⟩, ⟨⟨.buf 4 (l1_5.length), by kernel_rfl, ObWk.buf rfl⟩, trivial⟩, by kernel_rfl⟩
        refine SC.exit ?_
        obtain ⟨r1, hh, e1⟩ := Opt.inr h
        clear h
        subst e1
        have h := hh
        clear hh
        refine ⟨_, rfl, ?_⟩
        exact ⟨l1_5, rfl, h⟩
theorem ok_expr_reader_end (k : Nat) (a1 : TNode) (o0_l : List TToken) (o0_at : Int) (o0_bad : Bool) (r : TNode × Int × Int) (h : expr_reader_end k a1 o0_l o0_at o0_bad = some r) :
    SF Z 35 [.ptr (.ext 0) 0, .agg (cTNode a1)] [(.ext 0, .cells true [.slice .none 4 (eTToken.F o0_l), .int .i64 o0_at, .bool o0_bad])] (.tuple [.agg (cTNode r.1), .int .i64 r.2.1, .int .i64 r.2.2]) [(.ext 0, .cells true [.slice .none 4 (eTToken.F o0_l), .int .i64 o0_at, .bool o0_bad])] := by
  unfold expr_reader_end at h
  refine SF.intro Tryd.func35 rfl Tryd.ntmps35 rfl (Nat.le_of_ble_eq_true rfl) (by decide) ?_
  refine SC.seq ?_
  refine SC.region 4 rfl ?_
  refine SO.run c0 4 ⟨[(0, .ptr (.ext 0) 0), (3, .ptr (.loc 3) 0), (4, .ptr (.loc 4) 0)], [(.ext 0, .cells true [.slice .none 4 (eTToken.F o0_l), .int .i64 o0_at, .bool o0_bad]), (.loc 3, .cells true (cTNode a1)), (.loc 4, .cells true [.int .i64 0, .int .i64 0, .int .i64 0, .str [], .nils])]⟩ (by decide) (by kernel_rfl) ?_
  refine SO.done ?_
  refine SC.seq ?_
  refine SC.seq ?_
  refine SC.region 4 rfl ?_
  refine SO.run c0 4 ⟨[(0, .ptr (.ext 0) 0), (3, .ptr (.loc 3) 0), (4, .ptr (.loc 4) 0), (10, .bool o0_bad)], [(.ext 0, .cells true [.slice .none 4 (eTToken.F o0_l), .int .i64 o0_at, .bool o0_bad]), (.loc 3, .cells true (cTNode a1)), (.loc 4, .cells true [.int .i64 0, .int .i64 0, .int .i64 0, .str [], .nils])]⟩ (by decide) (by kernel_rfl) ?_
  refine SO.done ?_
  refine SC.cond o0_bad (by kernel_rfl) (fun ht => ?_) (fun ht => ?_)
  · replace h := Opt.t h ht
    refine SC.seq ?_
    refine SC.drawT ?_
    refine DD.run c0 8 ⟨[(0, .ptr (.ext 0) 0), (3, .ptr (.loc 3) 0), (4, .ptr (.loc 4) 0), (5, .int .i64 o0_at), (6, .int .i64 1), (10, .bool o0_bad), (11, .agg [.int .i64 0, .int .i64 0, .int .i64 0, .str [], .nils]), (12, .ptr (.ext 0) 0), (13, .ptr (.ext 0) 0), (14, .ptr (.ext 0) 1), (15, .int .i64 o0_at)], [(.ext 0, .cells true [.slice .none 4 (eTToken.F o0_l), .int .i64 o0_at, .bool o0_bad]), (.loc 3, .cells true (cTNode a1)), (.loc 4, .cells true [.int .i64 0, .int .i64 0, .int .i64 0, .str [], .nils])]⟩ (by decide) (by kernel_rfl) ?_
    refine DD.fin ⟨[(4, .ptr (.loc 4) 0), (5, .int .i64 o0_at), (6, .int .i64 1)], [(.ext 0, .cells true [.slice .none 4 (eTToken.F o0_l), .int .i64 o0_at, .bool o0_bad]), (.loc 4, .cells true [.int .i64 0, .int .i64 0, .int .i64 0, .str [], .nils])]⟩ rfl (by kernel_rfl) (by kernel_rfl) ?_
    refine SC.ret ?_
    replace h := Option.some.inj h
    subst h
    exact ⟨[.agg [.int .i64 0, .int .i64 0, .int .i64 0, .str [], .nils], .int .i64 o0_at, .int .i64 1], by kernel_rfl, Wk.tuple (⟨Wk.agg (⟨Wk.refl _, Wk.refl _, Wk.refl _, Wk.refl _, Wk.nils _ _, trivial⟩), Wk.refl _, Wk.refl _, trivial⟩), ⟨⟨.cells true [.slice .none 4 (eTToken.F o0_l), .int .i64 o0_at, .bool o0_bad], by kernel_rfl, ObWk.cells (WkL.eq (by kernel_rfl))⟩, trivial⟩, by kernel_rfl⟩
  · replace h := Opt.f h ht
    refine SC.skip ?_
    refine SC.seq ?_
    refine SC.drawT ?_
    refine DD.run c0 8 ⟨[(0, .ptr (.ext 0) 0), (3, .ptr (.loc 3) 0), (4, .ptr (.loc 4) 0), (5, .int .i64 o0_at), (6, .int .i64 0), (10, .bool o0_bad), (16, .agg (cTNode a1)), (17, .ptr (.ext 0) 0), (18, .ptr (.ext 0) 0), (19, .ptr (.ext 0) 1), (20, .int .i64 o0_at)], [(.ext 0, .cells true [.slice .none 4 (eTToken.F o0_l), .int .i64 o0_at, .bool o0_bad]), (.loc 3, .cells true (cTNode a1)), (.loc 4, .cells true (cTNode a1))]⟩ (by decide) (by kernel_rfl) ?_
    refine DD.fin ⟨[(4, .ptr (.loc 4) 0), (5, .int .i64 o0_at), (6, .int .i64 0)], [(.ext 0, .cells true [.slice .none 4 (eTToken.F o0_l), .int .i64 o0_at, .bool o0_bad]), (.loc 4, .cells true (cTNode a1))]⟩ rfl (by kernel_rfl) (by kernel_rfl) ?_
    refine SC.ret ?_
    replace h := Option.some.inj h
    subst h
    exact ⟨[.agg (cTNode a1), .int .i64 o0_at, .int .i64 0], by kernel_rfl, Wk.eq (by kernel_rfl), ⟨⟨.cells true [.slice .none 4 (eTToken.F o0_l), .int .i64 o0_at, .bool o0_bad], by kernel_rfl, ObWk.cells (WkL.eq (by kernel_rfl))⟩, trivial⟩, by kernel_rfl⟩
theorem ok_expr_reader_look (k : Nat) (o0_l : List TToken) (o0_at : Int) (o0_bad : Bool) (r : TToken) (h : expr_reader_look k o0_l o0_at o0_bad = some r) :
    SF Z 72 [.ptr (.ext 0) 0] [(.ext 0, .cells true [.slice .none 4 (eTToken.F o0_l), .int .i64 o0_at, .bool o0_bad])] (.agg (cTToken r)) [(.ext 0, .cells true [.slice .none 4 (eTToken.F o0_l), .int .i64 o0_at, .bool o0_bad])] := by
  unfold expr_reader_look at h
  refine SF.intro Tryd.func72 rfl Tryd.ntmps72 rfl (Nat.le_of_ble_eq_true rfl) (by decide) ?_
  refine SC.seq ?_
  refine SC.region 1 rfl ?_
  refine SO.run c0 1 ⟨[(0, .ptr (.ext 0) 0), (2, .ptr (.loc 2) 0)], [(.ext 0, .cells true [.slice .none 4 (eTToken.F o0_l), .int .i64 o0_at, .bool o0_bad]), (.loc 2, .cells true [.int .i64 0, .int .i64 0, .int .i64 0, .str []])]⟩ (by decide) (by kernel_rfl) ?_
  refine SO.done ?_
  refine SC.seq ?_
  refine SC.seq ?_
  refine SC.drawS 17 rfl (by kernel_rfl) ?_
  refine QD.run 6 ⟨[(0, .ptr (.ext 0) 0), (2, .ptr (.loc 2) 0), (3, .ptr (.ext 0) 0), (4, .ptr (.ext 0) 0), (5, .ptr (.ext 0) 1), (6, .int .i64 o0_at), (7, .bool (decide (o0_at < 0))), (8, .bool (decide (o0_at < 0)))], [(.ext 0, .cells true [.slice .none 4 (eTToken.F o0_l), .int .i64 o0_at, .bool o0_bad]), (.loc 2, .cells true [.int .i64 0, .int .i64 0, .int .i64 0, .str []])]⟩ (by decide) (by kernel_rfl) ?_
  refine QD.meet 17 ⟨[(0, .ptr (.ext 0) 0), (2, .ptr (.loc 2) 0), (19, .bool ((decide (o0_at < 0)) || (decide (o0_at ≥ ((o0_l.length : Int))))))], [(.ext 0, .cells true [.slice .none 4 (eTToken.F o0_l), .int .i64 o0_at, .bool o0_bad]), (.loc 2, .cells true [.int .i64 0, .int .i64 0, .int .i64 0, .str []])]⟩ (by decide) (by kernel_rfl) ?_ ?_
  · refine QD.bool (decide (o0_at < 0)) (fun b => ⟨[(0, .ptr (.ext 0) 0), (2, .ptr (.loc 2) 0), (3, .ptr (.ext 0) 0), (4, .ptr (.ext 0) 0), (5, .ptr (.ext 0) 1), (6, .int .i64 o0_at), (7, .bool (decide (o0_at < 0))), (8, .bool b)], [(.ext 0, .cells true [.slice .none 4 (eTToken.F o0_l), .int .i64 o0_at, .bool o0_bad]), (.loc 2, .cells true [.int .i64 0, .int .i64 0, .int .i64 0, .str []])]⟩) (fun ht => ?_) (fun ht => ?_)
    · refine QD.run 17 ⟨[(0, .ptr (.ext 0) 0), (2, .ptr (.loc 2) 0), (3, .ptr (.ext 0) 0), (4, .ptr (.ext 0) 0), (5, .ptr (.ext 0) 1), (6, .int .i64 o0_at), (7, .bool (decide (o0_at < 0))), (8, .bool true), (9, .tuple []), (10, .tuple []), (11, .tuple []), (12, .tuple []), (13, .tuple []), (14, .tuple []), (15, .tuple []), (16, .tuple []), (17, .tuple []), (18, .tuple []), (19, .bool (true || (decide (o0_at ≥ ((o0_l.length : Int))))))], [(.ext 0, .cells true [.slice .none 4 (eTToken.F o0_l), .int .i64 o0_at, .bool o0_bad]), (.loc 2, .cells true [.int .i64 0, .int .i64 0, .int .i64 0, .str []])]⟩ (by decide) (Eq.trans (b := some ⟨[(0, .ptr (.ext 0) 0), (2, .ptr (.loc 2) 0), (3, .ptr (.ext 0) 0), (4, .ptr (.ext 0) 0), (5, .ptr (.ext 0) 1), (6, .int .i64 o0_at), (7, .bool (decide (o0_at < 0))), (8, .bool true), (9, .tuple []), (10, .tuple []), (11, .tuple []), (12, .tuple []), (13, .tuple []), (14, .tuple []), (15, .tuple []), (16, .tuple []), (17, .tuple []), (18, .tuple []), (19, .bool (true || (decide (o0_at ≥ (((eTToken.F o0_l).length : Int))))))], [(.ext 0, .cells true [.slice .none 4 (eTToken.F o0_l), .int .i64 o0_at, .bool o0_bad]), (.loc 2, .cells true [.int .i64 0, .int .i64 0, .int .i64 0, .str []])]⟩) (by kernel_rfl) (by simp only [LE.len])) ?_
      exact QD.done ⟨by rw [ht]; kernel_rfl, rfl⟩
    · refine QD.run 17 ⟨[(0, .ptr (.ext 0) 0), (2, .ptr (.loc 2) 0), (3, .ptr (.ext 0) 0), (4, .ptr (.ext 0) 0), (5, .ptr (.ext 0) 1), (6, .int .i64 o0_at), (7, .bool (decide (o0_at < 0))), (8, .bool false), (9, .ptr (.ext 0) 0), (10, .ptr (.ext 0) 0), (11, .ptr (.ext 0) 1), (12, .int .i64 o0_at), (13, .ptr (.ext 0) 0), (14, .ptr (.ext 0) 0), (15, .ptr (.ext 0) 0), (16, .slice .none 4 (eTToken.F o0_l)), (17, .int .i64 (o0_l.length : Int)), (18, .bool (decide (o0_at ≥ ((o0_l.length : Int))))), (19, .bool (false || (decide (o0_at ≥ ((o0_l.length : Int))))))], [(.ext 0, .cells true [.slice .none 4 (eTToken.F o0_l), .int .i64 o0_at, .bool o0_bad]), (.loc 2, .cells true [.int .i64 0, .int .i64 0, .int .i64 0, .str []])]⟩ (by decide) (Eq.trans (b := some ⟨[(0, .ptr (.ext 0) 0), (2, .ptr (.loc 2) 0), (3, .ptr (.ext 0) 0), (4, .ptr (.ext 0) 0), (5, .ptr (.ext 0) 1), (6, .int .i64 o0_at), (7, .bool (decide (o0_at < 0))), (8, .bool false), (9, .ptr (.ext 0) 0), (10, .ptr (.ext 0) 0), (11, .ptr (.ext 0) 1), (12, .int .i64 o0_at), (13, .ptr (.ext 0) 0), (14, .ptr (.ext 0) 0), (15, .ptr (.ext 0) 0), (16, .slice .none 4 (eTToken.F o0_l)), (17, .int .i64 (((eTToken.F o0_l).length : Int))), (18, .bool (decide (o0_at ≥ (((eTToken.F o0_l).length : Int))))), (19, .bool (false || (decide (o0_at ≥ (((eTToken.F o0_l).length : Int))))))], [(.ext 0, .cells true [.slice .none 4 (eTToken.F o0_l), .int .i64 o0_at, .bool o0_bad]), (.loc 2, .cells true [.int .i64 0, .int .i64 0, .int .i64 0, .str []])]⟩) (by kernel_rfl) (by simp only [LE.len])) ?_
      exact QD.done ⟨by rw [ht]; kernel_rfl, rfl⟩
  · refine QD.fin ⟨[(0, .ptr (.ext 0) 0), (2, .ptr (.loc 2) 0), (19, .bool ((decide (o0_at < 0)) || (decide (o0_at ≥ ((o0_l.length : Int))))))], [(.ext 0, .cells true [.slice .none 4 (eTToken.F o0_l), .int .i64 o0_at, .bool o0_bad]), (.loc 2, .cells true [.int .i64 0, .int .i64 0, .int .i64 0, .str []])]⟩ (by kernel_rfl) ?_
    refine SC.cond ((decide (o0_at < 0)) || (decide (o0_at ≥ ((o0_l.length : Int))))) (by kernel_rfl) (fun ht => ?_) (fun ht => ?_)
    · replace h := Opt.t h ht
      refine SC.seq ?_
      refine SC.region 2 rfl ?_
      refine SO.run c0 2 ⟨[(2, .ptr (.loc 2) 0)], [(.ext 0, .cells true [.slice .none 4 (eTToken.F o0_l), .int .i64 o0_at, .bool o0_bad]), (.loc 2, .cells true [.int .i64 0, .int .i64 0, .int .i64 0, .str []])]⟩ (by decide) (by kernel_rfl) ?_
      refine SO.done ?_
      refine SC.ret ?_
      replace h := Option.some.inj h
      subst h
      exact ⟨[.agg [.int .i64 0, .int .i64 0, .int .i64 0, .str []]], by kernel_rfl, Wk.eq (by kernel_rfl), ⟨⟨.cells true [.slice .none 4 (eTToken.F o0_l), .int .i64 o0_at, .bool o0_bad], by kernel_rfl, ObWk.cells (WkL.eq (by kernel_rfl))⟩, trivial⟩, by kernel_rfl⟩
    · replace h := Opt.f h ht
      refine SC.skip ?_
      refine SC.seq ?_
      refine SC.drawT ?_
      refine DD.run c0 8 ⟨[(0, .ptr (.ext 0) 0), (2, .ptr (.loc 2) 0), (19, .bool ((decide (o0_at < 0)) || (decide (o0_at ≥ ((o0_l.length : Int)))))), (21, .ptr (.ext 0) 0), (22, .ptr (.ext 0) 0), (23, .ptr (.ext 0) 0), (24, .slice .none 4 (eTToken.F o0_l)), (25, .ptr (.ext 0) 0), (26, .ptr (.ext 0) 0), (27, .ptr (.ext 0) 1), (28, .int .i64 o0_at)], [(.ext 0, .cells true [.slice .none 4 (eTToken.F o0_l), .int .i64 o0_at, .bool o0_bad]), (.loc 2, .cells true [.int .i64 0, .int .i64 0, .int .i64 0, .str []])]⟩ (by decide) (by kernel_rfl) ?_
      obtain ⟨x3_8, hx3_8, h⟩ := Opt.ex h
      refine DD.op c0 { v := .pin (cTToken x3_8) } ⟨[(0, .ptr (.ext 0) 0), (2, .ptr (.loc 2) 0), (19, .bool ((decide (o0_at < 0)) || (decide (o0_at ≥ ((o0_l.length : Int)))))), (21, .ptr (.ext 0) 0), (22, .ptr (.ext 0) 0), (23, .ptr (.ext 0) 0), (24, .slice .none 4 (eTToken.F o0_l)), (25, .ptr (.ext 0) 0), (26, .ptr (.ext 0) 0), (27, .ptr (.ext 0) 1), (28, .int .i64 o0_at), (29, .pin (cTToken x3_8))], [(.ext 0, .cells true [.slice .none 4 (eTToken.F o0_l), .int .i64 o0_at, .bool o0_bad]), (.loc 2, .cells true [.int .i64 0, .int .i64 0, .int .i64 0, .str []])]⟩ (ixR eTToken 23 .none 4 o0_l .i64 o0_at x3_8 (cTToken x3_8) (by kernel_rfl) (by kernel_rfl) hx3_8 (xTToken x3_8)) (by kernel_rfl) ?_
      refine DD.run c0 11 ⟨[(0, .ptr (.ext 0) 0), (2, .ptr (.loc 2) 0), (19, .bool ((decide (o0_at < 0)) || (decide (o0_at ≥ ((o0_l.length : Int)))))), (21, .ptr (.ext 0) 0), (22, .ptr (.ext 0) 0), (23, .ptr (.ext 0) 0), (24, .slice .none 4 (eTToken.F o0_l)), (25, .ptr (.ext 0) 0), (26, .ptr (.ext 0) 0), (27, .ptr (.ext 0) 1), (28, .int .i64 o0_at), (29, .pin (cTToken x3_8)), (30, .agg (cTToken x3_8))], [(.ext 0, .cells true [.slice .none 4 (eTToken.F o0_l), .int .i64 o0_at, .bool o0_bad]), (.loc 2, .cells true (cTToken x3_8))]⟩ (by decide) (by kernel_rfl) ?_
      refine DD.fin ⟨[(2, .ptr (.loc 2) 0)], [(.ext 0, .cells true [.slice .none 4 (eTToken.F o0_l), .int .i64 o0_at, .bool o0_bad]), (.loc 2, .cells true (cTToken x3_8))]⟩ rfl (by kernel_rfl) (by kernel_rfl) ?_
      refine SC.ret ?_
      replace h := Option.some.inj h
      subst h
      exact ⟨[.agg (cTToken x3_8)], by kernel_rfl, Wk.eq (by kernel_rfl), ⟨⟨.cells true [.slice .none 4 (eTToken.F o0_l), .int .i64 o0_at, .bool o0_bad], by kernel_rfl, ObWk.cells (WkL.eq (by kernel_rfl))⟩, trivial⟩, by kernel_rfl⟩
theorem ok_expr_reader_is (k : Nat) (a1 : Int) (a2 : List UInt8) (o0_l : List TToken) (o0_at : Int) (o0_bad : Bool) (r : Bool) (h : expr_reader_is k a1 a2 o0_l o0_at o0_bad = some r) :
    SF Z 78 [.ptr (.ext 0) 0, .int .i64 a1, .str a2] [(.ext 0, .cells true [.slice .none 4 (eTToken.F o0_l), .int .i64 o0_at, .bool o0_bad])] (.bool r) [(.ext 0, .cells true [.slice .none 4 (eTToken.F o0_l), .int .i64 o0_at, .bool o0_bad])] := by
  unfold expr_reader_is at h
  refine SF.intro Tryd.func78 rfl Tryd.ntmps78 rfl (Nat.le_of_ble_eq_true rfl) (by decide) ?_
  refine SC.seq ?_
  refine SC.region 1 rfl ?_
  refine SO.run c0 1 ⟨[(0, .ptr (.ext 0) 0), (1, .int .i64 a1), (2, .str a2)], [(.ext 0, .cells true [.slice .none 4 (eTToken.F o0_l), .int .i64 o0_at, .bool o0_bad])]⟩ (by decide) (by kernel_rfl) ?_
  refine SO.done ?_
  refine SC.seq ?_
  refine SC.region 4 rfl ?_
  refine SO.run c0 1 ⟨[(1, .int .i64 a1), (2, .str a2), (8, .ptr (.ext 0) 0)], [(.ext 0, .cells true [.slice .none 4 (eTToken.F o0_l), .int .i64 o0_at, .bool o0_bad])]⟩ (by decide) (by kernel_rfl) ?_
  obtain ⟨x1_1, hx1_1, h⟩ := Opt.ex h
  refine SO.call ⟨72, [.ptr (.ext 0) 0], [(.ext 0, .cells true [.slice .none 4 (eTToken.F o0_l), .int .i64 o0_at, .bool o0_bad])], [.ext 0], some 9⟩ ⟨[(1, .int .i64 a1), (2, .str a2), (9, .agg (cTToken x1_1))], [(.ext 0, .cells true [.slice .none 4 (eTToken.F o0_l), .int .i64 o0_at, .bool o0_bad])]⟩ (by decide) (by kernel_rfl) (ok_expr_reader_look k o0_l o0_at o0_bad x1_1 hx1_1) (by kernel_rfl) ?_
  refine SO.run c0 4 ⟨[(1, .int .i64 a1), (2, .str a2), (7, .ptr (.loc 7) 0)], [(.ext 0, .cells true [.slice .none 4 (eTToken.F o0_l), .int .i64 o0_at, .bool o0_bad]), (.loc 7, .cells true (cTToken x1_1))]⟩ (by decide) (by kernel_rfl) ?_
  refine SO.done ?_
  refine SC.seq ?_
  refine SC.region 11 rfl ?_
  refine SO.run c0 5 ⟨[(2, .str a2), (7, .ptr (.loc 7) 0), (14, .bool (x1_1.Kind == a1))], [(.ext 0, .cells true [.slice .none 4 (eTToken.F o0_l), .int .i64 o0_at, .bool o0_bad]), (.loc 7, .cells true (cTToken x1_1))]⟩ (by decide) (by kernel_rfl) ?_
  refine SO.runB c0 10 (x1_1.Kind == a1) (fun b => ⟨[(2, .str a2), (7, .ptr (.loc 7) 0), (14, .bool b)], [(.ext 0, .cells true [.slice .none 4 (eTToken.F o0_l), .int .i64 o0_at, .bool o0_bad]), (.loc 7, .cells true (cTToken x1_1))]⟩) (fun b => ⟨[(19, .bool (b && (x1_1.Text == a2)))], [(.ext 0, .cells true [.slice .none 4 (eTToken.F o0_l), .int .i64 o0_at, .bool o0_bad])]⟩) (by decide) (by kernel_rfl) (by kernel_rfl) ?_
  refine SO.run c0 11 ⟨[(6, .bool ((x1_1.Kind == a1) && (x1_1.Text == a2)))], [(.ext 0, .cells true [.slice .none 4 (eTToken.F o0_l), .int .i64 o0_at, .bool o0_bad])]⟩ (by decide) (by kernel_rfl) ?_
  refine SO.done ?_
  refine SC.ret ?_
  replace h := Option.some.inj h
  subst h
  exact ⟨[.bool ((x1_1.Kind == a1) && (x1_1.Text == a2))], by kernel_rfl, Wk.eq (by kernel_rfl), ⟨⟨.cells true [.slice .none 4 (eTToken.F o0_l), .int .i64 o0_at, .bool o0_bad], by kernel_rfl, ObWk.cells (WkL.eq (by kernel_rfl))⟩, trivial⟩, by kernel_rfl⟩
theorem ok_expr_reader_takes (k : Nat) (a1 : List UInt8) (o0_l : List TToken) (o0_at : Int) (o0_bad : Bool) (r : Bool × Int) (h : expr_reader_takes k a1 o0_l o0_at o0_bad = some r) :
    SF Z 76 [.ptr (.ext 0) 0, .str a1] [(.ext 0, .cells true [.slice .none 4 (eTToken.F o0_l), .int .i64 o0_at, .bool o0_bad])] (.bool r.1) [(.ext 0, .cells true [.slice .none 4 (eTToken.F o0_l), .int .i64 r.2, .bool o0_bad])] := by
  unfold expr_reader_takes at h
  refine SF.intro Tryd.func76 rfl Tryd.ntmps76 rfl (Nat.le_of_ble_eq_true rfl) (by decide) ?_
  refine SC.seq ?_
  refine SC.region 1 rfl ?_
  refine SO.run c0 1 ⟨[(0, .ptr (.ext 0) 0), (1, .str a1)], [(.ext 0, .cells true [.slice .none 4 (eTToken.F o0_l), .int .i64 o0_at, .bool o0_bad])]⟩ (by decide) (by kernel_rfl) ?_
  refine SO.done ?_
  refine SC.seq ?_
  refine SC.seq ?_
  refine SC.region 10 rfl ?_
  refine SO.run c0 5 ⟨[(0, .ptr (.ext 0) 0), (1, .str a1), (9, .bool o0_bad)], [(.ext 0, .cells true [.slice .none 4 (eTToken.F o0_l), .int .i64 o0_at, .bool o0_bad])]⟩ (by decide) (by kernel_rfl) ?_
  refine SO.joinK h (fun v : Bool => ⟨[(0, .ptr (.ext 0) 0), (14, .bool v)], [(.ext 0, .cells true [.slice .none 4 (eTToken.F o0_l), .int .i64 o0_at, .bool o0_bad])]⟩) 10 (by decide) ?_ ?_
  · rintro g1_9_14 h
    refine SO.eqS (S1 := ⟨[(0, .ptr (.ext 0) 0), (14, .bool g1_9_14)], [(.ext 0, .cells true [.slice .none 4 (eTToken.F o0_l), .int .i64 o0_at, .bool o0_bad])]⟩) rfl ?_
    refine SO.done ?_
    refine SC.cond g1_9_14 (by kernel_rfl) (fun ht => ?_) (fun ht => ?_)
    · replace h := Opt.t h ht
      refine SC.seq ?_
      refine SC.region 1 rfl ?_
      refine SO.run c0 1 ⟨[(4, .bool false)], [(.ext 0, .cells true [.slice .none 4 (eTToken.F o0_l), .int .i64 o0_at, .bool o0_bad])]⟩ (by decide) (by kernel_rfl) ?_
      refine SO.done ?_
      refine SC.ret ?_
      replace h := Option.some.inj h
      subst h
      exact ⟨[.bool false], by kernel_rfl, Wk.eq (by kernel_rfl), ⟨⟨.cells true [.slice .none 4 (eTToken.F o0_l), .int .i64 o0_at, .bool o0_bad], by kernel_rfl, ObWk.cells (WkL.eq (by kernel_rfl))⟩, trivial⟩, by kernel_rfl⟩
    · replace h := Opt.f h ht
      refine SC.skip ?_
      refine SC.seq ?_
      refine SC.region 8 rfl ?_
      refine SO.run c0 8 ⟨[], [(.ext 0, .cells true [.slice .none 4 (eTToken.F o0_l), .int .i64 (IntKind.i64.wrap (o0_at + 1)), .bool o0_bad])]⟩ (by decide) (by kernel_rfl) ?_
      refine SO.done ?_
      refine SC.seq ?_
      refine SC.region 1 rfl ?_
      refine SO.run c0 1 ⟨[(4, .bool true)], [(.ext 0, .cells true [.slice .none 4 (eTToken.F o0_l), .int .i64 (IntKind.i64.wrap (o0_at + 1)), .bool o0_bad])]⟩ (by decide) (by kernel_rfl) ?_
      refine SO.done ?_
      refine SC.ret ?_
      replace h := Option.some.inj h
      subst h
      exact ⟨[.bool true], by kernel_rfl, Wk.eq (by kernel_rfl), ⟨⟨.cells true [.slice .none 4 (eTToken.F o0_l), .int .i64 (IntKind.i64.wrap (o0_at + 1)), .bool o0_bad], by kernel_rfl, ObWk.cells (WkL.eq (by kernel_rfl))⟩, trivial⟩, by kernel_rfl⟩
  · intro j_g1_9 h
    refine SO.bool o0_bad (fun b => ⟨[(0, .ptr (.ext 0) 0), (1, .str a1), (9, .bool b)], [(.ext 0, .cells true [.slice .none 4 (eTToken.F o0_l), .int .i64 o0_at, .bool o0_bad])]⟩) (fun ht => ?_) (fun ht => ?_)
    · replace h := Opt.t h ht
      refine SO.run c0 10 ⟨[(0, .ptr (.ext 0) 0), (14, .bool true)], [(.ext 0, .cells true [.slice .none 4 (eTToken.F o0_l), .int .i64 o0_at, .bool o0_bad])]⟩ (by decide) (by kernel_rfl) ?_
      exact SO.done ⟨true, rfl, h⟩
    · replace h := Opt.f h ht
      refine SO.run c0 7 ⟨[(0, .ptr (.ext 0) 0), (9, .bool false), (10, .ptr (.ext 0) 0), (11, .str a1)], [(.ext 0, .cells true [.slice .none 4 (eTToken.F o0_l), .int .i64 o0_at, .bool o0_bad])]⟩ (by decide) (by kernel_rfl) ?_
      obtain ⟨x1_7, hx1_7, h⟩ := Opt.ex h
      refine SO.call ⟨78, [.ptr (.ext 0) 0, .int .i64 4, .str a1], [(.ext 0, .cells true [.slice .none 4 (eTToken.F o0_l), .int .i64 o0_at, .bool o0_bad])], [.ext 0], some 12⟩ ⟨[(0, .ptr (.ext 0) 0), (9, .bool false), (12, .bool x1_7)], [(.ext 0, .cells true [.slice .none 4 (eTToken.F o0_l), .int .i64 o0_at, .bool o0_bad])]⟩ (by decide) (by kernel_rfl) (ok_expr_reader_is k 4 a1 o0_l o0_at o0_bad x1_7 hx1_7) (by kernel_rfl) ?_
      refine SO.run c0 10 ⟨[(0, .ptr (.ext 0) 0), (14, .bool (!x1_7))], [(.ext 0, .cells true [.slice .none 4 (eTToken.F o0_l), .int .i64 o0_at, .bool o0_bad])]⟩ (by decide) (by kernel_rfl) ?_
      exact SO.done ⟨(!x1_7), rfl, h⟩
theorem ok_word_Spell (k : Nat) (a0 : Int) (r : List UInt8) (h : word_Spell k a0 = some r) :
    SF Z 95 [.int .i64 a0] [] (.str r) [] := by
  unfold word_Spell at h
  refine SF.intro Tryd.func95 rfl Tryd.ntmps95 rfl (Nat.le_of_ble_eq_true rfl) (by decide) ?_
  refine SC.seq ?_
  refine SC.region 1 rfl ?_
  refine SO.run c0 1 ⟨[(0, .int .i64 a0)], []⟩ (by decide) (by kernel_rfl) ?_
  refine SO.done ?_
  refine SC.seq ?_
  refine SC.seq ?_
  refine SC.region 6 rfl ?_
  refine SO.run c0 3 ⟨[(0, .int .i64 a0), (5, .bool (decide (a0 < 0)))], []⟩ (by decide) (by kernel_rfl) ?_
  refine SO.runB c0 6 (decide (a0 < 0)) (fun b => ⟨[(0, .int .i64 a0), (5, .bool b)], []⟩) (fun b => ⟨[(0, .int .i64 a0), (8, .bool (b || (decide (a0 ≥ 15))))], []⟩) (by decide) (by kernel_rfl) (by kernel_rfl) ?_
  refine SO.done ?_
  refine SC.cond ((decide (a0 < 0)) || (decide (a0 ≥ 15))) (by kernel_rfl) (fun ht => ?_) (fun ht => ?_)
  · replace h := Opt.t h ht
    refine SC.seq ?_
    refine SC.region 1 rfl ?_
    refine SO.run c0 1 ⟨[(2, .str [])], []⟩ (by decide) (by kernel_rfl) ?_
    refine SO.done ?_
    refine SC.ret ?_
    replace h := Option.some.inj h
    subst h
    exact ⟨[.str []], by kernel_rfl, Wk.eq (by kernel_rfl), trivial, by kernel_rfl⟩
  · replace h := Opt.f h ht
    refine SC.skip ?_
    refine SC.seq ?_
    refine SC.region 4 rfl ?_
    refine SO.run c0 1 ⟨[(9, .int .i64 a0)], []⟩ (by decide) (by kernel_rfl) ?_
    obtain ⟨x3_1, hx3_1, h⟩ := Opt.ex h
    refine SO.op c0 { v := .pin (.str x3_1 :: (eStr.F g_word_spellings).drop (a0.toNat + 1)) } ⟨[(10, .pin (.str x3_1 :: (eStr.F g_word_spellings).drop (a0.toNat + 1)))], []⟩ (by decide) (ixPA eStr.f 113 15 g_word_spellings .i64 a0 x3_1 (by kernel_rfl) (by kernel_rfl) rfl hx3_1) (by kernel_rfl) ?_
    refine SO.run c0 4 ⟨[(2, .str x3_1)], []⟩ (by decide) (by kernel_rfl) ?_
    refine SO.done ?_
    refine SC.ret ?_
    replace h := Option.some.inj h
    subst h
    exact ⟨[.str x3_1], by kernel_rfl, Wk.eq (by kernel_rfl), trivial, by kernel_rfl⟩
theorem ok_expr_reader_name (k : Nat) (o0_l : List TToken) (o0_at : Int) (o0_bad : Bool) (r : List UInt8 × Int × Bool) (h : expr_reader_name k o0_l o0_at o0_bad = some r) :
    SF Z 75 [.ptr (.ext 0) 0] [(.ext 0, .cells true [.slice .none 4 (eTToken.F o0_l), .int .i64 o0_at, .bool o0_bad])] (.str r.1) [(.ext 0, .cells true [.slice .none 4 (eTToken.F o0_l), .int .i64 r.2.1, .bool r.2.2])] := by
  unfold expr_reader_name at h
  refine SF.intro Tryd.func75 rfl Tryd.ntmps75 rfl (Nat.le_of_ble_eq_true rfl) (by decide) ?_
  refine SC.seq ?_
  refine SC.region 1 rfl ?_
  refine SO.run c0 1 ⟨[(0, .ptr (.ext 0) 0)], [(.ext 0, .cells true [.slice .none 4 (eTToken.F o0_l), .int .i64 o0_at, .bool o0_bad])]⟩ (by decide) (by kernel_rfl) ?_
  refine SO.done ?_
  refine SC.seq ?_
  refine SC.region 4 rfl ?_
  refine SO.run c0 1 ⟨[(0, .ptr (.ext 0) 0), (4, .ptr (.ext 0) 0)], [(.ext 0, .cells true [.slice .none 4 (eTToken.F o0_l), .int .i64 o0_at, .bool o0_bad])]⟩ (by decide) (by kernel_rfl) ?_
  obtain ⟨x1_1, hx1_1, h⟩ := Opt.ex h
  refine SO.call ⟨72, [.ptr (.ext 0) 0], [(.ext 0, .cells true [.slice .none 4 (eTToken.F o0_l), .int .i64 o0_at, .bool o0_bad])], [.ext 0], some 5⟩ ⟨[(0, .ptr (.ext 0) 0), (5, .agg (cTToken x1_1))], [(.ext 0, .cells true [.slice .none 4 (eTToken.F o0_l), .int .i64 o0_at, .bool o0_bad])]⟩ (by decide) (by kernel_rfl) (ok_expr_reader_look k o0_l o0_at o0_bad x1_1 hx1_1) (by kernel_rfl) ?_
  refine SO.run c0 4 ⟨[(0, .ptr (.ext 0) 0), (3, .ptr (.loc 3) 0)], [(.ext 0, .cells true [.slice .none 4 (eTToken.F o0_l), .int .i64 o0_at, .bool o0_bad]), (.loc 3, .cells true (cTToken x1_1))]⟩ (by decide) (by kernel_rfl) ?_
  refine SO.done ?_
  refine SC.seq ?_
  refine SC.seq ?_
  refine SC.region 9 rfl ?_
  refine SO.run c0 5 ⟨[(0, .ptr (.ext 0) 0), (3, .ptr (.loc 3) 0), (10, .bool o0_bad)], [(.ext 0, .cells true [.slice .none 4 (eTToken.F o0_l), .int .i64 o0_at, .bool o0_bad]), (.loc 3, .cells true (cTToken x1_1))]⟩ (by decide) (by kernel_rfl) ?_
  refine SO.runB c0 9 o0_bad (fun b => ⟨[(0, .ptr (.ext 0) 0), (3, .ptr (.loc 3) 0), (10, .bool b)], [(.ext 0, .cells true [.slice .none 4 (eTToken.F o0_l), .int .i64 o0_at, .bool o0_bad]), (.loc 3, .cells true (cTToken x1_1))]⟩) (fun b => ⟨[(0, .ptr (.ext 0) 0), (3, .ptr (.loc 3) 0), (14, .bool (b || (x1_1.Kind != 1)))], [(.ext 0, .cells true [.slice .none 4 (eTToken.F o0_l), .int .i64 o0_at, .bool o0_bad]), (.loc 3, .cells true (cTToken x1_1))]⟩) (by decide) (by kernel_rfl) (by kernel_rfl) ?_
  refine SO.done ?_
  refine SC.cond (o0_bad || (x1_1.Kind != 1)) (by kernel_rfl) (fun ht => ?_) (fun ht => ?_)
  · replace h := Opt.t h ht
    refine SC.seq ?_
    refine SC.region 4 rfl ?_
    refine SO.run c0 4 ⟨[], [(.ext 0, .cells true [.slice .none 4 (eTToken.F o0_l), .int .i64 o0_at, .bool true])]⟩ (by decide) (by kernel_rfl) ?_
    refine SO.done ?_
    refine SC.seq ?_
    refine SC.region 1 rfl ?_
    refine SO.run c0 1 ⟨[(2, .str [])], [(.ext 0, .cells true [.slice .none 4 (eTToken.F o0_l), .int .i64 o0_at, .bool true])]⟩ (by decide) (by kernel_rfl) ?_
    refine SO.done ?_
    refine SC.ret ?_
    replace h := Option.some.inj h
    subst h
    exact ⟨[.str []], by kernel_rfl, Wk.eq (by kernel_rfl), ⟨⟨.cells true [.slice .none 4 (eTToken.F o0_l), .int .i64 o0_at, .bool true], by kernel_rfl, ObWk.cells (WkL.eq (by kernel_rfl))⟩, trivial⟩, by kernel_rfl⟩
  · replace h := Opt.f h ht
    refine SC.skip ?_
    refine SC.seq ?_
    refine SC.region 8 rfl ?_
    refine SO.run c0 8 ⟨[(3, .ptr (.loc 3) 0)], [(.ext 0, .cells true [.slice .none 4 (eTToken.F o0_l), .int .i64 (IntKind.i64.wrap (o0_at + 1)), .bool o0_bad]), (.loc 3, .cells true (cTToken x1_1))]⟩ (by decide) (by kernel_rfl) ?_
    refine SO.done ?_
    refine SC.seq ?_
    refine SC.region 3 rfl ?_
    refine SO.run c0 3 ⟨[(2, .str x1_1.Text)], [(.ext 0, .cells true [.slice .none 4 (eTToken.F o0_l), .int .i64 (IntKind.i64.wrap (o0_at + 1)), .bool o0_bad])]⟩ (by decide) (by kernel_rfl) ?_
    refine SO.done ?_
    refine SC.ret ?_
    replace h := Option.some.inj h
    subst h
    exact ⟨[.str x1_1.Text], by kernel_rfl, Wk.eq (by kernel_rfl), ⟨⟨.cells true [.slice .none 4 (eTToken.F o0_l), .int .i64 (IntKind.i64.wrap (o0_at + 1)), .bool o0_bad], by kernel_rfl, ObWk.cells (WkL.eq (by kernel_rfl))⟩, trivial⟩, by kernel_rfl⟩
theorem ok_expr_reader_wants (k : Nat) (a1 : List UInt8) (o0_l : List TToken) (o0_at : Int) (o0_bad : Bool) (r : Int × Bool) (h : expr_reader_wants k a1 o0_l o0_at o0_bad = some r) :
    SF Z 77 [.ptr (.ext 0) 0, .str a1] [(.ext 0, .cells true [.slice .none 4 (eTToken.F o0_l), .int .i64 o0_at, .bool o0_bad])] (.tuple []) [(.ext 0, .cells true [.slice .none 4 (eTToken.F o0_l), .int .i64 r.1, .bool r.2])] := by
  unfold expr_reader_wants at h
  refine SF.intro Tryd.func77 rfl Tryd.ntmps77 rfl (Nat.le_of_ble_eq_true rfl) (by decide) ?_
  refine SC.region 14 rfl ?_
  refine SO.run c0 3 ⟨[(0, .ptr (.ext 0) 0), (4, .ptr (.ext 0) 0), (5, .ptr (.ext 0) 0), (6, .str a1)], [(.ext 0, .cells true [.slice .none 4 (eTToken.F o0_l), .int .i64 o0_at, .bool o0_bad])]⟩ (by decide) (by kernel_rfl) ?_
  obtain ⟨⟨x0_3_0, x0_3_1⟩, hx0_3, h⟩ := Opt.ex h
  refine SO.call ⟨76, [.ptr (.ext 0) 0, .str a1], [(.ext 0, .cells true [.slice .none 4 (eTToken.F o0_l), .int .i64 o0_at, .bool o0_bad])], [.ext 0], some 7⟩ ⟨[(0, .ptr (.ext 0) 0), (4, .ptr (.ext 0) 0), (7, .bool x0_3_0)], [(.ext 0, .cells true [.slice .none 4 (eTToken.F o0_l), .int .i64 x0_3_1, .bool o0_bad])]⟩ (by decide) (by kernel_rfl) (ok_expr_reader_takes k a1 o0_l o0_at o0_bad (x0_3_0, x0_3_1) hx0_3) (by kernel_rfl) ?_
  refine SO.run c0 6 ⟨[(0, .ptr (.ext 0) 0), (4, .ptr (.ext 0) 0), (9, .bool (!x0_3_0))], [(.ext 0, .cells true [.slice .none 4 (eTToken.F o0_l), .int .i64 x0_3_1, .bool o0_bad])]⟩ (by decide) (by kernel_rfl) ?_
  refine SO.runB c0 11 (!x0_3_0) (fun b => ⟨[(0, .ptr (.ext 0) 0), (4, .ptr (.ext 0) 0), (9, .bool b)], [(.ext 0, .cells true [.slice .none 4 (eTToken.F o0_l), .int .i64 x0_3_1, .bool o0_bad])]⟩) (fun b => ⟨[(4, .ptr (.ext 0) 0), (14, .bool (b || o0_bad))], [(.ext 0, .cells true [.slice .none 4 (eTToken.F o0_l), .int .i64 x0_3_1, .bool o0_bad])]⟩) (by decide) (by kernel_rfl) (by kernel_rfl) ?_
  refine SO.run c0 14 ⟨[], [(.ext 0, .cells true [.slice .none 4 (eTToken.F o0_l), .int .i64 x0_3_1, .bool ((!x0_3_0) || o0_bad)])]⟩ (by decide) (by kernel_rfl) ?_
  refine SO.done ?_
  replace h := Option.some.inj h
  subst h
  exact ⟨[], by kernel_rfl, Wk.eq (by kernel_rfl), ⟨⟨.cells true [.slice .none 4 (eTToken.F o0_l), .int .i64 x0_3_1, .bool ((!x0_3_0) || o0_bad)], by kernel_rfl, ObWk.cells (WkL.eq (by kernel_rfl))⟩, trivial⟩, by kernel_rfl⟩
def C_expr_reader_kind (k : Nat) : Prop := ∀ (o0_l : List TToken) (o0_at : Int) (o0_bad : Bool) (r : TNode × Int × Bool), expr_reader_kind k o0_l o0_at o0_bad = some r →
  SF Z 42 [.ptr (.ext 0) 0] [(.ext 0, .cells true [.slice .none 4 (eTToken.F o0_l), .int .i64 o0_at, .bool o0_bad])] (.agg (cTNode r.1)) [(.ext 0, .cells true [.slice .none 4 (eTToken.F o0_l), .int .i64 r.2.1, .bool r.2.2])]
theorem st_expr_reader_kind (k : Nat) (ih_expr_reader_kind : C_expr_reader_kind k) : C_expr_reader_kind (k + 1) := by
  intro o0_l o0_at o0_bad r h
  rw [expr_reader_kind] at h
  refine SF.intro Tryd.func42 rfl Tryd.ntmps42 rfl (Nat.le_of_ble_eq_true rfl) (by decide) ?_
  refine SC.seq ?_
  refine SC.region 1 rfl ?_
  refine SO.run c0 1 ⟨[(0, .ptr (.ext 0) 0), (2, .ptr (.loc 2) 0)], [(.ext 0, .cells true [.slice .none 4 (eTToken.F o0_l), .int .i64 o0_at, .bool o0_bad]), (.loc 2, .cells true [.int .i64 0, .int .i64 0, .int .i64 0, .str [], .nils])]⟩ (by decide) (by kernel_rfl) ?_
  refine SO.done ?_
  refine SC.seq ?_
  refine SC.region 4 rfl ?_
  refine SO.run c0 1 ⟨[(0, .ptr (.ext 0) 0), (2, .ptr (.loc 2) 0), (5, .ptr (.ext 0) 0)], [(.ext 0, .cells true [.slice .none 4 (eTToken.F o0_l), .int .i64 o0_at, .bool o0_bad]), (.loc 2, .cells true [.int .i64 0, .int .i64 0, .int .i64 0, .str [], .nils])]⟩ (by decide) (by kernel_rfl) ?_
  obtain ⟨x1_1, hx1_1, h⟩ := Opt.ex h
  refine SO.call ⟨72, [.ptr (.ext 0) 0], [(.ext 0, .cells true [.slice .none 4 (eTToken.F o0_l), .int .i64 o0_at, .bool o0_bad])], [.ext 0], some 6⟩ ⟨[(0, .ptr (.ext 0) 0), (2, .ptr (.loc 2) 0), (6, .agg (cTToken x1_1))], [(.ext 0, .cells true [.slice .none 4 (eTToken.F o0_l), .int .i64 o0_at, .bool o0_bad]), (.loc 2, .cells true [.int .i64 0, .int .i64 0, .int .i64 0, .str [], .nils])]⟩ (by decide) (by kernel_rfl) (ok_expr_reader_look k o0_l o0_at o0_bad x1_1 hx1_1) (by kernel_rfl) ?_
  refine SO.run c0 4 ⟨[(0, .ptr (.ext 0) 0), (2, .ptr (.loc 2) 0), (3, .ptr (.loc 3) 0)], [(.ext 0, .cells true [.slice .none 4 (eTToken.F o0_l), .int .i64 o0_at, .bool o0_bad]), (.loc 2, .cells true [.int .i64 0, .int .i64 0, .int .i64 0, .str [], .nils]), (.loc 3, .cells true (cTToken x1_1))]⟩ (by decide) (by kernel_rfl) ?_
  refine SO.done ?_
  refine SC.seq ?_
  refine SC.region 5 rfl ?_
  refine SO.run c0 5 ⟨[(0, .ptr (.ext 0) 0), (2, .ptr (.loc 2) 0), (3, .ptr (.loc 3) 0), (4, .ptr (.loc 4) 0)], [(.ext 0, .cells true [.slice .none 4 (eTToken.F o0_l), .int .i64 o0_at, .bool o0_bad]), (.loc 2, .cells true [.int .i64 0, .int .i64 0, .int .i64 0, .str [], .nils]), (.loc 3, .cells true (cTToken x1_1)), (.loc 4, .cells true [.int .i64 0, .int .i64 x1_1.At, .int .i64 0, .str [], .nils])]⟩ (by decide) (by kernel_rfl) ?_
  refine SO.done ?_
  apply SC.seqJ (r := r) h (fun v : Int × Int => ⟨[(0, .ptr (.ext 0) 0), (2, .ptr (.loc 2) 0), (4, .ptr (.loc 4) 0)], [(.ext 0, .cells true [.slice .none 4 (eTToken.F o0_l), .int .i64 v.1, .bool o0_bad]), (.loc 2, .cells true [.int .i64 0, .int .i64 0, .int .i64 0, .str [], .nils]), (.loc 4, .cells true [.int .i64 v.2, .int .i64 x1_1.At, .int .i64 0, .str [], .nils])]⟩)
  · rintro ⟨j0_oext0_1, j0_oloc4_0⟩ r h
    refine SC.eqS (S1 := ⟨[(0, .ptr (.ext 0) 0), (2, .ptr (.loc 2) 0), (4, .ptr (.loc 4) 0)], [(.ext 0, .cells true [.slice .none 4 (eTToken.F o0_l), .int .i64 j0_oext0_1, .bool o0_bad]), (.loc 2, .cells true [.int .i64 0, .int .i64 0, .int .i64 0, .str [], .nils]), (.loc 4, .cells true [.int .i64 j0_oloc4_0, .int .i64 x1_1.At, .int .i64 0, .str [], .nils])]⟩) rfl ?_
    refine SC.seq ?_
    refine SC.region 8 rfl ?_
    refine SO.run c0 8 ⟨[(2, .ptr (.loc 2) 0), (4, .ptr (.loc 4) 0)], [(.ext 0, .cells true [.slice .none 4 (eTToken.F o0_l), .int .i64 (IntKind.i64.wrap (j0_oext0_1 + 1)), .bool o0_bad]), (.loc 2, .cells true [.int .i64 0, .int .i64 0, .int .i64 0, .str [], .nils]), (.loc 4, .cells true [.int .i64 j0_oloc4_0, .int .i64 x1_1.At, .int .i64 0, .str [], .nils])]⟩ (by decide) (by kernel_rfl) ?_
    refine SO.done ?_
    refine SC.seq ?_
    refine SC.region 2 rfl ?_
    refine SO.run c0 2 ⟨[(2, .ptr (.loc 2) 0)], [(.ext 0, .cells true [.slice .none 4 (eTToken.F o0_l), .int .i64 (IntKind.i64.wrap (j0_oext0_1 + 1)), .bool o0_bad]), (.loc 2, .cells true [.int .i64 j0_oloc4_0, .int .i64 x1_1.At, .int .i64 0, .str [], .nils])]⟩ (by decide) (by kernel_rfl) ?_
    refine SO.done ?_
    refine SC.ret ?_
    replace h := Option.some.inj h
    subst h
    exact ⟨[.agg [.int .i64 j0_oloc4_0, .int .i64 x1_1.At, .int .i64 0, .str [], .nils]], by kernel_rfl, Wk.agg (⟨Wk.refl _, Wk.refl _, Wk.refl _, Wk.refl _, Wk.nils _ _, trivial⟩), ⟨⟨.cells true [.slice .none 4 (eTToken.F o0_l), .int .i64 (IntKind.i64.wrap (j0_oext0_1 + 1)), .bool o0_bad], by kernel_rfl, ObWk.cells (WkL.eq (by kernel_rfl))⟩, trivial⟩, by kernel_rfl⟩
  · intro j_j0 h
    refine SC.block ?_
    refine SC.seq ?_
    refine SC.region 4 rfl ?_
    refine SO.run c0 4 ⟨[(0, .ptr (.ext 0) 0), (2, .ptr (.loc 2) 0), (4, .ptr (.loc 4) 0), (14, .bool (x1_1.Kind == 1))], [(.ext 0, .cells true [.slice .none 4 (eTToken.F o0_l), .int .i64 o0_at, .bool o0_bad]), (.loc 2, .cells true [.int .i64 0, .int .i64 0, .int .i64 0, .str [], .nils]), (.loc 4, .cells true [.int .i64 0, .int .i64 x1_1.At, .int .i64 0, .str [], .nils])]⟩ (by decide) (by kernel_rfl) ?_
    refine SO.done ?_
    refine SC.cond (x1_1.Kind == 1) (by kernel_rfl) (fun ht => ?_) (fun ht => ?_)
    · replace h := Opt.t h ht
      refine SC.seq ?_
      refine SC.region 6 rfl ?_
      refine SO.run c0 1 ⟨[(2, .ptr (.loc 2) 0), (4, .ptr (.loc 4) 0), (18, .ptr (.ext 0) 0)], [(.ext 0, .cells true [.slice .none 4 (eTToken.F o0_l), .int .i64 o0_at, .bool o0_bad]), (.loc 2, .cells true [.int .i64 0, .int .i64 0, .int .i64 0, .str [], .nils]), (.loc 4, .cells true [.int .i64 0, .int .i64 x1_1.At, .int .i64 0, .str [], .nils])]⟩ (by decide) (by kernel_rfl) ?_
      obtain ⟨⟨x6_1_0, x6_1_1, x6_1_2⟩, hx6_1, h⟩ := Opt.ex h
      refine SO.call ⟨75, [.ptr (.ext 0) 0], [(.ext 0, .cells true [.slice .none 4 (eTToken.F o0_l), .int .i64 o0_at, .bool o0_bad])], [.ext 0], some 19⟩ ⟨[(2, .ptr (.loc 2) 0), (4, .ptr (.loc 4) 0), (19, .str x6_1_0)], [(.ext 0, .cells true [.slice .none 4 (eTToken.F o0_l), .int .i64 x6_1_1, .bool x6_1_2]), (.loc 2, .cells true [.int .i64 0, .int .i64 0, .int .i64 0, .str [], .nils]), (.loc 4, .cells true [.int .i64 0, .int .i64 x1_1.At, .int .i64 0, .str [], .nils])]⟩ (by decide) (by kernel_rfl) (ok_expr_reader_name k o0_l o0_at o0_bad (x6_1_0, x6_1_1, x6_1_2) hx6_1) (by kernel_rfl) ?_
      refine SO.run c0 6 ⟨[(2, .ptr (.loc 2) 0), (4, .ptr (.loc 4) 0)], [(.ext 0, .cells true [.slice .none 4 (eTToken.F o0_l), .int .i64 x6_1_1, .bool x6_1_2]), (.loc 2, .cells true [.int .i64 0, .int .i64 0, .int .i64 0, .str [], .nils]), (.loc 4, .cells true [.int .i64 4, .int .i64 x1_1.At, .int .i64 0, .str x6_1_0, .nils])]⟩ (by decide) (by kernel_rfl) ?_
      refine SO.done ?_
      refine SC.seq ?_
      refine SC.region 2 rfl ?_
      refine SO.run c0 2 ⟨[(2, .ptr (.loc 2) 0)], [(.ext 0, .cells true [.slice .none 4 (eTToken.F o0_l), .int .i64 x6_1_1, .bool x6_1_2]), (.loc 2, .cells true [.int .i64 4, .int .i64 x1_1.At, .int .i64 0, .str x6_1_0, .nils])]⟩ (by decide) (by kernel_rfl) ?_
      refine SO.done ?_
      refine SC.ret ?_
      replace h := Option.some.inj h
      subst h
      exact ⟨[.agg [.int .i64 4, .int .i64 x1_1.At, .int .i64 0, .str x6_1_0, .nils]], by kernel_rfl, Wk.agg (⟨Wk.refl _, Wk.refl _, Wk.refl _, Wk.refl _, Wk.nils _ _, trivial⟩), ⟨⟨.cells true [.slice .none 4 (eTToken.F o0_l), .int .i64 x6_1_1, .bool x6_1_2], by kernel_rfl, ObWk.cells (WkL.eq (by kernel_rfl))⟩, trivial⟩, by kernel_rfl⟩
    · replace h := Opt.f h ht
      refine SC.seq ?_
      refine SC.region 3 rfl ?_
      refine SO.run c0 1 ⟨[(0, .ptr (.ext 0) 0), (2, .ptr (.loc 2) 0), (4, .ptr (.loc 4) 0), (24, .ptr (.ext 0) 0)], [(.ext 0, .cells true [.slice .none 4 (eTToken.F o0_l), .int .i64 o0_at, .bool o0_bad]), (.loc 2, .cells true [.int .i64 0, .int .i64 0, .int .i64 0, .str [], .nils]), (.loc 4, .cells true [.int .i64 0, .int .i64 x1_1.At, .int .i64 0, .str [], .nils])]⟩ (by decide) (by kernel_rfl) ?_
      obtain ⟨⟨x8_1_0, x8_1_1⟩, hx8_1, h⟩ := Opt.ex h
      refine SO.call ⟨76, [.ptr (.ext 0) 0, .str [91]], [(.ext 0, .cells true [.slice .none 4 (eTToken.F o0_l), .int .i64 o0_at, .bool o0_bad])], [.ext 0], some 25⟩ ⟨[(0, .ptr (.ext 0) 0), (2, .ptr (.loc 2) 0), (4, .ptr (.loc 4) 0), (25, .bool x8_1_0)], [(.ext 0, .cells true [.slice .none 4 (eTToken.F o0_l), .int .i64 x8_1_1, .bool o0_bad]), (.loc 2, .cells true [.int .i64 0, .int .i64 0, .int .i64 0, .str [], .nils]), (.loc 4, .cells true [.int .i64 0, .int .i64 x1_1.At, .int .i64 0, .str [], .nils])]⟩ (by decide) (by kernel_rfl) (ok_expr_reader_takes k [91] o0_l o0_at o0_bad (x8_1_0, x8_1_1) hx8_1) (by kernel_rfl) ?_
      refine SO.run c0 3 ⟨[(0, .ptr (.ext 0) 0), (2, .ptr (.loc 2) 0), (4, .ptr (.loc 4) 0), (23, .bool x8_1_0)], [(.ext 0, .cells true [.slice .none 4 (eTToken.F o0_l), .int .i64 x8_1_1, .bool o0_bad]), (.loc 2, .cells true [.int .i64 0, .int .i64 0, .int .i64 0, .str [], .nils]), (.loc 4, .cells true [.int .i64 0, .int .i64 x1_1.At, .int .i64 0, .str [], .nils])]⟩ (by decide) (by kernel_rfl) ?_
      refine SO.done ?_
      refine SC.cond x8_1_0 (by kernel_rfl) (fun ht => ?_) (fun ht => ?_)
      · replace h := Opt.t h ht
        refine SC.seq ?_
        refine SC.region 2 rfl ?_
        refine SO.run c0 1 ⟨[(0, .ptr (.ext 0) 0), (2, .ptr (.loc 2) 0), (4, .ptr (.loc 4) 0), (26, .ptr (.ext 0) 0)], [(.ext 0, .cells true [.slice .none 4 (eTToken.F o0_l), .int .i64 x8_1_1, .bool o0_bad]), (.loc 2, .cells true [.int .i64 0, .int .i64 0, .int .i64 0, .str [], .nils]), (.loc 4, .cells true [.int .i64 0, .int .i64 x1_1.At, .int .i64 0, .str [], .nils])]⟩ (by decide) (by kernel_rfl) ?_
        obtain ⟨⟨x9_1_0, x9_1_1⟩, hx9_1, h⟩ := Opt.ex h
        refine SO.call ⟨77, [.ptr (.ext 0) 0, .str [93]], [(.ext 0, .cells true [.slice .none 4 (eTToken.F o0_l), .int .i64 x8_1_1, .bool o0_bad])], [.ext 0], some 27⟩ ⟨[(0, .ptr (.ext 0) 0), (2, .ptr (.loc 2) 0), (4, .ptr (.loc 4) 0)], [(.ext 0, .cells true [.slice .none 4 (eTToken.F o0_l), .int .i64 x9_1_0, .bool x9_1_1]), (.loc 2, .cells true [.int .i64 0, .int .i64 0, .int .i64 0, .str [], .nils]), (.loc 4, .cells true [.int .i64 0, .int .i64 x1_1.At, .int .i64 0, .str [], .nils])]⟩ (by decide) (by kernel_rfl) (ok_expr_reader_wants k [93] o0_l x8_1_1 o0_bad (x9_1_0, x9_1_1) hx9_1) (by kernel_rfl) ?_
        refine SO.done ?_
        refine SC.seq ?_
        refine SC.seq ?_
        refine SC.region 4 rfl ?_
        refine SO.run c0 4 ⟨[(0, .ptr (.ext 0) 0), (2, .ptr (.loc 2) 0), (4, .ptr (.loc 4) 0), (31, .bool x9_1_1)], [(.ext 0, .cells true [.slice .none 4 (eTToken.F o0_l), .int .i64 x9_1_0, .bool x9_1_1]), (.loc 2, .cells true [.int .i64 0, .int .i64 0, .int .i64 0, .str [], .nils]), (.loc 4, .cells true [.int .i64 0, .int .i64 x1_1.At, .int .i64 0, .str [], .nils])]⟩ (by decide) (by kernel_rfl) ?_
        refine SO.done ?_
        refine SC.cond x9_1_1 (by kernel_rfl) (fun ht => ?_) (fun ht => ?_)
        · replace h := Opt.t h ht
          refine SC.seq ?_
          refine SC.region 2 rfl ?_
          refine SO.run c0 2 ⟨[(2, .ptr (.loc 2) 0)], [(.ext 0, .cells true [.slice .none 4 (eTToken.F o0_l), .int .i64 x9_1_0, .bool x9_1_1]), (.loc 2, .cells true [.int .i64 0, .int .i64 x1_1.At, .int .i64 0, .str [], .nils])]⟩ (by decide) (by kernel_rfl) ?_
          refine SO.done ?_
          refine SC.ret ?_
          replace h := Option.some.inj h
          subst h
          exact ⟨[.agg [.int .i64 0, .int .i64 x1_1.At, .int .i64 0, .str [], .nils]], by kernel_rfl, Wk.agg (⟨Wk.refl _, Wk.refl _, Wk.refl _, Wk.refl _, Wk.nils _ _, trivial⟩), ⟨⟨.cells true [.slice .none 4 (eTToken.F o0_l), .int .i64 x9_1_0, .bool x9_1_1], by kernel_rfl, ObWk.cells (WkL.eq (by kernel_rfl))⟩, trivial⟩, by kernel_rfl⟩
        · replace h := Opt.f h ht
          refine SC.skip ?_
          refine SC.seq ?_
          refine SC.region 7 rfl ?_
          refine SO.run c0 1 ⟨[(2, .ptr (.loc 2) 0), (4, .ptr (.loc 4) 0), (33, .ptr (.ext 0) 0)], [(.ext 0, .cells true [.slice .none 4 (eTToken.F o0_l), .int .i64 x9_1_0, .bool x9_1_1]), (.loc 2, .cells true [.int .i64 0, .int .i64 0, .int .i64 0, .str [], .nils]), (.loc 4, .cells true [.int .i64 0, .int .i64 x1_1.At, .int .i64 0, .str [], .nils])]⟩ (by decide) (by kernel_rfl) ?_
          obtain ⟨⟨x12_1_0, x12_1_1, x12_1_2⟩, hx12_1, h⟩ := Opt.ex h
          refine SO.call ⟨42, [.ptr (.ext 0) 0], [(.ext 0, .cells true [.slice .none 4 (eTToken.F o0_l), .int .i64 x9_1_0, .bool x9_1_1])], [.ext 0], some 34⟩ ⟨[(2, .ptr (.loc 2) 0), (4, .ptr (.loc 4) 0), (34, .agg (cTNode x12_1_0))], [(.ext 0, .cells true [.slice .none 4 (eTToken.F o0_l), .int .i64 x12_1_1, .bool x12_1_2]), (.loc 2, .cells true [.int .i64 0, .int .i64 0, .int .i64 0, .str [], .nils]), (.loc 4, .cells true [.int .i64 0, .int .i64 x1_1.At, .int .i64 0, .str [], .nils])]⟩ (by decide) (by kernel_rfl) (ih_expr_reader_kind o0_l x9_1_0 x9_1_1 (x12_1_0, x12_1_1, x12_1_2) hx12_1) (by kernel_rfl) ?_
          refine SO.op c0 { v := .slice .full 5 (eTNode.F [x12_1_0]) } ⟨[(2, .ptr (.loc 2) 0), (4, .ptr (.loc 4) 0), (35, .slice .full 5 (eTNode.F [x12_1_0]))], [(.ext 0, .cells true [.slice .none 4 (eTToken.F o0_l), .int .i64 x12_1_1, .bool x12_1_2]), (.loc 2, .cells true [.int .i64 0, .int .i64 0, .int .i64 0, .str [], .nils]), (.loc 4, .cells true [.int .i64 0, .int .i64 x1_1.At, .int .i64 0, .str [], .nils])]⟩ (by decide) ((show opR _ _ _ _ _ _ = some { v := .slice .full 5 [.agg (cTNode x12_1_0)] } from by kernel_rfl).trans (by simp only [FTNode, eTNode_F, fTNode_eq])) (by kernel_rfl) ?_
          refine SO.run c0 7 ⟨[(2, .ptr (.loc 2) 0), (4, .ptr (.loc 4) 0)], [(.ext 0, .cells true [.slice .none 4 (eTToken.F o0_l), .int .i64 x12_1_1, .bool x12_1_2]), (.loc 2, .cells true [.int .i64 0, .int .i64 0, .int .i64 0, .str [], .nils]), (.loc 4, .cells true [.int .i64 5, .int .i64 x1_1.At, .int .i64 0, .str [], .slice .full 5 (eTNode.F [x12_1_0])])]⟩ (by decide) (by kernel_rfl) ?_
          refine SO.done ?_
          refine SC.seq ?_
          refine SC.region 2 rfl ?_
          refine SO.run c0 2 ⟨[(2, .ptr (.loc 2) 0)], [(.ext 0, .cells true [.slice .none 4 (eTToken.F o0_l), .int .i64 x12_1_1, .bool x12_1_2]), (.loc 2, .cells true [.int .i64 5, .int .i64 x1_1.At, .int .i64 0, .str [], .slice .full 5 (eTNode.F [x12_1_0])])]⟩ (by decide) (by kernel_rfl) ?_
          refine SO.done ?_
          refine SC.ret ?_
          replace h := Option.some.inj h
          subst h
          exact ⟨[.agg [.int .i64 5, .int .i64 x1_1.At, .int .i64 0, .str [], .slice .full 5 (eTNode.F [x12_1_0])]], by kernel_rfl, Wk.agg (⟨Wk.refl _, Wk.refl _, Wk.refl _, Wk.refl _, Wk.tok _ _ _, trivial⟩), ⟨⟨.cells true [.slice .none 4 (eTToken.F o0_l), .int .i64 x12_1_1, .bool x12_1_2], by kernel_rfl, ObWk.cells (WkL.eq (by kernel_rfl))⟩, trivial⟩, by kernel_rfl⟩
      · replace h := Opt.f h ht
        refine SC.seq ?_
        refine SC.region 3 rfl ?_
        refine SO.run c0 1 ⟨[(0, .ptr (.ext 0) 0), (2, .ptr (.loc 2) 0), (4, .ptr (.loc 4) 0), (40, .ptr (.ext 0) 0)], [(.ext 0, .cells true [.slice .none 4 (eTToken.F o0_l), .int .i64 x8_1_1, .bool o0_bad]), (.loc 2, .cells true [.int .i64 0, .int .i64 0, .int .i64 0, .str [], .nils]), (.loc 4, .cells true [.int .i64 0, .int .i64 x1_1.At, .int .i64 0, .str [], .nils])]⟩ (by decide) (by kernel_rfl) ?_
        obtain ⟨x14_1, hx14_1, h⟩ := Opt.ex h
        refine SO.call ⟨78, [.ptr (.ext 0) 0, .int .i64 3, .str [105, 110, 116]], [(.ext 0, .cells true [.slice .none 4 (eTToken.F o0_l), .int .i64 x8_1_1, .bool o0_bad])], [.ext 0], some 41⟩ ⟨[(0, .ptr (.ext 0) 0), (2, .ptr (.loc 2) 0), (4, .ptr (.loc 4) 0), (41, .bool x14_1)], [(.ext 0, .cells true [.slice .none 4 (eTToken.F o0_l), .int .i64 x8_1_1, .bool o0_bad]), (.loc 2, .cells true [.int .i64 0, .int .i64 0, .int .i64 0, .str [], .nils]), (.loc 4, .cells true [.int .i64 0, .int .i64 x1_1.At, .int .i64 0, .str [], .nils])]⟩ (by decide) (by kernel_rfl) (ok_expr_reader_is k 3 [105, 110, 116] o0_l x8_1_1 o0_bad x14_1 hx14_1) (by kernel_rfl) ?_
        refine SO.run c0 3 ⟨[(0, .ptr (.ext 0) 0), (2, .ptr (.loc 2) 0), (4, .ptr (.loc 4) 0), (39, .bool x14_1)], [(.ext 0, .cells true [.slice .none 4 (eTToken.F o0_l), .int .i64 x8_1_1, .bool o0_bad]), (.loc 2, .cells true [.int .i64 0, .int .i64 0, .int .i64 0, .str [], .nils]), (.loc 4, .cells true [.int .i64 0, .int .i64 x1_1.At, .int .i64 0, .str [], .nils])]⟩ (by decide) (by kernel_rfl) ?_
        refine SO.done ?_
        refine SC.cond x14_1 (by kernel_rfl) (fun ht => ?_) (fun ht => ?_)
        · replace h := Opt.t h ht
          refine SC.region 2 rfl ?_
          refine SO.run c0 2 ⟨[(0, .ptr (.ext 0) 0), (2, .ptr (.loc 2) 0), (4, .ptr (.loc 4) 0)], [(.ext 0, .cells true [.slice .none 4 (eTToken.F o0_l), .int .i64 x8_1_1, .bool o0_bad]), (.loc 2, .cells true [.int .i64 0, .int .i64 0, .int .i64 0, .str [], .nils]), (.loc 4, .cells true [.int .i64 1, .int .i64 x1_1.At, .int .i64 0, .str [], .nils])]⟩ (by decide) (by kernel_rfl) ?_
          refine SO.done ?_
          exact ⟨(x8_1_1, 1), rfl, h⟩
        · replace h := Opt.f h ht
          refine SC.seq ?_
          refine SC.region 3 rfl ?_
          refine SO.run c0 1 ⟨[(0, .ptr (.ext 0) 0), (2, .ptr (.loc 2) 0), (4, .ptr (.loc 4) 0), (44, .ptr (.ext 0) 0)], [(.ext 0, .cells true [.slice .none 4 (eTToken.F o0_l), .int .i64 x8_1_1, .bool o0_bad]), (.loc 2, .cells true [.int .i64 0, .int .i64 0, .int .i64 0, .str [], .nils]), (.loc 4, .cells true [.int .i64 0, .int .i64 x1_1.At, .int .i64 0, .str [], .nils])]⟩ (by decide) (by kernel_rfl) ?_
          obtain ⟨x16_1, hx16_1, h⟩ := Opt.ex h
          refine SO.call ⟨78, [.ptr (.ext 0) 0, .int .i64 3, .str [98, 111, 111, 108]], [(.ext 0, .cells true [.slice .none 4 (eTToken.F o0_l), .int .i64 x8_1_1, .bool o0_bad])], [.ext 0], some 45⟩ ⟨[(0, .ptr (.ext 0) 0), (2, .ptr (.loc 2) 0), (4, .ptr (.loc 4) 0), (45, .bool x16_1)], [(.ext 0, .cells true [.slice .none 4 (eTToken.F o0_l), .int .i64 x8_1_1, .bool o0_bad]), (.loc 2, .cells true [.int .i64 0, .int .i64 0, .int .i64 0, .str [], .nils]), (.loc 4, .cells true [.int .i64 0, .int .i64 x1_1.At, .int .i64 0, .str [], .nils])]⟩ (by decide) (by kernel_rfl) (ok_expr_reader_is k 3 [98, 111, 111, 108] o0_l x8_1_1 o0_bad x16_1 hx16_1) (by kernel_rfl) ?_
          refine SO.run c0 3 ⟨[(0, .ptr (.ext 0) 0), (2, .ptr (.loc 2) 0), (4, .ptr (.loc 4) 0), (43, .bool x16_1)], [(.ext 0, .cells true [.slice .none 4 (eTToken.F o0_l), .int .i64 x8_1_1, .bool o0_bad]), (.loc 2, .cells true [.int .i64 0, .int .i64 0, .int .i64 0, .str [], .nils]), (.loc 4, .cells true [.int .i64 0, .int .i64 x1_1.At, .int .i64 0, .str [], .nils])]⟩ (by decide) (by kernel_rfl) ?_
          refine SO.done ?_
          refine SC.cond x16_1 (by kernel_rfl) (fun ht => ?_) (fun ht => ?_)
          · replace h := Opt.t h ht
            refine SC.region 2 rfl ?_
            refine SO.run c0 2 ⟨[(0, .ptr (.ext 0) 0), (2, .ptr (.loc 2) 0), (4, .ptr (.loc 4) 0)], [(.ext 0, .cells true [.slice .none 4 (eTToken.F o0_l), .int .i64 x8_1_1, .bool o0_bad]), (.loc 2, .cells true [.int .i64 0, .int .i64 0, .int .i64 0, .str [], .nils]), (.loc 4, .cells true [.int .i64 2, .int .i64 x1_1.At, .int .i64 0, .str [], .nils])]⟩ (by decide) (by kernel_rfl) ?_
            refine SO.done ?_
            exact ⟨(x8_1_1, 2), rfl, h⟩
          · replace h := Opt.f h ht
            refine SC.seq ?_
            refine SC.region 3 rfl ?_
            refine SO.run c0 1 ⟨[(0, .ptr (.ext 0) 0), (2, .ptr (.loc 2) 0), (4, .ptr (.loc 4) 0), (48, .ptr (.ext 0) 0)], [(.ext 0, .cells true [.slice .none 4 (eTToken.F o0_l), .int .i64 x8_1_1, .bool o0_bad]), (.loc 2, .cells true [.int .i64 0, .int .i64 0, .int .i64 0, .str [], .nils]), (.loc 4, .cells true [.int .i64 0, .int .i64 x1_1.At, .int .i64 0, .str [], .nils])]⟩ (by decide) (by kernel_rfl) ?_
            obtain ⟨x18_1, hx18_1, h⟩ := Opt.ex h
            refine SO.call ⟨78, [.ptr (.ext 0) 0, .int .i64 3, .str [114, 101, 118]], [(.ext 0, .cells true [.slice .none 4 (eTToken.F o0_l), .int .i64 x8_1_1, .bool o0_bad])], [.ext 0], some 49⟩ ⟨[(0, .ptr (.ext 0) 0), (2, .ptr (.loc 2) 0), (4, .ptr (.loc 4) 0), (49, .bool x18_1)], [(.ext 0, .cells true [.slice .none 4 (eTToken.F o0_l), .int .i64 x8_1_1, .bool o0_bad]), (.loc 2, .cells true [.int .i64 0, .int .i64 0, .int .i64 0, .str [], .nils]), (.loc 4, .cells true [.int .i64 0, .int .i64 x1_1.At, .int .i64 0, .str [], .nils])]⟩ (by decide) (by kernel_rfl) (ok_expr_reader_is k 3 [114, 101, 118] o0_l x8_1_1 o0_bad x18_1 hx18_1) (by kernel_rfl) ?_
            refine SO.run c0 3 ⟨[(0, .ptr (.ext 0) 0), (2, .ptr (.loc 2) 0), (4, .ptr (.loc 4) 0), (47, .bool x18_1)], [(.ext 0, .cells true [.slice .none 4 (eTToken.F o0_l), .int .i64 x8_1_1, .bool o0_bad]), (.loc 2, .cells true [.int .i64 0, .int .i64 0, .int .i64 0, .str [], .nils]), (.loc 4, .cells true [.int .i64 0, .int .i64 x1_1.At, .int .i64 0, .str [], .nils])]⟩ (by decide) (by kernel_rfl) ?_
            refine SO.done ?_
            refine SC.cond x18_1 (by kernel_rfl) (fun ht => ?_) (fun ht => ?_)
            · replace h := Opt.t h ht
              refine SC.region 2 rfl ?_
              refine SO.run c0 2 ⟨[(0, .ptr (.ext 0) 0), (2, .ptr (.loc 2) 0), (4, .ptr (.loc 4) 0)], [(.ext 0, .cells true [.slice .none 4 (eTToken.F o0_l), .int .i64 x8_1_1, .bool o0_bad]), (.loc 2, .cells true [.int .i64 0, .int .i64 0, .int .i64 0, .str [], .nils]), (.loc 4, .cells true [.int .i64 3, .int .i64 x1_1.At, .int .i64 0, .str [], .nils])]⟩ (by decide) (by kernel_rfl) ?_
              refine SO.done ?_
              exact ⟨(x8_1_1, 3), rfl, h⟩
            · replace h := Opt.f h ht
              refine SC.seq ?_
              refine SC.region 4 rfl ?_
              refine SO.run c0 4 ⟨[(2, .ptr (.loc 2) 0), (4, .ptr (.loc 4) 0)], [(.ext 0, .cells true [.slice .none 4 (eTToken.F o0_l), .int .i64 x8_1_1, .bool true]), (.loc 2, .cells true [.int .i64 0, .int .i64 0, .int .i64 0, .str [], .nils]), (.loc 4, .cells true [.int .i64 0, .int .i64 x1_1.At, .int .i64 0, .str [], .nils])]⟩ (by decide) (by kernel_rfl) ?_
              refine SO.done ?_
              refine SC.seq ?_
              refine SC.region 2 rfl ?_
              refine SO.run c0 2 ⟨[(2, .ptr (.loc 2) 0)], [(.ext 0, .cells true [.slice .none 4 (eTToken.F o0_l), .int .i64 x8_1_1, .bool true]), (.loc 2, .cells true [.int .i64 0, .int .i64 x1_1.At, .int .i64 0, .str [], .nils])]⟩ (by decide) (by kernel_rfl) ?_
              refine SO.done ?_
              refine SC.ret ?_
              replace h := Option.some.inj h
              subst h
              exact ⟨[.agg [.int .i64 0, .int .i64 x1_1.At, .int .i64 0, .str [], .nils]], by kernel_rfl, Wk.agg (⟨Wk.refl _, Wk.refl _, Wk.refl _, Wk.refl _, Wk.nils _ _, trivial⟩), ⟨⟨.cells true [.slice .none 4 (eTToken.F o0_l), .int .i64 x8_1_1, .bool true], by kernel_rfl, ObWk.cells (WkL.eq (by kernel_rfl))⟩, trivial⟩, by kernel_rfl⟩
theorem all_expr_reader_kind : ∀ k, C_expr_reader_kind k
  | 0 => (by intro o0_l o0_at o0_bad r h; rw [expr_reader_kind] at h; cases h)
  | k + 1 => by
    have h0 := all_expr_reader_kind k
    exact st_expr_reader_kind k h0
theorem ok_expr_reader_kind (k : Nat) (o0_l : List TToken) (o0_at : Int) (o0_bad : Bool) (r : TNode × Int × Bool) (h : expr_reader_kind k o0_l o0_at o0_bad = some r) :
    SF Z 42 [.ptr (.ext 0) 0] [(.ext 0, .cells true [.slice .none 4 (eTToken.F o0_l), .int .i64 o0_at, .bool o0_bad])] (.agg (cTNode r.1)) [(.ext 0, .cells true [.slice .none 4 (eTToken.F o0_l), .int .i64 r.2.1, .bool r.2.2])] := (all_expr_reader_kind k) o0_l o0_at o0_bad r h
theorem ok_word_Sign (k : Nat) (a0 : List UInt8) (r : Int × Bool) (h : word_Sign k a0 = some r) :
    SF Z 97 [.str a0] [] (.tuple [.int .i64 r.1, .bool r.2]) [] := by
  unfold word_Sign at h
  refine SF.intro Tryd.func97 rfl Tryd.ntmps97 rfl (Nat.le_of_ble_eq_true rfl) (by decide) ?_
  refine SC.seq ?_
  refine SC.region 2 rfl ?_
  refine SO.run c0 2 ⟨[(0, .str a0)], []⟩ (by decide) (by kernel_rfl) ?_
  refine SO.done ?_
  apply SC.seqJ (r := r) h (fun v : Unit => ⟨[], []⟩)
  · rintro ⟨⟩ r h
    refine SC.eqS (S1 := ⟨[], []⟩) rfl ?_
    refine SC.seq ?_
    refine SC.region 2 rfl ?_
    refine SO.run c0 2 ⟨[(2, .int .i64 0), (3, .bool false)], []⟩ (by decide) (by kernel_rfl) ?_
    refine SO.done ?_
    refine SC.ret ?_
    replace h := Option.some.inj h
    subst h
    exact ⟨[.int .i64 0, .bool false], by kernel_rfl, Wk.eq (by kernel_rfl), trivial, by kernel_rfl⟩
  · intro j_j0 h
    refine SC.seq ?_
    refine SC.region 2 rfl ?_
    refine SO.run c0 2 ⟨[(0, .str a0), (6, .agg (eStr.F g_word_spellings)), (7, .int .i64 0)], []⟩ (by decide) (by kernel_rfl) ?_
    refine SO.done ?_
    refine SC.block ?_
    apply SC.loopJ (r := r) h (fun v : Int => ⟨[(0, .str a0), (6, .agg (eStr.F g_word_spellings)), (7, .int .i64 v)], []⟩)
    rintro l1_7 r h
    refine SC.eqS (S1 := ⟨[(0, .str a0), (6, .agg (eStr.F g_word_spellings)), (7, .int .i64 l1_7)], []⟩) rfl ?_
    refine SC.seq ?_
    refine SC.region 1 rfl ?_
    refine SO.run c0 1 ⟨[(0, .str a0), (6, .agg (eStr.F g_word_spellings)), (7, .int .i64 l1_7), (8, .bool (decide (l1_7 < 15)))], []⟩ (by decide) (by kernel_rfl) ?_
    refine SO.done ?_
    refine SC.seq ?_
    refine SC.cond (decide (l1_7 < 15)) (by kernel_rfl) (fun ht => ?_) (fun ht => ?_)
    · replace h := Opt.t h ht
      refine SC.skip ?_
      refine SC.seq ?_
      refine SC.block ?_
      refine SC.seq ?_
      refine SC.region 4 rfl ?_
      refine SO.run c0 1 ⟨[(0, .str a0), (6, .agg (eStr.F g_word_spellings)), (7, .int .i64 l1_7), (9, .int .i64 l1_7)], []⟩ (by decide) (by kernel_rfl) ?_
      obtain ⟨x3_1, hx3_1, h⟩ := Opt.ex h
      refine SO.op c0 { v := .str x3_1 } ⟨[(0, .str a0), (6, .agg (eStr.F g_word_spellings)), (7, .int .i64 l1_7), (9, .int .i64 l1_7), (10, .str x3_1)], []⟩ (by decide) (ixA eStr.f 113 15 g_word_spellings .i64 l1_7 x3_1 (by kernel_rfl) (by kernel_rfl) rfl hx3_1) (by kernel_rfl) ?_
      refine SO.run c0 4 ⟨[(0, .str a0), (4, .int .i64 l1_7), (5, .str x3_1), (6, .agg (eStr.F g_word_spellings)), (7, .int .i64 l1_7)], []⟩ (by decide) (by kernel_rfl) ?_
      refine SO.done ?_
      refine SC.seq ?_
      refine SC.region 7 rfl ?_
      refine SO.run c0 3 ⟨[(0, .str a0), (4, .int .i64 l1_7), (5, .str x3_1), (6, .agg (eStr.F g_word_spellings)), (7, .int .i64 l1_7), (13, .bool (decide (l1_7 > 0)))], []⟩ (by decide) (by kernel_rfl) ?_
      refine SO.runB c0 7 (decide (l1_7 > 0)) (fun b => ⟨[(0, .str a0), (4, .int .i64 l1_7), (5, .str x3_1), (6, .agg (eStr.F g_word_spellings)), (7, .int .i64 l1_7), (13, .bool b)], []⟩) (fun b => ⟨[(0, .str a0), (4, .int .i64 l1_7), (6, .agg (eStr.F g_word_spellings)), (7, .int .i64 l1_7), (17, .bool (b && (x3_1 == a0)))], []⟩) (by decide) (by kernel_rfl) (by kernel_rfl) ?_
      refine SO.done ?_
      refine SC.cond ((decide (l1_7 > 0)) && (x3_1 == a0)) (by kernel_rfl) (fun ht => ?_) (fun ht => ?_)
      · replace h := Opt.t h ht
        refine SC.seq ?_
        refine SC.region 3 rfl ?_
        refine SO.run c0 3 ⟨[(2, .int .i64 l1_7), (3, .bool true)], []⟩ (by decide) (by kernel_rfl) ?_
        refine SO.done ?_
        refine SC.ret ?_
        replace h := Option.some.inj h
        subst h
        refine ⟨_, rfl, ?_⟩
        exact ⟨[.int .i64 l1_7, .bool true], by kernel_rfl, Wk.eq (by kernel_rfl), trivial, by kernel_rfl⟩
      · replace h := Opt.f h ht
        refine SC.skip ?_
        refine SC.region 2 rfl ?_
        refine SO.run c0 2 ⟨[(0, .str a0), (6, .agg (eStr.F g_word_spellings)), (7, .int .i64 (IntKind.i64.wrap (l1_7 + 1)))], []⟩ (by decide) (by kernel_rfl) ?_
        refine SO.done ?_
        replace h := Option.some.inj h
        subst h
        exact ⟨(IntKind.i64.wrap (l1_7 + 1)), rfl, rfl⟩
    · replace h := Opt.f h ht
      refine SC.weak (S1 := ⟨[], []⟩) ?_ ?_
      · exact ⟨trivial, trivial, by kernel_rfl⟩
      refine SC.exit ?_
      obtain ⟨r1, hh, e1⟩ := Opt.inr h
      clear h
      subst e1
      have h := hh
      clear hh
      refine ⟨_, rfl, ?_⟩
      exact ⟨(), rfl, h⟩
theorem ok_word_Bind (k : Nat) (a0 : Int) (r : Int) (h : word_Bind k a0 = some r) :
    SF Z 98 [.int .i64 a0] [] (.int .i64 r) [] := by
  unfold word_Bind at h
  refine SF.intro Tryd.func98 rfl Tryd.ntmps98 rfl (Nat.le_of_ble_eq_true rfl) (by decide) ?_
  refine SC.seq ?_
  refine SC.region 1 rfl ?_
  refine SO.run c0 1 ⟨[(0, .int .i64 a0)], []⟩ (by decide) (by kernel_rfl) ?_
  refine SO.done ?_
  refine SC.seq ?_
  refine SC.seq ?_
  refine SC.region 1 rfl ?_
  refine SO.run c0 1 ⟨[(3, .int .i64 a0)], []⟩ (by decide) (by kernel_rfl) ?_
  refine SO.done ?_
  refine SC.block ?_
  refine SC.seq ?_
  refine SC.region 2 rfl ?_
  refine SO.run c0 2 ⟨[(3, .int .i64 a0), (4, .bool (a0 == 13))], []⟩ (by decide) (by kernel_rfl) ?_
  refine SO.done ?_
  refine SC.cond (a0 == 13) (by kernel_rfl) (fun ht => ?_) (fun ht => ?_)
  · replace h := Opt.t h ht
    refine SC.seq ?_
    refine SC.region 1 rfl ?_
    refine SO.run c0 1 ⟨[(2, .int .i64 1)], []⟩ (by decide) (by kernel_rfl) ?_
    refine SO.done ?_
    refine SC.ret ?_
    replace h := Option.some.inj h
    subst h
    exact ⟨[.int .i64 1], by kernel_rfl, Wk.eq (by kernel_rfl), trivial, by kernel_rfl⟩
  · replace h := Opt.f h ht
    refine SC.seq ?_
    refine SC.region 2 rfl ?_
    refine SO.run c0 2 ⟨[(3, .int .i64 a0), (6, .bool (a0 == 12))], []⟩ (by decide) (by kernel_rfl) ?_
    refine SO.done ?_
    refine SC.cond (a0 == 12) (by kernel_rfl) (fun ht => ?_) (fun ht => ?_)
    · replace h := Opt.t h ht
      refine SC.seq ?_
      refine SC.region 1 rfl ?_
      refine SO.run c0 1 ⟨[(2, .int .i64 2)], []⟩ (by decide) (by kernel_rfl) ?_
      refine SO.done ?_
      refine SC.ret ?_
      replace h := Option.some.inj h
      subst h
      exact ⟨[.int .i64 2], by kernel_rfl, Wk.eq (by kernel_rfl), trivial, by kernel_rfl⟩
    · replace h := Opt.f h ht
      apply SC.seqJ (r := r) h (fun v : Bool => ⟨[(3, .int .i64 a0), (8, .bool v)], []⟩)
      · rintro j0_8 r h
        refine SC.eqS (S1 := ⟨[(3, .int .i64 a0), (8, .bool j0_8)], []⟩) rfl ?_
        refine SC.cond j0_8 (by kernel_rfl) (fun ht => ?_) (fun ht => ?_)
        · replace h := Opt.t h ht
          refine SC.seq ?_
          refine SC.region 1 rfl ?_
          refine SO.run c0 1 ⟨[(2, .int .i64 3)], []⟩ (by decide) (by kernel_rfl) ?_
          refine SO.done ?_
          refine SC.ret ?_
          replace h := Option.some.inj h
          subst h
          exact ⟨[.int .i64 3], by kernel_rfl, Wk.eq (by kernel_rfl), trivial, by kernel_rfl⟩
        · replace h := Opt.f h ht
          apply SC.seqJ (r := r) h (fun v : Bool => ⟨[(3, .int .i64 a0), (15, .bool v)], []⟩)
          · rintro j1_15 r h
            refine SC.eqS (S1 := ⟨[(3, .int .i64 a0), (15, .bool j1_15)], []⟩) rfl ?_
            refine SC.cond j1_15 (by kernel_rfl) (fun ht => ?_) (fun ht => ?_)
            · replace h := Opt.t h ht
              refine SC.seq ?_
              refine SC.region 1 rfl ?_
              refine SO.run c0 1 ⟨[(2, .int .i64 4)], []⟩ (by decide) (by kernel_rfl) ?_
              refine SO.done ?_
              refine SC.ret ?_
              replace h := Option.some.inj h
              subst h
              exact ⟨[.int .i64 4], by kernel_rfl, Wk.eq (by kernel_rfl), trivial, by kernel_rfl⟩
            · replace h := Opt.f h ht
              apply SC.seqJ (r := r) h (fun v : Bool => ⟨[(18, .bool v)], []⟩)
              · rintro j2_18 r h
                refine SC.eqS (S1 := ⟨[(18, .bool j2_18)], []⟩) rfl ?_
                refine SC.cond j2_18 (by kernel_rfl) (fun ht => ?_) (fun ht => ?_)
                · replace h := Opt.t h ht
                  refine SC.seq ?_
                  refine SC.region 1 rfl ?_
                  refine SO.run c0 1 ⟨[(2, .int .i64 5)], []⟩ (by decide) (by kernel_rfl) ?_
                  refine SO.done ?_
                  refine SC.ret ?_
                  replace h := Option.some.inj h
                  subst h
                  exact ⟨[.int .i64 5], by kernel_rfl, Wk.eq (by kernel_rfl), trivial, by kernel_rfl⟩
                · replace h := Opt.f h ht
                  refine SC.skip ?_
                  refine SC.seq ?_
                  refine SC.region 1 rfl ?_
                  refine SO.run c0 1 ⟨[(2, .int .i64 0)], []⟩ (by decide) (by kernel_rfl) ?_
                  refine SO.done ?_
                  refine SC.ret ?_
                  replace h := Option.some.inj h
                  subst h
                  exact ⟨[.int .i64 0], by kernel_rfl, Wk.eq (by kernel_rfl), trivial, by kernel_rfl⟩
              · intro j_j2 h
                refine SC.seq ?_
                refine SC.region 2 rfl ?_
                refine SO.run c0 2 ⟨[(3, .int .i64 a0), (18, .bool (a0 == 3))], []⟩ (by decide) (by kernel_rfl) ?_
                refine SO.done ?_
                refine SC.cond (a0 == 3) (by kernel_rfl) (fun ht => ?_) (fun ht => ?_)
                · replace h := Opt.t h ht
                  refine SC.weak (S1 := ⟨[(18, .bool (a0 == 3))], []⟩) ?_ ?_
                  · exact ⟨⟨Wk.refl _, trivial⟩, trivial, by kernel_rfl⟩
                  refine SC.skip ?_
                  exact ⟨(a0 == 3), rfl, h⟩
                · replace h := Opt.f h ht
                  refine SC.seq ?_
                  refine SC.region 2 rfl ?_
                  refine SO.run c0 2 ⟨[(3, .int .i64 a0), (18, .bool (a0 == 4))], []⟩ (by decide) (by kernel_rfl) ?_
                  refine SO.done ?_
                  refine SC.cond (a0 == 4) (by kernel_rfl) (fun ht => ?_) (fun ht => ?_)
                  · replace h := Opt.t h ht
                    refine SC.weak (S1 := ⟨[(18, .bool (a0 == 4))], []⟩) ?_ ?_
                    · exact ⟨⟨Wk.refl _, trivial⟩, trivial, by kernel_rfl⟩
                    refine SC.skip ?_
                    exact ⟨(a0 == 4), rfl, h⟩
                  · replace h := Opt.f h ht
                    refine SC.region 2 rfl ?_
                    refine SO.run c0 2 ⟨[(18, .bool (a0 == 5))], []⟩ (by decide) (by kernel_rfl) ?_
                    refine SO.done ?_
                    exact ⟨(a0 == 5), rfl, h⟩
          · intro j_j1 h
            refine SC.seq ?_
            refine SC.region 2 rfl ?_
            refine SO.run c0 2 ⟨[(3, .int .i64 a0), (15, .bool (a0 == 1))], []⟩ (by decide) (by kernel_rfl) ?_
            refine SO.done ?_
            refine SC.cond (a0 == 1) (by kernel_rfl) (fun ht => ?_) (fun ht => ?_)
            · replace h := Opt.t h ht
              refine SC.skip ?_
              exact ⟨(a0 == 1), rfl, h⟩
            · replace h := Opt.f h ht
              refine SC.region 2 rfl ?_
              refine SO.run c0 2 ⟨[(3, .int .i64 a0), (15, .bool (a0 == 2))], []⟩ (by decide) (by kernel_rfl) ?_
              refine SO.done ?_
              exact ⟨(a0 == 2), rfl, h⟩
      · intro j_j0 h
        refine SC.seq ?_
        refine SC.region 2 rfl ?_
        refine SO.run c0 2 ⟨[(3, .int .i64 a0), (8, .bool (a0 == 6))], []⟩ (by decide) (by kernel_rfl) ?_
        refine SO.done ?_
        refine SC.cond (a0 == 6) (by kernel_rfl) (fun ht => ?_) (fun ht => ?_)
        · replace h := Opt.t h ht
          refine SC.skip ?_
          exact ⟨(a0 == 6), rfl, h⟩
        · replace h := Opt.f h ht
          refine SC.seq ?_
          refine SC.region 2 rfl ?_
          refine SO.run c0 2 ⟨[(3, .int .i64 a0), (8, .bool (a0 == 7))], []⟩ (by decide) (by kernel_rfl) ?_
          refine SO.done ?_
          refine SC.cond (a0 == 7) (by kernel_rfl) (fun ht => ?_) (fun ht => ?_)
          · replace h := Opt.t h ht
            refine SC.skip ?_
            exact ⟨(a0 == 7), rfl, h⟩
          · replace h := Opt.f h ht
            refine SC.seq ?_
            refine SC.region 2 rfl ?_
            refine SO.run c0 2 ⟨[(3, .int .i64 a0), (8, .bool (a0 == 8))], []⟩ (by decide) (by kernel_rfl) ?_
            refine SO.done ?_
            refine SC.cond (a0 == 8) (by kernel_rfl) (fun ht => ?_) (fun ht => ?_)
            · replace h := Opt.t h ht
              refine SC.skip ?_
              exact ⟨(a0 == 8), rfl, h⟩
            · replace h := Opt.f h ht
              refine SC.seq ?_
              refine SC.region 2 rfl ?_
              refine SO.run c0 2 ⟨[(3, .int .i64 a0), (8, .bool (a0 == 9))], []⟩ (by decide) (by kernel_rfl) ?_
              refine SO.done ?_
              refine SC.cond (a0 == 9) (by kernel_rfl) (fun ht => ?_) (fun ht => ?_)
              · replace h := Opt.t h ht
                refine SC.skip ?_
                exact ⟨(a0 == 9), rfl, h⟩
              · replace h := Opt.f h ht
                refine SC.seq ?_
                refine SC.region 2 rfl ?_
                refine SO.run c0 2 ⟨[(3, .int .i64 a0), (8, .bool (a0 == 10))], []⟩ (by decide) (by kernel_rfl) ?_
                refine SO.done ?_
                refine SC.cond (a0 == 10) (by kernel_rfl) (fun ht => ?_) (fun ht => ?_)
                · replace h := Opt.t h ht
                  refine SC.skip ?_
                  exact ⟨(a0 == 10), rfl, h⟩
                · replace h := Opt.f h ht
                  refine SC.region 2 rfl ?_
                  refine SO.run c0 2 ⟨[(3, .int .i64 a0), (8, .bool (a0 == 11))], []⟩ (by decide) (by kernel_rfl) ?_
                  refine SO.done ?_
                  exact ⟨(a0 == 11), rfl, h⟩
theorem ok_expr_reader_sign (k : Nat) (a1 : Int) (o0_l : List TToken) (o0_at : Int) (o0_bad : Bool) (r : Int) (h : expr_reader_sign k a1 o0_l o0_at o0_bad = some r) :
    SF Z 71 [.ptr (.ext 0) 0, .int .i64 a1] [(.ext 0, .cells true [.slice .none 4 (eTToken.F o0_l), .int .i64 o0_at, .bool o0_bad])] (.int .i64 r) [(.ext 0, .cells true [.slice .none 4 (eTToken.F o0_l), .int .i64 o0_at, .bool o0_bad])] := by
  unfold expr_reader_sign at h
  refine SF.intro Tryd.func71 rfl Tryd.ntmps71 rfl (Nat.le_of_ble_eq_true rfl) (by decide) ?_
  refine SC.seq ?_
  refine SC.region 1 rfl ?_
  refine SO.run c0 1 ⟨[(0, .ptr (.ext 0) 0), (1, .int .i64 a1)], [(.ext 0, .cells true [.slice .none 4 (eTToken.F o0_l), .int .i64 o0_at, .bool o0_bad])]⟩ (by decide) (by kernel_rfl) ?_
  refine SO.done ?_
  refine SC.seq ?_
  refine SC.region 4 rfl ?_
  refine SO.run c0 1 ⟨[(1, .int .i64 a1), (8, .ptr (.ext 0) 0)], [(.ext 0, .cells true [.slice .none 4 (eTToken.F o0_l), .int .i64 o0_at, .bool o0_bad])]⟩ (by decide) (by kernel_rfl) ?_
  obtain ⟨x1_1, hx1_1, h⟩ := Opt.ex h
  refine SO.call ⟨72, [.ptr (.ext 0) 0], [(.ext 0, .cells true [.slice .none 4 (eTToken.F o0_l), .int .i64 o0_at, .bool o0_bad])], [.ext 0], some 9⟩ ⟨[(1, .int .i64 a1), (9, .agg (cTToken x1_1))], [(.ext 0, .cells true [.slice .none 4 (eTToken.F o0_l), .int .i64 o0_at, .bool o0_bad])]⟩ (by decide) (by kernel_rfl) (ok_expr_reader_look k o0_l o0_at o0_bad x1_1 hx1_1) (by kernel_rfl) ?_
  refine SO.run c0 4 ⟨[(1, .int .i64 a1), (5, .ptr (.loc 5) 0)], [(.ext 0, .cells true [.slice .none 4 (eTToken.F o0_l), .int .i64 o0_at, .bool o0_bad]), (.loc 5, .cells true (cTToken x1_1))]⟩ (by decide) (by kernel_rfl) ?_
  refine SO.done ?_
  refine SC.seq ?_
  refine SC.seq ?_
  refine SC.region 8 rfl ?_
  refine SO.run c0 2 ⟨[(1, .int .i64 a1), (5, .ptr (.loc 5) 0), (12, .str x1_1.Text)], [(.ext 0, .cells true [.slice .none 4 (eTToken.F o0_l), .int .i64 o0_at, .bool o0_bad]), (.loc 5, .cells true (cTToken x1_1))]⟩ (by decide) (by kernel_rfl) ?_
  obtain ⟨⟨x2_2_0, x2_2_1⟩, hx2_2, h⟩ := Opt.ex h
  refine SO.call ⟨97, [.str x1_1.Text], [], [], some 13⟩ ⟨[(1, .int .i64 a1), (5, .ptr (.loc 5) 0), (13, .tuple [.int .i64 x2_2_0, .bool x2_2_1])], [(.ext 0, .cells true [.slice .none 4 (eTToken.F o0_l), .int .i64 o0_at, .bool o0_bad]), (.loc 5, .cells true (cTToken x1_1))]⟩ (by decide) (by kernel_rfl) (ok_word_Sign k x1_1.Text (x2_2_0, x2_2_1) hx2_2) (by kernel_rfl) ?_
  refine SO.run c0 8 ⟨[(1, .int .i64 a1), (5, .ptr (.loc 5) 0), (6, .int .i64 x2_2_0), (7, .bool x2_2_1)], [(.ext 0, .cells true [.slice .none 4 (eTToken.F o0_l), .int .i64 o0_at, .bool o0_bad]), (.loc 5, .cells true (cTToken x1_1))]⟩ (by decide) (by kernel_rfl) ?_
  refine SO.done ?_
  refine SC.seq ?_
  refine SC.region 12 rfl ?_
  refine SO.run c0 2 ⟨[(1, .int .i64 a1), (5, .ptr (.loc 5) 0), (6, .int .i64 x2_2_0), (17, .bool x2_2_1)], [(.ext 0, .cells true [.slice .none 4 (eTToken.F o0_l), .int .i64 o0_at, .bool o0_bad]), (.loc 5, .cells true (cTToken x1_1))]⟩ (by decide) (by kernel_rfl) ?_
  refine SO.runB c0 6 x2_2_1 (fun b => ⟨[(1, .int .i64 a1), (5, .ptr (.loc 5) 0), (6, .int .i64 x2_2_0), (17, .bool b)], [(.ext 0, .cells true [.slice .none 4 (eTToken.F o0_l), .int .i64 o0_at, .bool o0_bad]), (.loc 5, .cells true (cTToken x1_1))]⟩) (fun b => ⟨[(1, .int .i64 a1), (6, .int .i64 x2_2_0), (21, .bool (b && (x1_1.Kind == 4)))], [(.ext 0, .cells true [.slice .none 4 (eTToken.F o0_l), .int .i64 o0_at, .bool o0_bad])]⟩) (by decide) (by kernel_rfl) (by kernel_rfl) ?_
  refine SO.run c0 7 ⟨[(1, .int .i64 a1), (6, .int .i64 x2_2_0), (22, .bool (x2_2_1 && (x1_1.Kind == 4)))], [(.ext 0, .cells true [.slice .none 4 (eTToken.F o0_l), .int .i64 o0_at, .bool o0_bad])]⟩ (by decide) (by kernel_rfl) ?_
  refine SO.joinK h (fun v : Bool => ⟨[(6, .int .i64 x2_2_0), (27, .bool v)], [(.ext 0, .cells true [.slice .none 4 (eTToken.F o0_l), .int .i64 o0_at, .bool o0_bad])]⟩) 12 (by decide) ?_ ?_
  · rintro g3_11_27 h
    refine SO.eqS (S1 := ⟨[(6, .int .i64 x2_2_0), (27, .bool g3_11_27)], [(.ext 0, .cells true [.slice .none 4 (eTToken.F o0_l), .int .i64 o0_at, .bool o0_bad])]⟩) rfl ?_
    refine SO.done ?_
    refine SC.cond g3_11_27 (by kernel_rfl) (fun ht => ?_) (fun ht => ?_)
    · replace h := Opt.t h ht
      refine SC.seq ?_
      refine SC.region 2 rfl ?_
      refine SO.run c0 2 ⟨[(4, .int .i64 x2_2_0)], [(.ext 0, .cells true [.slice .none 4 (eTToken.F o0_l), .int .i64 o0_at, .bool o0_bad])]⟩ (by decide) (by kernel_rfl) ?_
      refine SO.done ?_
      refine SC.ret ?_
      replace h := Option.some.inj h
      subst h
      exact ⟨[.int .i64 x2_2_0], by kernel_rfl, Wk.eq (by kernel_rfl), ⟨⟨.cells true [.slice .none 4 (eTToken.F o0_l), .int .i64 o0_at, .bool o0_bad], by kernel_rfl, ObWk.cells (WkL.eq (by kernel_rfl))⟩, trivial⟩, by kernel_rfl⟩
    · replace h := Opt.f h ht
      refine SC.skip ?_
      refine SC.seq ?_
      refine SC.region 1 rfl ?_
      refine SO.run c0 1 ⟨[(4, .int .i64 0)], [(.ext 0, .cells true [.slice .none 4 (eTToken.F o0_l), .int .i64 o0_at, .bool o0_bad])]⟩ (by decide) (by kernel_rfl) ?_
      refine SO.done ?_
      refine SC.ret ?_
      replace h := Option.some.inj h
      subst h
      exact ⟨[.int .i64 0], by kernel_rfl, Wk.eq (by kernel_rfl), ⟨⟨.cells true [.slice .none 4 (eTToken.F o0_l), .int .i64 o0_at, .bool o0_bad], by kernel_rfl, ObWk.cells (WkL.eq (by kernel_rfl))⟩, trivial⟩, by kernel_rfl⟩
  · intro j_g3_11 h
    refine SO.bool (x2_2_1 && (x1_1.Kind == 4)) (fun b => ⟨[(1, .int .i64 a1), (6, .int .i64 x2_2_0), (22, .bool b)], [(.ext 0, .cells true [.slice .none 4 (eTToken.F o0_l), .int .i64 o0_at, .bool o0_bad])]⟩) (fun ht => ?_) (fun ht => ?_)
    · replace h := Opt.t h ht
      refine SO.run c0 8 ⟨[(1, .int .i64 a1), (6, .int .i64 x2_2_0), (22, .bool true), (23, .int .i64 x2_2_0)], [(.ext 0, .cells true [.slice .none 4 (eTToken.F o0_l), .int .i64 o0_at, .bool o0_bad])]⟩ (by decide) (by kernel_rfl) ?_
      obtain ⟨x3_8, hx3_8, h⟩ := Opt.ex h
      refine SO.call ⟨98, [.int .i64 x2_2_0], [], [], some 24⟩ ⟨[(1, .int .i64 a1), (6, .int .i64 x2_2_0), (22, .bool true), (24, .int .i64 x3_8)], [(.ext 0, .cells true [.slice .none 4 (eTToken.F o0_l), .int .i64 o0_at, .bool o0_bad])]⟩ (by decide) (by kernel_rfl) (ok_word_Bind k x2_2_0 x3_8 hx3_8) (by kernel_rfl) ?_
      refine SO.run c0 12 ⟨[(6, .int .i64 x2_2_0), (27, .bool (x3_8 == a1))], [(.ext 0, .cells true [.slice .none 4 (eTToken.F o0_l), .int .i64 o0_at, .bool o0_bad])]⟩ (by decide) (by kernel_rfl) ?_
      exact SO.done ⟨(x3_8 == a1), rfl, h⟩
    · replace h := Opt.f h ht
      refine SO.run c0 12 ⟨[(6, .int .i64 x2_2_0), (27, .bool false)], [(.ext 0, .cells true [.slice .none 4 (eTToken.F o0_l), .int .i64 o0_at, .bool o0_bad])]⟩ (by decide) (by kernel_rfl) ?_
      exact SO.done ⟨false, rfl, h⟩
end Go.Proofs.YtbhncegmohnfhaaDoor.AE
