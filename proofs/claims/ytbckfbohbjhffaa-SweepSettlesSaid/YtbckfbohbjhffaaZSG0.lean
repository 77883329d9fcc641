/- The code of these functions comes to what the printed functions answer. Printed by wip/dev/gen.py. No condition. -/
import Derived.Test.YtbckfbohbjhffaaZSE
import Derived.Test.YtbckfbohbjhffaaZSF
set_option linter.unusedVariables false
set_option maxRecDepth 100000
namespace Go.Proofs.Ytbckfbohbjhffaa.AE
open Go F
theorem ok_slices_Clone_Pick (k : Nat) (a0 : List TPick) (r : List TPick) (h : slices_Clone_Pick k a0 = some r) :
    SF Z 37 [.slice .none 3 (eTPick.F a0)] [] (.slice (.buf (.loc 7)) 3 (eTPick.F r)) [(.loc 7, .buf 3 (r.length))] := by
  unfold slices_Clone_Pick at h
  refine SF.intro Try.func37 rfl Try.ntmps37 rfl (Nat.le_of_ble_eq_true rfl) (by decide) ?_
  obtain ⟨hr, h⟩ := Opt.g h
  replace h := Option.some.inj h
  subst h
  cases a0 with
  | nil =>
    refine SC.seq ?_
    refine SC.region 1 rfl ?_
    refine SO.run c0 1 ⟨[(0, .slice .none 3 (eTPick.F []))], []⟩ (by decide) (by kernel_rfl) ?_
    refine SO.done ?_
    refine SC.seq ?_
    refine SC.seq ?_
    refine SC.region 2 rfl ?_
    refine SO.run c0 1 ⟨[(0, .slice .none 3 (eTPick.F [])), (3, .slice .none 3 (eTPick.F []))], []⟩ (by decide) (by kernel_rfl) ?_
    refine SO.ask 4 (by decide) (fun b => ⟨[(0, .slice .none 3 (eTPick.F [])), (4, .bool b)], []⟩) (by kernel_rfl) (fun b => by cases b <;> kernel_rfl) (fun b => ?_)
    refine SO.done ?_
    refine SC.cond b (by kernel_rfl) (fun ht => ?_) (fun ht => ?_)
    · refine SC.seq ?_
      refine SC.region 1 rfl ?_
      refine SO.run c0 1 ⟨[(2, .nils)], []⟩ (by decide) (by kernel_rfl) ?_
      refine SO.begin (.loc 7) 3 2 none ⟨[(2, .slice (.buf (.loc 7)) 3 (eTPick.F []))], [(.loc 7, .buf 3 0)]⟩ (by kernel_rfl) ?_
      refine SO.done ?_
      refine SC.ret ?_
      exact ⟨[.slice (.buf (.loc 7)) 3 (eTPick.F [])], by kernel_rfl, Wk.eq (by kernel_rfl), ⟨⟨.buf 3 0, by kernel_rfl, ObWk.buf rfl⟩, trivial⟩, by kernel_rfl⟩
    · refine SC.skip ?_
      refine SC.seq ?_
      refine SC.region 4 rfl ?_
      refine SO.run c0 1 ⟨[(0, .slice .none 3 (eTPick.F [])), (5, .slice .full 3 (eTPick.F []))], []⟩ (by decide) (by kernel_rfl) ?_
      refine SO.begin (.loc 7) 3 5 none ⟨[(0, .slice .none 3 (eTPick.F [])), (5, .slice (.buf (.loc 7)) 3 (eTPick.F []))], [(.loc 7, .buf 3 0)]⟩ (by kernel_rfl) ?_
      refine SO.run c0 2 ⟨[(5, .slice (.buf (.loc 7)) 3 (eTPick.F [])), (6, .slice .none 3 (eTPick.F []))], [(.loc 7, .buf 3 0)]⟩ (by decide) (by kernel_rfl) ?_
      refine SO.op c0 { v := .slice (.buf (.loc 7)) 3 (eTPick.F (([] : List TPick) ++ [])), ws := [(.loc 7, .buf 3 ((([] : List TPick) ++ []).length))], rd := [.loc 7] } ⟨[(7, .slice (.buf (.loc 7)) 3 (eTPick.F (([] : List TPick) ++ [])))], [(.loc 7, .buf 3 ((([] : List TPick) ++ []).length))]⟩ (by decide) (apB eTPick false 7 [(.loc 7, .buf 3 0)] 30 30 (.loc 7) 3 24 [] [] .none (by kernel_rfl) (by kernel_rfl) (by kernel_rfl) hr) (by kernel_rfl) ?_
      refine SO.run c0 4 ⟨[(2, .slice (.buf (.loc 7)) 3 (eTPick.F (([] : List TPick) ++ [])))], [(.loc 7, .buf 3 ((([] : List TPick) ++ []).length))]⟩ (by decide) (by kernel_rfl) ?_
      refine SO.done ?_
      refine SC.ret ?_
      exact ⟨[.slice (.buf (.loc 7)) 3 (eTPick.F (([] : List TPick) ++ []))], by kernel_rfl, Wk.eq (by kernel_rfl), ⟨⟨.buf 3 ((([] : List TPick) ++ []).length), by kernel_rfl, ObWk.buf rfl⟩, trivial⟩, by kernel_rfl⟩
  | cons x l =>
    refine SC.seq ?_
    refine SC.region 1 rfl ?_
    refine SO.run c0 1 ⟨[(0, .slice .none 3 (eTPick.F (x :: l)))], []⟩ (by decide) (by kernel_rfl) ?_
    refine SO.done ?_
    refine SC.seq ?_
    refine SC.seq ?_
    refine SC.region 2 rfl ?_
    refine SO.run c0 1 ⟨[(0, .slice .none 3 (eTPick.F (x :: l))), (3, .slice .none 3 (eTPick.F (x :: l)))], []⟩ (by decide) (by kernel_rfl) ?_
    refine SO.run c0 2 ⟨[(0, .slice .none 3 (eTPick.F (x :: l))), (4, .bool false)], []⟩ (by decide) (by kernel_rfl) ?_
    refine SO.done ?_
    refine SC.cond false (by kernel_rfl) (fun ht => by cases ht) (fun ht => ?_)
    refine SC.skip ?_
    refine SC.seq ?_
    refine SC.region 4 rfl ?_
    refine SO.run c0 1 ⟨[(0, .slice .none 3 (eTPick.F (x :: l))), (5, .slice .full 3 (eTPick.F []))], []⟩ (by decide) (by kernel_rfl) ?_
    refine SO.begin (.loc 7) 3 5 none ⟨[(0, .slice .none 3 (eTPick.F (x :: l))), (5, .slice (.buf (.loc 7)) 3 (eTPick.F []))], [(.loc 7, .buf 3 0)]⟩ (by kernel_rfl) ?_
    refine SO.run c0 2 ⟨[(5, .slice (.buf (.loc 7)) 3 (eTPick.F [])), (6, .slice .none 3 (eTPick.F (x :: l)))], [(.loc 7, .buf 3 0)]⟩ (by decide) (by kernel_rfl) ?_
    refine SO.op c0 { v := .slice (.buf (.loc 7)) 3 (eTPick.F (([] : List TPick) ++ (x :: l))), ws := [(.loc 7, .buf 3 ((([] : List TPick) ++ (x :: l)).length))], rd := [.loc 7] } ⟨[(7, .slice (.buf (.loc 7)) 3 (eTPick.F (([] : List TPick) ++ (x :: l))))], [(.loc 7, .buf 3 ((([] : List TPick) ++ (x :: l)).length))]⟩ (by decide) (apB eTPick false 7 [(.loc 7, .buf 3 0)] 30 30 (.loc 7) 3 24 [] (x :: l) .none (by kernel_rfl) (by kernel_rfl) (by kernel_rfl) hr) (by kernel_rfl) ?_
    refine SO.run c0 4 ⟨[(2, .slice (.buf (.loc 7)) 3 (eTPick.F (([] : List TPick) ++ (x :: l))))], [(.loc 7, .buf 3 ((([] : List TPick) ++ (x :: l)).length))]⟩ (by decide) (by kernel_rfl) ?_
    refine SO.done ?_
    refine SC.ret ?_
    exact ⟨[.slice (.buf (.loc 7)) 3 (eTPick.F (([] : List TPick) ++ (x :: l)))], by kernel_rfl, Wk.eq (by kernel_rfl), ⟨⟨.buf 3 ((([] : List TPick) ++ (x :: l)).length), by kernel_rfl, ObWk.buf rfl⟩, trivial⟩, by kernel_rfl⟩
theorem ok_sweep_longer (k : Nat) (a0 : List (List TPick)) (a1 : Int) (a2 : Int) (r : List (List TPick)) (h : sweep_longer k a0 a1 a2 = some r) :
    SF Z 29 [.slice .none 1 (eL_eTPick.F a0), .int .i64 a1, .int .i64 a2] [] (.slice .none 1 (eL_eTPick.F r)) [] := by
  unfold sweep_longer at h
  refine SF.intro Try.func29 rfl Try.ntmps29 rfl (Nat.le_of_ble_eq_true rfl) (by decide) ?_
  refine SC.seq ?_
  refine SC.region 1 rfl ?_
  refine SO.run c0 1 ⟨[(0, .slice .none 1 (eL_eTPick.F a0)), (1, .int .i64 a1), (2, .int .i64 a2)], []⟩ (by decide) (by kernel_rfl) ?_
  refine SO.done ?_
  refine SC.seq ?_
  refine SC.region 1 rfl ?_
  refine SO.run c0 1 ⟨[(0, .slice .none 1 (eL_eTPick.F a0)), (1, .int .i64 a1), (2, .int .i64 a2), (7, .nils)], []⟩ (by decide) (by kernel_rfl) ?_
  refine SO.begin (.loc 7) 1 7 none ⟨[(0, .slice .none 1 (eL_eTPick.F a0)), (1, .int .i64 a1), (2, .int .i64 a2), (7, .slice (.buf (.loc 7)) 1 (eL_eTPick.F []))], [(.loc 7, .buf 1 0)]⟩ (by kernel_rfl) ?_
  refine SO.done ?_
  apply SC.seqJ (r := r) h (fun v : List (List TPick) => ⟨[(7, .slice (.buf (.loc 7)) 1 (eL_eTPick.F v))], [(.loc 7, .buf 1 (v.length))]⟩)
  · rintro j0_7 r h
    refine SC.eqS (S1 := ⟨[(7, .slice (.buf (.loc 7)) 1 (eL_eTPick.F j0_7))], [(.loc 7, .buf 1 (j0_7.length))]⟩) rfl ?_
    refine SC.seq ?_
    refine SC.region 2 rfl ?_
    refine SO.run c0 2 ⟨[(6, .slice (.buf (.loc 7)) 1 (eL_eTPick.F j0_7))], [(.loc 7, .buf 1 (j0_7.length))]⟩ (by decide) (by kernel_rfl) ?_
    refine SO.done ?_
    refine SC.ret ?_
    replace h := Option.some.inj h
    subst h
    exact ⟨[.slice (.buf (.loc 7)) 1 (eL_eTPick.F j0_7)], by kernel_rfl, Wk.tok _ _ _, trivial, by kernel_rfl⟩
  · intro j_j0 h
    refine SC.seq ?_
    refine SC.region 3 rfl ?_
    refine SO.run c0 3 ⟨[(1, .int .i64 a1), (2, .int .i64 a2), (7, .slice (.buf (.loc 7)) 1 (eL_eTPick.F [])), (11, .slice .none 1 (eL_eTPick.F a0)), (12, .int .i64 ((a0.length : Int))), (13, .int .i64 0)], [(.loc 7, .buf 1 0)]⟩ (by decide) (Eq.trans (b := some ⟨[(1, .int .i64 a1), (2, .int .i64 a2), (7, .slice (.buf (.loc 7)) 1 (eL_eTPick.F [])), (11, .slice .none 1 (eL_eTPick.F a0)), (12, .int .i64 (((eL_eTPick.F a0).length : Int))), (13, .int .i64 0)], [(.loc 7, .buf 1 0)]⟩) (by kernel_rfl) (by simp only [LE.len])) ?_
    refine SO.done ?_
    refine SC.block ?_
    apply SC.loopJ (r := r) h (fun v : List (List TPick) × Int => ⟨[(1, .int .i64 a1), (2, .int .i64 a2), (7, .slice (.buf (.loc 7)) 1 (eL_eTPick.F v.1)), (11, .slice .none 1 (eL_eTPick.F a0)), (12, .int .i64 (a0.length : Int)), (13, .int .i64 v.2)], [(.loc 7, .buf 1 (v.1.length))]⟩)
    rintro ⟨l1_7, l1_13⟩ r h
    refine SC.eqS (S1 := ⟨[(1, .int .i64 a1), (2, .int .i64 a2), (7, .slice (.buf (.loc 7)) 1 (eL_eTPick.F l1_7)), (11, .slice .none 1 (eL_eTPick.F a0)), (12, .int .i64 (a0.length : Int)), (13, .int .i64 l1_13)], [(.loc 7, .buf 1 (l1_7.length))]⟩) rfl ?_
    refine SC.seq ?_
    refine SC.region 1 rfl ?_
    refine SO.run c0 1 ⟨[(1, .int .i64 a1), (2, .int .i64 a2), (7, .slice (.buf (.loc 7)) 1 (eL_eTPick.F l1_7)), (11, .slice .none 1 (eL_eTPick.F a0)), (12, .int .i64 (a0.length : Int)), (13, .int .i64 l1_13), (14, .bool (decide (l1_13 < (a0.length : Int))))], [(.loc 7, .buf 1 (l1_7.length))]⟩ (by decide) (by kernel_rfl) ?_
    refine SO.done ?_
    refine SC.seq ?_
    refine SC.cond (decide (l1_13 < (a0.length : Int))) (by kernel_rfl) (fun ht => ?_) (fun ht => ?_)
    · replace h := Opt.t h ht
      refine SC.skip ?_
      apply SC.seqJ (r := r) h (fun v : List (List TPick) => ⟨[(1, .int .i64 a1), (2, .int .i64 a2), (7, .slice (.buf (.loc 7)) 1 (eL_eTPick.F v)), (11, .slice .none 1 (eL_eTPick.F a0)), (12, .int .i64 (a0.length : Int)), (13, .int .i64 l1_13)], [(.loc 7, .buf 1 (v.length))]⟩)
      · rintro j2_7 r h
        refine SC.eqS (S1 := ⟨[(1, .int .i64 a1), (2, .int .i64 a2), (7, .slice (.buf (.loc 7)) 1 (eL_eTPick.F j2_7)), (11, .slice .none 1 (eL_eTPick.F a0)), (12, .int .i64 (a0.length : Int)), (13, .int .i64 l1_13)], [(.loc 7, .buf 1 (j2_7.length))]⟩) rfl ?_
        refine SC.region 2 rfl ?_
        refine SO.run c0 2 ⟨[(1, .int .i64 a1), (2, .int .i64 a2), (7, .slice (.buf (.loc 7)) 1 (eL_eTPick.F j2_7)), (11, .slice .none 1 (eL_eTPick.F a0)), (12, .int .i64 (a0.length : Int)), (13, .int .i64 (IntKind.i64.wrap (l1_13 + 1)))], [(.loc 7, .buf 1 (j2_7.length))]⟩ (by decide) (by kernel_rfl) ?_
        refine SO.done ?_
        replace h := Option.some.inj h
        subst h
        exact ⟨(j2_7, (IntKind.i64.wrap (l1_13 + 1))), rfl, rfl⟩
      · intro j_j2 h
        refine SC.block ?_
        refine SC.seq ?_
        refine SC.region 3 rfl ?_
        obtain ⟨x4_0, hx4_0, h⟩ := Opt.ex h
        refine SO.op c0 { v := .pin [.slice .none 3 (eTPick.F x4_0)] } ⟨[(1, .int .i64 a1), (2, .int .i64 a2), (7, .slice (.buf (.loc 7)) 1 (eL_eTPick.F l1_7)), (11, .slice .none 1 (eL_eTPick.F a0)), (12, .int .i64 (a0.length : Int)), (13, .int .i64 l1_13), (15, .pin [.slice .none 3 (eTPick.F x4_0)])], [(.loc 7, .buf 1 (l1_7.length))]⟩ (by decide) (ixR eL_eTPick 28 .none 1 a0 .i64 l1_13 x4_0 [.slice .none 3 (eTPick.F x4_0)] (by kernel_rfl) (by kernel_rfl) hx4_0 (rfl)) (by kernel_rfl) ?_
        refine SO.run c0 3 ⟨[(1, .int .i64 a1), (2, .int .i64 a2), (7, .slice (.buf (.loc 7)) 1 (eL_eTPick.F l1_7)), (9, .slice .none 3 (eTPick.F x4_0)), (11, .slice .none 1 (eL_eTPick.F a0)), (12, .int .i64 (a0.length : Int)), (13, .int .i64 l1_13)], [(.loc 7, .buf 1 (l1_7.length))]⟩ (by decide) (by kernel_rfl) ?_
        refine SO.done ?_
        refine SC.seq ?_
        refine SC.region 2 rfl ?_
        refine SO.run c0 2 ⟨[(1, .int .i64 a1), (2, .int .i64 a2), (7, .slice (.buf (.loc 7)) 1 (eL_eTPick.F l1_7)), (9, .slice .none 3 (eTPick.F x4_0)), (11, .slice .none 1 (eL_eTPick.F a0)), (12, .int .i64 (a0.length : Int)), (13, .int .i64 l1_13), (17, .int .i64 a2), (18, .int .i64 0)], [(.loc 7, .buf 1 (l1_7.length))]⟩ (by decide) (by kernel_rfl) ?_
        refine SO.done ?_
        refine SC.block ?_
        apply SC.loopJ (r := r) h (fun v : List (List TPick) × Int => ⟨[(1, .int .i64 a1), (2, .int .i64 a2), (7, .slice (.buf (.loc 7)) 1 (eL_eTPick.F v.1)), (9, .slice .none 3 (eTPick.F x4_0)), (11, .slice .none 1 (eL_eTPick.F a0)), (12, .int .i64 (a0.length : Int)), (13, .int .i64 l1_13), (17, .int .i64 a2), (18, .int .i64 v.2)], [(.loc 7, .buf 1 (v.1.length))]⟩)
        rintro ⟨l3_7, l3_18⟩ r h
        refine SC.eqS (S1 := ⟨[(1, .int .i64 a1), (2, .int .i64 a2), (7, .slice (.buf (.loc 7)) 1 (eL_eTPick.F l3_7)), (9, .slice .none 3 (eTPick.F x4_0)), (11, .slice .none 1 (eL_eTPick.F a0)), (12, .int .i64 (a0.length : Int)), (13, .int .i64 l1_13), (17, .int .i64 a2), (18, .int .i64 l3_18)], [(.loc 7, .buf 1 (l3_7.length))]⟩) rfl ?_
        refine SC.seq ?_
        refine SC.region 1 rfl ?_
        refine SO.run c0 1 ⟨[(1, .int .i64 a1), (2, .int .i64 a2), (7, .slice (.buf (.loc 7)) 1 (eL_eTPick.F l3_7)), (9, .slice .none 3 (eTPick.F x4_0)), (11, .slice .none 1 (eL_eTPick.F a0)), (12, .int .i64 (a0.length : Int)), (13, .int .i64 l1_13), (17, .int .i64 a2), (18, .int .i64 l3_18), (19, .bool (decide (l3_18 < a2)))], [(.loc 7, .buf 1 (l3_7.length))]⟩ (by decide) (by kernel_rfl) ?_
        refine SO.done ?_
        refine SC.seq ?_
        refine SC.cond (decide (l3_18 < a2)) (by kernel_rfl) (fun ht => ?_) (fun ht => ?_)
        · replace h := Opt.t h ht
          refine SC.skip ?_
          refine SC.seq ?_
          refine SC.block ?_
          refine SC.seq ?_
          refine SC.region 2 rfl ?_
          refine SO.run c0 2 ⟨[(1, .int .i64 a1), (2, .int .i64 a2), (7, .slice (.buf (.loc 7)) 1 (eL_eTPick.F l3_7)), (9, .slice .none 3 (eTPick.F x4_0)), (10, .int .i64 l3_18), (11, .slice .none 1 (eL_eTPick.F a0)), (12, .int .i64 (a0.length : Int)), (13, .int .i64 l1_13), (17, .int .i64 a2), (18, .int .i64 l3_18)], [(.loc 7, .buf 1 (l3_7.length))]⟩ (by decide) (by kernel_rfl) ?_
          refine SO.done ?_
          refine SC.region 13 rfl ?_
          refine SO.run c0 2 ⟨[(1, .int .i64 a1), (2, .int .i64 a2), (9, .slice .none 3 (eTPick.F x4_0)), (10, .int .i64 l3_18), (11, .slice .none 1 (eL_eTPick.F a0)), (12, .int .i64 (a0.length : Int)), (13, .int .i64 l1_13), (17, .int .i64 a2), (18, .int .i64 l3_18), (21, .slice (.buf (.loc 7)) 1 (eL_eTPick.F l3_7)), (22, .slice .none 3 (eTPick.F x4_0))], [(.loc 7, .buf 1 (l3_7.length))]⟩ (by decide) (by kernel_rfl) ?_
          obtain ⟨x8_2, hx8_2, h⟩ := Opt.ex h
          refine SO.callC eTPick x8_2 ⟨37, [.slice .none 3 (eTPick.F x4_0)], [], [], some 23⟩ 7 3 23 ⟨[(1, .int .i64 a1), (2, .int .i64 a2), (9, .slice .none 3 (eTPick.F x4_0)), (10, .int .i64 l3_18), (11, .slice .none 1 (eL_eTPick.F a0)), (12, .int .i64 (a0.length : Int)), (13, .int .i64 l1_13), (17, .int .i64 a2), (18, .int .i64 l3_18), (21, .slice (.buf (.loc 7)) 1 (eL_eTPick.F l3_7)), (23, .slice (.buf (.loc 23)) 3 (eTPick.F x8_2))], [(.loc 7, .buf 1 (l3_7.length)), (.loc 23, .buf 3 (x8_2.length))]⟩ (by decide) (by kernel_rfl) rfl (by kernel_rfl) (ok_slices_Clone_Pick k x4_0 x8_2 hx8_2) (by kernel_rfl) ?_
          refine SO.run c0 9 ⟨[(1, .int .i64 a1), (2, .int .i64 a2), (9, .slice .none 3 (eTPick.F x4_0)), (11, .slice .none 1 (eL_eTPick.F a0)), (12, .int .i64 (a0.length : Int)), (13, .int .i64 l1_13), (17, .int .i64 a2), (18, .int .i64 l3_18), (21, .slice (.buf (.loc 7)) 1 (eL_eTPick.F l3_7)), (23, .slice (.buf (.loc 23)) 3 (eTPick.F x8_2)), (29, .slice .full 3 (eTPick.F [(TPick.mk l3_18 1 ((Int.tmod a1 2) == 1))]))], [(.loc 7, .buf 1 (l3_7.length)), (.loc 23, .buf 3 (x8_2.length))]⟩ (by decide) (by kernel_rfl) ?_
          obtain ⟨hr, h⟩ := Opt.g h
          refine SO.op c0 { v := .slice (.buf (.loc 23)) 3 (eTPick.F (x8_2 ++ [(TPick.mk l3_18 1 ((Int.tmod a1 2) == 1))])), ws := [(.loc 23, .buf 3 ((x8_2 ++ [(TPick.mk l3_18 1 ((Int.tmod a1 2) == 1))]).length))], rd := [.loc 23] } ⟨[(1, .int .i64 a1), (2, .int .i64 a2), (9, .slice .none 3 (eTPick.F x4_0)), (11, .slice .none 1 (eL_eTPick.F a0)), (12, .int .i64 (a0.length : Int)), (13, .int .i64 l1_13), (17, .int .i64 a2), (18, .int .i64 l3_18), (21, .slice (.buf (.loc 7)) 1 (eL_eTPick.F l3_7)), (30, .slice (.buf (.loc 23)) 3 (eTPick.F (x8_2 ++ [(TPick.mk l3_18 1 ((Int.tmod a1 2) == 1))])))], [(.loc 7, .buf 1 (l3_7.length)), (.loc 23, .buf 3 ((x8_2 ++ [(TPick.mk l3_18 1 ((Int.tmod a1 2) == 1))]).length))]⟩ (by decide) (apB eTPick false 30 [(.loc 7, .buf 1 (l3_7.length)), (.loc 23, .buf 3 (x8_2.length))] 30 30 (.loc 23) 3 24 x8_2 [(TPick.mk l3_18 1 ((Int.tmod a1 2) == 1))] .full (by kernel_rfl) (by kernel_rfl) (by kernel_rfl) hr) (by kernel_rfl) ?_
          refine SO.op c0 { v := .slice .full 1 (eL_eTPick.F [(x8_2 ++ [(TPick.mk l3_18 1 ((Int.tmod a1 2) == 1))])]) } ⟨[(1, .int .i64 a1), (2, .int .i64 a2), (9, .slice .none 3 (eTPick.F x4_0)), (11, .slice .none 1 (eL_eTPick.F a0)), (12, .int .i64 (a0.length : Int)), (13, .int .i64 l1_13), (17, .int .i64 a2), (18, .int .i64 l3_18), (21, .slice (.buf (.loc 7)) 1 (eL_eTPick.F l3_7)), (31, .slice .full 1 (eL_eTPick.F [(x8_2 ++ [(TPick.mk l3_18 1 ((Int.tmod a1 2) == 1))])]))], [(.loc 7, .buf 1 (l3_7.length))]⟩ (by decide) ((show opR _ _ _ _ _ _ = some { v := .slice .full 1 [.slice .none 3 (eTPick.F (x8_2 ++ [(TPick.mk l3_18 1 ((Int.tmod a1 2) == 1))]))] } from by kernel_rfl).trans (by first | (simp only [LE.of]) | rfl)) (by kernel_rfl) ?_
          obtain ⟨hr, h⟩ := Opt.g h
          refine SO.op c0 { v := .slice (.buf (.loc 7)) 1 (eL_eTPick.F (l3_7 ++ [(x8_2 ++ [(TPick.mk l3_18 1 ((Int.tmod a1 2) == 1))])])), ws := [(.loc 7, .buf 1 ((l3_7 ++ [(x8_2 ++ [(TPick.mk l3_18 1 ((Int.tmod a1 2) == 1))])]).length))], rd := [.loc 7] } ⟨[(1, .int .i64 a1), (2, .int .i64 a2), (9, .slice .none 3 (eTPick.F x4_0)), (11, .slice .none 1 (eL_eTPick.F a0)), (12, .int .i64 (a0.length : Int)), (13, .int .i64 l1_13), (17, .int .i64 a2), (18, .int .i64 l3_18), (32, .slice (.buf (.loc 7)) 1 (eL_eTPick.F (l3_7 ++ [(x8_2 ++ [(TPick.mk l3_18 1 ((Int.tmod a1 2) == 1))])])))], [(.loc 7, .buf 1 ((l3_7 ++ [(x8_2 ++ [(TPick.mk l3_18 1 ((Int.tmod a1 2) == 1))])]).length))]⟩ (by decide) (apB eL_eTPick false 32 [(.loc 7, .buf 1 (l3_7.length))] 28 28 (.loc 7) 1 24 l3_7 [(x8_2 ++ [(TPick.mk l3_18 1 ((Int.tmod a1 2) == 1))])] .full (by kernel_rfl) (by kernel_rfl) (by kernel_rfl) hr) (by kernel_rfl) ?_
          refine SO.run c0 13 ⟨[(1, .int .i64 a1), (2, .int .i64 a2), (7, .slice (.buf (.loc 7)) 1 (eL_eTPick.F (l3_7 ++ [(x8_2 ++ [(TPick.mk l3_18 1 ((Int.tmod a1 2) == 1))])]))), (9, .slice .none 3 (eTPick.F x4_0)), (11, .slice .none 1 (eL_eTPick.F a0)), (12, .int .i64 (a0.length : Int)), (13, .int .i64 l1_13), (17, .int .i64 a2), (18, .int .i64 l3_18)], [(.loc 7, .buf 1 ((l3_7 ++ [(x8_2 ++ [(TPick.mk l3_18 1 ((Int.tmod a1 2) == 1))])]).length))]⟩ (by decide) (by kernel_rfl) ?_
          refine SO.done ?_
          refine SC.region 2 rfl ?_
          refine SO.run c0 2 ⟨[(1, .int .i64 a1), (2, .int .i64 a2), (7, .slice (.buf (.loc 7)) 1 (eL_eTPick.F (l3_7 ++ [(x8_2 ++ [(TPick.mk l3_18 1 ((Int.tmod a1 2) == 1))])]))), (9, .slice .none 3 (eTPick.F x4_0)), (11, .slice .none 1 (eL_eTPick.F a0)), (12, .int .i64 (a0.length : Int)), (13, .int .i64 l1_13), (17, .int .i64 a2), (18, .int .i64 (IntKind.i64.wrap (l3_18 + 1)))], [(.loc 7, .buf 1 ((l3_7 ++ [(x8_2 ++ [(TPick.mk l3_18 1 ((Int.tmod a1 2) == 1))])]).length))]⟩ (by decide) (by kernel_rfl) ?_
          refine SO.done ?_
          replace h := Option.some.inj h
          subst h
          exact ⟨((l3_7 ++ [(x8_2 ++ [(TPick.mk l3_18 1 ((Int.tmod a1 2) == 1))])]), (IntKind.i64.wrap (l3_18 + 1))), rfl, rfl⟩
        · replace h := Opt.f h ht
          refine SC.weak (S1 := ⟨[(1, .int .i64 a1), (2, .int .i64 a2), (7, .slice (.buf (.loc 7)) 1 (eL_eTPick.F l3_7)), (11, .slice .none 1 (eL_eTPick.F a0)), (12, .int .i64 (a0.length : Int)), (13, .int .i64 l1_13)], [(.loc 7, .buf 1 (l3_7.length))]⟩) ?_ ?_
          · exact ⟨⟨Wk.refl _, Wk.refl _, Wk.refl _, Wk.refl _, Wk.refl _, Wk.refl _, trivial⟩, ⟨⟨.buf 1 (l3_7.length), by kernel_rfl, ObWk.buf rfl⟩, trivial⟩, by kernel_rfl⟩
          refine SC.exit ?_
          obtain ⟨r1, hh, e1⟩ := Opt.inr h
          clear h
          subst e1
          have h := hh
          clear hh
          refine ⟨_, rfl, ?_⟩
          exact ⟨l3_7, rfl, h⟩
    · replace h := Opt.f h ht
      refine SC.weak (S1 := ⟨[(7, .slice (.buf (.loc 7)) 1 (eL_eTPick.F l1_7))], [(.loc 7, .buf 1 (l1_7.length))]⟩) ?_ ?_
      · exact ⟨⟨Wk.refl _, trivial⟩, ⟨⟨.buf 1 (l1_7.length), by kernel_rfl, ObWk.buf rfl⟩, trivial⟩, by kernel_rfl⟩
      refine SC.exit ?_
      obtain ⟨r1, hh, e1⟩ := Opt.inr h
      clear h
      subst e1
      have h := hh
      clear hh
      refine ⟨_, rfl, ?_⟩
      exact ⟨l1_7, rfl, h⟩
theorem ok_sweep_All (k : Nat) (a0 : Int) (a1 : Int) (r : List (List TPick)) (h : sweep_All k a0 a1 = some r) :
    SF Z 12 [.int .i64 a0, .int .i64 a1] [] (.slice .none 1 (eL_eTPick.F r)) [] := by
  unfold sweep_All at h
  refine SF.intro Try.func12 rfl Try.ntmps12 rfl (Nat.le_of_ble_eq_true rfl) (by decide) ?_
  refine SC.seq ?_
  refine SC.region 1 rfl ?_
  refine SO.run c0 1 ⟨[(0, .int .i64 a0), (1, .int .i64 a1)], []⟩ (by decide) (by kernel_rfl) ?_
  refine SO.done ?_
  refine SC.seq ?_
  refine SC.seq ?_
  refine SC.region 14 rfl ?_
  refine SO.run c0 3 ⟨[(0, .int .i64 a0), (1, .int .i64 a1), (9, .bool (decide (a0 < 1)))], []⟩ (by decide) (by kernel_rfl) ?_
  refine SO.runB c0 6 (decide (a0 < 1)) (fun b => ⟨[(0, .int .i64 a0), (1, .int .i64 a1), (9, .bool b)], []⟩) (fun b => ⟨[(0, .int .i64 a0), (1, .int .i64 a1), (12, .bool (b || (decide (a0 > 64))))], []⟩) (by decide) (by kernel_rfl) (by kernel_rfl) ?_
  refine SO.run c0 7 ⟨[(0, .int .i64 a0), (1, .int .i64 a1), (13, .bool ((decide (a0 < 1)) || (decide (a0 > 64))))], []⟩ (by decide) (by kernel_rfl) ?_
  refine SO.runB c0 10 ((decide (a0 < 1)) || (decide (a0 > 64))) (fun b => ⟨[(0, .int .i64 a0), (1, .int .i64 a1), (13, .bool b)], []⟩) (fun b => ⟨[(0, .int .i64 a0), (1, .int .i64 a1), (16, .bool (b || (decide (a1 < 1))))], []⟩) (by decide) (by kernel_rfl) (by kernel_rfl) ?_
  refine SO.run c0 11 ⟨[(0, .int .i64 a0), (1, .int .i64 a1), (17, .bool (((decide (a0 < 1)) || (decide (a0 > 64))) || (decide (a1 < 1))))], []⟩ (by decide) (by kernel_rfl) ?_
  refine SO.runB c0 14 (((decide (a0 < 1)) || (decide (a0 > 64))) || (decide (a1 < 1))) (fun b => ⟨[(0, .int .i64 a0), (1, .int .i64 a1), (17, .bool b)], []⟩) (fun b => ⟨[(0, .int .i64 a0), (1, .int .i64 a1), (20, .bool (b || (decide (a1 > 4096))))], []⟩) (by decide) (by kernel_rfl) (by kernel_rfl) ?_
  refine SO.done ?_
  refine SC.cond ((((decide (a0 < 1)) || (decide (a0 > 64))) || (decide (a1 < 1))) || (decide (a1 > 4096))) (by kernel_rfl) (fun ht => ?_) (fun ht => ?_)
  · replace h := Opt.t h ht
    refine SC.seq ?_
    refine SC.region 1 rfl ?_
    refine SO.run c0 1 ⟨[(4, .nils)], []⟩ (by decide) (by kernel_rfl) ?_
    refine SO.done ?_
    refine SC.ret ?_
    replace h := Option.some.inj h
    subst h
    exact ⟨[.nils], by kernel_rfl, Wk.nils _ _, trivial, by kernel_rfl⟩
  · replace h := Opt.f h ht
    refine SC.skip ?_
    refine SC.seq ?_
    refine SC.region 2 rfl ?_
    refine SO.opN 3 { v := .slice .full 1 (eL_eTPick.F [[]]) } ⟨[(0, .int .i64 a0), (1, .int .i64 a1), (21, .slice .full 1 (eL_eTPick.F [[]]))], []⟩ (by decide) (by kernel_rfl) rfl (by kernel_rfl) ?_
    refine SO.run c0 2 ⟨[(0, .int .i64 a0), (1, .int .i64 a1), (5, .slice .full 1 (eL_eTPick.F [[]]))], []⟩ (by decide) (by kernel_rfl) ?_
    refine SO.done ?_
    apply SC.seqJ (r := r) h (fun v : List (List TPick) => ⟨[(5, .slice .none 1 (eL_eTPick.F v))], []⟩)
    · rintro j0_5 r h
      refine SC.eqS (S1 := ⟨[(5, .slice .none 1 (eL_eTPick.F j0_5))], []⟩) rfl ?_
      refine SC.seq ?_
      refine SC.region 2 rfl ?_
      refine SO.run c0 2 ⟨[(4, .slice .none 1 (eL_eTPick.F j0_5))], []⟩ (by decide) (by kernel_rfl) ?_
      refine SO.done ?_
      refine SC.ret ?_
      replace h := Option.some.inj h
      subst h
      exact ⟨[.slice .none 1 (eL_eTPick.F j0_5)], by kernel_rfl, Wk.eq (by kernel_rfl), trivial, by kernel_rfl⟩
    · intro j_j0 h
      refine SC.seq ?_
      refine SC.region 1 rfl ?_
      refine SO.run c0 1 ⟨[(0, .int .i64 a0), (1, .int .i64 a1), (5, .slice .full 1 (eL_eTPick.F [[]])), (6, .int .i64 0)], []⟩ (by decide) (by kernel_rfl) ?_
      refine SO.done ?_
      refine SC.block ?_
      refine SC.weak (S1 := ⟨[(0, .int .i64 a0), (1, .int .i64 a1), (5, .slice .none 1 (eL_eTPick.F [[]])), (6, .int .i64 0)], []⟩) ?_ ?_
      · exact ⟨⟨Wk.refl _, Wk.refl _, Wk.tok _ _ _, Wk.refl _, trivial⟩, trivial, by kernel_rfl⟩
      apply SC.loopJ (r := r) h (fun v : List (List TPick) × Int => ⟨[(0, .int .i64 a0), (1, .int .i64 a1), (5, .slice .none 1 (eL_eTPick.F v.1)), (6, .int .i64 v.2)], []⟩)
      rintro ⟨l1_5, l1_6⟩ r h
      refine SC.eqS (S1 := ⟨[(0, .int .i64 a0), (1, .int .i64 a1), (5, .slice .none 1 (eL_eTPick.F l1_5)), (6, .int .i64 l1_6)], []⟩) rfl ?_
      refine SC.seq ?_
      refine SC.seq ?_
      refine SC.region 3 rfl ?_
      refine SO.run c0 3 ⟨[(0, .int .i64 a0), (1, .int .i64 a1), (5, .slice .none 1 (eL_eTPick.F l1_5)), (6, .int .i64 l1_6), (24, .bool (decide (l1_6 < a0)))], []⟩ (by decide) (by kernel_rfl) ?_
      refine SO.done ?_
      refine SC.cond (decide (l1_6 < a0)) (by kernel_rfl) (fun ht => ?_) (fun ht => ?_)
      · replace h := Opt.t h ht
        refine SC.skip ?_
        refine SC.seq ?_
        refine SC.block ?_
        refine SC.seq ?_
        refine SC.seq ?_
        refine SC.region 5 rfl ?_
        refine SO.run c0 5 ⟨[(0, .int .i64 a0), (1, .int .i64 a1), (5, .slice .none 1 (eL_eTPick.F l1_5)), (6, .int .i64 l1_6), (31, .bool (decide ((IntKind.i64.wrap (((l1_5.length : Int)) * a1)) > 4096)))], []⟩ (by decide) (Eq.trans (b := some ⟨[(0, .int .i64 a0), (1, .int .i64 a1), (5, .slice .none 1 (eL_eTPick.F l1_5)), (6, .int .i64 l1_6), (31, .bool (decide ((IntKind.i64.wrap ((((eL_eTPick.F l1_5).length : Int)) * a1)) > 4096)))], []⟩) (by kernel_rfl) (by simp only [LE.len])) ?_
        refine SO.done ?_
        refine SC.cond (decide ((IntKind.i64.wrap (((l1_5.length : Int)) * a1)) > 4096)) (by kernel_rfl) (fun ht => ?_) (fun ht => ?_)
        · replace h := Opt.t h ht
          refine SC.seq ?_
          refine SC.region 1 rfl ?_
          refine SO.run c0 1 ⟨[(4, .nils)], []⟩ (by decide) (by kernel_rfl) ?_
          refine SO.done ?_
          refine SC.ret ?_
          replace h := Option.some.inj h
          subst h
          refine ⟨_, rfl, ?_⟩
          exact ⟨[.nils], by kernel_rfl, Wk.nils _ _, trivial, by kernel_rfl⟩
        · replace h := Opt.f h ht
          refine SC.skip ?_
          refine SC.region 5 rfl ?_
          refine SO.run c0 3 ⟨[(0, .int .i64 a0), (1, .int .i64 a1), (6, .int .i64 l1_6), (32, .slice .none 1 (eL_eTPick.F l1_5)), (33, .int .i64 l1_6), (34, .int .i64 a1)], []⟩ (by decide) (by kernel_rfl) ?_
          obtain ⟨x9_3, hx9_3, h⟩ := Opt.ex h
          refine SO.call ⟨29, [.slice .none 1 (eL_eTPick.F l1_5), .int .i64 l1_6, .int .i64 a1], [], [], some 35⟩ ⟨[(0, .int .i64 a0), (1, .int .i64 a1), (6, .int .i64 l1_6), (35, .slice .none 1 (eL_eTPick.F x9_3))], []⟩ (by decide) (by kernel_rfl) (ok_sweep_longer k l1_5 l1_6 a1 x9_3 hx9_3) (by kernel_rfl) ?_
          refine SO.run c0 5 ⟨[(0, .int .i64 a0), (1, .int .i64 a1), (5, .slice .none 1 (eL_eTPick.F x9_3)), (6, .int .i64 l1_6)], []⟩ (by decide) (by kernel_rfl) ?_
          refine SO.done ?_
          refine SC.region 3 rfl ?_
          refine SO.run c0 3 ⟨[(0, .int .i64 a0), (1, .int .i64 a1), (5, .slice .none 1 (eL_eTPick.F x9_3)), (6, .int .i64 (IntKind.i64.wrap (l1_6 + 1)))], []⟩ (by decide) (by kernel_rfl) ?_
          refine SO.done ?_
          replace h := Option.some.inj h
          subst h
          exact ⟨(x9_3, (IntKind.i64.wrap (l1_6 + 1))), rfl, rfl⟩
      · replace h := Opt.f h ht
        refine SC.weak (S1 := ⟨[(5, .slice .none 1 (eL_eTPick.F l1_5))], []⟩) ?_ ?_
        · exact ⟨⟨Wk.refl _, trivial⟩, trivial, by kernel_rfl⟩
        refine SC.exit ?_
        obtain ⟨r1, hh, e1⟩ := Opt.inr h
        clear h
        subst e1
        have h := hh
        clear hh
        refine ⟨_, rfl, ?_⟩
        exact ⟨l1_5, rfl, h⟩
def C_val_Same (k : Nat) : Prop := ∀ (a0 : TValue) (a1 : TValue) (r : Bool), val_Same k a0 a1 = some r →
  SF Z 40 [.agg (cTValue a0), .agg (cTValue a1)] [] (.bool r) []
def C_slices_EqualFunc_Value_val_Same (k : Nat) : Prop := ∀ (a0 : List TValue) (a1 : List TValue) (r : Bool), slices_EqualFunc_Value_val_Same k a0 a1 = some r →
  SF Z 39 [.slice .none 3 (eTValue.F a0), .slice .none 3 (eTValue.F a1), .fn (.func 40) [] []] [] (.bool r) []
theorem st_val_Same (k : Nat) (ih_slices_EqualFunc_Value_val_Same : C_slices_EqualFunc_Value_val_Same k) : C_val_Same (k + 1) := by
  intro a0 a1 r h
  rw [val_Same] at h
  refine SF.intro Try.func40 rfl Try.ntmps40 rfl (Nat.le_of_ble_eq_true rfl) (by decide) ?_
  refine SC.seq ?_
  refine SC.region 3 rfl ?_
  refine SO.run c0 3 ⟨[(2, .ptr (.loc 2) 0), (3, .ptr (.loc 3) 0)], [(.loc 2, .cells true (cTValue a0)), (.loc 3, .cells true (cTValue a1))]⟩ (by decide) (by kernel_rfl) ?_
  refine SO.done ?_
  refine SC.seq ?_
  refine SC.region 20 rfl ?_
  refine SO.run c0 6 ⟨[(2, .ptr (.loc 2) 0), (3, .ptr (.loc 3) 0), (10, .bool (a0.Kind == a1.Kind))], [(.loc 2, .cells true (cTValue a0)), (.loc 3, .cells true (cTValue a1))]⟩ (by decide) (by kernel_rfl) ?_
  refine SO.runB c0 12 (a0.Kind == a1.Kind) (fun b => ⟨[(2, .ptr (.loc 2) 0), (3, .ptr (.loc 3) 0), (10, .bool b)], [(.loc 2, .cells true (cTValue a0)), (.loc 3, .cells true (cTValue a1))]⟩) (fun b => ⟨[(2, .ptr (.loc 2) 0), (3, .ptr (.loc 3) 0), (16, .bool (b && (a0.N == a1.N)))], [(.loc 2, .cells true (cTValue a0)), (.loc 3, .cells true (cTValue a1))]⟩) (by decide) (by kernel_rfl) (by kernel_rfl) ?_
  refine SO.run c0 13 ⟨[(2, .ptr (.loc 2) 0), (3, .ptr (.loc 3) 0), (17, .bool ((a0.Kind == a1.Kind) && (a0.N == a1.N)))], [(.loc 2, .cells true (cTValue a0)), (.loc 3, .cells true (cTValue a1))]⟩ (by decide) (by kernel_rfl) ?_
  refine SO.joinK h (fun v : Bool => ⟨[(23, .bool v)], []⟩) 19 (by decide) ?_ ?_
  · rintro g1_18_23 h
    refine SO.eqS (S1 := ⟨[(23, .bool g1_18_23)], []⟩) rfl ?_
    refine SO.run c0 20 ⟨[(4, .bool g1_18_23)], []⟩ (by decide) (by kernel_rfl) ?_
    refine SO.done ?_
    refine SC.ret ?_
    replace h := Option.some.inj h
    subst h
    exact ⟨[.bool g1_18_23], by kernel_rfl, Wk.eq (by kernel_rfl), trivial, by kernel_rfl⟩
  · intro j_g1_18 h
    refine SO.bool ((a0.Kind == a1.Kind) && (a0.N == a1.N)) (fun b => ⟨[(2, .ptr (.loc 2) 0), (3, .ptr (.loc 3) 0), (17, .bool b)], [(.loc 2, .cells true (cTValue a0)), (.loc 3, .cells true (cTValue a1))]⟩) (fun ht => ?_) (fun ht => ?_)
    · replace h := Opt.t h ht
      refine SO.run c0 17 ⟨[(17, .bool true), (19, .slice .none 3 (eTValue.F a0.Kids)), (21, .slice .none 3 (eTValue.F a1.Kids))], []⟩ (by decide) (by kernel_rfl) ?_
      obtain ⟨x1_17, hx1_17, h⟩ := Opt.ex h
      refine SO.call ⟨39, [.slice .none 3 (eTValue.F a0.Kids), .slice .none 3 (eTValue.F a1.Kids), .fn (.func 40) [] []], [], [], some 22⟩ ⟨[(17, .bool true), (22, .bool x1_17)], []⟩ (by decide) (by kernel_rfl) (ih_slices_EqualFunc_Value_val_Same a0.Kids a1.Kids x1_17 hx1_17) (by kernel_rfl) ?_
      refine SO.run c0 19 ⟨[(23, .bool x1_17)], []⟩ (by decide) (by kernel_rfl) ?_
      exact SO.done ⟨x1_17, rfl, h⟩
    · replace h := Opt.f h ht
      refine SO.run c0 19 ⟨[(23, .bool false)], []⟩ (by decide) (by kernel_rfl) ?_
      exact SO.done ⟨false, rfl, h⟩
theorem st_slices_EqualFunc_Value_val_Same (k : Nat) (ih_val_Same : C_val_Same k) : C_slices_EqualFunc_Value_val_Same (k + 1) := by
  intro a0 a1 r h
  rw [slices_EqualFunc_Value_val_Same] at h
  refine SF.intro Try.func39 rfl Try.ntmps39 rfl (Nat.le_of_ble_eq_true rfl) (by decide) ?_
  refine SC.seq ?_
  refine SC.region 1 rfl ?_
  refine SO.run c0 1 ⟨[(0, .slice .none 3 (eTValue.F a0)), (1, .slice .none 3 (eTValue.F a1)), (2, .fn (.func 40) [] [])], []⟩ (by decide) (by kernel_rfl) ?_
  refine SO.done ?_
  refine SC.seq ?_
  refine SC.seq ?_
  refine SC.region 5 rfl ?_
  refine SO.run c0 5 ⟨[(0, .slice .none 3 (eTValue.F a0)), (1, .slice .none 3 (eTValue.F a1)), (2, .fn (.func 40) [] []), (14, .bool (((a0.length : Int)) != ((a1.length : Int))))], []⟩ (by decide) (Eq.trans (b := some ⟨[(0, .slice .none 3 (eTValue.F a0)), (1, .slice .none 3 (eTValue.F a1)), (2, .fn (.func 40) [] []), (14, .bool ((((eTValue.F a0).length : Int)) != (((eTValue.F a1).length : Int))))], []⟩) (by kernel_rfl) (by simp only [LE.len])) ?_
  refine SO.done ?_
  refine SC.cond (((a0.length : Int)) != ((a1.length : Int))) (by kernel_rfl) (fun ht => ?_) (fun ht => ?_)
  · replace h := Opt.t h ht
    refine SC.seq ?_
    refine SC.region 1 rfl ?_
    refine SO.run c0 1 ⟨[(6, .bool false)], []⟩ (by decide) (by kernel_rfl) ?_
    refine SO.done ?_
    refine SC.ret ?_
    replace h := Option.some.inj h
    subst h
    exact ⟨[.bool false], by kernel_rfl, Wk.eq (by kernel_rfl), trivial, by kernel_rfl⟩
  · replace h := Opt.f h ht
    refine SC.skip ?_
    apply SC.seqJ (r := r) h (fun v : Unit => ⟨[], []⟩)
    · rintro ⟨⟩ r h
      refine SC.eqS (S1 := ⟨[], []⟩) rfl ?_
      refine SC.seq ?_
      refine SC.region 1 rfl ?_
      refine SO.run c0 1 ⟨[(6, .bool true)], []⟩ (by decide) (by kernel_rfl) ?_
      refine SO.done ?_
      refine SC.ret ?_
      replace h := Option.some.inj h
      subst h
      exact ⟨[.bool true], by kernel_rfl, Wk.eq (by kernel_rfl), trivial, by kernel_rfl⟩
    · intro j_j0 h
      refine SC.seq ?_
      refine SC.region 3 rfl ?_
      refine SO.run c0 3 ⟨[(1, .slice .none 3 (eTValue.F a1)), (2, .fn (.func 40) [] []), (15, .slice .none 3 (eTValue.F a0)), (16, .int .i64 ((a0.length : Int))), (17, .int .i64 0)], []⟩ (by decide) (Eq.trans (b := some ⟨[(1, .slice .none 3 (eTValue.F a1)), (2, .fn (.func 40) [] []), (15, .slice .none 3 (eTValue.F a0)), (16, .int .i64 (((eTValue.F a0).length : Int))), (17, .int .i64 0)], []⟩) (by kernel_rfl) (by simp only [LE.len])) ?_
      refine SO.done ?_
      refine SC.block ?_
      apply SC.loopJ (r := r) h (fun v : Int => ⟨[(1, .slice .none 3 (eTValue.F a1)), (2, .fn (.func 40) [] []), (15, .slice .none 3 (eTValue.F a0)), (16, .int .i64 (a0.length : Int)), (17, .int .i64 v)], []⟩)
      rintro l1_17 r h
      refine SC.eqS (S1 := ⟨[(1, .slice .none 3 (eTValue.F a1)), (2, .fn (.func 40) [] []), (15, .slice .none 3 (eTValue.F a0)), (16, .int .i64 (a0.length : Int)), (17, .int .i64 l1_17)], []⟩) rfl ?_
      refine SC.seq ?_
      refine SC.region 1 rfl ?_
      refine SO.run c0 1 ⟨[(1, .slice .none 3 (eTValue.F a1)), (2, .fn (.func 40) [] []), (15, .slice .none 3 (eTValue.F a0)), (16, .int .i64 (a0.length : Int)), (17, .int .i64 l1_17), (18, .bool (decide (l1_17 < (a0.length : Int))))], []⟩ (by decide) (by kernel_rfl) ?_
      refine SO.done ?_
      refine SC.seq ?_
      refine SC.cond (decide (l1_17 < (a0.length : Int))) (by kernel_rfl) (fun ht => ?_) (fun ht => ?_)
      · replace h := Opt.t h ht
        refine SC.skip ?_
        refine SC.seq ?_
        refine SC.block ?_
        refine SC.seq ?_
        refine SC.region 6 rfl ?_
        refine SO.run c0 1 ⟨[(1, .slice .none 3 (eTValue.F a1)), (2, .fn (.func 40) [] []), (15, .slice .none 3 (eTValue.F a0)), (16, .int .i64 (a0.length : Int)), (17, .int .i64 l1_17), (19, .int .i64 l1_17)], []⟩ (by decide) (by kernel_rfl) ?_
        obtain ⟨x5_1, hx5_1, h⟩ := Opt.ex h
        refine SO.op c0 { v := .pin (cTValue x5_1) } ⟨[(1, .slice .none 3 (eTValue.F a1)), (2, .fn (.func 40) [] []), (15, .slice .none 3 (eTValue.F a0)), (16, .int .i64 (a0.length : Int)), (17, .int .i64 l1_17), (19, .int .i64 l1_17), (20, .pin (cTValue x5_1))], []⟩ (by decide) (ixR eTValue 34 .none 3 a0 .i64 l1_17 x5_1 (cTValue x5_1) (by kernel_rfl) (by kernel_rfl) hx5_1 (xTValue x5_1)) (by kernel_rfl) ?_
        refine SO.run c0 6 ⟨[(1, .slice .none 3 (eTValue.F a1)), (2, .fn (.func 40) [] []), (7, .int .i64 l1_17), (8, .ptr (.loc 8) 0), (15, .slice .none 3 (eTValue.F a0)), (16, .int .i64 (a0.length : Int)), (17, .int .i64 l1_17)], [(.loc 8, .cells true (cTValue x5_1))]⟩ (by decide) (by kernel_rfl) ?_
        refine SO.done ?_
        refine SC.seq ?_
        refine SC.region 6 rfl ?_
        refine SO.run c0 2 ⟨[(1, .slice .none 3 (eTValue.F a1)), (2, .fn (.func 40) [] []), (8, .ptr (.loc 8) 0), (15, .slice .none 3 (eTValue.F a0)), (16, .int .i64 (a0.length : Int)), (17, .int .i64 l1_17), (22, .slice .none 3 (eTValue.F a1)), (23, .int .i64 l1_17)], [(.loc 8, .cells true (cTValue x5_1))]⟩ (by decide) (by kernel_rfl) ?_
        obtain ⟨x6_2, hx6_2, h⟩ := Opt.ex h
        refine SO.op c0 { v := .pin (cTValue x6_2) } ⟨[(1, .slice .none 3 (eTValue.F a1)), (2, .fn (.func 40) [] []), (8, .ptr (.loc 8) 0), (15, .slice .none 3 (eTValue.F a0)), (16, .int .i64 (a0.length : Int)), (17, .int .i64 l1_17), (24, .pin (cTValue x6_2))], [(.loc 8, .cells true (cTValue x5_1))]⟩ (by decide) (ixR eTValue 34 .none 3 a1 .i64 l1_17 x6_2 (cTValue x6_2) (by kernel_rfl) (by kernel_rfl) hx6_2 (xTValue x6_2)) (by kernel_rfl) ?_
        refine SO.run c0 6 ⟨[(1, .slice .none 3 (eTValue.F a1)), (2, .fn (.func 40) [] []), (8, .ptr (.loc 8) 0), (9, .ptr (.loc 9) 0), (15, .slice .none 3 (eTValue.F a0)), (16, .int .i64 (a0.length : Int)), (17, .int .i64 l1_17)], [(.loc 8, .cells true (cTValue x5_1)), (.loc 9, .cells true (cTValue x6_2))]⟩ (by decide) (by kernel_rfl) ?_
        refine SO.done ?_
        refine SC.seq ?_
        refine SC.region 5 rfl ?_
        refine SO.run c0 3 ⟨[(1, .slice .none 3 (eTValue.F a1)), (2, .fn (.func 40) [] []), (15, .slice .none 3 (eTValue.F a0)), (16, .int .i64 (a0.length : Int)), (17, .int .i64 l1_17), (26, .fn (.func 40) [] []), (27, .agg (cTValue x5_1)), (28, .agg (cTValue x6_2))], []⟩ (by decide) (by kernel_rfl) ?_
        obtain ⟨x7_3, hx7_3, h⟩ := Opt.ex h
        refine SO.call ⟨40, [.agg (cTValue x5_1), .agg (cTValue x6_2)], [], [], some 29⟩ ⟨[(1, .slice .none 3 (eTValue.F a1)), (2, .fn (.func 40) [] []), (15, .slice .none 3 (eTValue.F a0)), (16, .int .i64 (a0.length : Int)), (17, .int .i64 l1_17), (29, .bool x7_3)], []⟩ (by decide) (by kernel_rfl) (ih_val_Same x5_1 x6_2 x7_3 hx7_3) (by kernel_rfl) ?_
        refine SO.run c0 5 ⟨[(1, .slice .none 3 (eTValue.F a1)), (2, .fn (.func 40) [] []), (15, .slice .none 3 (eTValue.F a0)), (16, .int .i64 (a0.length : Int)), (17, .int .i64 l1_17), (30, .bool (!x7_3))], []⟩ (by decide) (by kernel_rfl) ?_
        refine SO.done ?_
        refine SC.cond (!x7_3) (by kernel_rfl) (fun ht => ?_) (fun ht => ?_)
        · replace h := Opt.t h ht
          refine SC.seq ?_
          refine SC.region 1 rfl ?_
          refine SO.run c0 1 ⟨[(6, .bool false)], []⟩ (by decide) (by kernel_rfl) ?_
          refine SO.done ?_
          refine SC.ret ?_
          replace h := Option.some.inj h
          subst h
          refine ⟨_, rfl, ?_⟩
          exact ⟨[.bool false], by kernel_rfl, Wk.eq (by kernel_rfl), trivial, by kernel_rfl⟩
        · replace h := Opt.f h ht
          refine SC.skip ?_
          refine SC.region 2 rfl ?_
          refine SO.run c0 2 ⟨[(1, .slice .none 3 (eTValue.F a1)), (2, .fn (.func 40) [] []), (15, .slice .none 3 (eTValue.F a0)), (16, .int .i64 (a0.length : Int)), (17, .int .i64 (IntKind.i64.wrap (l1_17 + 1)))], []⟩ (by decide) (by kernel_rfl) ?_
          refine SO.done ?_
          replace h := Option.some.inj h
          subst h
          exact ⟨(IntKind.i64.wrap (l1_17 + 1)), rfl, rfl⟩
      · replace h := Opt.f h ht
        refine SC.weak (S1 := ⟨[], []⟩) ?_ ?_
        · exact ⟨trivial, trivial, by kernel_rfl⟩
        refine SC.exit ?_
        obtain ⟨r1, hh, e1⟩ := Opt.inr h
        clear h
        subst e1
        have h := hh
        clear hh
        refine ⟨_, rfl, ?_⟩
        exact ⟨(), rfl, h⟩
theorem all_val_Same : ∀ k, C_val_Same k ∧ C_slices_EqualFunc_Value_val_Same k
  | 0 => ⟨(by intro a0 a1 r h; rw [val_Same] at h; cases h), (by intro a0 a1 r h; rw [slices_EqualFunc_Value_val_Same] at h; cases h)⟩
  | k + 1 => by
    obtain ⟨h0, h1⟩ := all_val_Same k
    exact ⟨st_val_Same k h1, st_slices_EqualFunc_Value_val_Same k h0⟩
theorem ok_val_Same (k : Nat) (a0 : TValue) (a1 : TValue) (r : Bool) (h : val_Same k a0 a1 = some r) :
    SF Z 40 [.agg (cTValue a0), .agg (cTValue a1)] [] (.bool r) [] := (all_val_Same k).1 a0 a1 r h
theorem ok_slices_EqualFunc_Value_val_Same (k : Nat) (a0 : List TValue) (a1 : List TValue) (r : Bool) (h : slices_EqualFunc_Value_val_Same k a0 a1 = some r) :
    SF Z 39 [.slice .none 3 (eTValue.F a0), .slice .none 3 (eTValue.F a1), .fn (.func 40) [] []] [] (.bool r) [] := (all_val_Same k).2 a0 a1 r h
theorem ok_sweep_same (k : Nat) (a0 : TOutcome) (a1 : TOutcome) (r : Bool) (h : sweep_same k a0 a1 = some r) :
    SF Z 32 [.agg [.int .i64 a0.Kind, .int .i64 a0.Trap, .int .i64 a0.At, .slice .none 3 (eTValue.F a0.Log), .slice .none 3 (eTValue.F a0.State)], .agg [.int .i64 a1.Kind, .int .i64 a1.Trap, .int .i64 a1.At, .slice .none 3 (eTValue.F a1.Log), .slice .none 3 (eTValue.F a1.State)]] [] (.bool r) [] := by
  unfold sweep_same at h
  refine SF.intro Try.func32 rfl Try.ntmps32 rfl (Nat.le_of_ble_eq_true rfl) (by decide) ?_
  refine SC.seq ?_
  refine SC.region 3 rfl ?_
  refine SO.run c0 3 ⟨[(2, .ptr (.loc 2) 0), (3, .ptr (.loc 3) 0)], [(.loc 2, .cells true [.int .i64 a0.Kind, .int .i64 a0.Trap, .int .i64 a0.At, .slice .none 3 (eTValue.F a0.Log), .slice .none 3 (eTValue.F a0.State)]), (.loc 3, .cells true [.int .i64 a1.Kind, .int .i64 a1.Trap, .int .i64 a1.At, .slice .none 3 (eTValue.F a1.Log), .slice .none 3 (eTValue.F a1.State)])]⟩ (by decide) (by kernel_rfl) ?_
  refine SO.done ?_
  refine SC.seq ?_
  refine SC.region 34 rfl ?_
  refine SO.run c0 6 ⟨[(2, .ptr (.loc 2) 0), (3, .ptr (.loc 3) 0), (10, .bool (a0.Kind == a1.Kind))], [(.loc 2, .cells true [.int .i64 a0.Kind, .int .i64 a0.Trap, .int .i64 a0.At, .slice .none 3 (eTValue.F a0.Log), .slice .none 3 (eTValue.F a0.State)]), (.loc 3, .cells true [.int .i64 a1.Kind, .int .i64 a1.Trap, .int .i64 a1.At, .slice .none 3 (eTValue.F a1.Log), .slice .none 3 (eTValue.F a1.State)])]⟩ (by decide) (by kernel_rfl) ?_
  refine SO.runB c0 12 (a0.Kind == a1.Kind) (fun b => ⟨[(2, .ptr (.loc 2) 0), (3, .ptr (.loc 3) 0), (10, .bool b)], [(.loc 2, .cells true [.int .i64 a0.Kind, .int .i64 a0.Trap, .int .i64 a0.At, .slice .none 3 (eTValue.F a0.Log), .slice .none 3 (eTValue.F a0.State)]), (.loc 3, .cells true [.int .i64 a1.Kind, .int .i64 a1.Trap, .int .i64 a1.At, .slice .none 3 (eTValue.F a1.Log), .slice .none 3 (eTValue.F a1.State)])]⟩) (fun b => ⟨[(2, .ptr (.loc 2) 0), (3, .ptr (.loc 3) 0), (16, .bool (b && (a0.Trap == a1.Trap)))], [(.loc 2, .cells true [.int .i64 a0.Kind, .int .i64 a0.Trap, .int .i64 a0.At, .slice .none 3 (eTValue.F a0.Log), .slice .none 3 (eTValue.F a0.State)]), (.loc 3, .cells true [.int .i64 a1.Kind, .int .i64 a1.Trap, .int .i64 a1.At, .slice .none 3 (eTValue.F a1.Log), .slice .none 3 (eTValue.F a1.State)])]⟩) (by decide) (by kernel_rfl) (by kernel_rfl) ?_
  refine SO.run c0 13 ⟨[(2, .ptr (.loc 2) 0), (3, .ptr (.loc 3) 0), (17, .bool ((a0.Kind == a1.Kind) && (a0.Trap == a1.Trap)))], [(.loc 2, .cells true [.int .i64 a0.Kind, .int .i64 a0.Trap, .int .i64 a0.At, .slice .none 3 (eTValue.F a0.Log), .slice .none 3 (eTValue.F a0.State)]), (.loc 3, .cells true [.int .i64 a1.Kind, .int .i64 a1.Trap, .int .i64 a1.At, .slice .none 3 (eTValue.F a1.Log), .slice .none 3 (eTValue.F a1.State)])]⟩ (by decide) (by kernel_rfl) ?_
  refine SO.runB c0 19 ((a0.Kind == a1.Kind) && (a0.Trap == a1.Trap)) (fun b => ⟨[(2, .ptr (.loc 2) 0), (3, .ptr (.loc 3) 0), (17, .bool b)], [(.loc 2, .cells true [.int .i64 a0.Kind, .int .i64 a0.Trap, .int .i64 a0.At, .slice .none 3 (eTValue.F a0.Log), .slice .none 3 (eTValue.F a0.State)]), (.loc 3, .cells true [.int .i64 a1.Kind, .int .i64 a1.Trap, .int .i64 a1.At, .slice .none 3 (eTValue.F a1.Log), .slice .none 3 (eTValue.F a1.State)])]⟩) (fun b => ⟨[(2, .ptr (.loc 2) 0), (3, .ptr (.loc 3) 0), (23, .bool (b && (a0.At == a1.At)))], [(.loc 2, .cells true [.int .i64 a0.Kind, .int .i64 a0.Trap, .int .i64 a0.At, .slice .none 3 (eTValue.F a0.Log), .slice .none 3 (eTValue.F a0.State)]), (.loc 3, .cells true [.int .i64 a1.Kind, .int .i64 a1.Trap, .int .i64 a1.At, .slice .none 3 (eTValue.F a1.Log), .slice .none 3 (eTValue.F a1.State)])]⟩) (by decide) (by kernel_rfl) (by kernel_rfl) ?_
  refine SO.run c0 20 ⟨[(2, .ptr (.loc 2) 0), (3, .ptr (.loc 3) 0), (24, .bool (((a0.Kind == a1.Kind) && (a0.Trap == a1.Trap)) && (a0.At == a1.At)))], [(.loc 2, .cells true [.int .i64 a0.Kind, .int .i64 a0.Trap, .int .i64 a0.At, .slice .none 3 (eTValue.F a0.Log), .slice .none 3 (eTValue.F a0.State)]), (.loc 3, .cells true [.int .i64 a1.Kind, .int .i64 a1.Trap, .int .i64 a1.At, .slice .none 3 (eTValue.F a1.Log), .slice .none 3 (eTValue.F a1.State)])]⟩ (by decide) (by kernel_rfl) ?_
  refine SO.joinK h (fun v : Bool => ⟨[(2, .ptr (.loc 2) 0), (3, .ptr (.loc 3) 0), (30, .bool v)], [(.loc 2, .cells true [.int .i64 a0.Kind, .int .i64 a0.Trap, .int .i64 a0.At, .slice .none 3 (eTValue.F a0.Log), .slice .none 3 (eTValue.F a0.State)]), (.loc 3, .cells true [.int .i64 a1.Kind, .int .i64 a1.Trap, .int .i64 a1.At, .slice .none 3 (eTValue.F a1.Log), .slice .none 3 (eTValue.F a1.State)])]⟩) 26 (by decide) ?_ ?_
  · rintro g1_25_30 h
    refine SO.eqS (S1 := ⟨[(2, .ptr (.loc 2) 0), (3, .ptr (.loc 3) 0), (30, .bool g1_25_30)], [(.loc 2, .cells true [.int .i64 a0.Kind, .int .i64 a0.Trap, .int .i64 a0.At, .slice .none 3 (eTValue.F a0.Log), .slice .none 3 (eTValue.F a0.State)]), (.loc 3, .cells true [.int .i64 a1.Kind, .int .i64 a1.Trap, .int .i64 a1.At, .slice .none 3 (eTValue.F a1.Log), .slice .none 3 (eTValue.F a1.State)])]⟩) rfl ?_
    refine SO.run c0 27 ⟨[(2, .ptr (.loc 2) 0), (3, .ptr (.loc 3) 0), (31, .bool g1_25_30)], [(.loc 2, .cells true [.int .i64 a0.Kind, .int .i64 a0.Trap, .int .i64 a0.At, .slice .none 3 (eTValue.F a0.Log), .slice .none 3 (eTValue.F a0.State)]), (.loc 3, .cells true [.int .i64 a1.Kind, .int .i64 a1.Trap, .int .i64 a1.At, .slice .none 3 (eTValue.F a1.Log), .slice .none 3 (eTValue.F a1.State)])]⟩ (by decide) (by kernel_rfl) ?_
    refine SO.joinK h (fun v : Bool => ⟨[(37, .bool v)], []⟩) 33 (by decide) ?_ ?_
    · rintro g1_32_37 h
      refine SO.eqS (S1 := ⟨[(37, .bool g1_32_37)], []⟩) rfl ?_
      refine SO.run c0 34 ⟨[(4, .bool g1_32_37)], []⟩ (by decide) (by kernel_rfl) ?_
      refine SO.done ?_
      refine SC.ret ?_
      replace h := Option.some.inj h
      subst h
      exact ⟨[.bool g1_32_37], by kernel_rfl, Wk.eq (by kernel_rfl), trivial, by kernel_rfl⟩
    · intro j_g1_32 h
      refine SO.bool g1_25_30 (fun b => ⟨[(2, .ptr (.loc 2) 0), (3, .ptr (.loc 3) 0), (31, .bool b)], [(.loc 2, .cells true [.int .i64 a0.Kind, .int .i64 a0.Trap, .int .i64 a0.At, .slice .none 3 (eTValue.F a0.Log), .slice .none 3 (eTValue.F a0.State)]), (.loc 3, .cells true [.int .i64 a1.Kind, .int .i64 a1.Trap, .int .i64 a1.At, .slice .none 3 (eTValue.F a1.Log), .slice .none 3 (eTValue.F a1.State)])]⟩) (fun ht => ?_) (fun ht => ?_)
      · replace h := Opt.t h ht
        refine SO.run c0 31 ⟨[(31, .bool true), (33, .slice .none 3 (eTValue.F a0.State)), (35, .slice .none 3 (eTValue.F a1.State))], []⟩ (by decide) (by kernel_rfl) ?_
        obtain ⟨x1_31, hx1_31, h⟩ := Opt.ex h
        refine SO.call ⟨39, [.slice .none 3 (eTValue.F a0.State), .slice .none 3 (eTValue.F a1.State), .fn (.func 40) [] []], [], [], some 36⟩ ⟨[(31, .bool true), (36, .bool x1_31)], []⟩ (by decide) (by kernel_rfl) (ok_slices_EqualFunc_Value_val_Same k a0.State a1.State x1_31 hx1_31) (by kernel_rfl) ?_
        refine SO.run c0 33 ⟨[(37, .bool x1_31)], []⟩ (by decide) (by kernel_rfl) ?_
        exact SO.done ⟨x1_31, rfl, h⟩
      · replace h := Opt.f h ht
        refine SO.run c0 33 ⟨[(37, .bool false)], []⟩ (by decide) (by kernel_rfl) ?_
        exact SO.done ⟨false, rfl, h⟩
  · intro j_g1_25 h
    refine SO.bool (((a0.Kind == a1.Kind) && (a0.Trap == a1.Trap)) && (a0.At == a1.At)) (fun b => ⟨[(2, .ptr (.loc 2) 0), (3, .ptr (.loc 3) 0), (24, .bool b)], [(.loc 2, .cells true [.int .i64 a0.Kind, .int .i64 a0.Trap, .int .i64 a0.At, .slice .none 3 (eTValue.F a0.Log), .slice .none 3 (eTValue.F a0.State)]), (.loc 3, .cells true [.int .i64 a1.Kind, .int .i64 a1.Trap, .int .i64 a1.At, .slice .none 3 (eTValue.F a1.Log), .slice .none 3 (eTValue.F a1.State)])]⟩) (fun ht => ?_) (fun ht => ?_)
    · replace h := Opt.t h ht
      refine SO.run c0 24 ⟨[(2, .ptr (.loc 2) 0), (3, .ptr (.loc 3) 0), (24, .bool true), (26, .slice .none 3 (eTValue.F a0.Log)), (28, .slice .none 3 (eTValue.F a1.Log))], [(.loc 2, .cells true [.int .i64 a0.Kind, .int .i64 a0.Trap, .int .i64 a0.At, .slice .none 3 (eTValue.F a0.Log), .slice .none 3 (eTValue.F a0.State)]), (.loc 3, .cells true [.int .i64 a1.Kind, .int .i64 a1.Trap, .int .i64 a1.At, .slice .none 3 (eTValue.F a1.Log), .slice .none 3 (eTValue.F a1.State)])]⟩ (by decide) (by kernel_rfl) ?_
      obtain ⟨x1_24, hx1_24, h⟩ := Opt.ex h
      refine SO.call ⟨39, [.slice .none 3 (eTValue.F a0.Log), .slice .none 3 (eTValue.F a1.Log), .fn (.func 40) [] []], [], [], some 29⟩ ⟨[(2, .ptr (.loc 2) 0), (3, .ptr (.loc 3) 0), (24, .bool true), (29, .bool x1_24)], [(.loc 2, .cells true [.int .i64 a0.Kind, .int .i64 a0.Trap, .int .i64 a0.At, .slice .none 3 (eTValue.F a0.Log), .slice .none 3 (eTValue.F a0.State)]), (.loc 3, .cells true [.int .i64 a1.Kind, .int .i64 a1.Trap, .int .i64 a1.At, .slice .none 3 (eTValue.F a1.Log), .slice .none 3 (eTValue.F a1.State)])]⟩ (by decide) (by kernel_rfl) (ok_slices_EqualFunc_Value_val_Same k a0.Log a1.Log x1_24 hx1_24) (by kernel_rfl) ?_
      refine SO.run c0 26 ⟨[(2, .ptr (.loc 2) 0), (3, .ptr (.loc 3) 0), (30, .bool x1_24)], [(.loc 2, .cells true [.int .i64 a0.Kind, .int .i64 a0.Trap, .int .i64 a0.At, .slice .none 3 (eTValue.F a0.Log), .slice .none 3 (eTValue.F a0.State)]), (.loc 3, .cells true [.int .i64 a1.Kind, .int .i64 a1.Trap, .int .i64 a1.At, .slice .none 3 (eTValue.F a1.Log), .slice .none 3 (eTValue.F a1.State)])]⟩ (by decide) (by kernel_rfl) ?_
      exact SO.done ⟨x1_24, rfl, h⟩
    · replace h := Opt.f h ht
      refine SO.run c0 26 ⟨[(2, .ptr (.loc 2) 0), (3, .ptr (.loc 3) 0), (30, .bool false)], [(.loc 2, .cells true [.int .i64 a0.Kind, .int .i64 a0.Trap, .int .i64 a0.At, .slice .none 3 (eTValue.F a0.Log), .slice .none 3 (eTValue.F a0.State)]), (.loc 3, .cells true [.int .i64 a1.Kind, .int .i64 a1.Trap, .int .i64 a1.At, .slice .none 3 (eTValue.F a1.Log), .slice .none 3 (eTValue.F a1.State)])]⟩ (by decide) (by kernel_rfl) ?_
      exact SO.done ⟨false, rfl, h⟩
theorem ok_sweep_Settled (k : Nat) (a0 : List Tsweep_Count) (r : Bool) (h : sweep_Settled k a0 = some r) :
    SF Z 15 [.slice .none 6 (eTsweep_Count.F a0)] [] (.bool r) [] := by
  unfold sweep_Settled at h
  refine SF.intro Try.func15 rfl Try.ntmps15 rfl (Nat.le_of_ble_eq_true rfl) (by decide) ?_
  refine SC.seq ?_
  refine SC.region 1 rfl ?_
  refine SO.run c0 1 ⟨[(0, .slice .none 6 (eTsweep_Count.F a0))], []⟩ (by decide) (by kernel_rfl) ?_
  refine SO.done ?_
  refine SC.seq ?_
  refine SC.region 1 rfl ?_
  refine SO.run c0 1 ⟨[(0, .slice .none 6 (eTsweep_Count.F a0)), (3, .nilp)], []⟩ (by decide) (by kernel_rfl) ?_
  refine SO.done ?_
  apply SC.seqJ (r := r) h (fun v : Unit => ⟨[], []⟩)
  · rintro ⟨⟩ r h
    refine SC.eqS (S1 := ⟨[], []⟩) rfl ?_
    refine SC.seq ?_
    refine SC.region 1 rfl ?_
    refine SO.run c0 1 ⟨[(2, .bool true)], []⟩ (by decide) (by kernel_rfl) ?_
    refine SO.done ?_
    refine SC.ret ?_
    replace h := Option.some.inj h
    subst h
    exact ⟨[.bool true], by kernel_rfl, Wk.eq (by kernel_rfl), trivial, by kernel_rfl⟩
  · intro j_j0 h
    refine SC.seq ?_
    refine SC.region 3 rfl ?_
    refine SO.run c0 3 ⟨[(0, .slice .none 6 (eTsweep_Count.F a0)), (3, .nilp), (7, .int .i64 ((a0.length : Int))), (8, .int .i64 0)], []⟩ (by decide) (Eq.trans (b := some ⟨[(0, .slice .none 6 (eTsweep_Count.F a0)), (3, .nilp), (7, .int .i64 (((eTsweep_Count.F a0).length : Int))), (8, .int .i64 0)], []⟩) (by kernel_rfl) (by simp only [LE.len])) ?_
    refine SO.done ?_
    refine SC.block ?_
    refine SC.weak (S1 := ⟨[(0, .slice .none 6 (eTsweep_Count.F a0)), (3, oPin cTOutcome none), (7, .int .i64 (a0.length : Int)), (8, .int .i64 0)], []⟩) ?_ ?_
    · exact ⟨⟨Wk.refl _, Wk.oNil, Wk.refl _, Wk.refl _, trivial⟩, trivial, by kernel_rfl⟩
    apply SC.loopJ (r := r) h (fun v : Option TOutcome × Int => ⟨[(0, .slice .none 6 (eTsweep_Count.F a0)), (3, oPin cTOutcome v.1), (7, .int .i64 (a0.length : Int)), (8, .int .i64 v.2)], []⟩)
    rintro ⟨l1_3, l1_8⟩ r h
    refine SC.eqS (S1 := ⟨[(0, .slice .none 6 (eTsweep_Count.F a0)), (3, oPin cTOutcome l1_3), (7, .int .i64 (a0.length : Int)), (8, .int .i64 l1_8)], []⟩) rfl ?_
    refine SC.seq ?_
    refine SC.region 1 rfl ?_
    refine SO.run c0 1 ⟨[(0, .slice .none 6 (eTsweep_Count.F a0)), (3, oPin cTOutcome l1_3), (7, .int .i64 (a0.length : Int)), (8, .int .i64 l1_8), (9, .bool (decide (l1_8 < (a0.length : Int))))], []⟩ (by decide) (by kernel_rfl) ?_
    refine SO.done ?_
    refine SC.seq ?_
    refine SC.cond (decide (l1_8 < (a0.length : Int))) (by kernel_rfl) (fun ht => ?_) (fun ht => ?_)
    · replace h := Opt.t h ht
      refine SC.skip ?_
      apply SC.seqJ (r := r) h (fun v : Option TOutcome => ⟨[(0, .slice .none 6 (eTsweep_Count.F a0)), (3, oPin cTOutcome v), (7, .int .i64 (a0.length : Int)), (8, .int .i64 l1_8)], []⟩)
      · rintro j2_3 r h
        refine SC.eqS (S1 := ⟨[(0, .slice .none 6 (eTsweep_Count.F a0)), (3, oPin cTOutcome j2_3), (7, .int .i64 (a0.length : Int)), (8, .int .i64 l1_8)], []⟩) rfl ?_
        refine SC.region 2 rfl ?_
        refine SO.run c0 2 ⟨[(0, .slice .none 6 (eTsweep_Count.F a0)), (3, oPin cTOutcome j2_3), (7, .int .i64 (a0.length : Int)), (8, .int .i64 (IntKind.i64.wrap (l1_8 + 1)))], []⟩ (by decide) (by kernel_rfl) ?_
        refine SO.done ?_
        replace h := Option.some.inj h
        subst h
        exact ⟨(j2_3, (IntKind.i64.wrap (l1_8 + 1))), rfl, rfl⟩
      · intro j_j2 h
        refine SC.block ?_
        refine SC.seq ?_
        refine SC.region 2 rfl ?_
        refine SO.run c0 2 ⟨[(0, .slice .none 6 (eTsweep_Count.F a0)), (3, oPin cTOutcome l1_3), (4, .int .i64 l1_8), (7, .int .i64 (a0.length : Int)), (8, .int .i64 l1_8)], []⟩ (by decide) (by kernel_rfl) ?_
        refine SO.done ?_
        refine SC.seq ?_
        refine SC.region 5 rfl ?_
        refine SO.run c0 2 ⟨[(0, .slice .none 6 (eTsweep_Count.F a0)), (3, oPin cTOutcome l1_3), (7, .int .i64 (a0.length : Int)), (8, .int .i64 l1_8), (11, .slice .none 6 (eTsweep_Count.F a0)), (12, .int .i64 l1_8)], []⟩ (by decide) (by kernel_rfl) ?_
        obtain ⟨x5_2, hx5_2, h⟩ := Opt.ex h
        refine SO.op c0 { v := .pin (cTsweep_Count x5_2) } ⟨[(0, .slice .none 6 (eTsweep_Count.F a0)), (3, oPin cTOutcome l1_3), (7, .int .i64 (a0.length : Int)), (8, .int .i64 l1_8), (13, .pin (cTsweep_Count x5_2))], []⟩ (by decide) (ixR eTsweep_Count 33 .none 6 a0 .i64 l1_8 x5_2 (cTsweep_Count x5_2) (by kernel_rfl) (by kernel_rfl) hx5_2 (xTsweep_Count x5_2)) (by kernel_rfl) ?_
        refine SO.run c0 5 ⟨[(0, .slice .none 6 (eTsweep_Count.F a0)), (3, oPin cTOutcome l1_3), (5, .pin [.int .i64 x5_2.Out.Kind, .int .i64 x5_2.Out.Trap, .int .i64 x5_2.Out.At, .slice .none 3 (eTValue.F x5_2.Out.Log), .slice .none 3 (eTValue.F x5_2.Out.State), .int .i64 x5_2.Times]), (7, .int .i64 (a0.length : Int)), (8, .int .i64 l1_8)], []⟩ (by decide) (by kernel_rfl) ?_
        refine SO.done ?_
        refine SC.block ?_
        refine SC.seq ?_
        refine SC.region 6 rfl ?_
        refine SO.run c0 6 ⟨[(0, .slice .none 6 (eTsweep_Count.F a0)), (3, oPin cTOutcome l1_3), (5, .pin [.int .i64 x5_2.Out.Kind, .int .i64 x5_2.Out.Trap, .int .i64 x5_2.Out.At, .slice .none 3 (eTValue.F x5_2.Out.Log), .slice .none 3 (eTValue.F x5_2.Out.State), .int .i64 x5_2.Times]), (7, .int .i64 (a0.length : Int)), (8, .int .i64 l1_8), (15, .bool (x5_2.Out.Kind == 4))], []⟩ (by decide) (by kernel_rfl) ?_
        refine SO.done ?_
        refine SC.cond (x5_2.Out.Kind == 4) (by kernel_rfl) (fun ht => ?_) (fun ht => ?_)
        · replace h := Opt.t h ht
          refine SC.seq ?_
          refine SC.region 1 rfl ?_
          refine SO.run c0 1 ⟨[(2, .bool false)], []⟩ (by decide) (by kernel_rfl) ?_
          refine SO.done ?_
          refine SC.ret ?_
          replace h := Option.some.inj h
          subst h
          refine ⟨_, rfl, ?_⟩
          exact ⟨[.bool false], by kernel_rfl, Wk.eq (by kernel_rfl), trivial, by kernel_rfl⟩
        · replace h := Opt.f h ht
          refine SC.seq ?_
          refine SC.region 13 rfl ?_
          refine SO.run c0 6 ⟨[(0, .slice .none 6 (eTsweep_Count.F a0)), (3, oPin cTOutcome l1_3), (5, .pin [.int .i64 x5_2.Out.Kind, .int .i64 x5_2.Out.Trap, .int .i64 x5_2.Out.At, .slice .none 3 (eTValue.F x5_2.Out.Log), .slice .none 3 (eTValue.F x5_2.Out.State), .int .i64 x5_2.Times]), (7, .int .i64 (a0.length : Int)), (8, .int .i64 l1_8), (27, .bool (decide (x5_2.Out.Kind > 1)))], []⟩ (by decide) (by kernel_rfl) ?_
          refine SO.runB c0 12 (decide (x5_2.Out.Kind > 1)) (fun b => ⟨[(0, .slice .none 6 (eTsweep_Count.F a0)), (3, oPin cTOutcome l1_3), (5, .pin [.int .i64 x5_2.Out.Kind, .int .i64 x5_2.Out.Trap, .int .i64 x5_2.Out.At, .slice .none 3 (eTValue.F x5_2.Out.Log), .slice .none 3 (eTValue.F x5_2.Out.State), .int .i64 x5_2.Times]), (7, .int .i64 (a0.length : Int)), (8, .int .i64 l1_8), (27, .bool b)], []⟩) (fun b => ⟨[(0, .slice .none 6 (eTsweep_Count.F a0)), (3, oPin cTOutcome l1_3), (5, .pin [.int .i64 x5_2.Out.Kind, .int .i64 x5_2.Out.Trap, .int .i64 x5_2.Out.At, .slice .none 3 (eTValue.F x5_2.Out.Log), .slice .none 3 (eTValue.F x5_2.Out.State), .int .i64 x5_2.Times]), (7, .int .i64 (a0.length : Int)), (8, .int .i64 l1_8), (33, .bool (b || (decide (x5_2.Out.Kind < 0))))], []⟩) (by decide) (by kernel_rfl) (by kernel_rfl) ?_
          refine SO.run c0 13 ⟨[(0, .slice .none 6 (eTsweep_Count.F a0)), (3, oPin cTOutcome l1_3), (5, .pin [.int .i64 x5_2.Out.Kind, .int .i64 x5_2.Out.Trap, .int .i64 x5_2.Out.At, .slice .none 3 (eTValue.F x5_2.Out.Log), .slice .none 3 (eTValue.F x5_2.Out.State), .int .i64 x5_2.Times]), (7, .int .i64 (a0.length : Int)), (8, .int .i64 l1_8), (21, .bool ((decide (x5_2.Out.Kind > 1)) || (decide (x5_2.Out.Kind < 0))))], []⟩ (by decide) (by kernel_rfl) ?_
          refine SO.done ?_
          refine SC.cond ((decide (x5_2.Out.Kind > 1)) || (decide (x5_2.Out.Kind < 0))) (by kernel_rfl) (fun ht => ?_) (fun ht => ?_)
          · replace h := Opt.t h ht
            refine SC.weak (S1 := ⟨[(0, .slice .none 6 (eTsweep_Count.F a0)), (3, oPin cTOutcome l1_3), (7, .int .i64 (a0.length : Int)), (8, .int .i64 l1_8)], []⟩) ?_ ?_
            · exact ⟨⟨Wk.refl _, Wk.refl _, Wk.refl _, Wk.refl _, trivial⟩, trivial, by kernel_rfl⟩
            refine SC.skip ?_
            exact ⟨l1_3, rfl, h⟩
          · replace h := Opt.f h ht
            refine SC.seq ?_
            refine SC.region 3 rfl ?_
            refine SO.run c0 1 ⟨[(0, .slice .none 6 (eTsweep_Count.F a0)), (3, oPin cTOutcome l1_3), (5, .pin [.int .i64 x5_2.Out.Kind, .int .i64 x5_2.Out.Trap, .int .i64 x5_2.Out.At, .slice .none 3 (eTValue.F x5_2.Out.Log), .slice .none 3 (eTValue.F x5_2.Out.State), .int .i64 x5_2.Times]), (7, .int .i64 (a0.length : Int)), (8, .int .i64 l1_8), (35, oPin cTOutcome l1_3)], []⟩ (by decide) (by kernel_rfl) ?_
            rcases l1_3 with _ | p9_l1_3
            · refine SO.run c0 3 ⟨[(0, .slice .none 6 (eTsweep_Count.F a0)), (3, .nilp), (5, .pin [.int .i64 x5_2.Out.Kind, .int .i64 x5_2.Out.Trap, .int .i64 x5_2.Out.At, .slice .none 3 (eTValue.F x5_2.Out.Log), .slice .none 3 (eTValue.F x5_2.Out.State), .int .i64 x5_2.Times]), (7, .int .i64 (a0.length : Int)), (8, .int .i64 l1_8), (34, .bool true)], []⟩ (by decide) (by kernel_rfl) ?_
              refine SO.done ?_
              refine SC.cond true (by kernel_rfl) (fun _ => ?_) (fun h => by cases h)
              refine SC.region 2 rfl ?_
              refine SO.run c0 2 ⟨[(0, .slice .none 6 (eTsweep_Count.F a0)), (3, .pin [.int .i64 x5_2.Out.Kind, .int .i64 x5_2.Out.Trap, .int .i64 x5_2.Out.At, .slice .none 3 (eTValue.F x5_2.Out.Log), .slice .none 3 (eTValue.F x5_2.Out.State), .int .i64 x5_2.Times]), (7, .int .i64 (a0.length : Int)), (8, .int .i64 l1_8)], []⟩ (by decide) (by kernel_rfl) ?_
              refine SO.weak (S1 := ⟨[(0, .slice .none 6 (eTsweep_Count.F a0)), (3, oPin cTOutcome (some x5_2.Out)), (7, .int .i64 (a0.length : Int)), (8, .int .i64 l1_8)], []⟩) ?_ ?_
              · exact ⟨⟨Wk.refl _, Wk.oPin (t := [.int .i64 x5_2.Times]) rfl, Wk.refl _, Wk.refl _, trivial⟩, trivial, by kernel_rfl⟩
              refine SO.done ?_
              exact ⟨(some x5_2.Out), rfl, h⟩
            · refine SO.run c0 3 ⟨[(0, .slice .none 6 (eTsweep_Count.F a0)), (3, .pin (cTOutcome p9_l1_3)), (5, .pin [.int .i64 x5_2.Out.Kind, .int .i64 x5_2.Out.Trap, .int .i64 x5_2.Out.At, .slice .none 3 (eTValue.F x5_2.Out.Log), .slice .none 3 (eTValue.F x5_2.Out.State), .int .i64 x5_2.Times]), (7, .int .i64 (a0.length : Int)), (8, .int .i64 l1_8), (34, .bool false)], []⟩ (by decide) (by kernel_rfl) ?_
              refine SO.done ?_
              refine SC.cond false (by kernel_rfl) (fun h => by cases h) (fun _ => ?_)
              refine SC.seq ?_
              refine SC.drawS 9 rfl (by kernel_rfl) ?_
              refine QD.run 6 ⟨[(0, .slice .none 6 (eTsweep_Count.F a0)), (3, .pin (cTOutcome p9_l1_3)), (5, .pin [.int .i64 x5_2.Out.Kind, .int .i64 x5_2.Out.Trap, .int .i64 x5_2.Out.At, .slice .none 3 (eTValue.F x5_2.Out.Log), .slice .none 3 (eTValue.F x5_2.Out.State), .int .i64 x5_2.Times]), (7, .int .i64 (a0.length : Int)), (8, .int .i64 l1_8), (34, .bool false), (39, .pin (cTOutcome p9_l1_3)), (40, .pin (cTOutcome p9_l1_3)), (41, .agg (cTOutcome p9_l1_3)), (42, .pin [.int .i64 x5_2.Out.Kind, .int .i64 x5_2.Out.Trap, .int .i64 x5_2.Out.At, .slice .none 3 (eTValue.F x5_2.Out.Log), .slice .none 3 (eTValue.F x5_2.Out.State), .int .i64 x5_2.Times]), (43, .pin [.int .i64 x5_2.Out.Kind, .int .i64 x5_2.Out.Trap, .int .i64 x5_2.Out.At, .slice .none 3 (eTValue.F x5_2.Out.Log), .slice .none 3 (eTValue.F x5_2.Out.State), .int .i64 x5_2.Times]), (44, .agg (cTOutcome x5_2.Out))], []⟩ (by decide) (by kernel_rfl) ?_
              obtain ⟨x11_6, hx11_6, h⟩ := Opt.ex h
              refine QD.callT ⟨32, [.agg (cTOutcome p9_l1_3), .agg (cTOutcome x5_2.Out)], [], [], some 45⟩ ⟨[(0, .slice .none 6 (eTsweep_Count.F a0)), (3, .pin (cTOutcome p9_l1_3)), (5, .pin [.int .i64 x5_2.Out.Kind, .int .i64 x5_2.Out.Trap, .int .i64 x5_2.Out.At, .slice .none 3 (eTValue.F x5_2.Out.Log), .slice .none 3 (eTValue.F x5_2.Out.State), .int .i64 x5_2.Times]), (7, .int .i64 (a0.length : Int)), (8, .int .i64 l1_8), (34, .bool false), (39, .pin (cTOutcome p9_l1_3)), (40, .pin (cTOutcome p9_l1_3)), (41, .agg (cTOutcome p9_l1_3)), (42, .pin [.int .i64 x5_2.Out.Kind, .int .i64 x5_2.Out.Trap, .int .i64 x5_2.Out.At, .slice .none 3 (eTValue.F x5_2.Out.Log), .slice .none 3 (eTValue.F x5_2.Out.State), .int .i64 x5_2.Times]), (43, .pin [.int .i64 x5_2.Out.Kind, .int .i64 x5_2.Out.Trap, .int .i64 x5_2.Out.At, .slice .none 3 (eTValue.F x5_2.Out.Log), .slice .none 3 (eTValue.F x5_2.Out.State), .int .i64 x5_2.Times]), (44, .agg (cTOutcome x5_2.Out)), (45, .bool x11_6)], []⟩ (by decide) (by kernel_rfl) (ok_sweep_same k p9_l1_3 x5_2.Out x11_6 hx11_6) (by kernel_rfl) (by kernel_rfl) (by kernel_rfl) ?_
              refine QD.run 9 ⟨[(0, .slice .none 6 (eTsweep_Count.F a0)), (3, .pin (cTOutcome p9_l1_3)), (5, .pin [.int .i64 x5_2.Out.Kind, .int .i64 x5_2.Out.Trap, .int .i64 x5_2.Out.At, .slice .none 3 (eTValue.F x5_2.Out.Log), .slice .none 3 (eTValue.F x5_2.Out.State), .int .i64 x5_2.Times]), (7, .int .i64 (a0.length : Int)), (8, .int .i64 l1_8), (34, .bool false), (38, .bool (!x11_6)), (39, .pin (cTOutcome p9_l1_3)), (40, .pin (cTOutcome p9_l1_3)), (41, .agg (cTOutcome p9_l1_3)), (42, .pin [.int .i64 x5_2.Out.Kind, .int .i64 x5_2.Out.Trap, .int .i64 x5_2.Out.At, .slice .none 3 (eTValue.F x5_2.Out.Log), .slice .none 3 (eTValue.F x5_2.Out.State), .int .i64 x5_2.Times]), (43, .pin [.int .i64 x5_2.Out.Kind, .int .i64 x5_2.Out.Trap, .int .i64 x5_2.Out.At, .slice .none 3 (eTValue.F x5_2.Out.Log), .slice .none 3 (eTValue.F x5_2.Out.State), .int .i64 x5_2.Times]), (44, .agg (cTOutcome x5_2.Out)), (45, .bool x11_6), (46, .bool (!x11_6))], []⟩ (by decide) (by kernel_rfl) ?_
              refine QD.fin ⟨[(0, .slice .none 6 (eTsweep_Count.F a0)), (3, .pin (cTOutcome p9_l1_3)), (7, .int .i64 (a0.length : Int)), (8, .int .i64 l1_8), (38, .bool (!x11_6))], []⟩ (by kernel_rfl) ?_
              refine SC.cond (!x11_6) (by kernel_rfl) (fun ht => ?_) (fun ht => ?_)
              · replace h := Opt.t h ht
                refine SC.seq ?_
                refine SC.region 1 rfl ?_
                refine SO.run c0 1 ⟨[(2, .bool false)], []⟩ (by decide) (by kernel_rfl) ?_
                refine SO.done ?_
                refine SC.ret ?_
                replace h := Option.some.inj h
                subst h
                refine ⟨_, rfl, ?_⟩
                exact ⟨[.bool false], by kernel_rfl, Wk.eq (by kernel_rfl), trivial, by kernel_rfl⟩
              · replace h := Opt.f h ht
                refine SC.weak (S1 := ⟨[(0, .slice .none 6 (eTsweep_Count.F a0)), (3, oPin cTOutcome (some p9_l1_3)), (7, .int .i64 (a0.length : Int)), (8, .int .i64 l1_8)], []⟩) ?_ ?_
                · exact ⟨⟨Wk.refl _, Wk.oPin (t := []) rfl, Wk.refl _, Wk.refl _, trivial⟩, trivial, by kernel_rfl⟩
                refine SC.skip ?_
                exact ⟨(some p9_l1_3), rfl, h⟩
    · replace h := Opt.f h ht
      refine SC.weak (S1 := ⟨[], []⟩) ?_ ?_
      · exact ⟨trivial, trivial, by kernel_rfl⟩
      refine SC.exit ?_
      obtain ⟨r1, hh, e1⟩ := Opt.inr h
      clear h
      subst e1
      have h := hh
      clear hh
      refine ⟨_, rfl, ?_⟩
      exact ⟨(), rfl, h⟩
theorem ok_law47_works (k : Nat) (r : Bool) (h : law47_works k = some r) :
    SF Z 11 [] [] (.bool r) [] := by
  unfold law47_works at h
  refine SF.intro Try.func11 rfl Try.ntmps11 rfl (Nat.le_of_ble_eq_true rfl) (by decide) ?_
  refine SC.seq ?_
  refine SC.region 1 rfl ?_
  refine SO.run c0 1 ⟨[], []⟩ (by decide) (by kernel_rfl) ?_
  refine SO.done ?_
  refine SC.seq ?_
  refine SC.region 2 rfl ?_
  obtain ⟨x1_0, hx1_0, h⟩ := Opt.ex h
  refine SO.call ⟨12, [.int .i64 2, .int .i64 2], [], [], some 2⟩ ⟨[(2, .slice .none 1 (eL_eTPick.F x1_0))], []⟩ (by decide) (by kernel_rfl) (ok_sweep_All k 2 2 x1_0 hx1_0) (by kernel_rfl) ?_
  refine SO.run c0 2 ⟨[(1, .slice .none 1 (eL_eTPick.F x1_0))], []⟩ (by decide) (by kernel_rfl) ?_
  refine SO.done ?_
  refine SC.seq ?_
  refine SC.region 39 rfl ?_
  refine SO.run c0 4 ⟨[(1, .slice .none 1 (eL_eTPick.F x1_0)), (6, .bool (((x1_0.length : Int)) == 4))], []⟩ (by decide) (Eq.trans (b := some ⟨[(1, .slice .none 1 (eL_eTPick.F x1_0)), (6, .bool ((((eL_eTPick.F x1_0).length : Int)) == 4))], []⟩) (by kernel_rfl) (by simp only [LE.len])) ?_
  refine SO.joinK h (fun v : Bool => ⟨[(1, .slice .none 1 (eL_eTPick.F x1_0)), (12, .bool v)], []⟩) 10 (by decide) ?_ ?_
  · rintro g2_9_12 h
    refine SO.eqS (S1 := ⟨[(1, .slice .none 1 (eL_eTPick.F x1_0)), (12, .bool g2_9_12)], []⟩) rfl ?_
    refine SO.run c0 11 ⟨[(1, .slice .none 1 (eL_eTPick.F x1_0)), (13, .bool g2_9_12)], []⟩ (by decide) (by kernel_rfl) ?_
    refine SO.joinK h (fun v : Bool => ⟨[(1, .slice .none 1 (eL_eTPick.F x1_0)), (21, .bool v)], []⟩) 19 (by decide) ?_ ?_
    · rintro g2_18_21 h
      refine SO.eqS (S1 := ⟨[(1, .slice .none 1 (eL_eTPick.F x1_0)), (21, .bool g2_18_21)], []⟩) rfl ?_
      refine SO.run c0 20 ⟨[(1, .slice .none 1 (eL_eTPick.F x1_0)), (22, .bool g2_18_21)], []⟩ (by decide) (by kernel_rfl) ?_
      refine SO.joinK h (fun v : Bool => ⟨[(30, .bool v)], []⟩) 28 (by decide) ?_ ?_
      · rintro g2_27_30 h
        refine SO.eqS (S1 := ⟨[(30, .bool g2_27_30)], []⟩) rfl ?_
        refine SO.run c0 29 ⟨[(31, .bool g2_27_30)], []⟩ (by decide) (by kernel_rfl) ?_
        refine SO.joinK h (fun v : Bool => ⟨[(33, .bool v)], []⟩) 31 (by decide) ?_ ?_
        · rintro g2_30_33 h
          refine SO.eqS (S1 := ⟨[(33, .bool g2_30_33)], []⟩) rfl ?_
          refine SO.run c0 32 ⟨[(34, .bool g2_30_33)], []⟩ (by decide) (by kernel_rfl) ?_
          refine SO.joinK h (fun v : Bool => ⟨[(40, .bool v)], []⟩) 38 (by decide) ?_ ?_
          · rintro g2_37_40 h
            refine SO.eqS (S1 := ⟨[(40, .bool g2_37_40)], []⟩) rfl ?_
            refine SO.run c0 39 ⟨[(0, .bool g2_37_40)], []⟩ (by decide) (by kernel_rfl) ?_
            refine SO.done ?_
            refine SC.ret ?_
            replace h := Option.some.inj h
            subst h
            exact ⟨[.bool g2_37_40], by kernel_rfl, Wk.eq (by kernel_rfl), trivial, by kernel_rfl⟩
          · intro j_g2_37 h
            refine SO.bool g2_30_33 (fun b => ⟨[(34, .bool b)], []⟩) (fun ht => ?_) (fun ht => ?_)
            · replace h := Opt.t h ht
              refine SO.run c0 34 ⟨[(34, .bool true), (36, .agg [.int .i64 4, .int .i64 0, .int .i64 0, .nils, .nils, .int .i64 0])], []⟩ (by decide) (by kernel_rfl) ?_
              refine SO.weak (S1 := ⟨[(34, .bool true), (36, .agg [.int .i64 4, .int .i64 0, .int .i64 0, .slice .none 3 (eTValue.F []), .slice .none 3 (eTValue.F []), .int .i64 0])], []⟩) ?_ ?_
              · exact ⟨⟨Wk.refl _, Wk.agg (⟨Wk.refl _, Wk.refl _, Wk.refl _, Wk.nils _ _, Wk.nils _ _, Wk.refl _, trivial⟩), trivial⟩, trivial, by kernel_rfl⟩
              refine SO.run c0 35 ⟨[(34, .bool true), (37, .slice .full 6 (eTsweep_Count.F [(Tsweep_Count.mk (TOutcome.mk 4 0 0 [] []) 0)]))], []⟩ (by decide) (by kernel_rfl) ?_
              obtain ⟨x2_35, hx2_35, h⟩ := Opt.ex h
              refine SO.call ⟨15, [.slice .full 6 (eTsweep_Count.F [(Tsweep_Count.mk (TOutcome.mk 4 0 0 [] []) 0)])], [], [], some 38⟩ ⟨[(34, .bool true), (38, .bool x2_35)], []⟩ (by decide) (by kernel_rfl) (SF.weak (ok_sweep_Settled k [(Tsweep_Count.mk (TOutcome.mk 4 0 0 [] []) 0)] x2_35 hx2_35) (⟨Wk.tok _ _ _, trivial⟩) trivial (by kernel_rfl)) (by kernel_rfl) ?_
              refine SO.run c0 38 ⟨[(40, .bool (!x2_35))], []⟩ (by decide) (by kernel_rfl) ?_
              exact SO.done ⟨(!x2_35), rfl, h⟩
            · replace h := Opt.f h ht
              refine SO.run c0 38 ⟨[(40, .bool false)], []⟩ (by decide) (by kernel_rfl) ?_
              exact SO.done ⟨false, rfl, h⟩
        · intro j_g2_30 h
          refine SO.bool g2_27_30 (fun b => ⟨[(31, .bool b)], []⟩) (fun ht => ?_) (fun ht => ?_)
          · replace h := Opt.t h ht
            obtain ⟨x2_29, hx2_29, h⟩ := Opt.ex h
            refine SO.call ⟨15, [.nils], [], [], some 32⟩ ⟨[(31, .bool true), (32, .bool x2_29)], []⟩ (by decide) (by kernel_rfl) (SF.weak (ok_sweep_Settled k [] x2_29 hx2_29) (⟨Wk.nils _ _, trivial⟩) trivial (by kernel_rfl)) (by kernel_rfl) ?_
            refine SO.run c0 31 ⟨[(33, .bool x2_29)], []⟩ (by decide) (by kernel_rfl) ?_
            exact SO.done ⟨x2_29, rfl, h⟩
          · replace h := Opt.f h ht
            refine SO.run c0 31 ⟨[(33, .bool false)], []⟩ (by decide) (by kernel_rfl) ?_
            exact SO.done ⟨false, rfl, h⟩
      · intro j_g2_27 h
        refine SO.bool g2_18_21 (fun b => ⟨[(1, .slice .none 1 (eL_eTPick.F x1_0)), (22, .bool b)], []⟩) (fun ht => ?_) (fun ht => ?_)
        · replace h := Opt.t h ht
          refine SO.run c0 21 ⟨[(22, .bool true), (23, .slice .none 1 (eL_eTPick.F x1_0))], []⟩ (by decide) (by kernel_rfl) ?_
          obtain ⟨x2_21, hx2_21, h⟩ := Opt.ex h
          refine SO.op c0 { v := .pin [.slice .none 3 (eTPick.F x2_21)] } ⟨[(22, .bool true), (24, .pin [.slice .none 3 (eTPick.F x2_21)])], []⟩ (by decide) (ixR eL_eTPick 28 .none 1 x1_0 .i64 2 x2_21 [.slice .none 3 (eTPick.F x2_21)] (by kernel_rfl) (by kernel_rfl) hx2_21 (rfl)) (by kernel_rfl) ?_
          refine SO.run c0 23 ⟨[(22, .bool true), (25, .slice .none 3 (eTPick.F x2_21))], []⟩ (by decide) (by kernel_rfl) ?_
          obtain ⟨x2_23, hx2_23, h⟩ := Opt.ex h
          refine SO.op c0 { v := .pin (cTPick x2_23) } ⟨[(22, .bool true), (26, .pin (cTPick x2_23))], []⟩ (by decide) (ixR eTPick 30 .none 3 x2_21 .i64 1 x2_23 (cTPick x2_23) (by kernel_rfl) (by kernel_rfl) hx2_23 (xTPick x2_23)) (by kernel_rfl) ?_
          refine SO.run c0 28 ⟨[(30, .bool ((x2_23.Pick == 0) && ((x2_23.Slice == 1) && ((x2_23.Gc == true) && true))))], []⟩ (by decide) (by kernel_rfl) ?_
          exact SO.done ⟨((x2_23.Pick == 0) && ((x2_23.Slice == 1) && ((x2_23.Gc == true) && true))), rfl, h⟩
        · replace h := Opt.f h ht
          refine SO.run c0 28 ⟨[(30, .bool false)], []⟩ (by decide) (by kernel_rfl) ?_
          exact SO.done ⟨false, rfl, h⟩
    · intro j_g2_18 h
      refine SO.bool g2_9_12 (fun b => ⟨[(1, .slice .none 1 (eL_eTPick.F x1_0)), (13, .bool b)], []⟩) (fun ht => ?_) (fun ht => ?_)
      · replace h := Opt.t h ht
        refine SO.run c0 12 ⟨[(1, .slice .none 1 (eL_eTPick.F x1_0)), (13, .bool true), (14, .slice .none 1 (eL_eTPick.F x1_0))], []⟩ (by decide) (by kernel_rfl) ?_
        obtain ⟨x2_12, hx2_12, h⟩ := Opt.ex h
        refine SO.op c0 { v := .pin [.slice .none 3 (eTPick.F x2_12)] } ⟨[(1, .slice .none 1 (eL_eTPick.F x1_0)), (13, .bool true), (15, .pin [.slice .none 3 (eTPick.F x2_12)])], []⟩ (by decide) (ixR eL_eTPick 28 .none 1 x1_0 .i64 2 x2_12 [.slice .none 3 (eTPick.F x2_12)] (by kernel_rfl) (by kernel_rfl) hx2_12 (rfl)) (by kernel_rfl) ?_
        refine SO.run c0 14 ⟨[(1, .slice .none 1 (eL_eTPick.F x1_0)), (13, .bool true), (16, .slice .none 3 (eTPick.F x2_12))], []⟩ (by decide) (by kernel_rfl) ?_
        obtain ⟨x2_14, hx2_14, h⟩ := Opt.ex h
        refine SO.op c0 { v := .pin (cTPick x2_14) } ⟨[(1, .slice .none 1 (eL_eTPick.F x1_0)), (13, .bool true), (17, .pin (cTPick x2_14))], []⟩ (by decide) (ixR eTPick 30 .none 3 x2_12 .i64 0 x2_14 (cTPick x2_14) (by kernel_rfl) (by kernel_rfl) hx2_14 (xTPick x2_14)) (by kernel_rfl) ?_
        refine SO.run c0 19 ⟨[(1, .slice .none 1 (eL_eTPick.F x1_0)), (21, .bool ((x2_14.Pick == 1) && ((x2_14.Slice == 1) && ((x2_14.Gc == false) && true))))], []⟩ (by decide) (by kernel_rfl) ?_
        exact SO.done ⟨((x2_14.Pick == 1) && ((x2_14.Slice == 1) && ((x2_14.Gc == false) && true))), rfl, h⟩
      · replace h := Opt.f h ht
        refine SO.run c0 19 ⟨[(1, .slice .none 1 (eL_eTPick.F x1_0)), (21, .bool false)], []⟩ (by decide) (by kernel_rfl) ?_
        exact SO.done ⟨false, rfl, h⟩
  · intro j_g2_9 h
    refine SO.bool (((x1_0.length : Int)) == 4) (fun b => ⟨[(1, .slice .none 1 (eL_eTPick.F x1_0)), (6, .bool b)], []⟩) (fun ht => ?_) (fun ht => ?_)
    · replace h := Opt.t h ht
      refine SO.run c0 5 ⟨[(1, .slice .none 1 (eL_eTPick.F x1_0)), (6, .bool true), (7, .slice .none 1 (eL_eTPick.F x1_0))], []⟩ (by decide) (by kernel_rfl) ?_
      obtain ⟨x2_5, hx2_5, h⟩ := Opt.ex h
      refine SO.op c0 { v := .pin [.slice .none 3 (eTPick.F x2_5)] } ⟨[(1, .slice .none 1 (eL_eTPick.F x1_0)), (6, .bool true), (8, .pin [.slice .none 3 (eTPick.F x2_5)])], []⟩ (by decide) (ixR eL_eTPick 28 .none 1 x1_0 .i64 2 x2_5 [.slice .none 3 (eTPick.F x2_5)] (by kernel_rfl) (by kernel_rfl) hx2_5 (rfl)) (by kernel_rfl) ?_
      refine SO.run c0 10 ⟨[(1, .slice .none 1 (eL_eTPick.F x1_0)), (12, .bool (((x2_5.length : Int)) == 2))], []⟩ (by decide) (Eq.trans (b := some ⟨[(1, .slice .none 1 (eL_eTPick.F x1_0)), (12, .bool ((((eTPick.F x2_5).length : Int)) == 2))], []⟩) (by kernel_rfl) (by simp only [LE.len])) ?_
      exact SO.done ⟨(((x2_5.length : Int)) == 2), rfl, h⟩
    · replace h := Opt.f h ht
      refine SO.run c0 10 ⟨[(1, .slice .none 1 (eL_eTPick.F x1_0)), (12, .bool false)], []⟩ (by decide) (by kernel_rfl) ?_
      exact SO.done ⟨false, rfl, h⟩
def C_ref06_Size (k : Nat) : Prop := ∀ (a0 : TValue) (r : Int), ref06_Size k a0 = some r →
  SF Z 30 [.agg (cTValue a0)] [] (.int .i64 r) []
theorem st_ref06_Size (k : Nat) (ih_ref06_Size : C_ref06_Size k) : C_ref06_Size (k + 1) := by
  intro a0 r h
  rw [ref06_Size] at h
  refine SF.intro Try.func30 rfl Try.ntmps30 rfl (Nat.le_of_ble_eq_true rfl) (by decide) ?_
  refine SC.seq ?_
  refine SC.region 2 rfl ?_
  refine SO.run c0 2 ⟨[(1, .ptr (.loc 1) 0)], [(.loc 1, .cells true (cTValue a0))]⟩ (by decide) (by kernel_rfl) ?_
  refine SO.done ?_
  refine SC.seq ?_
  refine SC.region 1 rfl ?_
  refine SO.run c0 1 ⟨[(1, .ptr (.loc 1) 0), (3, .int .i64 1)], [(.loc 1, .cells true (cTValue a0))]⟩ (by decide) (by kernel_rfl) ?_
  refine SO.done ?_
  apply SC.seqJ (r := r) h (fun v : Int => ⟨[(3, .int .i64 v)], []⟩)
  · rintro j0_3 r h
    refine SC.eqS (S1 := ⟨[(3, .int .i64 j0_3)], []⟩) rfl ?_
    refine SC.seq ?_
    refine SC.region 2 rfl ?_
    refine SO.run c0 2 ⟨[(2, .int .i64 j0_3)], []⟩ (by decide) (by kernel_rfl) ?_
    refine SO.done ?_
    refine SC.ret ?_
    replace h := Option.some.inj h
    subst h
    exact ⟨[.int .i64 j0_3], by kernel_rfl, Wk.eq (by kernel_rfl), trivial, by kernel_rfl⟩
  · intro j_j0 h
    refine SC.seq ?_
    refine SC.region 1 rfl ?_
    refine SO.run c0 1 ⟨[(1, .ptr (.loc 1) 0), (3, .int .i64 1), (4, .int .i64 0)], [(.loc 1, .cells true (cTValue a0))]⟩ (by decide) (by kernel_rfl) ?_
    refine SO.done ?_
    refine SC.block ?_
    apply SC.loopJ (r := r) h (fun v : Int × Int => ⟨[(1, .ptr (.loc 1) 0), (3, .int .i64 v.1), (4, .int .i64 v.2)], [(.loc 1, .cells true (cTValue a0))]⟩)
    rintro ⟨l1_3, l1_4⟩ r h
    refine SC.eqS (S1 := ⟨[(1, .ptr (.loc 1) 0), (3, .int .i64 l1_3), (4, .int .i64 l1_4)], [(.loc 1, .cells true (cTValue a0))]⟩) rfl ?_
    refine SC.seq ?_
    refine SC.seq ?_
    refine SC.region 5 rfl ?_
    refine SO.run c0 5 ⟨[(1, .ptr (.loc 1) 0), (3, .int .i64 l1_3), (4, .int .i64 l1_4), (9, .bool (decide (l1_4 < ((a0.Kids.length : Int)))))], [(.loc 1, .cells true (cTValue a0))]⟩ (by decide) (Eq.trans (b := some ⟨[(1, .ptr (.loc 1) 0), (3, .int .i64 l1_3), (4, .int .i64 l1_4), (9, .bool (decide (l1_4 < (((eTValue.F a0.Kids).length : Int)))))], [(.loc 1, .cells true (cTValue a0))]⟩) (by kernel_rfl) (by simp only [LE.len])) ?_
    refine SO.done ?_
    refine SC.cond (decide (l1_4 < ((a0.Kids.length : Int)))) (by kernel_rfl) (fun ht => ?_) (fun ht => ?_)
    · replace h := Opt.t h ht
      refine SC.skip ?_
      refine SC.seq ?_
      refine SC.block ?_
      refine SC.region 9 rfl ?_
      refine SO.run c0 4 ⟨[(1, .ptr (.loc 1) 0), (4, .int .i64 l1_4), (12, .int .i64 l1_3), (14, .slice .none 3 (eTValue.F a0.Kids)), (15, .int .i64 l1_4)], [(.loc 1, .cells true (cTValue a0))]⟩ (by decide) (by kernel_rfl) ?_
      obtain ⟨x5_4, hx5_4, h⟩ := Opt.ex h
      refine SO.op c0 { v := .pin (cTValue x5_4) } ⟨[(1, .ptr (.loc 1) 0), (4, .int .i64 l1_4), (12, .int .i64 l1_3), (16, .pin (cTValue x5_4))], [(.loc 1, .cells true (cTValue a0))]⟩ (by decide) (ixR eTValue 34 .none 3 a0.Kids .i64 l1_4 x5_4 (cTValue x5_4) (by kernel_rfl) (by kernel_rfl) hx5_4 (xTValue x5_4)) (by kernel_rfl) ?_
      refine SO.run c0 6 ⟨[(1, .ptr (.loc 1) 0), (4, .int .i64 l1_4), (12, .int .i64 l1_3), (17, .agg (cTValue x5_4))], [(.loc 1, .cells true (cTValue a0))]⟩ (by decide) (by kernel_rfl) ?_
      obtain ⟨x5_6, hx5_6, h⟩ := Opt.ex h
      refine SO.call ⟨30, [.agg (cTValue x5_4)], [], [], some 18⟩ ⟨[(1, .ptr (.loc 1) 0), (4, .int .i64 l1_4), (12, .int .i64 l1_3), (18, .int .i64 x5_6)], [(.loc 1, .cells true (cTValue a0))]⟩ (by decide) (by kernel_rfl) (ih_ref06_Size x5_4 x5_6 hx5_6) (by kernel_rfl) ?_
      refine SO.run c0 9 ⟨[(1, .ptr (.loc 1) 0), (3, .int .i64 (IntKind.i64.wrap (l1_3 + x5_6))), (4, .int .i64 l1_4)], [(.loc 1, .cells true (cTValue a0))]⟩ (by decide) (by kernel_rfl) ?_
      refine SO.done ?_
      refine SC.region 3 rfl ?_
      refine SO.run c0 3 ⟨[(1, .ptr (.loc 1) 0), (3, .int .i64 (IntKind.i64.wrap (l1_3 + x5_6))), (4, .int .i64 (IntKind.i64.wrap (l1_4 + 1)))], [(.loc 1, .cells true (cTValue a0))]⟩ (by decide) (by kernel_rfl) ?_
      refine SO.done ?_
      replace h := Option.some.inj h
      subst h
      exact ⟨((IntKind.i64.wrap (l1_3 + x5_6)), (IntKind.i64.wrap (l1_4 + 1))), rfl, rfl⟩
    · replace h := Opt.f h ht
      refine SC.weak (S1 := ⟨[(3, .int .i64 l1_3)], []⟩) ?_ ?_
      · exact ⟨⟨Wk.refl _, trivial⟩, trivial, by kernel_rfl⟩
      refine SC.exit ?_
      obtain ⟨r1, hh, e1⟩ := Opt.inr h
      clear h
      subst e1
      have h := hh
      clear hh
      refine ⟨_, rfl, ?_⟩
      exact ⟨l1_3, rfl, h⟩
theorem all_ref06_Size : ∀ k, C_ref06_Size k
  | 0 => (by intro a0 r h; rw [ref06_Size] at h; cases h)
  | k + 1 => by
    have h0 := all_ref06_Size k
    exact st_ref06_Size k h0
theorem ok_ref06_Size (k : Nat) (a0 : TValue) (r : Int) (h : ref06_Size k a0 = some r) :
    SF Z 30 [.agg (cTValue a0)] [] (.int .i64 r) [] := (all_ref06_Size k) a0 r h
theorem ok_law06_Small (k : Nat) (a0 : TValue) (r : Int) (h : law06_Small k a0 = some r) :
    SF Z 13 [.agg (cTValue a0)] [] (.int .i64 r) [] := by
  unfold law06_Small at h
  refine SF.intro Try.func13 rfl Try.ntmps13 rfl (Nat.le_of_ble_eq_true rfl) (by decide) ?_
  refine SC.seq ?_
  refine SC.region 2 rfl ?_
  refine SO.run c0 2 ⟨[(1, .ptr (.loc 1) 0)], [(.loc 1, .cells true (cTValue a0))]⟩ (by decide) (by kernel_rfl) ?_
  refine SO.done ?_
  refine SC.seq ?_
  refine SC.seq ?_
  refine SC.region 3 rfl ?_
  refine SO.run c0 1 ⟨[(3, .agg (cTValue a0))], []⟩ (by decide) (by kernel_rfl) ?_
  obtain ⟨x1_1, hx1_1, h⟩ := Opt.ex h
  refine SO.call ⟨30, [.agg (cTValue a0)], [], [], some 4⟩ ⟨[(4, .int .i64 x1_1)], []⟩ (by decide) (by kernel_rfl) (ok_ref06_Size k a0 x1_1 hx1_1) (by kernel_rfl) ?_
  refine SO.run c0 3 ⟨[(5, .bool (decide (x1_1 > 300)))], []⟩ (by decide) (by kernel_rfl) ?_
  refine SO.done ?_
  refine SC.cond (decide (x1_1 > 300)) (by kernel_rfl) (fun ht => ?_) (fun ht => ?_)
  · replace h := Opt.t h ht
    refine SC.seq ?_
    refine SC.region 1 rfl ?_
    refine SO.run c0 1 ⟨[(2, .int .i64 0)], []⟩ (by decide) (by kernel_rfl) ?_
    refine SO.done ?_
    refine SC.ret ?_
    replace h := Option.some.inj h
    subst h
    exact ⟨[.int .i64 0], by kernel_rfl, Wk.eq (by kernel_rfl), trivial, by kernel_rfl⟩
  · replace h := Opt.f h ht
    refine SC.skip ?_
    refine SC.seq ?_
    refine SC.region 1 rfl ?_
    refine SO.run c0 1 ⟨[(2, .int .i64 1)], []⟩ (by decide) (by kernel_rfl) ?_
    refine SO.done ?_
    refine SC.ret ?_
    replace h := Option.some.inj h
    subst h
    exact ⟨[.int .i64 1], by kernel_rfl, Wk.eq (by kernel_rfl), trivial, by kernel_rfl⟩
def C_ref06_Same (k : Nat) : Prop := ∀ (a0 : TValue) (a1 : TValue) (r : Bool), ref06_Same k a0 a1 = some r →
  SF Z 38 [.agg (cTValue a0), .agg (cTValue a1)] [] (.bool r) []
def C_ref06_SameAll (k : Nat) : Prop := ∀ (a0 : List TValue) (a1 : List TValue) (r : Bool), ref06_SameAll k a0 a1 = some r →
  SF Z 31 [.slice .none 3 (eTValue.F a0), .slice .none 3 (eTValue.F a1)] [] (.bool r) []
theorem st_ref06_Same (k : Nat) (ih_ref06_SameAll : C_ref06_SameAll k) : C_ref06_Same (k + 1) := by
  intro a0 a1 r h
  rw [ref06_Same] at h
  refine SF.intro Try.func38 rfl Try.ntmps38 rfl (Nat.le_of_ble_eq_true rfl) (by decide) ?_
  refine SC.seq ?_
  refine SC.region 3 rfl ?_
  refine SO.run c0 3 ⟨[(2, .ptr (.loc 2) 0), (3, .ptr (.loc 3) 0)], [(.loc 2, .cells true (cTValue a0)), (.loc 3, .cells true (cTValue a1))]⟩ (by decide) (by kernel_rfl) ?_
  refine SO.done ?_
  refine SC.seq ?_
  refine SC.seq ?_
  refine SC.region 12 rfl ?_
  refine SO.run c0 6 ⟨[(2, .ptr (.loc 2) 0), (3, .ptr (.loc 3) 0), (10, .bool (a0.Kind != a1.Kind))], [(.loc 2, .cells true (cTValue a0)), (.loc 3, .cells true (cTValue a1))]⟩ (by decide) (by kernel_rfl) ?_
  refine SO.runB c0 12 (a0.Kind != a1.Kind) (fun b => ⟨[(2, .ptr (.loc 2) 0), (3, .ptr (.loc 3) 0), (10, .bool b)], [(.loc 2, .cells true (cTValue a0)), (.loc 3, .cells true (cTValue a1))]⟩) (fun b => ⟨[(2, .ptr (.loc 2) 0), (3, .ptr (.loc 3) 0), (16, .bool (b || (a0.N != a1.N)))], [(.loc 2, .cells true (cTValue a0)), (.loc 3, .cells true (cTValue a1))]⟩) (by decide) (by kernel_rfl) (by kernel_rfl) ?_
  refine SO.done ?_
  refine SC.cond ((a0.Kind != a1.Kind) || (a0.N != a1.N)) (by kernel_rfl) (fun ht => ?_) (fun ht => ?_)
  · replace h := Opt.t h ht
    refine SC.seq ?_
    refine SC.region 1 rfl ?_
    refine SO.run c0 1 ⟨[(4, .bool false)], []⟩ (by decide) (by kernel_rfl) ?_
    refine SO.done ?_
    refine SC.ret ?_
    replace h := Option.some.inj h
    subst h
    exact ⟨[.bool false], by kernel_rfl, Wk.eq (by kernel_rfl), trivial, by kernel_rfl⟩
  · replace h := Opt.f h ht
    refine SC.skip ?_
    refine SC.seq ?_
    refine SC.region 6 rfl ?_
    refine SO.run c0 4 ⟨[(18, .slice .none 3 (eTValue.F a0.Kids)), (20, .slice .none 3 (eTValue.F a1.Kids))], []⟩ (by decide) (by kernel_rfl) ?_
    obtain ⟨x3_4, hx3_4, h⟩ := Opt.ex h
    refine SO.call ⟨31, [.slice .none 3 (eTValue.F a0.Kids), .slice .none 3 (eTValue.F a1.Kids)], [], [], some 21⟩ ⟨[(21, .bool x3_4)], []⟩ (by decide) (by kernel_rfl) (ih_ref06_SameAll a0.Kids a1.Kids x3_4 hx3_4) (by kernel_rfl) ?_
    refine SO.run c0 6 ⟨[(4, .bool x3_4)], []⟩ (by decide) (by kernel_rfl) ?_
    refine SO.done ?_
    refine SC.ret ?_
    replace h := Option.some.inj h
    subst h
    exact ⟨[.bool x3_4], by kernel_rfl, Wk.eq (by kernel_rfl), trivial, by kernel_rfl⟩
theorem st_ref06_SameAll (k : Nat) (ih_ref06_Same : C_ref06_Same k) : C_ref06_SameAll (k + 1) := by
  intro a0 a1 r h
  rw [ref06_SameAll] at h
  refine SF.intro Try.func31 rfl Try.ntmps31 rfl (Nat.le_of_ble_eq_true rfl) (by decide) ?_
  refine SC.seq ?_
  refine SC.region 1 rfl ?_
  refine SO.run c0 1 ⟨[(0, .slice .none 3 (eTValue.F a0)), (1, .slice .none 3 (eTValue.F a1))], []⟩ (by decide) (by kernel_rfl) ?_
  refine SO.done ?_
  refine SC.seq ?_
  refine SC.seq ?_
  refine SC.region 5 rfl ?_
  refine SO.run c0 5 ⟨[(0, .slice .none 3 (eTValue.F a0)), (1, .slice .none 3 (eTValue.F a1)), (10, .bool (((a0.length : Int)) != ((a1.length : Int))))], []⟩ (by decide) (Eq.trans (b := some ⟨[(0, .slice .none 3 (eTValue.F a0)), (1, .slice .none 3 (eTValue.F a1)), (10, .bool ((((eTValue.F a0).length : Int)) != (((eTValue.F a1).length : Int))))], []⟩) (by kernel_rfl) (by simp only [LE.len])) ?_
  refine SO.done ?_
  refine SC.cond (((a0.length : Int)) != ((a1.length : Int))) (by kernel_rfl) (fun ht => ?_) (fun ht => ?_)
  · replace h := Opt.t h ht
    refine SC.seq ?_
    refine SC.region 1 rfl ?_
    refine SO.run c0 1 ⟨[(4, .bool false)], []⟩ (by decide) (by kernel_rfl) ?_
    refine SO.done ?_
    refine SC.ret ?_
    replace h := Option.some.inj h
    subst h
    exact ⟨[.bool false], by kernel_rfl, Wk.eq (by kernel_rfl), trivial, by kernel_rfl⟩
  · replace h := Opt.f h ht
    refine SC.skip ?_
    apply SC.seqJ (r := r) h (fun v : Unit => ⟨[], []⟩)
    · rintro ⟨⟩ r h
      refine SC.eqS (S1 := ⟨[], []⟩) rfl ?_
      refine SC.seq ?_
      refine SC.region 1 rfl ?_
      refine SO.run c0 1 ⟨[(4, .bool true)], []⟩ (by decide) (by kernel_rfl) ?_
      refine SO.done ?_
      refine SC.ret ?_
      replace h := Option.some.inj h
      subst h
      exact ⟨[.bool true], by kernel_rfl, Wk.eq (by kernel_rfl), trivial, by kernel_rfl⟩
    · intro j_j0 h
      refine SC.seq ?_
      refine SC.region 1 rfl ?_
      refine SO.run c0 1 ⟨[(0, .slice .none 3 (eTValue.F a0)), (1, .slice .none 3 (eTValue.F a1)), (5, .int .i64 0)], []⟩ (by decide) (by kernel_rfl) ?_
      refine SO.done ?_
      refine SC.block ?_
      apply SC.loopJ (r := r) h (fun v : Int => ⟨[(0, .slice .none 3 (eTValue.F a0)), (1, .slice .none 3 (eTValue.F a1)), (5, .int .i64 v)], []⟩)
      rintro l1_5 r h
      refine SC.eqS (S1 := ⟨[(0, .slice .none 3 (eTValue.F a0)), (1, .slice .none 3 (eTValue.F a1)), (5, .int .i64 l1_5)], []⟩) rfl ?_
      refine SC.seq ?_
      refine SC.seq ?_
      refine SC.region 4 rfl ?_
      refine SO.run c0 4 ⟨[(0, .slice .none 3 (eTValue.F a0)), (1, .slice .none 3 (eTValue.F a1)), (5, .int .i64 l1_5), (14, .bool (decide (l1_5 < ((a0.length : Int)))))], []⟩ (by decide) (Eq.trans (b := some ⟨[(0, .slice .none 3 (eTValue.F a0)), (1, .slice .none 3 (eTValue.F a1)), (5, .int .i64 l1_5), (14, .bool (decide (l1_5 < (((eTValue.F a0).length : Int)))))], []⟩) (by kernel_rfl) (by simp only [LE.len])) ?_
      refine SO.done ?_
      refine SC.cond (decide (l1_5 < ((a0.length : Int)))) (by kernel_rfl) (fun ht => ?_) (fun ht => ?_)
      · replace h := Opt.t h ht
        refine SC.skip ?_
        refine SC.seq ?_
        refine SC.block ?_
        refine SC.seq ?_
        refine SC.drawS 10 rfl (by kernel_rfl) ?_
        refine QD.run 2 ⟨[(0, .slice .none 3 (eTValue.F a0)), (1, .slice .none 3 (eTValue.F a1)), (5, .int .i64 l1_5), (14, .bool (decide (l1_5 < ((a0.length : Int))))), (17, .slice .none 3 (eTValue.F a0)), (18, .int .i64 l1_5)], []⟩ (by decide) (by kernel_rfl) ?_
        obtain ⟨x6_2, hx6_2, h⟩ := Opt.ex h
        refine QD.op (.pin (cTValue x6_2)) ⟨[(0, .slice .none 3 (eTValue.F a0)), (1, .slice .none 3 (eTValue.F a1)), (5, .int .i64 l1_5), (14, .bool (decide (l1_5 < ((a0.length : Int))))), (17, .slice .none 3 (eTValue.F a0)), (18, .int .i64 l1_5), (19, .pin (cTValue x6_2))], []⟩ (by decide) (ixR eTValue 34 .none 3 a0 .i64 l1_5 x6_2 (cTValue x6_2) (by kernel_rfl) (by kernel_rfl) hx6_2 (xTValue x6_2)) (by kernel_rfl) ?_
        refine QD.run 6 ⟨[(0, .slice .none 3 (eTValue.F a0)), (1, .slice .none 3 (eTValue.F a1)), (5, .int .i64 l1_5), (14, .bool (decide (l1_5 < ((a0.length : Int))))), (17, .slice .none 3 (eTValue.F a0)), (18, .int .i64 l1_5), (19, .pin (cTValue x6_2)), (20, .agg (cTValue x6_2)), (21, .slice .none 3 (eTValue.F a1)), (22, .int .i64 l1_5)], []⟩ (by decide) (by kernel_rfl) ?_
        obtain ⟨x6_6, hx6_6, h⟩ := Opt.ex h
        refine QD.op (.pin (cTValue x6_6)) ⟨[(0, .slice .none 3 (eTValue.F a0)), (1, .slice .none 3 (eTValue.F a1)), (5, .int .i64 l1_5), (14, .bool (decide (l1_5 < ((a0.length : Int))))), (17, .slice .none 3 (eTValue.F a0)), (18, .int .i64 l1_5), (19, .pin (cTValue x6_2)), (20, .agg (cTValue x6_2)), (21, .slice .none 3 (eTValue.F a1)), (22, .int .i64 l1_5), (23, .pin (cTValue x6_6))], []⟩ (by decide) (ixR eTValue 34 .none 3 a1 .i64 l1_5 x6_6 (cTValue x6_6) (by kernel_rfl) (by kernel_rfl) hx6_6 (xTValue x6_6)) (by kernel_rfl) ?_
        refine QD.run 8 ⟨[(0, .slice .none 3 (eTValue.F a0)), (1, .slice .none 3 (eTValue.F a1)), (5, .int .i64 l1_5), (14, .bool (decide (l1_5 < ((a0.length : Int))))), (17, .slice .none 3 (eTValue.F a0)), (18, .int .i64 l1_5), (19, .pin (cTValue x6_2)), (20, .agg (cTValue x6_2)), (21, .slice .none 3 (eTValue.F a1)), (22, .int .i64 l1_5), (23, .pin (cTValue x6_6)), (24, .agg (cTValue x6_6))], []⟩ (by decide) (by kernel_rfl) ?_
        obtain ⟨x6_8, hx6_8, h⟩ := Opt.ex h
        refine QD.callT ⟨38, [.agg (cTValue x6_2), .agg (cTValue x6_6)], [], [], some 25⟩ ⟨[(0, .slice .none 3 (eTValue.F a0)), (1, .slice .none 3 (eTValue.F a1)), (5, .int .i64 l1_5), (14, .bool (decide (l1_5 < ((a0.length : Int))))), (17, .slice .none 3 (eTValue.F a0)), (18, .int .i64 l1_5), (19, .pin (cTValue x6_2)), (20, .agg (cTValue x6_2)), (21, .slice .none 3 (eTValue.F a1)), (22, .int .i64 l1_5), (23, .pin (cTValue x6_6)), (24, .agg (cTValue x6_6)), (25, .bool x6_8)], []⟩ (by decide) (by kernel_rfl) (ih_ref06_Same x6_2 x6_6 x6_8 hx6_8) (by kernel_rfl) (by kernel_rfl) (by kernel_rfl) ?_
        refine QD.run 10 ⟨[(0, .slice .none 3 (eTValue.F a0)), (1, .slice .none 3 (eTValue.F a1)), (5, .int .i64 l1_5), (14, .bool (decide (l1_5 < ((a0.length : Int))))), (17, .slice .none 3 (eTValue.F a0)), (18, .int .i64 l1_5), (19, .pin (cTValue x6_2)), (20, .agg (cTValue x6_2)), (21, .slice .none 3 (eTValue.F a1)), (22, .int .i64 l1_5), (23, .pin (cTValue x6_6)), (24, .agg (cTValue x6_6)), (25, .bool x6_8), (26, .bool (!x6_8))], []⟩ (by decide) (by kernel_rfl) ?_
        refine QD.fin ⟨[(0, .slice .none 3 (eTValue.F a0)), (1, .slice .none 3 (eTValue.F a1)), (5, .int .i64 l1_5), (26, .bool (!x6_8))], []⟩ (by kernel_rfl) ?_
        refine SC.cond (!x6_8) (by kernel_rfl) (fun ht => ?_) (fun ht => ?_)
        · replace h := Opt.t h ht
          refine SC.seq ?_
          refine SC.region 1 rfl ?_
          refine SO.run c0 1 ⟨[(4, .bool false)], []⟩ (by decide) (by kernel_rfl) ?_
          refine SO.done ?_
          refine SC.ret ?_
          replace h := Option.some.inj h
          subst h
          refine ⟨_, rfl, ?_⟩
          exact ⟨[.bool false], by kernel_rfl, Wk.eq (by kernel_rfl), trivial, by kernel_rfl⟩
        · replace h := Opt.f h ht
          refine SC.skip ?_
          refine SC.region 3 rfl ?_
          refine SO.run c0 3 ⟨[(0, .slice .none 3 (eTValue.F a0)), (1, .slice .none 3 (eTValue.F a1)), (5, .int .i64 (IntKind.i64.wrap (l1_5 + 1)))], []⟩ (by decide) (by kernel_rfl) ?_
          refine SO.done ?_
          replace h := Option.some.inj h
          subst h
          exact ⟨(IntKind.i64.wrap (l1_5 + 1)), rfl, rfl⟩
      · replace h := Opt.f h ht
        refine SC.weak (S1 := ⟨[], []⟩) ?_ ?_
        · exact ⟨trivial, trivial, by kernel_rfl⟩
        refine SC.exit ?_
        obtain ⟨r1, hh, e1⟩ := Opt.inr h
        clear h
        subst e1
        have h := hh
        clear hh
        refine ⟨_, rfl, ?_⟩
        exact ⟨(), rfl, h⟩
theorem all_ref06_Same : ∀ k, C_ref06_Same k ∧ C_ref06_SameAll k
  | 0 => ⟨(by intro a0 a1 r h; rw [ref06_Same] at h; cases h), (by intro a0 a1 r h; rw [ref06_SameAll] at h; cases h)⟩
  | k + 1 => by
    obtain ⟨h0, h1⟩ := all_ref06_Same k
    exact ⟨st_ref06_Same k h1, st_ref06_SameAll k h0⟩
theorem ok_ref06_Same (k : Nat) (a0 : TValue) (a1 : TValue) (r : Bool) (h : ref06_Same k a0 a1 = some r) :
    SF Z 38 [.agg (cTValue a0), .agg (cTValue a1)] [] (.bool r) [] := (all_ref06_Same k).1 a0 a1 r h
theorem ok_ref06_SameAll (k : Nat) (a0 : List TValue) (a1 : List TValue) (r : Bool) (h : ref06_SameAll k a0 a1 = some r) :
    SF Z 31 [.slice .none 3 (eTValue.F a0), .slice .none 3 (eTValue.F a1)] [] (.bool r) [] := (all_ref06_Same k).2 a0 a1 r h
theorem ok_ref25_Same (k : Nat) (a0 : TOutcome) (a1 : TOutcome) (r : Bool) (h : ref25_Same k a0 a1 = some r) :
    SF Z 14 [.agg [.int .i64 a0.Kind, .int .i64 a0.Trap, .int .i64 a0.At, .slice .none 3 (eTValue.F a0.Log), .slice .none 3 (eTValue.F a0.State)], .agg [.int .i64 a1.Kind, .int .i64 a1.Trap, .int .i64 a1.At, .slice .none 3 (eTValue.F a1.Log), .slice .none 3 (eTValue.F a1.State)]] [] (.bool r) [] := by
  unfold ref25_Same at h
  refine SF.intro Try.func14 rfl Try.ntmps14 rfl (Nat.le_of_ble_eq_true rfl) (by decide) ?_
  refine SC.seq ?_
  refine SC.region 3 rfl ?_
  refine SO.run c0 3 ⟨[(2, .ptr (.loc 2) 0), (3, .ptr (.loc 3) 0)], [(.loc 2, .cells true [.int .i64 a0.Kind, .int .i64 a0.Trap, .int .i64 a0.At, .slice .none 3 (eTValue.F a0.Log), .slice .none 3 (eTValue.F a0.State)]), (.loc 3, .cells true [.int .i64 a1.Kind, .int .i64 a1.Trap, .int .i64 a1.At, .slice .none 3 (eTValue.F a1.Log), .slice .none 3 (eTValue.F a1.State)])]⟩ (by decide) (by kernel_rfl) ?_
  refine SO.done ?_
  refine SC.seq ?_
  refine SC.region 34 rfl ?_
  refine SO.run c0 6 ⟨[(2, .ptr (.loc 2) 0), (3, .ptr (.loc 3) 0), (10, .bool (a0.Kind == a1.Kind))], [(.loc 2, .cells true [.int .i64 a0.Kind, .int .i64 a0.Trap, .int .i64 a0.At, .slice .none 3 (eTValue.F a0.Log), .slice .none 3 (eTValue.F a0.State)]), (.loc 3, .cells true [.int .i64 a1.Kind, .int .i64 a1.Trap, .int .i64 a1.At, .slice .none 3 (eTValue.F a1.Log), .slice .none 3 (eTValue.F a1.State)])]⟩ (by decide) (by kernel_rfl) ?_
  refine SO.runB c0 12 (a0.Kind == a1.Kind) (fun b => ⟨[(2, .ptr (.loc 2) 0), (3, .ptr (.loc 3) 0), (10, .bool b)], [(.loc 2, .cells true [.int .i64 a0.Kind, .int .i64 a0.Trap, .int .i64 a0.At, .slice .none 3 (eTValue.F a0.Log), .slice .none 3 (eTValue.F a0.State)]), (.loc 3, .cells true [.int .i64 a1.Kind, .int .i64 a1.Trap, .int .i64 a1.At, .slice .none 3 (eTValue.F a1.Log), .slice .none 3 (eTValue.F a1.State)])]⟩) (fun b => ⟨[(2, .ptr (.loc 2) 0), (3, .ptr (.loc 3) 0), (16, .bool (b && (a0.Trap == a1.Trap)))], [(.loc 2, .cells true [.int .i64 a0.Kind, .int .i64 a0.Trap, .int .i64 a0.At, .slice .none 3 (eTValue.F a0.Log), .slice .none 3 (eTValue.F a0.State)]), (.loc 3, .cells true [.int .i64 a1.Kind, .int .i64 a1.Trap, .int .i64 a1.At, .slice .none 3 (eTValue.F a1.Log), .slice .none 3 (eTValue.F a1.State)])]⟩) (by decide) (by kernel_rfl) (by kernel_rfl) ?_
  refine SO.run c0 13 ⟨[(2, .ptr (.loc 2) 0), (3, .ptr (.loc 3) 0), (17, .bool ((a0.Kind == a1.Kind) && (a0.Trap == a1.Trap)))], [(.loc 2, .cells true [.int .i64 a0.Kind, .int .i64 a0.Trap, .int .i64 a0.At, .slice .none 3 (eTValue.F a0.Log), .slice .none 3 (eTValue.F a0.State)]), (.loc 3, .cells true [.int .i64 a1.Kind, .int .i64 a1.Trap, .int .i64 a1.At, .slice .none 3 (eTValue.F a1.Log), .slice .none 3 (eTValue.F a1.State)])]⟩ (by decide) (by kernel_rfl) ?_
  refine SO.runB c0 19 ((a0.Kind == a1.Kind) && (a0.Trap == a1.Trap)) (fun b => ⟨[(2, .ptr (.loc 2) 0), (3, .ptr (.loc 3) 0), (17, .bool b)], [(.loc 2, .cells true [.int .i64 a0.Kind, .int .i64 a0.Trap, .int .i64 a0.At, .slice .none 3 (eTValue.F a0.Log), .slice .none 3 (eTValue.F a0.State)]), (.loc 3, .cells true [.int .i64 a1.Kind, .int .i64 a1.Trap, .int .i64 a1.At, .slice .none 3 (eTValue.F a1.Log), .slice .none 3 (eTValue.F a1.State)])]⟩) (fun b => ⟨[(2, .ptr (.loc 2) 0), (3, .ptr (.loc 3) 0), (23, .bool (b && (a0.At == a1.At)))], [(.loc 2, .cells true [.int .i64 a0.Kind, .int .i64 a0.Trap, .int .i64 a0.At, .slice .none 3 (eTValue.F a0.Log), .slice .none 3 (eTValue.F a0.State)]), (.loc 3, .cells true [.int .i64 a1.Kind, .int .i64 a1.Trap, .int .i64 a1.At, .slice .none 3 (eTValue.F a1.Log), .slice .none 3 (eTValue.F a1.State)])]⟩) (by decide) (by kernel_rfl) (by kernel_rfl) ?_
  refine SO.run c0 20 ⟨[(2, .ptr (.loc 2) 0), (3, .ptr (.loc 3) 0), (24, .bool (((a0.Kind == a1.Kind) && (a0.Trap == a1.Trap)) && (a0.At == a1.At)))], [(.loc 2, .cells true [.int .i64 a0.Kind, .int .i64 a0.Trap, .int .i64 a0.At, .slice .none 3 (eTValue.F a0.Log), .slice .none 3 (eTValue.F a0.State)]), (.loc 3, .cells true [.int .i64 a1.Kind, .int .i64 a1.Trap, .int .i64 a1.At, .slice .none 3 (eTValue.F a1.Log), .slice .none 3 (eTValue.F a1.State)])]⟩ (by decide) (by kernel_rfl) ?_
  refine SO.joinK h (fun v : Bool => ⟨[(2, .ptr (.loc 2) 0), (3, .ptr (.loc 3) 0), (30, .bool v)], [(.loc 2, .cells true [.int .i64 a0.Kind, .int .i64 a0.Trap, .int .i64 a0.At, .slice .none 3 (eTValue.F a0.Log), .slice .none 3 (eTValue.F a0.State)]), (.loc 3, .cells true [.int .i64 a1.Kind, .int .i64 a1.Trap, .int .i64 a1.At, .slice .none 3 (eTValue.F a1.Log), .slice .none 3 (eTValue.F a1.State)])]⟩) 26 (by decide) ?_ ?_
  · rintro g1_25_30 h
    refine SO.eqS (S1 := ⟨[(2, .ptr (.loc 2) 0), (3, .ptr (.loc 3) 0), (30, .bool g1_25_30)], [(.loc 2, .cells true [.int .i64 a0.Kind, .int .i64 a0.Trap, .int .i64 a0.At, .slice .none 3 (eTValue.F a0.Log), .slice .none 3 (eTValue.F a0.State)]), (.loc 3, .cells true [.int .i64 a1.Kind, .int .i64 a1.Trap, .int .i64 a1.At, .slice .none 3 (eTValue.F a1.Log), .slice .none 3 (eTValue.F a1.State)])]⟩) rfl ?_
    refine SO.run c0 27 ⟨[(2, .ptr (.loc 2) 0), (3, .ptr (.loc 3) 0), (31, .bool g1_25_30)], [(.loc 2, .cells true [.int .i64 a0.Kind, .int .i64 a0.Trap, .int .i64 a0.At, .slice .none 3 (eTValue.F a0.Log), .slice .none 3 (eTValue.F a0.State)]), (.loc 3, .cells true [.int .i64 a1.Kind, .int .i64 a1.Trap, .int .i64 a1.At, .slice .none 3 (eTValue.F a1.Log), .slice .none 3 (eTValue.F a1.State)])]⟩ (by decide) (by kernel_rfl) ?_
    refine SO.joinK h (fun v : Bool => ⟨[(37, .bool v)], []⟩) 33 (by decide) ?_ ?_
    · rintro g1_32_37 h
      refine SO.eqS (S1 := ⟨[(37, .bool g1_32_37)], []⟩) rfl ?_
      refine SO.run c0 34 ⟨[(4, .bool g1_32_37)], []⟩ (by decide) (by kernel_rfl) ?_
      refine SO.done ?_
      refine SC.ret ?_
      replace h := Option.some.inj h
      subst h
      exact ⟨[.bool g1_32_37], by kernel_rfl, Wk.eq (by kernel_rfl), trivial, by kernel_rfl⟩
    · intro j_g1_32 h
      refine SO.bool g1_25_30 (fun b => ⟨[(2, .ptr (.loc 2) 0), (3, .ptr (.loc 3) 0), (31, .bool b)], [(.loc 2, .cells true [.int .i64 a0.Kind, .int .i64 a0.Trap, .int .i64 a0.At, .slice .none 3 (eTValue.F a0.Log), .slice .none 3 (eTValue.F a0.State)]), (.loc 3, .cells true [.int .i64 a1.Kind, .int .i64 a1.Trap, .int .i64 a1.At, .slice .none 3 (eTValue.F a1.Log), .slice .none 3 (eTValue.F a1.State)])]⟩) (fun ht => ?_) (fun ht => ?_)
      · replace h := Opt.t h ht
        refine SO.run c0 31 ⟨[(31, .bool true), (33, .slice .none 3 (eTValue.F a0.State)), (35, .slice .none 3 (eTValue.F a1.State))], []⟩ (by decide) (by kernel_rfl) ?_
        obtain ⟨x1_31, hx1_31, h⟩ := Opt.ex h
        refine SO.call ⟨31, [.slice .none 3 (eTValue.F a0.State), .slice .none 3 (eTValue.F a1.State)], [], [], some 36⟩ ⟨[(31, .bool true), (36, .bool x1_31)], []⟩ (by decide) (by kernel_rfl) (ok_ref06_SameAll k a0.State a1.State x1_31 hx1_31) (by kernel_rfl) ?_
        refine SO.run c0 33 ⟨[(37, .bool x1_31)], []⟩ (by decide) (by kernel_rfl) ?_
        exact SO.done ⟨x1_31, rfl, h⟩
      · replace h := Opt.f h ht
        refine SO.run c0 33 ⟨[(37, .bool false)], []⟩ (by decide) (by kernel_rfl) ?_
        exact SO.done ⟨false, rfl, h⟩
  · intro j_g1_25 h
    refine SO.bool (((a0.Kind == a1.Kind) && (a0.Trap == a1.Trap)) && (a0.At == a1.At)) (fun b => ⟨[(2, .ptr (.loc 2) 0), (3, .ptr (.loc 3) 0), (24, .bool b)], [(.loc 2, .cells true [.int .i64 a0.Kind, .int .i64 a0.Trap, .int .i64 a0.At, .slice .none 3 (eTValue.F a0.Log), .slice .none 3 (eTValue.F a0.State)]), (.loc 3, .cells true [.int .i64 a1.Kind, .int .i64 a1.Trap, .int .i64 a1.At, .slice .none 3 (eTValue.F a1.Log), .slice .none 3 (eTValue.F a1.State)])]⟩) (fun ht => ?_) (fun ht => ?_)
    · replace h := Opt.t h ht
      refine SO.run c0 24 ⟨[(2, .ptr (.loc 2) 0), (3, .ptr (.loc 3) 0), (24, .bool true), (26, .slice .none 3 (eTValue.F a0.Log)), (28, .slice .none 3 (eTValue.F a1.Log))], [(.loc 2, .cells true [.int .i64 a0.Kind, .int .i64 a0.Trap, .int .i64 a0.At, .slice .none 3 (eTValue.F a0.Log), .slice .none 3 (eTValue.F a0.State)]), (.loc 3, .cells true [.int .i64 a1.Kind, .int .i64 a1.Trap, .int .i64 a1.At, .slice .none 3 (eTValue.F a1.Log), .slice .none 3 (eTValue.F a1.State)])]⟩ (by decide) (by kernel_rfl) ?_
      obtain ⟨x1_24, hx1_24, h⟩ := Opt.ex h
      refine SO.call ⟨31, [.slice .none 3 (eTValue.F a0.Log), .slice .none 3 (eTValue.F a1.Log)], [], [], some 29⟩ ⟨[(2, .ptr (.loc 2) 0), (3, .ptr (.loc 3) 0), (24, .bool true), (29, .bool x1_24)], [(.loc 2, .cells true [.int .i64 a0.Kind, .int .i64 a0.Trap, .int .i64 a0.At, .slice .none 3 (eTValue.F a0.Log), .slice .none 3 (eTValue.F a0.State)]), (.loc 3, .cells true [.int .i64 a1.Kind, .int .i64 a1.Trap, .int .i64 a1.At, .slice .none 3 (eTValue.F a1.Log), .slice .none 3 (eTValue.F a1.State)])]⟩ (by decide) (by kernel_rfl) (ok_ref06_SameAll k a0.Log a1.Log x1_24 hx1_24) (by kernel_rfl) ?_
      refine SO.run c0 26 ⟨[(2, .ptr (.loc 2) 0), (3, .ptr (.loc 3) 0), (30, .bool x1_24)], [(.loc 2, .cells true [.int .i64 a0.Kind, .int .i64 a0.Trap, .int .i64 a0.At, .slice .none 3 (eTValue.F a0.Log), .slice .none 3 (eTValue.F a0.State)]), (.loc 3, .cells true [.int .i64 a1.Kind, .int .i64 a1.Trap, .int .i64 a1.At, .slice .none 3 (eTValue.F a1.Log), .slice .none 3 (eTValue.F a1.State)])]⟩ (by decide) (by kernel_rfl) ?_
      exact SO.done ⟨x1_24, rfl, h⟩
    · replace h := Opt.f h ht
      refine SO.run c0 26 ⟨[(2, .ptr (.loc 2) 0), (3, .ptr (.loc 3) 0), (30, .bool false)], [(.loc 2, .cells true [.int .i64 a0.Kind, .int .i64 a0.Trap, .int .i64 a0.At, .slice .none 3 (eTValue.F a0.Log), .slice .none 3 (eTValue.F a0.State)]), (.loc 3, .cells true [.int .i64 a1.Kind, .int .i64 a1.Trap, .int .i64 a1.At, .slice .none 3 (eTValue.F a1.Log), .slice .none 3 (eTValue.F a1.State)])]⟩ (by decide) (by kernel_rfl) ?_
      exact SO.done ⟨false, rfl, h⟩
theorem ok_law47_SweepSettles (k : Nat) (a0 : List Tsweep_Count) (r : Bool) (h : law47_SweepSettles k a0 = some r) :
    SF Z 5 [.slice .none 6 (eTsweep_Count.F a0)] [] (.bool r) [] := by
  unfold law47_SweepSettles at h
  refine SF.intro Try.func5 rfl Try.ntmps5 rfl (Nat.le_of_ble_eq_true rfl) (by decide) ?_
  refine SC.seq ?_
  refine SC.region 1 rfl ?_
  refine SO.run c0 1 ⟨[(0, .slice .none 6 (eTsweep_Count.F a0))], []⟩ (by decide) (by kernel_rfl) ?_
  refine SO.done ?_
  refine SC.seq ?_
  refine SC.seq ?_
  refine SC.region 7 rfl ?_
  obtain ⟨x1_0, hx1_0, h⟩ := Opt.ex h
  refine SO.call ⟨11, [], [], [], some 10⟩ ⟨[(0, .slice .none 6 (eTsweep_Count.F a0)), (10, .bool x1_0)], []⟩ (by decide) (by kernel_rfl) (ok_law47_works k x1_0 hx1_0) (by kernel_rfl) ?_
  refine SO.run c0 3 ⟨[(0, .slice .none 6 (eTsweep_Count.F a0)), (12, .bool (!x1_0))], []⟩ (by decide) (by kernel_rfl) ?_
  refine SO.runB c0 7 (!x1_0) (fun b => ⟨[(0, .slice .none 6 (eTsweep_Count.F a0)), (12, .bool b)], []⟩) (fun b => ⟨[(0, .slice .none 6 (eTsweep_Count.F a0)), (16, .bool (b || (decide (((a0.length : Int)) > 30))))], []⟩) (by decide) (Eq.trans (b := some ⟨[(0, .slice .none 6 (eTsweep_Count.F a0)), (16, .bool (true || (decide ((((eTsweep_Count.F a0).length : Int)) > 30))))], []⟩) (by kernel_rfl) (by simp only [LE.len])) (Eq.trans (b := some ⟨[(0, .slice .none 6 (eTsweep_Count.F a0)), (16, .bool (false || (decide ((((eTsweep_Count.F a0).length : Int)) > 30))))], []⟩) (by kernel_rfl) (by simp only [LE.len])) ?_
  refine SO.done ?_
  refine SC.cond ((!x1_0) || (decide (((a0.length : Int)) > 30))) (by kernel_rfl) (fun ht => ?_) (fun ht => ?_)
  · replace h := Opt.t h ht
    refine SC.seq ?_
    refine SC.region 2 rfl ?_
    obtain ⟨x2_0, hx2_0, h⟩ := Opt.ex h
    refine SO.call ⟨11, [], [], [], some 17⟩ ⟨[(17, .bool x2_0)], []⟩ (by decide) (by kernel_rfl) (ok_law47_works k x2_0 hx2_0) (by kernel_rfl) ?_
    refine SO.run c0 2 ⟨[(2, .bool x2_0)], []⟩ (by decide) (by kernel_rfl) ?_
    refine SO.done ?_
    refine SC.ret ?_
    replace h := Option.some.inj h
    subst h
    exact ⟨[.bool x2_0], by kernel_rfl, Wk.eq (by kernel_rfl), trivial, by kernel_rfl⟩
  · replace h := Opt.f h ht
    refine SC.skip ?_
    refine SC.seq ?_
    refine SC.region 1 rfl ?_
    refine SO.run c0 1 ⟨[(0, .slice .none 6 (eTsweep_Count.F a0)), (3, .bool true)], []⟩ (by decide) (by kernel_rfl) ?_
    refine SO.done ?_
    apply SC.seqJ (r := r) h (fun v : Bool => ⟨[(0, .slice .none 6 (eTsweep_Count.F a0)), (3, .bool v)], []⟩)
    · rintro j0_3 r h
      refine SC.eqS (S1 := ⟨[(0, .slice .none 6 (eTsweep_Count.F a0)), (3, .bool j0_3)], []⟩) rfl ?_
      refine SC.seq ?_
      refine SC.region 5 rfl ?_
      refine SO.run c0 1 ⟨[(3, .bool j0_3), (105, .slice .none 6 (eTsweep_Count.F a0))], []⟩ (by decide) (by kernel_rfl) ?_
      obtain ⟨x27_1, hx27_1, h⟩ := Opt.ex h
      refine SO.call ⟨15, [.slice .none 6 (eTsweep_Count.F a0)], [], [], some 106⟩ ⟨[(3, .bool j0_3), (106, .bool x27_1)], []⟩ (by decide) (by kernel_rfl) (ok_sweep_Settled k a0 x27_1 hx27_1) (by kernel_rfl) ?_
      refine SO.run c0 5 ⟨[(2, .bool (x27_1 == j0_3))], []⟩ (by decide) (by kernel_rfl) ?_
      refine SO.done ?_
      refine SC.ret ?_
      replace h := Option.some.inj h
      subst h
      exact ⟨[.bool (x27_1 == j0_3)], by kernel_rfl, Wk.eq (by kernel_rfl), trivial, by kernel_rfl⟩
    · intro j_j0 h
      refine SC.seq ?_
      refine SC.region 1 rfl ?_
      refine SO.run c0 1 ⟨[(0, .slice .none 6 (eTsweep_Count.F a0)), (3, .bool true), (4, .int .i64 0)], []⟩ (by decide) (by kernel_rfl) ?_
      refine SO.done ?_
      refine SC.block ?_
      apply SC.loopJ (r := r) h (fun v : Bool × Int => ⟨[(0, .slice .none 6 (eTsweep_Count.F a0)), (3, .bool v.1), (4, .int .i64 v.2)], []⟩)
      rintro ⟨l1_3, l1_4⟩ r h
      refine SC.eqS (S1 := ⟨[(0, .slice .none 6 (eTsweep_Count.F a0)), (3, .bool l1_3), (4, .int .i64 l1_4)], []⟩) rfl ?_
      refine SC.seq ?_
      refine SC.seq ?_
      refine SC.region 4 rfl ?_
      refine SO.run c0 4 ⟨[(0, .slice .none 6 (eTsweep_Count.F a0)), (3, .bool l1_3), (4, .int .i64 l1_4), (21, .bool (decide (l1_4 < ((a0.length : Int)))))], []⟩ (by decide) (Eq.trans (b := some ⟨[(0, .slice .none 6 (eTsweep_Count.F a0)), (3, .bool l1_3), (4, .int .i64 l1_4), (21, .bool (decide (l1_4 < (((eTsweep_Count.F a0).length : Int)))))], []⟩) (by kernel_rfl) (by simp only [LE.len])) ?_
      refine SO.done ?_
      refine SC.cond (decide (l1_4 < ((a0.length : Int)))) (by kernel_rfl) (fun ht => ?_) (fun ht => ?_)
      · replace h := Opt.t h ht
        refine SC.skip ?_
        apply SC.seqJ (r := r) h (fun v : Bool => ⟨[(0, .slice .none 6 (eTsweep_Count.F a0)), (3, .bool v), (4, .int .i64 l1_4)], []⟩)
        · rintro j2_3 r h
          refine SC.eqS (S1 := ⟨[(0, .slice .none 6 (eTsweep_Count.F a0)), (3, .bool j2_3), (4, .int .i64 l1_4)], []⟩) rfl ?_
          refine SC.region 3 rfl ?_
          refine SO.run c0 3 ⟨[(0, .slice .none 6 (eTsweep_Count.F a0)), (3, .bool j2_3), (4, .int .i64 (IntKind.i64.wrap (l1_4 + 1)))], []⟩ (by decide) (by kernel_rfl) ?_
          refine SO.done ?_
          replace h := Option.some.inj h
          subst h
          exact ⟨(j2_3, (IntKind.i64.wrap (l1_4 + 1))), rfl, rfl⟩
        · intro j_j2 h
          refine SC.block ?_
          refine SC.seq ?_
          refine SC.region 7 rfl ?_
          refine SO.run c0 2 ⟨[(0, .slice .none 6 (eTsweep_Count.F a0)), (3, .bool l1_3), (4, .int .i64 l1_4), (24, .slice .none 6 (eTsweep_Count.F a0)), (25, .int .i64 l1_4)], []⟩ (by decide) (by kernel_rfl) ?_
          obtain ⟨x7_2, hx7_2, h⟩ := Opt.ex h
          refine SO.op c0 { v := .pin (cTsweep_Count x7_2) } ⟨[(0, .slice .none 6 (eTsweep_Count.F a0)), (3, .bool l1_3), (4, .int .i64 l1_4), (26, .pin (cTsweep_Count x7_2))], []⟩ (by decide) (ixR eTsweep_Count 33 .none 6 a0 .i64 l1_4 x7_2 (cTsweep_Count x7_2) (by kernel_rfl) (by kernel_rfl) hx7_2 (xTsweep_Count x7_2)) (by kernel_rfl) ?_
          refine SO.run c0 7 ⟨[(0, .slice .none 6 (eTsweep_Count.F a0)), (3, .bool l1_3), (4, .int .i64 l1_4), (5, .ptr (.loc 5) 0)], [(.loc 5, .cells true (cTOutcome x7_2.Out))]⟩ (by decide) (by kernel_rfl) ?_
          refine SO.done ?_
          refine SC.seq ?_
          refine SC.seq ?_
          refine SC.region 8 rfl ?_
          refine SO.run c0 8 ⟨[(0, .slice .none 6 (eTsweep_Count.F a0)), (3, .bool l1_3), (4, .int .i64 l1_4), (5, .ptr (.loc 5) 0), (36, .bool (decide ((IntKind.i64.wrap (((x7_2.Out.Log.length : Int)) + ((x7_2.Out.State.length : Int)))) > 50)))], [(.loc 5, .cells true (cTOutcome x7_2.Out))]⟩ (by decide) (Eq.trans (b := some ⟨[(0, .slice .none 6 (eTsweep_Count.F a0)), (3, .bool l1_3), (4, .int .i64 l1_4), (5, .ptr (.loc 5) 0), (36, .bool (decide ((IntKind.i64.wrap ((((eTValue.F x7_2.Out.Log).length : Int)) + (((eTValue.F x7_2.Out.State).length : Int)))) > 50)))], [(.loc 5, .cells true (cTOutcome x7_2.Out))]⟩) (by kernel_rfl) (by simp only [LE.len])) ?_
          refine SO.done ?_
          refine SC.cond (decide ((IntKind.i64.wrap (((x7_2.Out.Log.length : Int)) + ((x7_2.Out.State.length : Int)))) > 50)) (by kernel_rfl) (fun ht => ?_) (fun ht => ?_)
          · replace h := Opt.t h ht
            refine SC.seq ?_
            refine SC.region 1 rfl ?_
            refine SO.run c0 1 ⟨[(2, .bool true)], []⟩ (by decide) (by kernel_rfl) ?_
            refine SO.done ?_
            refine SC.ret ?_
            replace h := Option.some.inj h
            subst h
            refine ⟨_, rfl, ?_⟩
            exact ⟨[.bool true], by kernel_rfl, Wk.eq (by kernel_rfl), trivial, by kernel_rfl⟩
          · replace h := Opt.f h ht
            refine SC.skip ?_
            apply SC.seqJ (r := r) h (fun v : Unit => ⟨[(0, .slice .none 6 (eTsweep_Count.F a0)), (3, .bool l1_3), (4, .int .i64 l1_4), (5, .ptr (.loc 5) 0)], [(.loc 5, .cells true (cTOutcome x7_2.Out))]⟩)
            · rintro ⟨⟩ r h
              refine SC.eqS (S1 := ⟨[(0, .slice .none 6 (eTsweep_Count.F a0)), (3, .bool l1_3), (4, .int .i64 l1_4), (5, .ptr (.loc 5) 0)], [(.loc 5, .cells true (cTOutcome x7_2.Out))]⟩) rfl ?_
              apply SC.seqJ (r := r) h (fun v : Unit => ⟨[(0, .slice .none 6 (eTsweep_Count.F a0)), (3, .bool l1_3), (4, .int .i64 l1_4), (5, .ptr (.loc 5) 0)], [(.loc 5, .cells true (cTOutcome x7_2.Out))]⟩)
              · rintro ⟨⟩ r h
                refine SC.eqS (S1 := ⟨[(0, .slice .none 6 (eTsweep_Count.F a0)), (3, .bool l1_3), (4, .int .i64 l1_4), (5, .ptr (.loc 5) 0)], [(.loc 5, .cells true (cTOutcome x7_2.Out))]⟩) rfl ?_
                refine SC.seq ?_
                refine SC.region 7 rfl ?_
                refine SO.run c0 2 ⟨[(0, .slice .none 6 (eTsweep_Count.F a0)), (4, .int .i64 l1_4), (5, .ptr (.loc 5) 0), (66, .bool l1_3)], [(.loc 5, .cells true (cTOutcome x7_2.Out))]⟩ (by decide) (by kernel_rfl) ?_
                refine SO.runB c0 6 l1_3 (fun b => ⟨[(0, .slice .none 6 (eTsweep_Count.F a0)), (4, .int .i64 l1_4), (5, .ptr (.loc 5) 0), (66, .bool b)], [(.loc 5, .cells true (cTOutcome x7_2.Out))]⟩) (fun b => ⟨[(0, .slice .none 6 (eTsweep_Count.F a0)), (4, .int .i64 l1_4), (5, .ptr (.loc 5) 0), (70, .bool (b && (x7_2.Out.Kind != 4)))], [(.loc 5, .cells true (cTOutcome x7_2.Out))]⟩) (by decide) (by kernel_rfl) (by kernel_rfl) ?_
                refine SO.run c0 7 ⟨[(0, .slice .none 6 (eTsweep_Count.F a0)), (3, .bool (l1_3 && (x7_2.Out.Kind != 4))), (4, .int .i64 l1_4), (5, .ptr (.loc 5) 0)], [(.loc 5, .cells true (cTOutcome x7_2.Out))]⟩ (by decide) (by kernel_rfl) ?_
                refine SO.done ?_
                refine SC.seq ?_
                refine SC.region 1 rfl ?_
                refine SO.run c0 1 ⟨[(0, .slice .none 6 (eTsweep_Count.F a0)), (3, .bool (l1_3 && (x7_2.Out.Kind != 4))), (4, .int .i64 l1_4), (5, .ptr (.loc 5) 0), (8, .int .i64 0)], [(.loc 5, .cells true (cTOutcome x7_2.Out))]⟩ (by decide) (by kernel_rfl) ?_
                refine SO.done ?_
                refine SC.block ?_
                apply SC.loopJ (r := r) h (fun v : Bool × Int => ⟨[(0, .slice .none 6 (eTsweep_Count.F a0)), (3, .bool v.1), (4, .int .i64 l1_4), (5, .ptr (.loc 5) 0), (8, .int .i64 v.2)], [(.loc 5, .cells true (cTOutcome x7_2.Out))]⟩)
                rintro ⟨l7_3, l7_8⟩ r h
                refine SC.eqS (S1 := ⟨[(0, .slice .none 6 (eTsweep_Count.F a0)), (3, .bool l7_3), (4, .int .i64 l1_4), (5, .ptr (.loc 5) 0), (8, .int .i64 l7_8)], [(.loc 5, .cells true (cTOutcome x7_2.Out))]⟩) rfl ?_
                refine SC.seq ?_
                refine SC.seq ?_
                refine SC.region 3 rfl ?_
                refine SO.run c0 3 ⟨[(0, .slice .none 6 (eTsweep_Count.F a0)), (3, .bool l7_3), (4, .int .i64 l1_4), (5, .ptr (.loc 5) 0), (8, .int .i64 l7_8), (73, .bool (decide (l7_8 < l1_4)))], [(.loc 5, .cells true (cTOutcome x7_2.Out))]⟩ (by decide) (by kernel_rfl) ?_
                refine SO.done ?_
                refine SC.cond (decide (l7_8 < l1_4)) (by kernel_rfl) (fun ht => ?_) (fun ht => ?_)
                · replace h := Opt.t h ht
                  refine SC.skip ?_
                  apply SC.seqJ (r := r) h (fun v : Bool => ⟨[(0, .slice .none 6 (eTsweep_Count.F a0)), (3, .bool v), (4, .int .i64 l1_4), (5, .ptr (.loc 5) 0), (8, .int .i64 l7_8)], [(.loc 5, .cells true (cTOutcome x7_2.Out))]⟩)
                  · rintro j8_3 r h
                    refine SC.eqS (S1 := ⟨[(0, .slice .none 6 (eTsweep_Count.F a0)), (3, .bool j8_3), (4, .int .i64 l1_4), (5, .ptr (.loc 5) 0), (8, .int .i64 l7_8)], [(.loc 5, .cells true (cTOutcome x7_2.Out))]⟩) rfl ?_
                    refine SC.region 3 rfl ?_
                    refine SO.run c0 3 ⟨[(0, .slice .none 6 (eTsweep_Count.F a0)), (3, .bool j8_3), (4, .int .i64 l1_4), (5, .ptr (.loc 5) 0), (8, .int .i64 (IntKind.i64.wrap (l7_8 + 1)))], [(.loc 5, .cells true (cTOutcome x7_2.Out))]⟩ (by decide) (by kernel_rfl) ?_
                    refine SO.done ?_
                    replace h := Option.some.inj h
                    subst h
                    exact ⟨(j8_3, (IntKind.i64.wrap (l7_8 + 1))), rfl, rfl⟩
                  · intro j_j8 h
                    refine SC.block ?_
                    refine SC.seq ?_
                    refine SC.region 7 rfl ?_
                    refine SO.run c0 2 ⟨[(0, .slice .none 6 (eTsweep_Count.F a0)), (3, .bool l7_3), (4, .int .i64 l1_4), (5, .ptr (.loc 5) 0), (8, .int .i64 l7_8), (76, .slice .none 6 (eTsweep_Count.F a0)), (77, .int .i64 l7_8)], [(.loc 5, .cells true (cTOutcome x7_2.Out))]⟩ (by decide) (by kernel_rfl) ?_
                    obtain ⟨x24_2, hx24_2, h⟩ := Opt.ex h
                    refine SO.op c0 { v := .pin (cTsweep_Count x24_2) } ⟨[(0, .slice .none 6 (eTsweep_Count.F a0)), (3, .bool l7_3), (4, .int .i64 l1_4), (5, .ptr (.loc 5) 0), (8, .int .i64 l7_8), (78, .pin (cTsweep_Count x24_2))], [(.loc 5, .cells true (cTOutcome x7_2.Out))]⟩ (by decide) (ixR eTsweep_Count 33 .none 6 a0 .i64 l7_8 x24_2 (cTsweep_Count x24_2) (by kernel_rfl) (by kernel_rfl) hx24_2 (xTsweep_Count x24_2)) (by kernel_rfl) ?_
                    refine SO.run c0 7 ⟨[(0, .slice .none 6 (eTsweep_Count.F a0)), (3, .bool l7_3), (4, .int .i64 l1_4), (5, .ptr (.loc 5) 0), (8, .int .i64 l7_8), (9, .ptr (.loc 9) 0)], [(.loc 5, .cells true (cTOutcome x7_2.Out)), (.loc 9, .cells true (cTOutcome x24_2.Out))]⟩ (by decide) (by kernel_rfl) ?_
                    refine SO.done ?_
                    refine SC.seq ?_
                    refine SC.region 18 rfl ?_
                    refine SO.run c0 4 ⟨[(0, .slice .none 6 (eTsweep_Count.F a0)), (3, .bool l7_3), (4, .int .i64 l1_4), (5, .ptr (.loc 5) 0), (8, .int .i64 l7_8), (9, .ptr (.loc 9) 0), (84, .bool (x7_2.Out.Kind == 0))], [(.loc 5, .cells true (cTOutcome x7_2.Out)), (.loc 9, .cells true (cTOutcome x24_2.Out))]⟩ (by decide) (by kernel_rfl) ?_
                    refine SO.runB c0 8 (x7_2.Out.Kind == 0) (fun b => ⟨[(0, .slice .none 6 (eTsweep_Count.F a0)), (3, .bool l7_3), (4, .int .i64 l1_4), (5, .ptr (.loc 5) 0), (8, .int .i64 l7_8), (9, .ptr (.loc 9) 0), (84, .bool b)], [(.loc 5, .cells true (cTOutcome x7_2.Out)), (.loc 9, .cells true (cTOutcome x24_2.Out))]⟩) (fun b => ⟨[(0, .slice .none 6 (eTsweep_Count.F a0)), (3, .bool l7_3), (4, .int .i64 l1_4), (5, .ptr (.loc 5) 0), (8, .int .i64 l7_8), (9, .ptr (.loc 9) 0), (88, .bool (b || (x7_2.Out.Kind == 1)))], [(.loc 5, .cells true (cTOutcome x7_2.Out)), (.loc 9, .cells true (cTOutcome x24_2.Out))]⟩) (by decide) (by kernel_rfl) (by kernel_rfl) ?_
                    refine SO.run c0 9 ⟨[(0, .slice .none 6 (eTsweep_Count.F a0)), (3, .bool l7_3), (4, .int .i64 l1_4), (5, .ptr (.loc 5) 0), (8, .int .i64 l7_8), (9, .ptr (.loc 9) 0), (89, .bool ((x7_2.Out.Kind == 0) || (x7_2.Out.Kind == 1)))], [(.loc 5, .cells true (cTOutcome x7_2.Out)), (.loc 9, .cells true (cTOutcome x24_2.Out))]⟩ (by decide) (by kernel_rfl) ?_
                    refine SO.meet 18 ⟨[(0, .slice .none 6 (eTsweep_Count.F a0)), (3, .bool l7_3), (4, .int .i64 l1_4), (5, .ptr (.loc 5) 0), (8, .int .i64 l7_8), (9, .ptr (.loc 9) 0), (98, .bool (((x7_2.Out.Kind == 0) || (x7_2.Out.Kind == 1)) && ((x24_2.Out.Kind == 0) || (x24_2.Out.Kind == 1))))], [(.loc 5, .cells true (cTOutcome x7_2.Out)), (.loc 9, .cells true (cTOutcome x24_2.Out))]⟩ (by decide) ?_ ?_
                    · refine SO.bool ((x7_2.Out.Kind == 0) || (x7_2.Out.Kind == 1)) (fun b => ⟨[(0, .slice .none 6 (eTsweep_Count.F a0)), (3, .bool l7_3), (4, .int .i64 l1_4), (5, .ptr (.loc 5) 0), (8, .int .i64 l7_8), (9, .ptr (.loc 9) 0), (89, .bool b)], [(.loc 5, .cells true (cTOutcome x7_2.Out)), (.loc 9, .cells true (cTOutcome x24_2.Out))]⟩) (fun ht0 => ?_) (fun ht0 => ?_)
                      · refine SO.run c0 13 ⟨[(0, .slice .none 6 (eTsweep_Count.F a0)), (3, .bool l7_3), (4, .int .i64 l1_4), (5, .ptr (.loc 5) 0), (8, .int .i64 l7_8), (9, .ptr (.loc 9) 0), (89, .bool true), (93, .bool (x24_2.Out.Kind == 0))], [(.loc 5, .cells true (cTOutcome x7_2.Out)), (.loc 9, .cells true (cTOutcome x24_2.Out))]⟩ (by decide) (by kernel_rfl) ?_
                        refine SO.bool (x24_2.Out.Kind == 0) (fun b => ⟨[(0, .slice .none 6 (eTsweep_Count.F a0)), (3, .bool l7_3), (4, .int .i64 l1_4), (5, .ptr (.loc 5) 0), (8, .int .i64 l7_8), (9, .ptr (.loc 9) 0), (89, .bool true), (93, .bool b)], [(.loc 5, .cells true (cTOutcome x7_2.Out)), (.loc 9, .cells true (cTOutcome x24_2.Out))]⟩) (fun ht1 => ?_) (fun ht1 => ?_)
                        · refine SO.run c0 18 ⟨[(0, .slice .none 6 (eTsweep_Count.F a0)), (3, .bool l7_3), (4, .int .i64 l1_4), (5, .ptr (.loc 5) 0), (8, .int .i64 l7_8), (9, .ptr (.loc 9) 0), (98, .bool true)], [(.loc 5, .cells true (cTOutcome x7_2.Out)), (.loc 9, .cells true (cTOutcome x24_2.Out))]⟩ (by decide) (by kernel_rfl) ?_
                          exact SO.done (by (try rw [ht0]); (try rw [ht1]); kernel_rfl)
                        · refine SO.run c0 18 ⟨[(0, .slice .none 6 (eTsweep_Count.F a0)), (3, .bool l7_3), (4, .int .i64 l1_4), (5, .ptr (.loc 5) 0), (8, .int .i64 l7_8), (9, .ptr (.loc 9) 0), (98, .bool (x24_2.Out.Kind == 1))], [(.loc 5, .cells true (cTOutcome x7_2.Out)), (.loc 9, .cells true (cTOutcome x24_2.Out))]⟩ (by decide) (by kernel_rfl) ?_
                          exact SO.done (by (try rw [ht0]); (try rw [ht1]); kernel_rfl)
                      · refine SO.run c0 18 ⟨[(0, .slice .none 6 (eTsweep_Count.F a0)), (3, .bool l7_3), (4, .int .i64 l1_4), (5, .ptr (.loc 5) 0), (8, .int .i64 l7_8), (9, .ptr (.loc 9) 0), (98, .bool false)], [(.loc 5, .cells true (cTOutcome x7_2.Out)), (.loc 9, .cells true (cTOutcome x24_2.Out))]⟩ (by decide) (by kernel_rfl) ?_
                        exact SO.done (by (try rw [ht0]); kernel_rfl)
                    · refine SO.done ?_
                      refine SC.cond (((x7_2.Out.Kind == 0) || (x7_2.Out.Kind == 1)) && ((x24_2.Out.Kind == 0) || (x24_2.Out.Kind == 1))) (by kernel_rfl) (fun ht => ?_) (fun ht => ?_)
                      · replace h := Opt.t h ht
                        refine SC.region 7 rfl ?_
                        refine SO.run c0 2 ⟨[(0, .slice .none 6 (eTsweep_Count.F a0)), (4, .int .i64 l1_4), (5, .ptr (.loc 5) 0), (8, .int .i64 l7_8), (9, .ptr (.loc 9) 0), (100, .bool l7_3)], [(.loc 5, .cells true (cTOutcome x7_2.Out)), (.loc 9, .cells true (cTOutcome x24_2.Out))]⟩ (by decide) (by kernel_rfl) ?_
                        refine SO.joinK h (fun v : Bool => ⟨[(0, .slice .none 6 (eTsweep_Count.F a0)), (4, .int .i64 l1_4), (5, .ptr (.loc 5) 0), (8, .int .i64 l7_8), (104, .bool v)], [(.loc 5, .cells true (cTOutcome x7_2.Out))]⟩) 6 (by decide) ?_ ?_
                        · rintro g26_5_104 h
                          refine SO.eqS (S1 := ⟨[(0, .slice .none 6 (eTsweep_Count.F a0)), (4, .int .i64 l1_4), (5, .ptr (.loc 5) 0), (8, .int .i64 l7_8), (104, .bool g26_5_104)], [(.loc 5, .cells true (cTOutcome x7_2.Out))]⟩) rfl ?_
                          refine SO.run c0 7 ⟨[(0, .slice .none 6 (eTsweep_Count.F a0)), (3, .bool g26_5_104), (4, .int .i64 l1_4), (5, .ptr (.loc 5) 0), (8, .int .i64 l7_8)], [(.loc 5, .cells true (cTOutcome x7_2.Out))]⟩ (by decide) (by kernel_rfl) ?_
                          refine SO.done ?_
                          exact ⟨g26_5_104, rfl, h⟩
                        · intro j_g26_5 h
                          refine SO.bool l7_3 (fun b => ⟨[(0, .slice .none 6 (eTsweep_Count.F a0)), (4, .int .i64 l1_4), (5, .ptr (.loc 5) 0), (8, .int .i64 l7_8), (9, .ptr (.loc 9) 0), (100, .bool b)], [(.loc 5, .cells true (cTOutcome x7_2.Out)), (.loc 9, .cells true (cTOutcome x24_2.Out))]⟩) (fun ht => ?_) (fun ht => ?_)
                          · replace h := Opt.t h ht
                            refine SO.run c0 4 ⟨[(0, .slice .none 6 (eTsweep_Count.F a0)), (4, .int .i64 l1_4), (5, .ptr (.loc 5) 0), (8, .int .i64 l7_8), (100, .bool true), (101, .agg (cTOutcome x7_2.Out)), (102, .agg (cTOutcome x24_2.Out))], [(.loc 5, .cells true (cTOutcome x7_2.Out))]⟩ (by decide) (by kernel_rfl) ?_
                            obtain ⟨x26_4, hx26_4, h⟩ := Opt.ex h
                            refine SO.call ⟨14, [.agg (cTOutcome x7_2.Out), .agg (cTOutcome x24_2.Out)], [], [], some 103⟩ ⟨[(0, .slice .none 6 (eTsweep_Count.F a0)), (4, .int .i64 l1_4), (5, .ptr (.loc 5) 0), (8, .int .i64 l7_8), (100, .bool true), (103, .bool x26_4)], [(.loc 5, .cells true (cTOutcome x7_2.Out))]⟩ (by decide) (by kernel_rfl) (ok_ref25_Same k x7_2.Out x24_2.Out x26_4 hx26_4) (by kernel_rfl) ?_
                            refine SO.run c0 6 ⟨[(0, .slice .none 6 (eTsweep_Count.F a0)), (4, .int .i64 l1_4), (5, .ptr (.loc 5) 0), (8, .int .i64 l7_8), (104, .bool x26_4)], [(.loc 5, .cells true (cTOutcome x7_2.Out))]⟩ (by decide) (by kernel_rfl) ?_
                            exact SO.done ⟨x26_4, rfl, h⟩
                          · replace h := Opt.f h ht
                            refine SO.run c0 6 ⟨[(0, .slice .none 6 (eTsweep_Count.F a0)), (4, .int .i64 l1_4), (5, .ptr (.loc 5) 0), (8, .int .i64 l7_8), (104, .bool false)], [(.loc 5, .cells true (cTOutcome x7_2.Out))]⟩ (by decide) (by kernel_rfl) ?_
                            exact SO.done ⟨false, rfl, h⟩
                      · replace h := Opt.f h ht
                        refine SC.weak (S1 := ⟨[(0, .slice .none 6 (eTsweep_Count.F a0)), (3, .bool l7_3), (4, .int .i64 l1_4), (5, .ptr (.loc 5) 0), (8, .int .i64 l7_8)], [(.loc 5, .cells true (cTOutcome x7_2.Out))]⟩) ?_ ?_
                        · exact ⟨⟨Wk.refl _, Wk.refl _, Wk.refl _, Wk.refl _, Wk.refl _, trivial⟩, ⟨⟨.cells true (cTOutcome x7_2.Out), by kernel_rfl, ObWk.cells (WkL.refl _)⟩, trivial⟩, by kernel_rfl⟩
                        refine SC.skip ?_
                        exact ⟨l7_3, rfl, h⟩
                · replace h := Opt.f h ht
                  refine SC.weak (S1 := ⟨[(0, .slice .none 6 (eTsweep_Count.F a0)), (3, .bool l7_3), (4, .int .i64 l1_4)], []⟩) ?_ ?_
                  · exact ⟨⟨Wk.refl _, Wk.refl _, Wk.refl _, trivial⟩, trivial, by kernel_rfl⟩
                  refine SC.exit ?_
                  obtain ⟨r1, hh, e1⟩ := Opt.inr h
                  clear h
                  subst e1
                  have h := hh
                  clear hh
                  refine ⟨_, rfl, ?_⟩
                  exact ⟨l7_3, rfl, h⟩
              · intro j_j5 h
                refine SC.seq ?_
                refine SC.region 1 rfl ?_
                refine SO.run c0 1 ⟨[(0, .slice .none 6 (eTsweep_Count.F a0)), (3, .bool l1_3), (4, .int .i64 l1_4), (5, .ptr (.loc 5) 0), (7, .int .i64 0)], [(.loc 5, .cells true (cTOutcome x7_2.Out))]⟩ (by decide) (by kernel_rfl) ?_
                refine SO.done ?_
                refine SC.block ?_
                apply SC.loopJ (r := r) h (fun v : Int => ⟨[(0, .slice .none 6 (eTsweep_Count.F a0)), (3, .bool l1_3), (4, .int .i64 l1_4), (5, .ptr (.loc 5) 0), (7, .int .i64 v)], [(.loc 5, .cells true (cTOutcome x7_2.Out))]⟩)
                rintro l6_7 r h
                refine SC.eqS (S1 := ⟨[(0, .slice .none 6 (eTsweep_Count.F a0)), (3, .bool l1_3), (4, .int .i64 l1_4), (5, .ptr (.loc 5) 0), (7, .int .i64 l6_7)], [(.loc 5, .cells true (cTOutcome x7_2.Out))]⟩) rfl ?_
                refine SC.seq ?_
                refine SC.seq ?_
                refine SC.region 5 rfl ?_
                refine SO.run c0 5 ⟨[(0, .slice .none 6 (eTsweep_Count.F a0)), (3, .bool l1_3), (4, .int .i64 l1_4), (5, .ptr (.loc 5) 0), (7, .int .i64 l6_7), (55, .bool (decide (l6_7 < ((x7_2.Out.State.length : Int)))))], [(.loc 5, .cells true (cTOutcome x7_2.Out))]⟩ (by decide) (Eq.trans (b := some ⟨[(0, .slice .none 6 (eTsweep_Count.F a0)), (3, .bool l1_3), (4, .int .i64 l1_4), (5, .ptr (.loc 5) 0), (7, .int .i64 l6_7), (55, .bool (decide (l6_7 < (((eTValue.F x7_2.Out.State).length : Int)))))], [(.loc 5, .cells true (cTOutcome x7_2.Out))]⟩) (by kernel_rfl) (by simp only [LE.len])) ?_
                refine SO.done ?_
                refine SC.cond (decide (l6_7 < ((x7_2.Out.State.length : Int)))) (by kernel_rfl) (fun ht => ?_) (fun ht => ?_)
                · replace h := Opt.t h ht
                  refine SC.skip ?_
                  refine SC.seq ?_
                  refine SC.block ?_
                  refine SC.seq ?_
                  refine SC.region 7 rfl ?_
                  refine SO.run c0 3 ⟨[(0, .slice .none 6 (eTsweep_Count.F a0)), (3, .bool l1_3), (4, .int .i64 l1_4), (5, .ptr (.loc 5) 0), (7, .int .i64 l6_7), (59, .slice .none 3 (eTValue.F x7_2.Out.State)), (60, .int .i64 l6_7)], [(.loc 5, .cells true (cTOutcome x7_2.Out))]⟩ (by decide) (by kernel_rfl) ?_
                  obtain ⟨x18_3, hx18_3, h⟩ := Opt.ex h
                  refine SO.op c0 { v := .pin (cTValue x18_3) } ⟨[(0, .slice .none 6 (eTsweep_Count.F a0)), (3, .bool l1_3), (4, .int .i64 l1_4), (5, .ptr (.loc 5) 0), (7, .int .i64 l6_7), (61, .pin (cTValue x18_3))], [(.loc 5, .cells true (cTOutcome x7_2.Out))]⟩ (by decide) (ixR eTValue 34 .none 3 x7_2.Out.State .i64 l6_7 x18_3 (cTValue x18_3) (by kernel_rfl) (by kernel_rfl) hx18_3 (xTValue x18_3)) (by kernel_rfl) ?_
                  refine SO.run c0 5 ⟨[(0, .slice .none 6 (eTsweep_Count.F a0)), (3, .bool l1_3), (4, .int .i64 l1_4), (5, .ptr (.loc 5) 0), (7, .int .i64 l6_7), (62, .agg (cTValue x18_3))], [(.loc 5, .cells true (cTOutcome x7_2.Out))]⟩ (by decide) (by kernel_rfl) ?_
                  obtain ⟨x18_5, hx18_5, h⟩ := Opt.ex h
                  refine SO.call ⟨13, [.agg (cTValue x18_3)], [], [], some 63⟩ ⟨[(0, .slice .none 6 (eTsweep_Count.F a0)), (3, .bool l1_3), (4, .int .i64 l1_4), (5, .ptr (.loc 5) 0), (7, .int .i64 l6_7), (63, .int .i64 x18_5)], [(.loc 5, .cells true (cTOutcome x7_2.Out))]⟩ (by decide) (by kernel_rfl) (ok_law06_Small k x18_3 x18_5 hx18_5) (by kernel_rfl) ?_
                  refine SO.run c0 7 ⟨[(0, .slice .none 6 (eTsweep_Count.F a0)), (3, .bool l1_3), (4, .int .i64 l1_4), (5, .ptr (.loc 5) 0), (7, .int .i64 l6_7), (64, .bool (x18_5 == 0))], [(.loc 5, .cells true (cTOutcome x7_2.Out))]⟩ (by decide) (by kernel_rfl) ?_
                  refine SO.done ?_
                  refine SC.cond (x18_5 == 0) (by kernel_rfl) (fun ht => ?_) (fun ht => ?_)
                  · replace h := Opt.t h ht
                    refine SC.seq ?_
                    refine SC.region 1 rfl ?_
                    refine SO.run c0 1 ⟨[(2, .bool true)], []⟩ (by decide) (by kernel_rfl) ?_
                    refine SO.done ?_
                    refine SC.ret ?_
                    replace h := Option.some.inj h
                    subst h
                    refine ⟨_, rfl, ?_⟩
                    refine ⟨_, rfl, ?_⟩
                    exact ⟨[.bool true], by kernel_rfl, Wk.eq (by kernel_rfl), trivial, by kernel_rfl⟩
                  · replace h := Opt.f h ht
                    refine SC.skip ?_
                    refine SC.region 3 rfl ?_
                    refine SO.run c0 3 ⟨[(0, .slice .none 6 (eTsweep_Count.F a0)), (3, .bool l1_3), (4, .int .i64 l1_4), (5, .ptr (.loc 5) 0), (7, .int .i64 (IntKind.i64.wrap (l6_7 + 1)))], [(.loc 5, .cells true (cTOutcome x7_2.Out))]⟩ (by decide) (by kernel_rfl) ?_
                    refine SO.done ?_
                    replace h := Option.some.inj h
                    subst h
                    exact ⟨(IntKind.i64.wrap (l6_7 + 1)), rfl, rfl⟩
                · replace h := Opt.f h ht
                  refine SC.weak (S1 := ⟨[(0, .slice .none 6 (eTsweep_Count.F a0)), (3, .bool l1_3), (4, .int .i64 l1_4), (5, .ptr (.loc 5) 0)], [(.loc 5, .cells true (cTOutcome x7_2.Out))]⟩) ?_ ?_
                  · exact ⟨⟨Wk.refl _, Wk.refl _, Wk.refl _, Wk.refl _, trivial⟩, ⟨⟨.cells true (cTOutcome x7_2.Out), by kernel_rfl, ObWk.cells (WkL.refl _)⟩, trivial⟩, by kernel_rfl⟩
                  refine SC.exit ?_
                  obtain ⟨r1, hh, e1⟩ := Opt.inr h
                  clear h
                  subst e1
                  have h := hh
                  clear hh
                  refine ⟨_, rfl, ?_⟩
                  exact ⟨(), rfl, h⟩
            · intro j_j3 h
              refine SC.seq ?_
              refine SC.region 1 rfl ?_
              refine SO.run c0 1 ⟨[(0, .slice .none 6 (eTsweep_Count.F a0)), (3, .bool l1_3), (4, .int .i64 l1_4), (5, .ptr (.loc 5) 0), (6, .int .i64 0)], [(.loc 5, .cells true (cTOutcome x7_2.Out))]⟩ (by decide) (by kernel_rfl) ?_
              refine SO.done ?_
              refine SC.block ?_
              apply SC.loopJ (r := r) h (fun v : Int => ⟨[(0, .slice .none 6 (eTsweep_Count.F a0)), (3, .bool l1_3), (4, .int .i64 l1_4), (5, .ptr (.loc 5) 0), (6, .int .i64 v)], [(.loc 5, .cells true (cTOutcome x7_2.Out))]⟩)
              rintro l4_6 r h
              refine SC.eqS (S1 := ⟨[(0, .slice .none 6 (eTsweep_Count.F a0)), (3, .bool l1_3), (4, .int .i64 l1_4), (5, .ptr (.loc 5) 0), (6, .int .i64 l4_6)], [(.loc 5, .cells true (cTOutcome x7_2.Out))]⟩) rfl ?_
              refine SC.seq ?_
              refine SC.seq ?_
              refine SC.region 5 rfl ?_
              refine SO.run c0 5 ⟨[(0, .slice .none 6 (eTsweep_Count.F a0)), (3, .bool l1_3), (4, .int .i64 l1_4), (5, .ptr (.loc 5) 0), (6, .int .i64 l4_6), (41, .bool (decide (l4_6 < ((x7_2.Out.Log.length : Int)))))], [(.loc 5, .cells true (cTOutcome x7_2.Out))]⟩ (by decide) (Eq.trans (b := some ⟨[(0, .slice .none 6 (eTsweep_Count.F a0)), (3, .bool l1_3), (4, .int .i64 l1_4), (5, .ptr (.loc 5) 0), (6, .int .i64 l4_6), (41, .bool (decide (l4_6 < (((eTValue.F x7_2.Out.Log).length : Int)))))], [(.loc 5, .cells true (cTOutcome x7_2.Out))]⟩) (by kernel_rfl) (by simp only [LE.len])) ?_
              refine SO.done ?_
              refine SC.cond (decide (l4_6 < ((x7_2.Out.Log.length : Int)))) (by kernel_rfl) (fun ht => ?_) (fun ht => ?_)
              · replace h := Opt.t h ht
                refine SC.skip ?_
                refine SC.seq ?_
                refine SC.block ?_
                refine SC.seq ?_
                refine SC.region 7 rfl ?_
                refine SO.run c0 3 ⟨[(0, .slice .none 6 (eTsweep_Count.F a0)), (3, .bool l1_3), (4, .int .i64 l1_4), (5, .ptr (.loc 5) 0), (6, .int .i64 l4_6), (45, .slice .none 3 (eTValue.F x7_2.Out.Log)), (46, .int .i64 l4_6)], [(.loc 5, .cells true (cTOutcome x7_2.Out))]⟩ (by decide) (by kernel_rfl) ?_
                obtain ⟨x13_3, hx13_3, h⟩ := Opt.ex h
                refine SO.op c0 { v := .pin (cTValue x13_3) } ⟨[(0, .slice .none 6 (eTsweep_Count.F a0)), (3, .bool l1_3), (4, .int .i64 l1_4), (5, .ptr (.loc 5) 0), (6, .int .i64 l4_6), (47, .pin (cTValue x13_3))], [(.loc 5, .cells true (cTOutcome x7_2.Out))]⟩ (by decide) (ixR eTValue 34 .none 3 x7_2.Out.Log .i64 l4_6 x13_3 (cTValue x13_3) (by kernel_rfl) (by kernel_rfl) hx13_3 (xTValue x13_3)) (by kernel_rfl) ?_
                refine SO.run c0 5 ⟨[(0, .slice .none 6 (eTsweep_Count.F a0)), (3, .bool l1_3), (4, .int .i64 l1_4), (5, .ptr (.loc 5) 0), (6, .int .i64 l4_6), (48, .agg (cTValue x13_3))], [(.loc 5, .cells true (cTOutcome x7_2.Out))]⟩ (by decide) (by kernel_rfl) ?_
                obtain ⟨x13_5, hx13_5, h⟩ := Opt.ex h
                refine SO.call ⟨13, [.agg (cTValue x13_3)], [], [], some 49⟩ ⟨[(0, .slice .none 6 (eTsweep_Count.F a0)), (3, .bool l1_3), (4, .int .i64 l1_4), (5, .ptr (.loc 5) 0), (6, .int .i64 l4_6), (49, .int .i64 x13_5)], [(.loc 5, .cells true (cTOutcome x7_2.Out))]⟩ (by decide) (by kernel_rfl) (ok_law06_Small k x13_3 x13_5 hx13_5) (by kernel_rfl) ?_
                refine SO.run c0 7 ⟨[(0, .slice .none 6 (eTsweep_Count.F a0)), (3, .bool l1_3), (4, .int .i64 l1_4), (5, .ptr (.loc 5) 0), (6, .int .i64 l4_6), (50, .bool (x13_5 == 0))], [(.loc 5, .cells true (cTOutcome x7_2.Out))]⟩ (by decide) (by kernel_rfl) ?_
                refine SO.done ?_
                refine SC.cond (x13_5 == 0) (by kernel_rfl) (fun ht => ?_) (fun ht => ?_)
                · replace h := Opt.t h ht
                  refine SC.seq ?_
                  refine SC.region 1 rfl ?_
                  refine SO.run c0 1 ⟨[(2, .bool true)], []⟩ (by decide) (by kernel_rfl) ?_
                  refine SO.done ?_
                  refine SC.ret ?_
                  replace h := Option.some.inj h
                  subst h
                  refine ⟨_, rfl, ?_⟩
                  refine ⟨_, rfl, ?_⟩
                  exact ⟨[.bool true], by kernel_rfl, Wk.eq (by kernel_rfl), trivial, by kernel_rfl⟩
                · replace h := Opt.f h ht
                  refine SC.skip ?_
                  refine SC.region 3 rfl ?_
                  refine SO.run c0 3 ⟨[(0, .slice .none 6 (eTsweep_Count.F a0)), (3, .bool l1_3), (4, .int .i64 l1_4), (5, .ptr (.loc 5) 0), (6, .int .i64 (IntKind.i64.wrap (l4_6 + 1)))], [(.loc 5, .cells true (cTOutcome x7_2.Out))]⟩ (by decide) (by kernel_rfl) ?_
                  refine SO.done ?_
                  replace h := Option.some.inj h
                  subst h
                  exact ⟨(IntKind.i64.wrap (l4_6 + 1)), rfl, rfl⟩
              · replace h := Opt.f h ht
                refine SC.weak (S1 := ⟨[(0, .slice .none 6 (eTsweep_Count.F a0)), (3, .bool l1_3), (4, .int .i64 l1_4), (5, .ptr (.loc 5) 0)], [(.loc 5, .cells true (cTOutcome x7_2.Out))]⟩) ?_ ?_
                · exact ⟨⟨Wk.refl _, Wk.refl _, Wk.refl _, Wk.refl _, trivial⟩, ⟨⟨.cells true (cTOutcome x7_2.Out), by kernel_rfl, ObWk.cells (WkL.refl _)⟩, trivial⟩, by kernel_rfl⟩
                refine SC.exit ?_
                obtain ⟨r1, hh, e1⟩ := Opt.inr h
                clear h
                subst e1
                have h := hh
                clear hh
                refine ⟨_, rfl, ?_⟩
                exact ⟨(), rfl, h⟩
      · replace h := Opt.f h ht
        refine SC.weak (S1 := ⟨[(0, .slice .none 6 (eTsweep_Count.F a0)), (3, .bool l1_3)], []⟩) ?_ ?_
        · exact ⟨⟨Wk.refl _, Wk.refl _, trivial⟩, trivial, by kernel_rfl⟩
        refine SC.exit ?_
        obtain ⟨r1, hh, e1⟩ := Opt.inr h
        clear h
        subst e1
        have h := hh
        clear hh
        refine ⟨_, rfl, ?_⟩
        exact ⟨l1_3, rfl, h⟩
theorem ok_law47_SweepAll (k : Nat) (a0 : Int) (a1 : Int) (r : Bool) (h : law47_SweepAll k a0 a1 = some r) :
    SF Z 4 [.int .i64 a0, .int .i64 a1] [] (.bool r) [] := by
  unfold law47_SweepAll at h
  refine SF.intro Try.func4 rfl Try.ntmps4 rfl (Nat.le_of_ble_eq_true rfl) (by decide) ?_
  refine SC.seq ?_
  refine SC.region 1 rfl ?_
  refine SO.run c0 1 ⟨[(0, .int .i64 a0), (1, .int .i64 a1)], []⟩ (by decide) (by kernel_rfl) ?_
  refine SO.done ?_
  refine SC.seq ?_
  refine SC.seq ?_
  refine SC.region 2 rfl ?_
  obtain ⟨x1_0, hx1_0, h⟩ := Opt.ex h
  refine SO.call ⟨11, [], [], [], some 11⟩ ⟨[(0, .int .i64 a0), (1, .int .i64 a1), (11, .bool x1_0)], []⟩ (by decide) (by kernel_rfl) (ok_law47_works k x1_0 hx1_0) (by kernel_rfl) ?_
  refine SO.run c0 2 ⟨[(0, .int .i64 a0), (1, .int .i64 a1), (12, .bool (!x1_0))], []⟩ (by decide) (by kernel_rfl) ?_
  refine SO.done ?_
  refine SC.cond (!x1_0) (by kernel_rfl) (fun ht => ?_) (fun ht => ?_)
  · replace h := Opt.t h ht
    refine SC.seq ?_
    refine SC.region 1 rfl ?_
    refine SO.run c0 1 ⟨[(4, .bool false)], []⟩ (by decide) (by kernel_rfl) ?_
    refine SO.done ?_
    refine SC.ret ?_
    replace h := Option.some.inj h
    subst h
    exact ⟨[.bool false], by kernel_rfl, Wk.eq (by kernel_rfl), trivial, by kernel_rfl⟩
  · replace h := Opt.f h ht
    refine SC.skip ?_
    refine SC.seq ?_
    refine SC.region 4 rfl ?_
    refine SO.run c0 2 ⟨[(0, .int .i64 a0), (1, .int .i64 a1), (13, .int .i64 a0), (14, .int .i64 a1)], []⟩ (by decide) (by kernel_rfl) ?_
    obtain ⟨x3_2, hx3_2, h⟩ := Opt.ex h
    refine SO.call ⟨12, [.int .i64 a0, .int .i64 a1], [], [], some 15⟩ ⟨[(0, .int .i64 a0), (1, .int .i64 a1), (15, .slice .none 1 (eL_eTPick.F x3_2))], []⟩ (by decide) (by kernel_rfl) (ok_sweep_All k a0 a1 x3_2 hx3_2) (by kernel_rfl) ?_
    refine SO.run c0 4 ⟨[(0, .int .i64 a0), (1, .int .i64 a1), (5, .slice .none 1 (eL_eTPick.F x3_2))], []⟩ (by decide) (by kernel_rfl) ?_
    refine SO.done ?_
    refine SC.seq ?_
    refine SC.region 1 rfl ?_
    refine SO.run c0 1 ⟨[(0, .int .i64 a0), (1, .int .i64 a1), (5, .slice .none 1 (eL_eTPick.F x3_2)), (6, .int .i64 1)], []⟩ (by decide) (by kernel_rfl) ?_
    refine SO.done ?_
    apply SC.seqJ (r := r) h (fun v : Int => ⟨[(0, .int .i64 a0), (1, .int .i64 a1), (5, .slice .none 1 (eL_eTPick.F x3_2)), (6, .int .i64 v)], []⟩)
    · rintro j0_6 r h
      refine SC.eqS (S1 := ⟨[(0, .int .i64 a0), (1, .int .i64 a1), (5, .slice .none 1 (eL_eTPick.F x3_2)), (6, .int .i64 j0_6)], []⟩) rfl ?_
      refine SC.seq ?_
      refine SC.seq ?_
      refine SC.region 14 rfl ?_
      refine SO.run c0 3 ⟨[(0, .int .i64 a0), (1, .int .i64 a1), (5, .slice .none 1 (eL_eTPick.F x3_2)), (6, .int .i64 j0_6), (36, .bool (decide (a0 < 1)))], []⟩ (by decide) (by kernel_rfl) ?_
      refine SO.runB c0 6 (decide (a0 < 1)) (fun b => ⟨[(0, .int .i64 a0), (1, .int .i64 a1), (5, .slice .none 1 (eL_eTPick.F x3_2)), (6, .int .i64 j0_6), (36, .bool b)], []⟩) (fun b => ⟨[(0, .int .i64 a0), (1, .int .i64 a1), (5, .slice .none 1 (eL_eTPick.F x3_2)), (6, .int .i64 j0_6), (39, .bool (b || (decide (a0 > 64))))], []⟩) (by decide) (by kernel_rfl) (by kernel_rfl) ?_
      refine SO.run c0 7 ⟨[(0, .int .i64 a0), (1, .int .i64 a1), (5, .slice .none 1 (eL_eTPick.F x3_2)), (6, .int .i64 j0_6), (40, .bool ((decide (a0 < 1)) || (decide (a0 > 64))))], []⟩ (by decide) (by kernel_rfl) ?_
      refine SO.runB c0 10 ((decide (a0 < 1)) || (decide (a0 > 64))) (fun b => ⟨[(0, .int .i64 a0), (1, .int .i64 a1), (5, .slice .none 1 (eL_eTPick.F x3_2)), (6, .int .i64 j0_6), (40, .bool b)], []⟩) (fun b => ⟨[(0, .int .i64 a0), (1, .int .i64 a1), (5, .slice .none 1 (eL_eTPick.F x3_2)), (6, .int .i64 j0_6), (43, .bool (b || (decide (a1 < 1))))], []⟩) (by decide) (by kernel_rfl) (by kernel_rfl) ?_
      refine SO.run c0 11 ⟨[(0, .int .i64 a0), (1, .int .i64 a1), (5, .slice .none 1 (eL_eTPick.F x3_2)), (6, .int .i64 j0_6), (44, .bool (((decide (a0 < 1)) || (decide (a0 > 64))) || (decide (a1 < 1))))], []⟩ (by decide) (by kernel_rfl) ?_
      refine SO.runB c0 14 (((decide (a0 < 1)) || (decide (a0 > 64))) || (decide (a1 < 1))) (fun b => ⟨[(0, .int .i64 a0), (1, .int .i64 a1), (5, .slice .none 1 (eL_eTPick.F x3_2)), (6, .int .i64 j0_6), (44, .bool b)], []⟩) (fun b => ⟨[(0, .int .i64 a0), (1, .int .i64 a1), (5, .slice .none 1 (eL_eTPick.F x3_2)), (6, .int .i64 j0_6), (47, .bool (b || (decide (j0_6 > 4096))))], []⟩) (by decide) (by kernel_rfl) (by kernel_rfl) ?_
      refine SO.done ?_
      refine SC.cond ((((decide (a0 < 1)) || (decide (a0 > 64))) || (decide (a1 < 1))) || (decide (j0_6 > 4096))) (by kernel_rfl) (fun ht => ?_) (fun ht => ?_)
      · replace h := Opt.t h ht
        refine SC.seq ?_
        refine SC.region 4 rfl ?_
        refine SO.run c0 4 ⟨[(4, .bool (((x3_2.length : Int)) == 0))], []⟩ (by decide) (Eq.trans (b := some ⟨[(4, .bool ((((eL_eTPick.F x3_2).length : Int)) == 0))], []⟩) (by kernel_rfl) (by simp only [LE.len])) ?_
        refine SO.done ?_
        refine SC.ret ?_
        replace h := Option.some.inj h
        subst h
        exact ⟨[.bool (((x3_2.length : Int)) == 0)], by kernel_rfl, Wk.eq (by kernel_rfl), trivial, by kernel_rfl⟩
      · replace h := Opt.f h ht
        refine SC.skip ?_
        refine SC.seq ?_
        refine SC.seq ?_
        refine SC.region 4 rfl ?_
        refine SO.run c0 4 ⟨[(0, .int .i64 a0), (1, .int .i64 a1), (5, .slice .none 1 (eL_eTPick.F x3_2)), (54, .bool (((x3_2.length : Int)) != j0_6))], []⟩ (by decide) (Eq.trans (b := some ⟨[(0, .int .i64 a0), (1, .int .i64 a1), (5, .slice .none 1 (eL_eTPick.F x3_2)), (54, .bool ((((eL_eTPick.F x3_2).length : Int)) != j0_6))], []⟩) (by kernel_rfl) (by simp only [LE.len])) ?_
        refine SO.done ?_
        refine SC.cond (((x3_2.length : Int)) != j0_6) (by kernel_rfl) (fun ht => ?_) (fun ht => ?_)
        · replace h := Opt.t h ht
          refine SC.seq ?_
          refine SC.region 1 rfl ?_
          refine SO.run c0 1 ⟨[(4, .bool false)], []⟩ (by decide) (by kernel_rfl) ?_
          refine SO.done ?_
          refine SC.ret ?_
          replace h := Option.some.inj h
          subst h
          exact ⟨[.bool false], by kernel_rfl, Wk.eq (by kernel_rfl), trivial, by kernel_rfl⟩
        · replace h := Opt.f h ht
          refine SC.skip ?_
          apply SC.seqJ (r := r) h (fun v : Unit => ⟨[], []⟩)
          · rintro ⟨⟩ r h
            refine SC.eqS (S1 := ⟨[], []⟩) rfl ?_
            refine SC.seq ?_
            refine SC.region 1 rfl ?_
            refine SO.run c0 1 ⟨[(4, .bool true)], []⟩ (by decide) (by kernel_rfl) ?_
            refine SO.done ?_
            refine SC.ret ?_
            replace h := Option.some.inj h
            subst h
            exact ⟨[.bool true], by kernel_rfl, Wk.eq (by kernel_rfl), trivial, by kernel_rfl⟩
          · intro j_j2 h
            refine SC.seq ?_
            refine SC.region 1 rfl ?_
            refine SO.run c0 1 ⟨[(0, .int .i64 a0), (1, .int .i64 a1), (5, .slice .none 1 (eL_eTPick.F x3_2)), (8, .int .i64 0)], []⟩ (by decide) (by kernel_rfl) ?_
            refine SO.done ?_
            refine SC.block ?_
            apply SC.loopJ (r := r) h (fun v : Int => ⟨[(0, .int .i64 a0), (1, .int .i64 a1), (5, .slice .none 1 (eL_eTPick.F x3_2)), (8, .int .i64 v)], []⟩)
            rintro l3_8 r h
            refine SC.eqS (S1 := ⟨[(0, .int .i64 a0), (1, .int .i64 a1), (5, .slice .none 1 (eL_eTPick.F x3_2)), (8, .int .i64 l3_8)], []⟩) rfl ?_
            refine SC.seq ?_
            refine SC.seq ?_
            refine SC.region 4 rfl ?_
            refine SO.run c0 4 ⟨[(0, .int .i64 a0), (1, .int .i64 a1), (5, .slice .none 1 (eL_eTPick.F x3_2)), (8, .int .i64 l3_8), (58, .bool (decide (l3_8 < ((x3_2.length : Int)))))], []⟩ (by decide) (Eq.trans (b := some ⟨[(0, .int .i64 a0), (1, .int .i64 a1), (5, .slice .none 1 (eL_eTPick.F x3_2)), (8, .int .i64 l3_8), (58, .bool (decide (l3_8 < (((eL_eTPick.F x3_2).length : Int)))))], []⟩) (by kernel_rfl) (by simp only [LE.len])) ?_
            refine SO.done ?_
            refine SC.cond (decide (l3_8 < ((x3_2.length : Int)))) (by kernel_rfl) (fun ht => ?_) (fun ht => ?_)
            · replace h := Opt.t h ht
              refine SC.skip ?_
              apply SC.seqJ (r := r) h (fun v : Unit => ⟨[(0, .int .i64 a0), (1, .int .i64 a1), (5, .slice .none 1 (eL_eTPick.F x3_2)), (8, .int .i64 l3_8)], []⟩)
              · rintro ⟨⟩ r h
                refine SC.eqS (S1 := ⟨[(0, .int .i64 a0), (1, .int .i64 a1), (5, .slice .none 1 (eL_eTPick.F x3_2)), (8, .int .i64 l3_8)], []⟩) rfl ?_
                refine SC.region 3 rfl ?_
                refine SO.run c0 3 ⟨[(0, .int .i64 a0), (1, .int .i64 a1), (5, .slice .none 1 (eL_eTPick.F x3_2)), (8, .int .i64 (IntKind.i64.wrap (l3_8 + 1)))], []⟩ (by decide) (by kernel_rfl) ?_
                refine SO.done ?_
                replace h := Option.some.inj h
                subst h
                exact ⟨(IntKind.i64.wrap (l3_8 + 1)), rfl, rfl⟩
              · intro j_j4 h
                refine SC.block ?_
                refine SC.seq ?_
                refine SC.seq ?_
                refine SC.region 7 rfl ?_
                refine SO.run c0 2 ⟨[(0, .int .i64 a0), (1, .int .i64 a1), (5, .slice .none 1 (eL_eTPick.F x3_2)), (8, .int .i64 l3_8), (61, .slice .none 1 (eL_eTPick.F x3_2)), (62, .int .i64 l3_8)], []⟩ (by decide) (by kernel_rfl) ?_
                obtain ⟨x16_2, hx16_2, h⟩ := Opt.ex h
                refine SO.op c0 { v := .pin [.slice .none 3 (eTPick.F x16_2)] } ⟨[(0, .int .i64 a0), (1, .int .i64 a1), (5, .slice .none 1 (eL_eTPick.F x3_2)), (8, .int .i64 l3_8), (63, .pin [.slice .none 3 (eTPick.F x16_2)])], []⟩ (by decide) (ixR eL_eTPick 28 .none 1 x3_2 .i64 l3_8 x16_2 [.slice .none 3 (eTPick.F x16_2)] (by kernel_rfl) (by kernel_rfl) hx16_2 (rfl)) (by kernel_rfl) ?_
                refine SO.run c0 7 ⟨[(0, .int .i64 a0), (1, .int .i64 a1), (5, .slice .none 1 (eL_eTPick.F x3_2)), (8, .int .i64 l3_8), (67, .bool (((x16_2.length : Int)) != a0))], []⟩ (by decide) (Eq.trans (b := some ⟨[(0, .int .i64 a0), (1, .int .i64 a1), (5, .slice .none 1 (eL_eTPick.F x3_2)), (8, .int .i64 l3_8), (67, .bool ((((eTPick.F x16_2).length : Int)) != a0))], []⟩) (by kernel_rfl) (by simp only [LE.len])) ?_
                refine SO.done ?_
                refine SC.cond (((x16_2.length : Int)) != a0) (by kernel_rfl) (fun ht => ?_) (fun ht => ?_)
                · replace h := Opt.t h ht
                  refine SC.seq ?_
                  refine SC.region 1 rfl ?_
                  refine SO.run c0 1 ⟨[(4, .bool false)], []⟩ (by decide) (by kernel_rfl) ?_
                  refine SO.done ?_
                  refine SC.ret ?_
                  replace h := Option.some.inj h
                  subst h
                  refine ⟨_, rfl, ?_⟩
                  exact ⟨[.bool false], by kernel_rfl, Wk.eq (by kernel_rfl), trivial, by kernel_rfl⟩
                · replace h := Opt.f h ht
                  refine SC.skip ?_
                  refine SC.seq ?_
                  refine SC.region 2 rfl ?_
                  refine SO.run c0 2 ⟨[(0, .int .i64 a0), (1, .int .i64 a1), (5, .slice .none 1 (eL_eTPick.F x3_2)), (8, .int .i64 l3_8), (9, .int .i64 l3_8)], []⟩ (by decide) (by kernel_rfl) ?_
                  refine SO.done ?_
                  refine SC.seq ?_
                  refine SC.region 3 rfl ?_
                  refine SO.run c0 3 ⟨[(0, .int .i64 a0), (1, .int .i64 a1), (5, .slice .none 1 (eL_eTPick.F x3_2)), (8, .int .i64 l3_8), (9, .int .i64 l3_8), (10, .int .i64 (IntKind.i64.wrap (a0 - 1)))], []⟩ (by decide) (by kernel_rfl) ?_
                  refine SO.done ?_
                  refine SC.block ?_
                  apply SC.loopJ (r := r) h (fun v : Int × Int => ⟨[(0, .int .i64 a0), (1, .int .i64 a1), (5, .slice .none 1 (eL_eTPick.F x3_2)), (8, .int .i64 l3_8), (9, .int .i64 v.1), (10, .int .i64 v.2)], []⟩)
                  rintro ⟨l5_9, l5_10⟩ r h
                  refine SC.eqS (S1 := ⟨[(0, .int .i64 a0), (1, .int .i64 a1), (5, .slice .none 1 (eL_eTPick.F x3_2)), (8, .int .i64 l3_8), (9, .int .i64 l5_9), (10, .int .i64 l5_10)], []⟩) rfl ?_
                  refine SC.seq ?_
                  refine SC.seq ?_
                  refine SC.region 2 rfl ?_
                  refine SO.run c0 2 ⟨[(0, .int .i64 a0), (1, .int .i64 a1), (5, .slice .none 1 (eL_eTPick.F x3_2)), (8, .int .i64 l3_8), (9, .int .i64 l5_9), (10, .int .i64 l5_10), (72, .bool (decide (l5_10 ≥ 0)))], []⟩ (by decide) (by kernel_rfl) ?_
                  refine SO.done ?_
                  refine SC.cond (decide (l5_10 ≥ 0)) (by kernel_rfl) (fun ht => ?_) (fun ht => ?_)
                  · replace h := Opt.t h ht
                    refine SC.skip ?_
                    refine SC.seq ?_
                    refine SC.block ?_
                    refine SC.seq ?_
                    refine SC.seq ?_
                    refine SC.drawS 15 rfl (by kernel_rfl) ?_
                    refine QD.run 2 ⟨[(0, .int .i64 a0), (1, .int .i64 a1), (5, .slice .none 1 (eL_eTPick.F x3_2)), (8, .int .i64 l3_8), (9, .int .i64 l5_9), (10, .int .i64 l5_10), (72, .bool (decide (l5_10 ≥ 0))), (75, .slice .none 1 (eL_eTPick.F x3_2)), (76, .int .i64 l3_8)], []⟩ (by decide) (by kernel_rfl) ?_
                    obtain ⟨x22_2, hx22_2, h⟩ := Opt.ex h
                    refine QD.op (.pin [.slice .none 3 (eTPick.F x22_2)]) ⟨[(0, .int .i64 a0), (1, .int .i64 a1), (5, .slice .none 1 (eL_eTPick.F x3_2)), (8, .int .i64 l3_8), (9, .int .i64 l5_9), (10, .int .i64 l5_10), (72, .bool (decide (l5_10 ≥ 0))), (75, .slice .none 1 (eL_eTPick.F x3_2)), (76, .int .i64 l3_8), (77, .pin [.slice .none 3 (eTPick.F x22_2)])], []⟩ (by decide) (ixR eL_eTPick 28 .none 1 x3_2 .i64 l3_8 x22_2 [.slice .none 3 (eTPick.F x22_2)] (by kernel_rfl) (by kernel_rfl) hx22_2 (rfl)) (by kernel_rfl) ?_
                    refine QD.run 5 ⟨[(0, .int .i64 a0), (1, .int .i64 a1), (5, .slice .none 1 (eL_eTPick.F x3_2)), (8, .int .i64 l3_8), (9, .int .i64 l5_9), (10, .int .i64 l5_10), (72, .bool (decide (l5_10 ≥ 0))), (75, .slice .none 1 (eL_eTPick.F x3_2)), (76, .int .i64 l3_8), (77, .pin [.slice .none 3 (eTPick.F x22_2)]), (78, .slice .none 3 (eTPick.F x22_2)), (79, .int .i64 l5_10)], []⟩ (by decide) (by kernel_rfl) ?_
                    obtain ⟨x22_5, hx22_5, h⟩ := Opt.ex h
                    refine QD.op (.pin (cTPick x22_5)) ⟨[(0, .int .i64 a0), (1, .int .i64 a1), (5, .slice .none 1 (eL_eTPick.F x3_2)), (8, .int .i64 l3_8), (9, .int .i64 l5_9), (10, .int .i64 l5_10), (72, .bool (decide (l5_10 ≥ 0))), (75, .slice .none 1 (eL_eTPick.F x3_2)), (76, .int .i64 l3_8), (77, .pin [.slice .none 3 (eTPick.F x22_2)]), (78, .slice .none 3 (eTPick.F x22_2)), (79, .int .i64 l5_10), (80, .pin (cTPick x22_5))], []⟩ (by decide) (ixR eTPick 30 .none 3 x22_2 .i64 l5_10 x22_5 (cTPick x22_5) (by kernel_rfl) (by kernel_rfl) hx22_5 (xTPick x22_5)) (by kernel_rfl) ?_
                    refine QD.run 9 ⟨[(0, .int .i64 a0), (1, .int .i64 a1), (5, .slice .none 1 (eL_eTPick.F x3_2)), (8, .int .i64 l3_8), (9, .int .i64 l5_9), (10, .int .i64 l5_10), (72, .bool (decide (l5_10 ≥ 0))), (75, .slice .none 1 (eL_eTPick.F x3_2)), (76, .int .i64 l3_8), (77, .pin [.slice .none 3 (eTPick.F x22_2)]), (78, .slice .none 3 (eTPick.F x22_2)), (79, .int .i64 l5_10), (80, .pin (cTPick x22_5)), (81, .agg (cTPick x22_5)), (82, .int .i64 l5_9), (83, .int .i64 a1)], []⟩ (by decide) (by kernel_rfl) ?_
                    obtain ⟨hd, h⟩ := Opt.gn h
                    refine QD.op (.int .i64 (Int.tmod l5_9 a1)) ⟨[(0, .int .i64 a0), (1, .int .i64 a1), (5, .slice .none 1 (eL_eTPick.F x3_2)), (8, .int .i64 l3_8), (9, .int .i64 l5_9), (10, .int .i64 l5_10), (72, .bool (decide (l5_10 ≥ 0))), (75, .slice .none 1 (eL_eTPick.F x3_2)), (76, .int .i64 l3_8), (77, .pin [.slice .none 3 (eTPick.F x22_2)]), (78, .slice .none 3 (eTPick.F x22_2)), (79, .int .i64 l5_10), (80, .pin (cTPick x22_5)), (81, .agg (cTPick x22_5)), (82, .int .i64 l5_9), (83, .int .i64 a1), (84, .int .i64 (Int.tmod l5_9 a1))], []⟩ (by decide) (reR .i64 l5_9 a1 3 (by kernel_rfl) hd) (by kernel_rfl) ?_
                    refine QD.run 15 ⟨[(0, .int .i64 a0), (1, .int .i64 a1), (5, .slice .none 1 (eL_eTPick.F x3_2)), (8, .int .i64 l3_8), (9, .int .i64 l5_9), (10, .int .i64 l5_10), (72, .bool (decide (l5_10 ≥ 0))), (75, .slice .none 1 (eL_eTPick.F x3_2)), (76, .int .i64 l3_8), (77, .pin [.slice .none 3 (eTPick.F x22_2)]), (78, .slice .none 3 (eTPick.F x22_2)), (79, .int .i64 l5_10), (80, .pin (cTPick x22_5)), (81, .agg (cTPick x22_5)), (82, .int .i64 l5_9), (83, .int .i64 a1), (84, .int .i64 (Int.tmod l5_9 a1)), (85, .int .i64 l5_10), (86, .int .i64 (Int.tmod l5_10 2)), (87, .bool ((Int.tmod l5_10 2) == 1)), (88, .agg [.int .i64 (Int.tmod l5_9 a1), .int .i64 1, .bool ((Int.tmod l5_10 2) == 1)]), (89, .bool (!((x22_5.Pick == (Int.tmod l5_9 a1)) && ((x22_5.Slice == 1) && ((x22_5.Gc == ((Int.tmod l5_10 2) == 1)) && true)))))], []⟩ (by decide) (by kernel_rfl) ?_
                    refine QD.fin ⟨[(0, .int .i64 a0), (1, .int .i64 a1), (5, .slice .none 1 (eL_eTPick.F x3_2)), (8, .int .i64 l3_8), (9, .int .i64 l5_9), (10, .int .i64 l5_10), (89, .bool (!((x22_5.Pick == (Int.tmod l5_9 a1)) && ((x22_5.Slice == 1) && ((x22_5.Gc == ((Int.tmod l5_10 2) == 1)) && true)))))], []⟩ (by kernel_rfl) ?_
                    refine SC.cond (!((x22_5.Pick == (Int.tmod l5_9 a1)) && ((x22_5.Slice == 1) && ((x22_5.Gc == ((Int.tmod l5_10 2) == 1)) && true)))) (by kernel_rfl) (fun ht => ?_) (fun ht => ?_)
                    · replace h := Opt.t h ht
                      refine SC.seq ?_
                      refine SC.region 1 rfl ?_
                      refine SO.run c0 1 ⟨[(4, .bool false)], []⟩ (by decide) (by kernel_rfl) ?_
                      refine SO.done ?_
                      refine SC.ret ?_
                      replace h := Option.some.inj h
                      subst h
                      refine ⟨_, rfl, ?_⟩
                      refine ⟨_, rfl, ?_⟩
                      exact ⟨[.bool false], by kernel_rfl, Wk.eq (by kernel_rfl), trivial, by kernel_rfl⟩
                    · replace h := Opt.f h ht
                      refine SC.skip ?_
                      refine SC.region 4 rfl ?_
                      refine SO.run c0 2 ⟨[(0, .int .i64 a0), (1, .int .i64 a1), (5, .slice .none 1 (eL_eTPick.F x3_2)), (8, .int .i64 l3_8), (10, .int .i64 l5_10), (90, .int .i64 l5_9), (91, .int .i64 a1)], []⟩ (by decide) (by kernel_rfl) ?_
                      obtain ⟨hd, h⟩ := Opt.gn h
                      refine SO.op c0 { v := .int .i64 (IntKind.i64.wrap (Int.tdiv l5_9 a1)) } ⟨[(0, .int .i64 a0), (1, .int .i64 a1), (5, .slice .none 1 (eL_eTPick.F x3_2)), (8, .int .i64 l3_8), (10, .int .i64 l5_10), (92, .int .i64 (IntKind.i64.wrap (Int.tdiv l5_9 a1)))], []⟩ (by decide) (quR .i64 l5_9 a1 3 (by kernel_rfl) hd) (by kernel_rfl) ?_
                      refine SO.run c0 4 ⟨[(0, .int .i64 a0), (1, .int .i64 a1), (5, .slice .none 1 (eL_eTPick.F x3_2)), (8, .int .i64 l3_8), (9, .int .i64 (IntKind.i64.wrap (Int.tdiv l5_9 a1))), (10, .int .i64 l5_10)], []⟩ (by decide) (by kernel_rfl) ?_
                      refine SO.done ?_
                      refine SC.region 3 rfl ?_
                      refine SO.run c0 3 ⟨[(0, .int .i64 a0), (1, .int .i64 a1), (5, .slice .none 1 (eL_eTPick.F x3_2)), (8, .int .i64 l3_8), (9, .int .i64 (IntKind.i64.wrap (Int.tdiv l5_9 a1))), (10, .int .i64 (IntKind.i64.wrap (l5_10 - 1)))], []⟩ (by decide) (by kernel_rfl) ?_
                      refine SO.done ?_
                      replace h := Option.some.inj h
                      subst h
                      exact ⟨((IntKind.i64.wrap (Int.tdiv l5_9 a1)), (IntKind.i64.wrap (l5_10 - 1))), rfl, rfl⟩
                  · replace h := Opt.f h ht
                    refine SC.weak (S1 := ⟨[(0, .int .i64 a0), (1, .int .i64 a1), (5, .slice .none 1 (eL_eTPick.F x3_2)), (8, .int .i64 l3_8)], []⟩) ?_ ?_
                    · exact ⟨⟨Wk.refl _, Wk.refl _, Wk.refl _, Wk.refl _, trivial⟩, trivial, by kernel_rfl⟩
                    refine SC.exit ?_
                    obtain ⟨r1, hh, e1⟩ := Opt.inr h
                    clear h
                    subst e1
                    have h := hh
                    clear hh
                    refine ⟨_, rfl, ?_⟩
                    exact ⟨(), rfl, h⟩
            · replace h := Opt.f h ht
              refine SC.weak (S1 := ⟨[], []⟩) ?_ ?_
              · exact ⟨trivial, trivial, by kernel_rfl⟩
              refine SC.exit ?_
              obtain ⟨r1, hh, e1⟩ := Opt.inr h
              clear h
              subst e1
              have h := hh
              clear hh
              refine ⟨_, rfl, ?_⟩
              exact ⟨(), rfl, h⟩
    · intro j_j0 h
      refine SC.seq ?_
      refine SC.region 1 rfl ?_
      refine SO.run c0 1 ⟨[(0, .int .i64 a0), (1, .int .i64 a1), (5, .slice .none 1 (eL_eTPick.F x3_2)), (6, .int .i64 1), (7, .int .i64 0)], []⟩ (by decide) (by kernel_rfl) ?_
      refine SO.done ?_
      refine SC.block ?_
      apply SC.loopJ (r := r) h (fun v : Int × Int => ⟨[(0, .int .i64 a0), (1, .int .i64 a1), (5, .slice .none 1 (eL_eTPick.F x3_2)), (6, .int .i64 v.1), (7, .int .i64 v.2)], []⟩)
      rintro ⟨l1_6, l1_7⟩ r h
      refine SC.eqS (S1 := ⟨[(0, .int .i64 a0), (1, .int .i64 a1), (5, .slice .none 1 (eL_eTPick.F x3_2)), (6, .int .i64 l1_6), (7, .int .i64 l1_7)], []⟩) rfl ?_
      refine SC.seq ?_
      refine SC.seq ?_
      refine SC.region 11 rfl ?_
      refine SO.run c0 4 ⟨[(0, .int .i64 a0), (1, .int .i64 a1), (5, .slice .none 1 (eL_eTPick.F x3_2)), (6, .int .i64 l1_6), (7, .int .i64 l1_7), (19, .bool (decide (l1_7 < a0)))], []⟩ (by decide) (by kernel_rfl) ?_
      refine SO.runB c0 7 (decide (l1_7 < a0)) (fun b => ⟨[(0, .int .i64 a0), (1, .int .i64 a1), (5, .slice .none 1 (eL_eTPick.F x3_2)), (6, .int .i64 l1_6), (7, .int .i64 l1_7), (19, .bool b)], []⟩) (fun b => ⟨[(0, .int .i64 a0), (1, .int .i64 a1), (5, .slice .none 1 (eL_eTPick.F x3_2)), (6, .int .i64 l1_6), (7, .int .i64 l1_7), (22, .bool (b && (decide (l1_7 < 64))))], []⟩) (by decide) (by kernel_rfl) (by kernel_rfl) ?_
      refine SO.run c0 8 ⟨[(0, .int .i64 a0), (1, .int .i64 a1), (5, .slice .none 1 (eL_eTPick.F x3_2)), (6, .int .i64 l1_6), (7, .int .i64 l1_7), (23, .bool ((decide (l1_7 < a0)) && (decide (l1_7 < 64))))], []⟩ (by decide) (by kernel_rfl) ?_
      refine SO.runB c0 11 ((decide (l1_7 < a0)) && (decide (l1_7 < 64))) (fun b => ⟨[(0, .int .i64 a0), (1, .int .i64 a1), (5, .slice .none 1 (eL_eTPick.F x3_2)), (6, .int .i64 l1_6), (7, .int .i64 l1_7), (23, .bool b)], []⟩) (fun b => ⟨[(0, .int .i64 a0), (1, .int .i64 a1), (5, .slice .none 1 (eL_eTPick.F x3_2)), (6, .int .i64 l1_6), (7, .int .i64 l1_7), (26, .bool (b && (decide (l1_6 ≤ 4096))))], []⟩) (by decide) (by kernel_rfl) (by kernel_rfl) ?_
      refine SO.done ?_
      refine SC.cond (((decide (l1_7 < a0)) && (decide (l1_7 < 64))) && (decide (l1_6 ≤ 4096))) (by kernel_rfl) (fun ht => ?_) (fun ht => ?_)
      · replace h := Opt.t h ht
        refine SC.skip ?_
        refine SC.seq ?_
        refine SC.block ?_
        refine SC.region 6 rfl ?_
        refine SO.run c0 6 ⟨[(0, .int .i64 a0), (1, .int .i64 a1), (5, .slice .none 1 (eL_eTPick.F x3_2)), (6, .int .i64 (IntKind.i64.wrap (l1_6 * (mx 0 (mn a1 5000))))), (7, .int .i64 l1_7)], []⟩ (by decide) (by kernel_rfl) ?_
        refine SO.done ?_
        refine SC.region 3 rfl ?_
        refine SO.run c0 3 ⟨[(0, .int .i64 a0), (1, .int .i64 a1), (5, .slice .none 1 (eL_eTPick.F x3_2)), (6, .int .i64 (IntKind.i64.wrap (l1_6 * (mx 0 (mn a1 5000))))), (7, .int .i64 (IntKind.i64.wrap (l1_7 + 1)))], []⟩ (by decide) (by kernel_rfl) ?_
        refine SO.done ?_
        replace h := Option.some.inj h
        subst h
        exact ⟨((IntKind.i64.wrap (l1_6 * (mx 0 (mn a1 5000)))), (IntKind.i64.wrap (l1_7 + 1))), rfl, rfl⟩
      · replace h := Opt.f h ht
        refine SC.weak (S1 := ⟨[(0, .int .i64 a0), (1, .int .i64 a1), (5, .slice .none 1 (eL_eTPick.F x3_2)), (6, .int .i64 l1_6)], []⟩) ?_ ?_
        · exact ⟨⟨Wk.refl _, Wk.refl _, Wk.refl _, Wk.refl _, trivial⟩, trivial, by kernel_rfl⟩
        refine SC.exit ?_
        obtain ⟨r1, hh, e1⟩ := Opt.inr h
        clear h
        subst e1
        have h := hh
        clear hh
        refine ⟨_, rfl, ?_⟩
        exact ⟨l1_6, rfl, h⟩
end Go.Proofs.Ytbckfbohbjhffaa.AE
