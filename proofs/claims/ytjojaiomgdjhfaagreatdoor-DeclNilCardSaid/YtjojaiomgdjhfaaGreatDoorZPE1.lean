/- The code of these functions comes to what the printed functions answer. Printed by wip/sy/gs.py. No condition. -/
import Derived.Test.YtjojaiomgdjhfaaGreatDoorZPE0
set_option linter.unusedVariables false
set_option maxRecDepth 100000
namespace Go.Proofs.YtjojaiomgdjhfaaGreatDoor.SY
open Go AE F
def E_val_Int : Ent U := ⟨148, 0, ⟨[.int .i64], [], [], .typ 11, [], [], []⟩, fun k z => val_Int k z⟩
def h_val_Int : Hc := .a
def tb89 : List (Ent U) := E_val_Int :: tb88
theorem k89 : TblOk Y tb89 := TblOk.cons k88 Tryz.func148 h_val_Int (fun k z => by kernel_rfl)
def E_val_Bool : Ent U := ⟨149, 0, ⟨[.bool], [], [], .typ 11, [], [], []⟩, fun k z => val_Bool k z⟩
def h_val_Bool : Hc := .a
def tb90 : List (Ent U) := E_val_Bool :: tb89
theorem k90 : TblOk Y tb90 := TblOk.cons k89 Tryz.func149 h_val_Bool (fun k z => by kernel_rfl)
def E_slices_Clone_Value : Ent U := ⟨158, 0, ⟨[.lst 11], [], [], .lst 11, [], [], []⟩, fun k z => slices_Clone_Value k z⟩
theorem ok_slices_Clone_Value (k : Nat) : OkE Y k E_slices_Clone_Value := by
  intro (a0 : List TValue) (y : List TValue) S1 hy hi
  have e : injSh Y [] E_slices_Clone_Value.sig.out y (E_slices_Clone_Value.sig.st0 a0) = some ⟨[(0, .lst false 11 y)], [], [], [], []⟩ := by kernel_rfl
  rw [e] at hi; cases hi
  have hy : slices_Clone_Value k a0 = some y := hy
  unfold slices_Clone_Value at hy
  split at hy
  case isFalse => cases hy
  rename_i hr
  cases hy
  have hr : roomy 40 (0 + (a0.map e11).length) = true := by rw [List.length_map]; exact hr
  show SF Zs 158 [.slice .none 3 (a0.map e11)] [] (.slice .none 3 (a0.map e11)) []
  generalize a0.map e11 = l at hr ⊢
  refine SF.intro (m := 8) (rs := [.tmp 2]) Tryz.func158 rfl (by kernel_rfl) (by kernel_rfl) (Nat.le_of_ble_eq_true rfl) (by decide) ?_
  refine SC.seq ?_
  refine SC.region 1 rfl ?_
  refine SO.run c0 1 ⟨[(0, .slice .none 3 l)], []⟩ (by decide) (by kernel_rfl) ?_
  refine SO.done ?_
  refine SC.seq ?_
  refine SC.seq ?_
  refine SC.region 2 rfl ?_
  refine SO.run c0 1 ⟨[(0, .slice .none 3 l), (3, .slice .none 3 l)], []⟩ (by decide) (by kernel_rfl) ?_
  by_cases hl : l = []
  · refine SO.ask 4 (by decide) (fun b => ⟨[(0, .slice .none 3 l), (4, .bool b)], []⟩) (by kernel_rfl) (fun b => by cases b <;> kernel_rfl) (fun b => ?_)
    refine SO.done ?_
    refine SC.cond b (by kernel_rfl) (fun ht => ?_) (fun ht => ?_)
    · refine SC.seq ?_
      refine SC.region 1 rfl ?_
      refine SO.run c0 1 ⟨[(2, .nils)], []⟩ (by decide) (by kernel_rfl) ?_
      refine SO.done ?_
      refine SC.ret ?_
      subst hl
      exact ⟨[.nils], by kernel_rfl, Wk.nils _ _, trivial, by kernel_rfl⟩
    refine SC.skip ?_
    refine SC.seq ?_
    refine SC.region 4 rfl ?_
    refine SO.run c0 2 ⟨[(5, .slice .full 3 []), (6, .slice .none 3 l)], []⟩ (by decide) (by kernel_rfl) ?_
    refine SO.op (cP [7]) { v := .slice .none 3 l } ⟨[(7, .slice .none 3 l)], []⟩ (by decide) ((show _ = (if roomy 40 (0 + l.length) = true then some { v := .slice .none 3 l } else none) by kernel_rfl).trans (if_pos hr)) (by kernel_rfl) ?_
    refine SO.run c0 4 ⟨[(2, .slice .none 3 l)], []⟩ (by decide) (by kernel_rfl) ?_
    refine SO.done ?_
    refine SC.ret ?_
    exact ⟨[.slice .none 3 l], by kernel_rfl, Wk.eq (by kernel_rfl), trivial, by kernel_rfl⟩
  · refine SO.op c0 { v := .bool false } ⟨[(0, .slice .none 3 l), (4, .bool false)], []⟩ (by decide) (by cases l with | nil => exact absurd rfl hl | cons x l => kernel_rfl) (by kernel_rfl) ?_
    refine SO.done ?_
    refine SC.cond false (by kernel_rfl) (fun ht => by cases ht) (fun ht => ?_)
    refine SC.skip ?_
    refine SC.seq ?_
    refine SC.region 4 rfl ?_
    refine SO.run c0 2 ⟨[(5, .slice .full 3 []), (6, .slice .none 3 l)], []⟩ (by decide) (by kernel_rfl) ?_
    refine SO.op (cP [7]) { v := .slice .none 3 l } ⟨[(7, .slice .none 3 l)], []⟩ (by decide) ((show _ = (if roomy 40 (0 + l.length) = true then some { v := .slice .none 3 l } else none) by kernel_rfl).trans (if_pos hr)) (by kernel_rfl) ?_
    refine SO.run c0 4 ⟨[(2, .slice .none 3 l)], []⟩ (by decide) (by kernel_rfl) ?_
    refine SO.done ?_
    refine SC.ret ?_
    exact ⟨[.slice .none 3 l], by kernel_rfl, Wk.eq (by kernel_rfl), trivial, by kernel_rfl⟩
def tb91 : List (Ent U) := E_slices_Clone_Value :: tb90
theorem k91 : TblOk Y tb91 := TblOk.ext k90 ok_slices_Clone_Value
def E_val_Arr : Ent U := ⟨150, 0, ⟨[.lst 11], [], [], .typ 11, [], [], []⟩, fun k z => val_Arr k z⟩
def h_val_Arr : Hc := .a
def tb92 : List (Ent U) := E_val_Arr :: tb91
theorem k92 : TblOk Y tb92 := TblOk.cons k91 Tryz.func150 h_val_Arr (fun k z => by kernel_rfl)
def E_kind_params_1 : Ent U := ⟨164, 0, ⟨[.typ 3, .ptr (.ext 0) 0], [[.typ 3]], [], .bool, [], [], []⟩, fun k z => kind_params_1 k z.1 z.2⟩
def h_kind_params_1 : Hc := .a
def tb93 : List (Ent U) := E_kind_params_1 :: tb92
theorem k93 : TblOk Y tb93 := TblOk.cons k92 Tryz.func164 h_kind_params_1 (fun k z => by kernel_rfl)
def E_slices_IndexFunc_Node_v5 : Ent U := ⟨78, 4, ⟨[.lst 3, .fn 164 (.L []) (.L [.ptr (.ext 0) 0])], [[.typ 3]], [], .int .i64, [], [], []⟩, fun k z => slices_IndexFunc_Node_v5 k z.1 z.2⟩
def h_slices_IndexFunc_Node_v5 : Hc := (.s .a (.s (.j .normal ⟨[], [], []⟩ (.s .a (.b (.l ⟨[(8, .int .i64)], [], []⟩ .a)))) .a))
def tb94 : List (Ent U) := E_slices_IndexFunc_Node_v5 :: tb93
theorem k94 : TblOk Y tb94 := TblOk.cons k93 Tryz.func78 h_slices_IndexFunc_Node_v5 (fun k z => by kernel_rfl)
def E_kind_params : Ent U := ⟨159, 0, ⟨[.typ 3, .lst 3], [], [], .tup (.L [.lst 3, .bool]), [], [], []⟩, fun k z => kind_params k z.1 z.2⟩
def h_kind_params : Hc := (.s .a (.s .a (.s (.r (.run 2 (.call 4 .done))) .a)))
def tb95 : List (Ent U) := E_kind_params :: tb94
theorem k95 : TblOk Y tb95 := TblOk.cons k94 Tryz.func159 h_kind_params (fun k z => by kernel_rfl)
def E_kind_typed : Ent U := ⟨160, 0, ⟨[.typ 3], [], [], .typ 3, [], [], []⟩, fun k z => kind_typed k z⟩
def h_kind_typed : Hc := .a
def tb96 : List (Ent U) := E_kind_typed :: tb95
theorem k96 : TblOk Y tb96 := TblOk.cons k95 Tryz.func160 h_kind_typed (fun k z => by kernel_rfl)
def E_kind_Fields : Ent U := ⟨151, 0, ⟨[.typ 3, .lst 3], [], [], .tup (.L [.lst 3, .bool]), [], [], []⟩, fun k z => kind_Fields k z.1 z.2⟩
def h_kind_Fields : Hc := (.s .a (.s .a (.s .a (.s (.j .normal ⟨[(8, .tip (.loc 8))], [], [(.loc 8, 3)]⟩ (.s .a (.b (.g (.loc 8) 3 8 none (.l ⟨[(8, .tip (.loc 8)), (19, .int .i64)], [], [(.loc 8, 3)]⟩ .a))))) .a))))
def tb97 : List (Ent U) := E_kind_Fields :: tb96
theorem k97 : TblOk Y tb97 := TblOk.cons k96 Tryz.func151 h_kind_Fields (fun k z => by kernel_rfl)
def E_kind_zero_of : Ent U := ⟨129, 0, ⟨[.ptr (.ext 0) 0, .typ 3, .int .i64], [[.lst 3, .int .i64]], [], .tup (.L [.typ 11, .bool]), [(.ext 0, 1, .int .i64)], [], []⟩, fun k z => kind_zero_of k z.1 z.2.1 z.2.2.1 z.2.2.2⟩
def h_kind_zero_of : Hc := (.s .a (.s .a (.s (.s (.r (.run 6 (.mux 27 9 ⟨[(30, .bool)], [], []⟩ .done .done .done))) .a) (.s .a (.s .a (.s .a (.s (.j .normal ⟨[(10, .ptr (.loc 10) 0)], [(.ext 0, 1, .int .i64), (.loc 10, 2, .tip (.cl (.loc 10) 2))], [(.cl (.loc 10) 2, 11)]⟩ (.s .a (.b (.g (.cl (.loc 10) 2) 11 10 (some 2) (.l ⟨[(55, .int .i64)], [(.ext 0, 1, .int .i64), (.loc 10, 2, .tip (.cl (.loc 10) 2))], [(.cl (.loc 10) 2, 11)]⟩ .a))))) .a)))))))
def tb98 : List (Ent U) := [E_kind_zero_of] ++ tb97
theorem k98 : TblOk Y tb98 := TblOk.grp k97 ⟨⟨_, h_kind_zero_of, Tryz.func129, fun _ => rfl, fun k z => by kernel_rfl⟩, trivial⟩
def E_kind_Zero : Ent U := ⟨104, 0, ⟨[.typ 3, .lst 3], [], [], .tup (.L [.typ 11, .bool]), [], [], []⟩, fun k z => kind_Zero k z.1 z.2⟩
def h_kind_Zero : Hc := .a
def tb99 : List (Ent U) := E_kind_Zero :: tb98
theorem k99 : TblOk Y tb99 := TblOk.cons k98 Tryz.func104 h_kind_Zero (fun k z => by kernel_rfl)
def E_decl_Table_Merge_v2 : Ent U := ⟨31, 1, ⟨[.ptr (.ext 0) 0, .str], [[.typ 1, .typ 3, .tip (.cl (.ext 0) 6), .int .i64]], [(.cl (.ext 0) 6, 5)], .tup (.L [.int .i64, .bool]), [], [], []⟩, fun k z => decl_Table_Merge_v2 k z.1 z.2.1 z.2.2.1 z.2.2.2.1 z.2.2.2.2⟩
def h_decl_Table_Merge_v2 : Hc := (.s .a (.s (.r (.run 2 (.call 2 .done))) .a))
def tb100 : List (Ent U) := E_decl_Table_Merge_v2 :: tb99
theorem k100 : TblOk Y tb100 := TblOk.cons k99 Tryz.func31 h_decl_Table_Merge_v2 (fun k z => by kernel_rfl)
def E_decl_Table_iso : Ent U := ⟨72, 0, ⟨[.ptr (.ext 0) 0, .typ 3], [[.typ 1, .typ 3, .tip (.cl (.ext 0) 6), .int .i64]], [(.cl (.ext 0) 6, 5)], .tup (.L [.int .i64, .int .i64]), [(.ext 0, 6, .tip (.cl (.ext 0) 6)), (.ext 0, 7, .int .i64)], [(.cl (.ext 0) 6, 5)], []⟩, fun k z => decl_Table_iso k z.1 z.2.1 z.2.2.1 z.2.2.2.1 z.2.2.2.2⟩
def h_decl_Table_iso : Hc := (.s .a (.s (.s (.r (.run 5 (.call 1 .done))) .a) (.s .a (.s .a (.s .a (.s (.s (.r (.run 5 (.call 1 .done))) (.s (.r (.run 3 (.mux 67 9 ⟨[(73, .bool)], [], []⟩ .done .done .done))) .a)) (.s .a (.s .a (.s (.r (.run 3 (.call 1 .done))) .a)))))))))
def tb101 : List (Ent U) := E_decl_Table_iso :: tb100
theorem k101 : TblOk Y tb101 := TblOk.cons k100 Tryz.func72 h_decl_Table_iso (fun k z => by kernel_rfl)
def E_decl_Table_stand : Ent U := ⟨43, 0, ⟨[.ptr (.ext 0) 0], [[.typ 1, .typ 3, .tip (.cl (.ext 0) 6), .int .i64]], [(.cl (.ext 0) 6, 5)], .tup (.L [.int .i64, .int .i64]), [(.ext 0, 6, .tip (.cl (.ext 0) 6)), (.ext 0, 7, .int .i64)], [(.cl (.ext 0) 6, 5)], []⟩, fun k z => decl_Table_stand k z.1 z.2.1 z.2.2.1 z.2.2.2⟩
def h_decl_Table_stand : Hc := (.s .a (.s .a (.s (.j .normal ⟨[], [(.ext 0, 6, .tip (.cl (.ext 0) 6)), (.ext 0, 7, .int .i64)], [(.cl (.ext 0) 6, 5)]⟩ (.s (.r (.run 1 (.call 1 .done))) (.b (.l ⟨[(4, .int .i64), (13, .int .i64)], [(.ext 0, 6, .tip (.cl (.ext 0) 6)), (.ext 0, 7, .int .i64)], [(.cl (.ext 0) 6, 5)]⟩ (.s .a (.s .a (.s (.b (.s .a (.s .a (.s (.j .normal ⟨[(4, .int .i64), (7, .int .i64), (8, .int .i64)], [(.ext 0, 6, .tip (.cl (.ext 0) 6)), (.ext 0, 7, .int .i64)], [(.cl (.ext 0) 6, 5)]⟩ (.s .a (.b (.s .a (.c (.s (.r (.run 4 (.call 1 .done))) .a) (.s .a (.c .a (.s .a (.c (.r (.run 5 (.call 1 .done))) (.s .a (.c (.s .a (.s (.r (.run 6 (.call 1 .done))) (.s .a (.c (.r (.run 6 (.call 1 .done))) .a)))) .a))))))))))) .a)))) .a))))))) .a)))
def tb102 : List (Ent U) := E_decl_Table_stand :: tb101
theorem k102 : TblOk Y tb102 := TblOk.cons k101 Tryz.func43 h_decl_Table_stand (fun k z => by kernel_rfl)
def E_decl_Of : Ent U := ⟨8, 0, ⟨[.typ 3], [], [], .tup (.L [.opt 0, .int .i64, .int .i64]), [], [], []⟩, fun k z => decl_Of k z⟩
def h_decl_Of : Ht := (.s (.c .a) (.s (.c .a) (.s (.r (.mk 1000 (.mk .i64 [] 2) 1 .done)) (.s (.s (.c .a) (.b (.u (.s (.c .a) (.s (.i (.c .a) (.c .a)) (.s (.b (.s (.c .a) (.r (.run 5 .done (.mk 1001 .mw 4 (.run 1 .done (.ins .done))))))) (.c .a)))) (.u (.s (.c .a) (.s (.i (.c .a) (.c .a)) (.s (.b (.s (.c .a) (.r (.run 5 .done (.mk 1002 .mw 4 (.run 1 .done (.ins .done))))))) (.c .a)))) (.u (.s (.c .a) (.s (.i (.c .a) (.c .a)) (.s (.b (.s (.c .a) (.r (.run 5 .done (.mk 1003 .mw 4 (.run 1 .done (.ins .done))))))) (.c .a)))) (.u (.s (.c .a) (.s (.i (.c .a) (.c .a)) (.s (.b (.s (.c .a) (.r (.run 5 .done (.mk 1004 .mw 4 (.run 1 .done (.ins .done))))))) (.c .a)))) (.u (.s (.c .a) (.s (.i (.c .a) (.c .a)) (.s (.b (.s (.c .a) (.r (.run 5 .done (.mk 1004 .mw 4 (.run 1 .done (.ins .done))))))) (.c .a)))) (.c .a)))))))) (.s (.s (.r (.run 1 .done (.run 1 (.bego (.cl (.loc 1000) 0) 3 (.loc 1000) 0 (.bego (.cl (.loc 1000) 2) 3 (.loc 1000) 2 (.bego (.cl (.loc 1000) 4) 3 (.loc 1000) 4 (.bego (.cl (.loc 1000) 6) 3 (.loc 1000) 6 (.call 0 .done))))) .done))) (.c .a)) (.s (.s (.r (.frz (.loc 1001) 4 (.frz (.loc 1002) 4 (.frz (.loc 1003) 4 (.frz (.loc 1004) 4 (.frz (.loc 1000) 1 (.run 1 .done (.run 1 (.bego (.cl (.loc 18) 6) 5 (.loc 18) 6 (.call 0 .done)) .done)))))))) (.c .a)) (.c .a)))))))
def tb103 : List (Ent U) := E_decl_Of :: tb102
theorem k103 : TblOk Y tb103 := TblOk.consT k102 Tryz.func8 h_decl_Of (fun k z => by kernel_rfl)
def E_law18_works : Ent U := ⟨7, 0, ⟨[], [], [], .bool, [], [], []⟩, fun k z => law18_works k⟩
def h_law18_works : Hc := (.s .a (.s .a (.s .a (.s .a (.s .a (.s .a (.s (.r (.run 3 (.mux 34 6 ⟨[(37, .bool)], [], []⟩ .done .done (.run 1 (.mux 38 9 ⟨[(40, .bool)], [], []⟩ .done .done (.run 1 (.split 41 14 ⟨[(45, .bool)], [], []⟩ .done .done (.run 1 (.split 46 19 ⟨[(50, .bool)], [], []⟩ .done .done (.run 1 (.split 51 23 ⟨[(54, .bool)], [], []⟩ .done .done (.run 1 (.split 55 27 ⟨[(58, .bool)], [], []⟩ .done .done (.run 1 (.mux 59 31 ⟨[(62, .bool)], [], []⟩ .done .done (.run 1 (.mux 63 35 ⟨[(66, .bool)], [], []⟩ .done .done .done))))))))))))))))) .a)))))))
def tb104 : List (Ent U) := E_law18_works :: tb103
theorem k104 : TblOk Y tb104 := TblOk.cons k103 Tryz.func7 h_law18_works (fun k z => by kernel_rfl)
def E_decl_Table_Many : Ent U := ⟨11, 0, ⟨[.opt 0, .int .i64], [], [], .int .i64, [], [], []⟩, fun k z => decl_Table_Many k z.1 z.2⟩
def h_decl_Table_Many : Hc := (.s .a (.s (.s (.r (.run 3 (.mux 7 6 ⟨[(10, .bool)], [], []⟩ .done .done (.run 1 (.split 11 15 ⟨[(19, .bool)], [], []⟩ .done .done .done))))) .a) .a))
def tb105 : List (Ent U) := E_decl_Table_Many :: tb104
theorem k105 : TblOk Y tb105 := TblOk.cons k104 Tryz.func11 h_decl_Table_Many (fun k z => by kernel_rfl)
def E_decl_Table_list : Ent U := ⟨61, 0, ⟨[.opt 0, .int .i64], [], [], .lst 3, [], [], []⟩, fun k z => decl_Table_list k z.1 z.2⟩
def h_decl_Table_list : Hc := .a
def tb106 : List (Ent U) := E_decl_Table_list :: tb105
theorem k106 : TblOk Y tb106 := TblOk.cons k105 Tryz.func61 h_decl_Table_list (fun k z => by kernel_rfl)
def E_decl_Table_Recs : Ent U := ⟨32, 0, ⟨[.opt 0], [], [], .lst 3, [], [], []⟩, fun k z => decl_Table_Recs k z⟩
def h_decl_Table_Recs : Hc := .a
def tb107 : List (Ent U) := E_decl_Table_Recs :: tb106
theorem k107 : TblOk Y tb107 := TblOk.cons k106 Tryz.func32 h_decl_Table_Recs (fun k z => by kernel_rfl)
def E_decl_Table_Isos : Ent U := ⟨33, 0, ⟨[.opt 0], [], [], .lst 3, [], [], []⟩, fun k z => decl_Table_Isos k z⟩
def h_decl_Table_Isos : Hc := .a
def tb108 : List (Ent U) := E_decl_Table_Isos :: tb107
theorem k108 : TblOk Y tb108 := TblOk.cons k107 Tryz.func33 h_decl_Table_Isos (fun k z => by kernel_rfl)
def E_decl_Table_Funs : Ent U := ⟨34, 0, ⟨[.opt 0], [], [], .lst 3, [], [], []⟩, fun k z => decl_Table_Funs k z⟩
def h_decl_Table_Funs : Hc := .a
def tb109 : List (Ent U) := E_decl_Table_Funs :: tb108
theorem k109 : TblOk Y tb109 := TblOk.cons k108 Tryz.func34 h_decl_Table_Funs (fun k z => by kernel_rfl)
def E_decl_Table_Merges : Ent U := ⟨35, 0, ⟨[.opt 0], [], [], .lst 3, [], [], []⟩, fun k z => decl_Table_Merges k z⟩
def h_decl_Table_Merges : Hc := .a
def tb110 : List (Ent U) := E_decl_Table_Merges :: tb109
theorem k110 : TblOk Y tb110 := TblOk.cons k109 Tryz.func35 h_decl_Table_Merges (fun k z => by kernel_rfl)
def E_decl_Table_Bodies : Ent U := ⟨36, 0, ⟨[.opt 0], [], [], .lst 3, [], [], []⟩, fun k z => decl_Table_Bodies k z⟩
def h_decl_Table_Bodies : Hc := (.s .a (.s .a (.s .a (.s (.j .normal ⟨[(3, .tip (.loc 3))], [], [(.loc 3, 3)]⟩ (.s .a (.b (.g (.loc 3) 3 3 none (.l ⟨[(3, .tip (.loc 3)), (14, .int .i64)], [], [(.loc 3, 3)]⟩ (.s .a (.s .a (.s (.j .normal ⟨[(3, .tip (.loc 3))], [], [(.loc 3, 3)]⟩ (.b (.s .a (.s (.r (.run 4 (.mux 21 8 ⟨[(25, .bool)], [], []⟩ .done .done .done))) .a)))) .a)))))))) .a))))
def tb111 : List (Ent U) := E_decl_Table_Bodies :: tb110
theorem k111 : TblOk Y tb111 := TblOk.cons k110 Tryz.func36 h_decl_Table_Bodies (fun k z => by kernel_rfl)
def E_decl_Table_Main : Ent U := ⟨37, 0, ⟨[.opt 0], [], [], .typ 3, [], [], []⟩, fun k z => decl_Table_Main k z⟩
def h_decl_Table_Main : Hc := .a
def tb112 : List (Ent U) := E_decl_Table_Main :: tb111
theorem k112 : TblOk Y tb112 := TblOk.cons k111 Tryz.func37 h_decl_Table_Main (fun k z => by kernel_rfl)
def E_ref18_Given : Ent U := ⟨39, 0, ⟨[.str], [], [], .int .i64, [], [], []⟩, fun k z => ref18_Given k z⟩
def h_ref18_Given : Hc := (.s .a (.s (.s (.r (.run 3 (.mux 5 6 ⟨[(8, .bool)], [], []⟩ .done .done .done))) .a) .a))
def tb113 : List (Ent U) := E_ref18_Given :: tb112
theorem k113 : TblOk Y tb113 := TblOk.cons k112 Tryz.func39 h_ref18_Given (fun k z => by kernel_rfl)
def E_law18_DeclNil : Ent U := ⟨6, 0, ⟨[.str, .int .i64], [], [], .bool, [], [], []⟩, fun k z => law18_DeclNil k z.1 z.2⟩
def h_law18_DeclNil : Hc := (.s .a (.s .a (.s .a (.s .a (.s .a (.s .a (.s (.r (.run 2 (.mux 39 5 ⟨[(42, .bool)], [], []⟩ .done .done (.run 1 (.mux 43 9 ⟨[(46, .bool)], [], []⟩ .done .done (.run 1 (.mux 47 13 ⟨[(50, .bool)], [], []⟩ .done .done (.run 1 (.mux 51 17 ⟨[(54, .bool)], [], []⟩ .done .done (.run 1 (.mux 55 25 ⟨[(62, .bool)], [], []⟩ .done .done (.run 1 (.split 63 38 ⟨[(75, .bool)], [], []⟩ .done .done (.run 1 (.split 76 60 ⟨[(97, .bool)], [], []⟩ .done .done (.run 1 (.split 98 66 ⟨[(103, .bool)], [], []⟩ .done .done (.run 1 (.split 104 75 ⟨[(112, .bool)], [], []⟩ .done .done .done))))))))))))))))))) .a)))))))
def tb114 : List (Ent U) := E_law18_DeclNil :: tb113
theorem k114 : TblOk Y tb114 := TblOk.cons k113 Tryz.func6 h_law18_DeclNil (fun k z => by kernel_rfl)
end Go.Proofs.YtjojaiomgdjhfaaGreatDoor.SY
