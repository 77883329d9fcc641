/- The code of these functions comes to what the printed functions answer. Printed by wip/sy/gs.py. No condition. -/
import Derived.Test.YtjojaiomgdjhfaaGreatDoorZRE0
set_option linter.unusedVariables false
set_option maxRecDepth 100000
namespace Go.Proofs.YtjojaiomgdjhfaaGreatDoor.SY
open Go AE F
def E_kind_params_1 : Ent U := ⟨164, 0, ⟨[.typ 1, .ptr (.ext 0) 0], [[.typ 1]], [], .bool, [], [], []⟩, fun k z => kind_params_1 k z.1 z.2⟩
def h_kind_params_1 : Hc := .a
def tb86 : List (Ent U) := E_kind_params_1 :: tb85
theorem k86 : TblOk Y tb86 := TblOk.cons k85 Tryz.func164 h_kind_params_1 (fun k z => by kernel_rfl)
def E_slices_IndexFunc_Node_v6 : Ent U := ⟨78, 5, ⟨[.lst 1, .fn 164 (.L []) (.L [.ptr (.ext 0) 0])], [[.typ 1]], [], .int .i64, [], [], []⟩, fun k z => slices_IndexFunc_Node_v6 k z.1 z.2⟩
def h_slices_IndexFunc_Node_v6 : Hc := (.s .a (.s (.j .normal ⟨[], [], []⟩ (.s .a (.b (.l ⟨[(8, .int .i64)], [], []⟩ .a)))) .a))
def tb87 : List (Ent U) := E_slices_IndexFunc_Node_v6 :: tb86
theorem k87 : TblOk Y tb87 := TblOk.cons k86 Tryz.func78 h_slices_IndexFunc_Node_v6 (fun k z => by kernel_rfl)
def E_kind_params : Ent U := ⟨159, 0, ⟨[.typ 1, .lst 1], [], [], .tup (.L [.lst 1, .bool]), [], [], []⟩, fun k z => kind_params k z.1 z.2⟩
def h_kind_params : Hc := (.s .a (.s .a (.s (.r (.run 2 (.call 5 .done))) .a)))
def tb88 : List (Ent U) := E_kind_params :: tb87
theorem k88 : TblOk Y tb88 := TblOk.cons k87 Tryz.func159 h_kind_params (fun k z => by kernel_rfl)
def E_kind_typed : Ent U := ⟨160, 0, ⟨[.typ 1], [], [], .typ 1, [], [], []⟩, fun k z => kind_typed k z⟩
def h_kind_typed : Hc := .a
def tb89 : List (Ent U) := E_kind_typed :: tb88
theorem k89 : TblOk Y tb89 := TblOk.cons k88 Tryz.func160 h_kind_typed (fun k z => by kernel_rfl)
def E_kind_Fields : Ent U := ⟨151, 0, ⟨[.typ 1, .lst 1], [], [], .tup (.L [.lst 1, .bool]), [], [], []⟩, fun k z => kind_Fields k z.1 z.2⟩
def h_kind_Fields : Hc := (.s .a (.s .a (.s .a (.s (.j .normal ⟨[(8, .tip (.loc 8))], [], [(.loc 8, 1)]⟩ (.s .a (.b (.g (.loc 8) 1 8 none (.l ⟨[(8, .tip (.loc 8)), (19, .int .i64)], [], [(.loc 8, 1)]⟩ .a))))) .a))))
def tb90 : List (Ent U) := E_kind_Fields :: tb89
theorem k90 : TblOk Y tb90 := TblOk.cons k89 Tryz.func151 h_kind_Fields (fun k z => by kernel_rfl)
def E_kind_zero_of : Ent U := ⟨129, 0, ⟨[.ptr (.ext 0) 0, .typ 1, .int .i64], [[.lst 1, .int .i64]], [], .tup (.L [.typ 11, .bool]), [(.ext 0, 1, .int .i64)], [], []⟩, fun k z => kind_zero_of k z.1 z.2.1 z.2.2.1 z.2.2.2⟩
def h_kind_zero_of : Hc := (.s .a (.s .a (.s (.s (.r (.run 6 (.mux 27 9 ⟨[(30, .bool)], [], []⟩ .done .done .done))) .a) (.s .a (.s .a (.s .a (.s (.j .normal ⟨[(10, .ptr (.loc 10) 0)], [(.ext 0, 1, .int .i64), (.loc 10, 2, .tip (.cl (.loc 10) 2))], [(.cl (.loc 10) 2, 11)]⟩ (.s .a (.b (.g (.cl (.loc 10) 2) 11 10 (some 2) (.l ⟨[(55, .int .i64)], [(.ext 0, 1, .int .i64), (.loc 10, 2, .tip (.cl (.loc 10) 2))], [(.cl (.loc 10) 2, 11)]⟩ .a))))) .a)))))))
def tb91 : List (Ent U) := [E_kind_zero_of] ++ tb90
theorem k91 : TblOk Y tb91 := TblOk.grp k90 ⟨⟨_, h_kind_zero_of, Tryz.func129, fun _ => rfl, fun k z => by kernel_rfl⟩, trivial⟩
def E_kind_Zero : Ent U := ⟨104, 0, ⟨[.typ 1, .lst 1], [], [], .tup (.L [.typ 11, .bool]), [], [], []⟩, fun k z => kind_Zero k z.1 z.2⟩
def h_kind_Zero : Hc := .a
def tb92 : List (Ent U) := E_kind_Zero :: tb91
theorem k92 : TblOk Y tb92 := TblOk.cons k91 Tryz.func104 h_kind_Zero (fun k z => by kernel_rfl)
def E_decl_Table_Merge : Ent U := ⟨31, 0, ⟨[.ptr (.ext 0) 0, .str], [[.typ 4, .typ 1, .tip (.cl (.ext 0) 6), .int .i64]], [(.cl (.ext 0) 6, 0)], .tup (.L [.int .i64, .bool]), [], [], []⟩, fun k z => decl_Table_Merge k z.1 z.2.1 z.2.2.1 z.2.2.2.1 z.2.2.2.2⟩
def h_decl_Table_Merge : Hc := (.s .a (.s (.r (.run 2 (.call 1 .done))) .a))
def tb93 : List (Ent U) := E_decl_Table_Merge :: tb92
theorem k93 : TblOk Y tb93 := TblOk.cons k92 Tryz.func31 h_decl_Table_Merge (fun k z => by kernel_rfl)
def E_decl_Table_iso : Ent U := ⟨72, 0, ⟨[.ptr (.ext 0) 0, .typ 1], [[.typ 4, .typ 1, .tip (.cl (.ext 0) 6), .int .i64]], [(.cl (.ext 0) 6, 0)], .tup (.L [.int .i64, .int .i64]), [(.ext 0, 6, .tip (.cl (.ext 0) 6)), (.ext 0, 7, .int .i64)], [(.cl (.ext 0) 6, 0)], []⟩, fun k z => decl_Table_iso k z.1 z.2.1 z.2.2.1 z.2.2.2.1 z.2.2.2.2⟩
def h_decl_Table_iso : Hc := (.s .a (.s .a (.s .a (.s .a (.s .a (.s (.s .a (.s (.r (.run 3 (.mux 67 9 ⟨[(73, .bool)], [], []⟩ .done .done .done))) .a)) .a))))))
def tb94 : List (Ent U) := E_decl_Table_iso :: tb93
theorem k94 : TblOk Y tb94 := TblOk.cons k93 Tryz.func72 h_decl_Table_iso (fun k z => by kernel_rfl)
def E_decl_Table_stand : Ent U := ⟨43, 0, ⟨[.ptr (.ext 0) 0], [[.typ 4, .typ 1, .tip (.cl (.ext 0) 6), .int .i64]], [(.cl (.ext 0) 6, 0)], .tup (.L [.int .i64, .int .i64]), [(.ext 0, 6, .tip (.cl (.ext 0) 6)), (.ext 0, 7, .int .i64)], [(.cl (.ext 0) 6, 0)], []⟩, fun k z => decl_Table_stand k z.1 z.2.1 z.2.2.1 z.2.2.2⟩
def h_decl_Table_stand : Hc := (.s .a (.s .a (.s (.j .normal ⟨[], [(.ext 0, 6, .tip (.cl (.ext 0) 6)), (.ext 0, 7, .int .i64)], [(.cl (.ext 0) 6, 0)]⟩ (.s (.r (.run 1 (.call 1 .done))) (.b (.l ⟨[(4, .int .i64), (13, .int .i64)], [(.ext 0, 6, .tip (.cl (.ext 0) 6)), (.ext 0, 7, .int .i64)], [(.cl (.ext 0) 6, 0)]⟩ (.s .a (.s .a (.s (.b (.s .a (.s .a (.s (.j .normal ⟨[(4, .int .i64), (7, .int .i64), (8, .int .i64)], [(.ext 0, 6, .tip (.cl (.ext 0) 6)), (.ext 0, 7, .int .i64)], [(.cl (.ext 0) 6, 0)]⟩ .a) .a)))) .a))))))) .a)))
def tb95 : List (Ent U) := E_decl_Table_stand :: tb94
theorem k95 : TblOk Y tb95 := TblOk.cons k94 Tryz.func43 h_decl_Table_stand (fun k z => by kernel_rfl)
def E_decl_Of : Ent U := ⟨8, 0, ⟨[.typ 1], [], [], .tup (.L [.opt 3, .int .i64, .int .i64]), [], [], []⟩, fun k z => decl_Of k z⟩
def h_decl_Of : Ht := (.s (.c .a) (.s (.c .a) (.s (.r (.mk 1000 (.mk .i64 [] 2) 4 .done)) (.s (.s (.c .a) (.b (.u (.s (.c .a) (.s (.i (.c .a) (.c .a)) (.s (.b (.s (.c .a) (.r (.run 5 .done (.mk 1001 .mw 6 (.run 1 .done (.ins .done))))))) (.c .a)))) (.u (.s (.c .a) (.s (.i (.c .a) (.c .a)) (.s (.b (.s (.c .a) (.r (.run 5 .done (.mk 1002 .mw 6 (.run 1 .done (.ins .done))))))) (.c .a)))) (.u (.s (.c .a) (.s (.i (.c .a) (.c .a)) (.s (.b (.s (.c .a) (.r (.run 5 .done (.mk 1003 .mw 6 (.run 1 .done (.ins .done))))))) (.c .a)))) (.u (.s (.c .a) (.s (.i (.c .a) (.c .a)) (.s (.b (.s (.c .a) (.r (.run 5 .done (.mk 1004 .mw 6 (.run 1 .done (.ins .done))))))) (.c .a)))) (.u (.s (.c .a) (.s (.i (.c .a) (.c .a)) (.s (.b (.s (.c .a) (.r (.run 5 .done (.mk 1004 .mw 6 (.run 1 .done (.ins .done))))))) (.c .a)))) (.c .a)))))))) (.s (.s (.r (.run 1 .done (.run 1 (.bego (.cl (.loc 1000) 0) 1 (.loc 1000) 0 (.bego (.cl (.loc 1000) 2) 1 (.loc 1000) 2 (.bego (.cl (.loc 1000) 4) 1 (.loc 1000) 4 (.bego (.cl (.loc 1000) 6) 1 (.loc 1000) 6 (.call 0 .done))))) .done))) (.c .a)) (.s (.s (.r (.frz (.loc 1001) 6 (.frz (.loc 1002) 6 (.frz (.loc 1003) 6 (.frz (.loc 1004) 6 (.frz (.loc 1000) 4 (.run 1 .done (.run 1 (.bego (.cl (.loc 18) 6) 0 (.loc 18) 6 (.call 0 .done)) .done)))))))) (.c .a)) (.c .a)))))))
def tb96 : List (Ent U) := E_decl_Of :: tb95
theorem k96 : TblOk Y tb96 := TblOk.consT k95 Tryz.func8 h_decl_Of (fun k z => by kernel_rfl)
def E_decl_Table_Bodies : Ent U := ⟨36, 0, ⟨[.opt 3], [], [], .lst 1, [], [], []⟩, fun k z => decl_Table_Bodies k z⟩
def h_decl_Table_Bodies : Hc := (.s .a (.s .a (.s .a (.s (.j .normal ⟨[(3, .tip (.loc 3))], [], [(.loc 3, 1)]⟩ (.s .a (.b (.g (.loc 3) 1 3 none (.l ⟨[(3, .tip (.loc 3)), (14, .int .i64)], [], [(.loc 3, 1)]⟩ (.s .a (.s .a (.s (.j .normal ⟨[(3, .tip (.loc 3))], [], [(.loc 3, 1)]⟩ (.b (.s .a (.s (.r (.run 4 (.mux 21 8 ⟨[(25, .bool)], [], []⟩ .done .done .done))) .a)))) .a)))))))) .a))))
def tb97 : List (Ent U) := E_decl_Table_Bodies :: tb96
theorem k97 : TblOk Y tb97 := TblOk.cons k96 Tryz.func36 h_decl_Table_Bodies (fun k z => by kernel_rfl)
def E_ends_Body : Ent U := ⟨24, 0, ⟨[.typ 1], [], [], .bool, [], [], []⟩, fun k z => ends_Body k z⟩
def h_ends_Body : Hc := (.s .a (.s .a (.s (.b (.s (.r (.run 4 (.mux 12 7 ⟨[(15, .bool)], [], []⟩ .done .done .done))) (.c .a (.s (.r (.run 4 (.mux 26 7 ⟨[(29, .bool)], [], []⟩ .done .done (.run 1 (.split 30 17 ⟨[(39, .bool)], [], []⟩ .done .done .done))))) .a)))) .a)))
def tb98 : List (Ent U) := E_ends_Body :: tb97
theorem k98 : TblOk Y tb98 := TblOk.cons k97 Tryz.func24 h_ends_Body (fun k z => by kernel_rfl)
def E_ends_All : Ent U := ⟨20, 0, ⟨[.opt 3], [], [], .tup (.L [.int .i64, .int .i64]), [], [], []⟩, fun k z => ends_All k z⟩
def h_ends_All : Hc := (.s .a (.s (.j .normal ⟨[], [], []⟩ (.s .a (.b (.l ⟨[(9, .int .i64)], [], []⟩ .a)))) .a))
def tb99 : List (Ent U) := E_ends_All :: tb98
theorem k99 : TblOk Y tb99 := TblOk.cons k98 Tryz.func20 h_ends_All (fun k z => by kernel_rfl)
def E_law21_works : Ent U := ⟨12, 0, ⟨[], [], [], .bool, [], [], []⟩, fun k z => law21_works k⟩
def h_law21_works : Hc := (.s .a (.s .a (.s .a (.s .a (.s (.r (.run 3 (.mux 22 6 ⟨[(25, .bool)], [], []⟩ .done .done (.run 1 (.split 26 10 ⟨[(29, .bool)], [], []⟩ .done .done (.run 1 (.split 30 15 ⟨[(34, .bool)], [], []⟩ .done .done .done))))))) .a)))))
def tb100 : List (Ent U) := E_law21_works :: tb99
theorem k100 : TblOk Y tb100 := TblOk.cons k99 Tryz.func12 h_law21_works (fun k z => by kernel_rfl)
def E_ref11_Seeds_Next : Ent U := ⟨55, 0, ⟨[.ptr (.ext 0) 0, .int .i64], [[.lst 0, .int .i64]], [], .int .i64, [(.ext 0, 1, .int .i64)], [], []⟩, fun k z => ref11_Seeds_Next k z.1 z.2.1 z.2.2⟩
def h_ref11_Seeds_Next : Hc := (.s .a (.s .a (.s (.j .normal ⟨[(5, .int .i64)], [], []⟩ .a) .a)))
def tb101 : List (Ent U) := E_ref11_Seeds_Next :: tb100
theorem k101 : TblOk Y tb101 := TblOk.cons k100 Tryz.func55 h_ref11_Seeds_Next (fun k z => by kernel_rfl)
def E_ref11_Seeds_Word : Ent U := ⟨57, 0, ⟨[.ptr (.ext 0) 0], [[.lst 0, .int .i64]], [], .str, [(.ext 0, 1, .int .i64)], [], []⟩, fun k z => ref11_Seeds_Word k z.1 z.2⟩
def h_ref11_Seeds_Word : Hc := .a
def tb102 : List (Ent U) := E_ref11_Seeds_Word :: tb101
theorem k102 : TblOk Y tb102 := TblOk.cons k101 Tryz.func57 h_ref11_Seeds_Word (fun k z => by kernel_rfl)
def E_ref11_GrowType : Ent U := ⟨82, 0, ⟨[.ptr (.ext 0) 0, .int .i64], [[.lst 0, .int .i64]], [], .typ 1, [(.ext 0, 1, .int .i64)], [], []⟩, fun k z => ref11_GrowType k z.1 z.2.1 z.2.2⟩
def h_ref11_GrowType : Hc := (.s .a (.s .a (.s (.s (.r (.run 3 (.mux 10 6 ⟨[(13, .bool)], [], []⟩ .done .done .done))) .a) .a)))
def tb103 : List (Ent U) := [E_ref11_GrowType] ++ tb102
theorem k103 : TblOk Y tb103 := TblOk.grp k102 ⟨⟨_, h_ref11_GrowType, Tryz.func82, fun _ => rfl, fun k z => by kernel_rfl⟩, trivial⟩
def E_ref11_GrowExpr : Ent U := ⟨56, 0, ⟨[.ptr (.ext 0) 0, .int .i64], [[.lst 0, .int .i64]], [], .typ 1, [(.ext 0, 1, .int .i64)], [], []⟩, fun k z => ref11_GrowExpr k z.1 z.2.1 z.2.2⟩
def h_ref11_GrowExpr : Hc := (.s .a (.s .a (.s (.j .normal ⟨[(5, .int .i64)], [], []⟩ .a) (.s .a (.s .a (.s .a (.s .a (.s .a (.s .a (.s (.s (.r (.run 3 (.mux 63 6 ⟨[(66, .bool)], [], []⟩ .done .done .done))) .a) (.s (.s .a (.c (.s (.r (.run 7 (.begin (.loc 81) 1 81 none .done))) .a) .a)) .a)))))))))))
def E_ref11_GrowExprs : Ent U := ⟨59, 0, ⟨[.ptr (.ext 0) 0, .int .i64], [[.lst 0, .int .i64]], [], .lst 1, [(.ext 0, 1, .int .i64)], [], []⟩, fun k z => ref11_GrowExprs k z.1 z.2.1 z.2.2⟩
def h_ref11_GrowExprs : Hc := (.s .a (.s .a (.s .a (.s (.j .normal ⟨[(5, .tip (.loc 5))], [(.ext 0, 1, .int .i64)], [(.loc 5, 1)]⟩ (.s .a (.b (.g (.loc 5) 1 5 none (.l ⟨[(5, .tip (.loc 5)), (7, .int .i64)], [(.ext 0, 1, .int .i64)], [(.loc 5, 1)]⟩ .a))))) .a))))
def tb104 : List (Ent U) := [E_ref11_GrowExpr, E_ref11_GrowExprs] ++ tb103
theorem k104 : TblOk Y tb104 := TblOk.grp k103 ⟨⟨_, h_ref11_GrowExpr, Tryz.func56, fun _ => rfl, fun k z => by kernel_rfl⟩, ⟨_, h_ref11_GrowExprs, Tryz.func59, fun _ => rfl, fun k z => by kernel_rfl⟩, trivial⟩
def E_ref11_growPlace : Ent U := ⟨58, 0, ⟨[.ptr (.ext 0) 0, .int .i64], [[.lst 0, .int .i64]], [], .typ 1, [(.ext 0, 1, .int .i64)], [], []⟩, fun k z => ref11_growPlace k z.1 z.2.1 z.2.2⟩
def h_ref11_growPlace : Hc := (.s .a (.s .a (.s (.s (.r (.run 3 (.mux 10 6 ⟨[(13, .bool)], [], []⟩ .done .done .done))) .a) .a)))
def tb105 : List (Ent U) := [E_ref11_growPlace] ++ tb104
theorem k105 : TblOk Y tb105 := TblOk.grp k104 ⟨⟨_, h_ref11_growPlace, Tryz.func58, fun _ => rfl, fun k z => by kernel_rfl⟩, trivial⟩
def E_ref11_GrowBlock : Ent U := ⟨26, 0, ⟨[.ptr (.ext 0) 0, .int .i64], [[.lst 0, .int .i64]], [], .typ 1, [(.ext 0, 1, .int .i64)], [], []⟩, fun k z => ref11_GrowBlock k z.1 z.2.1 z.2.2⟩
def h_ref11_GrowBlock : Hc := (.s .a (.s .a (.s .a (.s (.j .normal ⟨[(5, .ptr (.loc 5) 0)], [(.ext 0, 1, .int .i64), (.loc 5, 4, .tip (.cl (.loc 5) 4))], [(.cl (.loc 5) 4, 1)]⟩ (.s .a (.b (.g (.cl (.loc 5) 4) 1 5 (some 4) (.l ⟨[(7, .int .i64)], [(.ext 0, 1, .int .i64), (.loc 5, 4, .tip (.cl (.loc 5) 4))], [(.cl (.loc 5) 4, 1)]⟩ .a))))) .a))))
def E_ref11_GrowStmt : Ent U := ⟨27, 0, ⟨[.ptr (.ext 0) 0, .int .i64], [[.lst 0, .int .i64]], [], .typ 1, [(.ext 0, 1, .int .i64)], [], []⟩, fun k z => ref11_GrowStmt k z.1 z.2.1 z.2.2⟩
def h_ref11_GrowStmt : Hc := (.s .a (.s .a (.s (.j .normal ⟨[(5, .int .i64)], [], []⟩ (.s (.r (.run 3 (.mux 12 6 ⟨[(15, .bool)], [], []⟩ .done .done .done))) .a)) (.s .a (.s .a (.s (.s (.r (.run 3 (.mux 36 6 ⟨[(39, .bool)], [], []⟩ .done .done .done))) (.c (.s .a (.s (.j .normal ⟨[(6, .ptr (.loc 6) 0)], [(.ext 0, 1, .int .i64), (.loc 6, 4, .lst 1)], []⟩ (.s .a (.c (.s .a (.s (.j .normal ⟨[], [(.ext 0, 1, .int .i64), (.loc 7, 0, .typ 1)], []⟩ .a) (.g (.cl (.loc 6) 4) 1 6 (some 4) .a))) .a))) .a)) .a)) (.s .a (.s .a (.s .a (.s .a (.s .a (.s (.r (.run 5 (.typ 113 1 .done))) .a))))))))))))
def tb106 : List (Ent U) := [E_ref11_GrowBlock, E_ref11_GrowStmt] ++ tb105
theorem k106 : TblOk Y tb106 := TblOk.grp k105 ⟨⟨_, h_ref11_GrowBlock, Tryz.func26, fun _ => rfl, fun k z => by kernel_rfl⟩, ⟨_, h_ref11_GrowStmt, Tryz.func27, fun _ => rfl, fun k z => by kernel_rfl⟩, trivial⟩
def E_law21_EndsBehind : Ent U := ⟨5, 0, ⟨[.lst 0, .int .i64], [], [], .bool, [], [], []⟩, fun k z => law21_EndsBehind k z.1 z.2⟩
def h_law21_EndsBehind : Hc := (.s .a (.s (.s (.r (.run 3 (.mux 14 7 ⟨[(18, .bool)], [], []⟩ .done .done .done))) .a) (.s .a (.s .a (.s .a (.s .a (.s (.r (.run 5 (.begin (.loc 34) 1 34 none .done))) (.s .a (.s .a (.s .a (.s (.r (.run 5 (.typ 53 1 (.typ 57 1 .done)))) (.s (.r (.run 4 (.split 63 7 ⟨[(66, .bool)], [], []⟩ .done .done (.run 2 (.split 68 19 ⟨[(78, .bool)], [], []⟩ (.run 5 (.split 73 17 ⟨[(76, .bool)], [], []⟩ .done .done .done)) .done (.run 1 (.split 79 27 ⟨[(86, .bool)], [], []⟩ (.run 2 (.typ 80 1 .done)) .done .done))))))) .a))))))))))))
def tb107 : List (Ent U) := E_law21_EndsBehind :: tb106
theorem k107 : TblOk Y tb107 := TblOk.cons k106 Tryz.func5 h_law21_EndsBehind (fun k z => by kernel_rfl)
end Go.Proofs.YtjojaiomgdjhfaaGreatDoor.SY
