/- The code of these functions comes to what the printed functions answer. Printed by wip/sy/gs.py. No condition. -/
import Derived.Test.YtjojaiomgdjhfaaGreatDoorZQE0
set_option linter.unusedVariables false
set_option linter.unusedSimpArgs false
set_option maxRecDepth 100000
namespace Go.Proofs.YtjojaiomgdjhfaaGreatDoor.SY
open Go AE F
def E_ref14_expr : Ent U := ⟨141, 0, ⟨[.lst 7, .int .i64], [], [], .typ 8, [], [], []⟩, fun k z => ref14_expr k z.1 z.2⟩
def h_ref14_expr : Hc := .a
def tb89 : List (Ent U) := E_ref14_expr :: tb88
theorem k89 : TblOk Y tb89 := TblOk.cons k88 Tryz.func141 h_ref14_expr (fun k z => by kernel_rfl)
def E_ref14_named : Ent U := ⟨138, 0, ⟨[.lst 7, .int .i64], [], [], .typ 8, [], [], []⟩, fun k z => ref14_named k z.1 z.2⟩
def h_ref14_named : Hc := (.s .a (.s .a (.s (.s .a (.c (.s .a (.s .a (.s (.r (.run 8 (.typ 44 1 .done))) .a))) .a)) (.s .a (.s .a (.s (.j .normal ⟨[(1, .int .i64)], [(.loc 10, 0, .typ 1)], []⟩ (.b (.l ⟨[(1, .int .i64)], [(.loc 10, 0, .typ 1)], []⟩ (.s (.s (.r (.run 4 (.split 58 8 ⟨[(62, .bool)], [], []⟩ .done .done .done))) .a) (.b (.s .a (.s .a (.s .a (.s (.r (.run 6 (.typ 97 1 .done))) .a))))))))) (.s .a (.s .a (.s (.r (.run 9 (.typ 127 1 .done))) .a)))))))))
def tb90 : List (Ent U) := E_ref14_named :: tb89
theorem k90 : TblOk Y tb90 := TblOk.cons k89 Tryz.func138 h_ref14_named (fun k z => by kernel_rfl)
def E_ref14_Block : Ent U := ⟨91, 0, ⟨[.lst 7, .int .i64], [], [], .typ 8, [], [], []⟩, fun k z => ref14_Block k z.1 z.2⟩
def h_ref14_Block : Hc := (.s .a (.s .a (.s .a (.s .a (.s (.j .normal ⟨[(1, .int .i64), (5, .ptr (.loc 5) 0)], [(.loc 5, 4, .tip (.cl (.loc 5) 4))], [(.cl (.loc 5) 4, 1)]⟩ (.b (.g (.cl (.loc 5) 4) 1 5 (some 4) (.l ⟨[(1, .int .i64)], [(.loc 5, 4, .tip (.cl (.loc 5) 4))], [(.cl (.loc 5) 4, 1)]⟩ (.s .a (.b (.s .a (.s .a (.s (.r (.run 4 (.typ 34 1 .done))) .a))))))))) .a)))))
def E_ref14_Stmt : Ent U := ⟨120, 0, ⟨[.lst 7, .int .i64], [], [], .typ 8, [], [], []⟩, fun k z => ref14_Stmt k z.1 z.2⟩
def h_ref14_Stmt : Hc := (.s .a (.s .a (.s .a (.s .a (.s .a (.s .a (.s (.s .a (.c (.s .a (.s .a (.s (.r (.run 6 (.typ 62 1 .done))) .a))) .a)) (.s (.s .a (.c (.s .a (.s (.r (.run 6 (.typ 78 1 .done))) .a)) .a)) (.s .a (.s (.s (.r (.run 3 (.split 87 8 ⟨[(92, .bool)], [], []⟩ .done .done .done))) .a) (.s .a (.s .a (.s .a (.s .a (.s .a (.s (.r (.run 8 (.typ 137 1 .done))) .a))))))))))))))))
def E_ref14_choice : Ent U := ⟨139, 0, ⟨[.lst 7, .int .i64], [], [], .typ 8, [], [], []⟩, fun k z => ref14_choice k z.1 z.2⟩
def h_ref14_choice : Hc := (.s .a (.s .a (.s (.s (.r (.run 4 (.split 13 10 ⟨[(19, .bool)], [], []⟩ .done .done .done))) .a) (.s .a (.s (.j .normal ⟨[], [(.loc 6, 0, .typ 8)], []⟩ .a) (.s .a (.s (.r (.run 5 (.typ 44 1 .done))) .a)))))))
def E_ref14_headed : Ent U := ⟨140, 0, ⟨[.lst 7, .int .i64, .int .i64], [], [], .agg (.L [.int .i64, .int .i64, .int .i64, .str, .lstf 1, .int .i64, .bool]), [], [], []⟩, fun k z => ref14_headed k z.1 z.2.1 z.2.2⟩
def h_ref14_headed : Hc := (.s .a (.s .a (.s .a (.s .a (.s .a (.s (.r (.run 9 (.typ 31 1 (.typ 33 1 .done)))) .a))))))
def tb91 : List (Ent U) := [E_ref14_Block, E_ref14_Stmt, E_ref14_choice, E_ref14_headed] ++ tb90
theorem k91 : TblOk Y tb91 := TblOk.grp k90 ⟨⟨_, h_ref14_Block, Tryz.func91, fun _ => rfl, fun k z => by kernel_rfl⟩, ⟨_, h_ref14_Stmt, Tryz.func120, fun _ => rfl, fun k z => by kernel_rfl⟩, ⟨_, h_ref14_choice, Tryz.func139, fun _ => rfl, fun k z => by kernel_rfl⟩, ⟨_, h_ref14_headed, Tryz.func140, fun _ => rfl, fun k z => by kernel_rfl⟩, trivial⟩
def E_ref14_tail_v2 : Ent U := ⟨137, 1, ⟨[.lst 7, .int .i64, .agg (.L [.int .i64, .int .i64, .int .i64, .str, .full 1])], [], [], .typ 8, [], [], []⟩, fun k z => ref14_tail_v2 k z.1 z.2.1 z.2.2.1 z.2.2.2.1 z.2.2.2.2.1 z.2.2.2.2.2.1 z.2.2.2.2.2.2⟩
def h_ref14_tail_v2 : Hc := (.s .a (.s (.g (.cl (.loc 5) 4) 1 5 (some 4) (.j .normal ⟨[(1, .int .i64), (5, .ptr (.loc 5) 0)], [(.loc 5, 4, .tip (.cl (.loc 5) 4))], [(.cl (.loc 5) 4, 1)]⟩ (.s (.r (.run 4 (.split 14 9 ⟨[(19, .bool)], [], []⟩ .done .done .done))) (.c .a (.s .a (.c (.r (.run 3 (.typ 43 1 .done))) .a)))))) (.s .a (.s .a (.s (.r (.run 4 (.typ 57 1 .done))) .a)))))
def tb92 : List (Ent U) := E_ref14_tail_v2 :: tb91
theorem k92 : TblOk Y tb92 := TblOk.cons k91 Tryz.func137 h_ref14_tail_v2 (fun k z => by kernel_rfl)
def E_ref14_tail_v3 : Ent U := ⟨137, 2, ⟨[.lst 7, .int .i64, .agg (.L [.int .i64, .int .i64, .int .i64, .str, .tip (.cl (.ext 0) 4)])], [[.int .i64, .int .i64, .int .i64, .str, .tip (.cl (.ext 0) 4)]], [(.cl (.ext 0) 4, 1)], .typ 8, [], [(.cl (.ext 0) 4, 1)], []⟩, fun k z => ref14_tail_v3 k z.1 z.2.1 z.2.2.1 z.2.2.2.1 z.2.2.2.2.1 z.2.2.2.2.2.1 z.2.2.2.2.2.2.1 z.2.2.2.2.2.2.2.1 z.2.2.2.2.2.2.2.2.1 z.2.2.2.2.2.2.2.2.2.1 z.2.2.2.2.2.2.2.2.2.2⟩
def h_ref14_tail_v3 : Hc := (.s (.r (.pl .done)) (.s (.j .normal ⟨[(1, .int .i64)], [(.loc 5, 4, .tip (.cl (.ext 0) 4))], [(.cl (.ext 0) 4, 1)]⟩ (.s (.r (.run 4 (.split 14 9 ⟨[(19, .bool)], [], []⟩ .done .done .done))) (.c (.s .a (.s .a (.s (.r (.run 6 (.pl .done))) .a))) (.s .a (.c (.r (.run 3 (.typ 43 1 (.run 3 (.pl .done))))) .a))))) (.s .a (.s .a (.s (.r (.run 4 (.typ 57 1 (.run 3 (.pl .done))))) .a)))))
def tb93 : List (Ent U) := E_ref14_tail_v3 :: tb92
theorem k93 : TblOk Y tb93 := TblOk.cons k92 Tryz.func137 h_ref14_tail_v3 (fun k z => by kernel_rfl)
def E_ref14_fun_v2 : Ent U := ⟨118, 1, ⟨[.lst 7, .int .i64, .agg (.L [.int .i64, .int .i64, .int .i64, .str, .full 1])], [], [], .typ 8, [], [], []⟩, fun k z => ref14_fun_v2 k z.1 z.2.1 z.2.2.1 z.2.2.2.1 z.2.2.2.2.1 z.2.2.2.2.2.1 z.2.2.2.2.2.2⟩
def h_ref14_fun_v2 : Hc := (.s .a (.s .a (.s .a (.s (.s (.r (.run 4 (.split 21 8 ⟨[(25, .bool)], [], []⟩ .done .done .done))) (.c (.s (.r (.run 4 (.call 1 .done))) .a) .a)) (.b (.g (.cl (.loc 5) 4) 1 5 (some 4) (.l ⟨[(1, .int .i64)], [(.loc 5, 4, .tip (.cl (.loc 5) 4))], [(.cl (.loc 5) 4, 1)]⟩ (.b (.s .a (.s .a (.s (.r (.run 4 (.typ 41 1 .done))) (.s .a (.s (.r (.run 4 (.mux 50 9 ⟨[(55, .bool)], [], []⟩ .done .done .done))) (.s (.r (.run 4 (.mux 59 9 ⟨[(64, .bool)], [], []⟩ .done .done .done))) (.s (.s (.r (.run 2 (.split 66 6 ⟨[(70, .bool)], [], []⟩ .done .done .done))) (.c (.s (.r (.run 4 (.keep 2 .done))) .a) .a)) (.s (.s (.r (.run 3 (.split 78 8 ⟨[(83, .bool)], [], []⟩ .done .done .done))) .a) .a))))))))))))))))
def tb94 : List (Ent U) := E_ref14_fun_v2 :: tb93
theorem k94 : TblOk Y tb94 := TblOk.cons k93 Tryz.func118 h_ref14_fun_v2 (fun k z => by kernel_rfl)
def E_ref14_Decl : Ent U := ⟨90, 0, ⟨[.lst 7, .int .i64], [], [], .typ 8, [], [], []⟩, fun k z => ref14_Decl k z.1 z.2⟩
def h_ref14_Decl : Hc := (.s .a (.s .a (.s .a (.s (.j .normal ⟨[(6, .int .i64)], [], []⟩ (.b (.l ⟨[(6, .int .i64)], [], []⟩ (.s (.s (.r (.run 3 (.split 12 12 ⟨[(21, .bool)], [], []⟩ .done .done .done))) .a) .a)))) (.s .a (.s .a (.s .a (.s .a (.s (.s .a (.c (.s (.r (.run 4 (.call 1 .done))) .a) .a)) (.s .a (.s (.r (.run 4 (.call 1 .done))) .a)))))))))))
def tb95 : List (Ent U) := E_ref14_Decl :: tb94
theorem k95 : TblOk Y tb95 := TblOk.cons k94 Tryz.func90 h_ref14_Decl (fun k z => by kernel_rfl)
def E_ref14_Prog : Ent U := ⟨66, 0, ⟨[.lst 7], [], [], .typ 8, [], [], []⟩, fun k z => ref14_Prog k z⟩
def h_ref14_Prog : Hc := (.s .a (.s .a (.s .a (.s (.j .normal ⟨[(3, .ptr (.loc 3) 0), (4, .int .i64)], [(.loc 3, 4, .tip (.cl (.loc 3) 4))], [(.cl (.loc 3) 4, 1)]⟩ (.b (.g (.cl (.loc 3) 4) 1 3 (some 4) (.l ⟨[(4, .int .i64)], [(.loc 3, 4, .tip (.cl (.loc 3) 4))], [(.cl (.loc 3) 4, 1)]⟩ (.s .a (.b (.s .a (.s .a (.s (.r (.run 4 (.typ 22 1 .done))) .a))))))))) (.s .a (.s .a (.s (.r (.run 4 (.typ 39 1 .done))) (.s (.s (.r (.run 7 (.split 49 15 ⟨[(57, .bool)], [], []⟩ .done .done .done))) .a) .a))))))))
def tb96 : List (Ent U) := E_ref14_Prog :: tb95
theorem k96 : TblOk Y tb96 := TblOk.cons k95 Tryz.func66 h_ref14_Prog (fun k z => by kernel_rfl)
def E_ref15_Prog : Ent U := ⟨40, 0, ⟨[.str], [], [], .typ 6, [], [], []⟩, fun k z => ref15_Prog k z⟩
def h_ref15_Prog : Hc := .a
def tb97 : List (Ent U) := E_ref15_Prog :: tb96
theorem k97 : TblOk Y tb97 := TblOk.cons k96 Tryz.func40 h_ref15_Prog (fun k z => by kernel_rfl)
def E_decl_Table_number : Ent U := ⟨60, 0, ⟨[.opt 2, .int .i64, .str], [], [], .tup (.L [.int .i64, .bool]), [], [], []⟩, fun k z => decl_Table_number k z.1 z.2.1 z.2.2⟩
def h_decl_Table_number : Hc := .a
def tb98 : List (Ent U) := E_decl_Table_number :: tb97
theorem k98 : TblOk Y tb98 := TblOk.cons k97 Tryz.func60 h_decl_Table_number (fun k z => by kernel_rfl)
def E_decl_Table_Iso : Ent U := ⟨29, 0, ⟨[.opt 2, .str], [], [], .tup (.L [.int .i64, .bool]), [], [], []⟩, fun k z => decl_Table_Iso k z.1 z.2⟩
def h_decl_Table_Iso : Hc := .a
def tb99 : List (Ent U) := E_decl_Table_Iso :: tb98
theorem k99 : TblOk Y tb99 := TblOk.cons k98 Tryz.func29 h_decl_Table_Iso (fun k z => by kernel_rfl)
def E_decl_Table_Global : Ent U := ⟨38, 0, ⟨[.opt 2, .str], [], [], .bool, [], [], []⟩, fun k z => decl_Table_Global k z.1 z.2⟩
def h_decl_Table_Global : Hc := (.s .a (.s .a (.s (.j .normal ⟨[], [], []⟩ (.s .a (.b (.l ⟨[(19, .int .i64)], [], []⟩ .a)))) .a)))
def tb100 : List (Ent U) := E_decl_Table_Global :: tb99
theorem k100 : TblOk Y tb100 := TblOk.cons k99 Tryz.func38 h_decl_Table_Global (fun k z => by kernel_rfl)
def E_law18_works : Ent U := ⟨7, 0, ⟨[], [], [], .bool, [], [], []⟩, fun k z => law18_works k⟩
def h_law18_works : Hc := (.s .a (.s .a (.s .a (.s .a (.s .a (.s .a (.s (.r (.run 3 (.mux 34 6 ⟨[(37, .bool)], [], []⟩ .done .done (.run 1 (.mux 38 9 ⟨[(40, .bool)], [], []⟩ .done .done (.run 1 (.split 41 14 ⟨[(45, .bool)], [], []⟩ .done .done (.run 1 (.split 46 19 ⟨[(50, .bool)], [], []⟩ .done .done (.run 1 (.split 51 23 ⟨[(54, .bool)], [], []⟩ .done .done (.run 1 (.split 55 27 ⟨[(58, .bool)], [], []⟩ .done .done (.run 1 (.mux 59 31 ⟨[(62, .bool)], [], []⟩ .done .done (.run 1 (.mux 63 35 ⟨[(66, .bool)], [], []⟩ .done .done .done))))))))))))))))) .a)))))))
def tb101 : List (Ent U) := E_law18_works :: tb100
theorem k101 : TblOk Y tb101 := TblOk.cons k100 Tryz.func7 h_law18_works (fun k z => by kernel_rfl)
def E_decl_Table_Many : Ent U := ⟨11, 0, ⟨[.opt 2, .int .i64], [], [], .int .i64, [], [], []⟩, fun k z => decl_Table_Many k z.1 z.2⟩
def h_decl_Table_Many : Hc := (.s .a (.s (.s (.r (.run 3 (.mux 7 6 ⟨[(10, .bool)], [], []⟩ .done .done (.run 1 (.split 11 15 ⟨[(19, .bool)], [], []⟩ .done .done .done))))) .a) .a))
def tb102 : List (Ent U) := E_decl_Table_Many :: tb101
theorem k102 : TblOk Y tb102 := TblOk.cons k101 Tryz.func11 h_decl_Table_Many (fun k z => by kernel_rfl)
def E_law18_DeclLocates : Ent U := ⟨3, 0, ⟨[.lst 0], [], [], .bool, [], [], []⟩, fun k z => law18_DeclLocates k z⟩
def h_law18_DeclLocates : Hc := (.s .a (.s (.s (.r (.run 3 (.mux 17 7 ⟨[(21, .bool)], [], []⟩ .done .done .done))) .a) (.s .a (.s .a (.s .a (.s .a (.s (.j .normal ⟨[(3, .ptr (.loc 3) 0), (5, .int .i64), (6, .int .i64)], [(.loc 3, 4, .tip (.cl (.loc 3) 4))], [(.cl (.loc 3) 4, 1)]⟩ (.s .a (.b (.g (.cl (.loc 3) 4) 1 3 (some 4) (.l ⟨[(5, .int .i64), (6, .int .i64), (7, .int .i64)], [(.loc 3, 4, .tip (.cl (.loc 3) 4))], [(.cl (.loc 3) 4, 1)]⟩ (.s (.s (.r (.run 5 (.mux 28 8 ⟨[(31, .bool)], [], []⟩ .done .done .done))) .a) (.s (.b (.s .a (.s .a (.s (.j .normal ⟨[(6, .int .i64)], [], []⟩ .a) (.r (.run 10 (.typ 56 1 (.run 2 (.typ 58 1 .done))))))))) .a))))))) (.s .a (.s (.r (.run 3 (.typ 68 1 .done))) (.s .a (.s (.s .a (.c (.s (.r (.run 3 (.mux 82 7 ⟨[(86, .bool)], [], []⟩ .done .done (.run 1 (.mux 87 12 ⟨[(91, .bool)], [], []⟩ .done .done .done))))) .a) .a)) (.s (.s (.r (.run 3 (.mux 94 6 ⟨[(97, .bool)], [], []⟩ .done .done (.run 1 (.split 98 12 ⟨[(103, .bool)], [], []⟩ .done .done .done))))) .a) (.s .a (.s (.j .normal ⟨[(13, .int .i64)], [], []⟩ (.s .a (.b (.l ⟨[(13, .int .i64), (14, .int .i64)], [], []⟩ (.s .a (.s (.b (.s (.s (.r (.run 6 (.split 115 17 ⟨[(126, .bool)], [], []⟩ .done .done .done))) .a) .a)) .a)))))) (.s (.r (.run 4 (.split 135 10 ⟨[(141, .bool)], [], []⟩ .done .done (.run 1 (.split 142 15 ⟨[(146, .bool)], [], []⟩ .done .done .done))))) .a)))))))))))))))
def tb103 : List (Ent U) := E_law18_DeclLocates :: tb102
theorem k103 : TblOk Y tb103 := TblOk.cons k102 Tryz.func3 h_law18_DeclLocates (fun k z => by kernel_rfl)
end Go.Proofs.YtjojaiomgdjhfaaGreatDoor.SY
