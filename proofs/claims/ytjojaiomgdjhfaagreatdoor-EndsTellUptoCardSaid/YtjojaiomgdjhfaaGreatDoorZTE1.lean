/- The code of these functions comes to what the printed functions answer. Printed by wip/sy/gs.py. No condition. -/
import Derived.Test.YtjojaiomgdjhfaaGreatDoorZTE0
set_option linter.unusedVariables false
set_option linter.unusedSimpArgs false
set_option maxRecDepth 100000
namespace Go.Proofs.YtjojaiomgdjhfaaGreatDoor.SY
open Go AE F
def E_ref09_Bind:Ent U:=⟨77,0,⟨[.int .i64],[],[],.int .i64,[],[],[]⟩,fun k z=>ref09_Bind k z⟩
def h_ref09_Bind:Hc:=(.s .a (.s (.s (.r (.run 3 (.mux 5 6 ⟨[(8,.bool)],[],[]⟩ .done .done .done))) .a) (.s (.s (.r (.run 3 (.mux 11 6 ⟨[(14,.bool)],[],[]⟩ .done .done .done))) .a) (.s (.s (.r (.run 3 (.mux 17 6 ⟨[(20,.bool)],[],[]⟩ .done .done .done))) .a) .a))))
def tb88:List (Ent U):=E_ref09_Bind :: tb87
theorem k88:TblOk Y tb88:=TblOk.cons k87 Tryz.func77 h_ref09_Bind (fun k z=>by kernel_rfl)
def E_ref13_sign:Ent U:=⟨166,0,⟨[.lst 9,.int .i64,.int .i64],[],[],.int .i64,[],[],[]⟩,fun k z=>ref13_sign k z.1 z.2.1 z.2.2⟩
def h_ref13_sign:Hc:=(.s .a (.s .a (.s (.j .normal ⟨[],[],[]⟩ (.s .a (.b (.l ⟨[(8,.int .i64)],[],[]⟩ (.s .a (.s (.b (.s (.r (.run 4 (.split 19 10 ⟨[(25,.bool)],[],[]⟩ .done .done (.run 1 (.split 26 16 ⟨[(31,.bool)],[],[]⟩ .done .done .done))))) .a)) .a)))))) .a)))
def tb89:List (Ent U):=E_ref13_sign :: tb88
theorem k89:TblOk Y tb89:=TblOk.cons k88 Tryz.func166 h_ref13_sign (fun k z=>by kernel_rfl)
def E_ref13_Args:Ent U:=⟨152,0,⟨[.lst 9,.int .i64],[],[],.tup (.L [.lst 0,.int .i64,.bool]),[],[],[]⟩,fun k z=>ref13_Args k z.1 z.2⟩
def h_ref13_Args:Hc:=(.s .a (.s .a (.s .a (.s .a (.s .a (.b (.g (.loc 7) 0 7 none (.l ⟨[(1,.int .i64),(7,.tip (.loc 7))],[],[(.loc 7,0)]⟩ .a))))))))
def E_ref13_Expr:Ent U:=⟨153,0,⟨[.lst 9,.int .i64],[],[],.tup (.L [.typ 0,.int .i64,.bool]),[],[],[]⟩,fun k z=>ref13_Expr k z.1 z.2⟩
def h_ref13_Expr:Hc:=.a
def E_ref13_level:Ent U:=⟨161,0,⟨[.lst 9,.int .i64,.int .i64],[],[],.tup (.L [.typ 0,.int .i64,.bool]),[],[],[]⟩,fun k z=>ref13_level k z.1 z.2.1 z.2.2⟩
def h_ref13_level:Hc:=(.s .a (.s .a (.s .a (.s .a (.b (.l ⟨[(10,.int .i64)],[(.loc 9,0,.typ 0)],[]⟩ .a))))))
def E_ref13_factor:Ent U:=⟨165,0,⟨[.lst 9,.int .i64],[],[],.tup (.L [.typ 0,.int .i64,.bool]),[],[],[]⟩,fun k z=>ref13_factor k z.1 z.2⟩
def h_ref13_factor:Hc:=(.s .a (.s .a (.s (.j .normal ⟨[(7,.int .i64)],[],[]⟩ .a) (.s (.j .normal ⟨[(7,.int .i64)],[],[]⟩ .a) .a))))
def E_ref13_part:Ent U:=⟨168,0,⟨[.lst 9,.int .i64],[],[],.tup (.L [.typ 0,.int .i64,.bool]),[],[],[]⟩,fun k z=>ref13_part k z.1 z.2⟩
def h_ref13_part:Hc:=(.s .a (.s .a (.s .a (.b (.l ⟨[(8,.int .i64)],[(.loc 7,0,.typ 0)],[]⟩ (.b (.s .a (.s .a (.s .a (.s .a (.s (.s (.r (.run 3 (.split 67 8 ⟨[(72,.bool)],[],[]⟩ .done .done .done))) .a) .a)))))))))))
def E_ref13_first:Ent U:=⟨171,0,⟨[.lst 9,.int .i64],[],[],.tup (.L [.typ 0,.int .i64,.bool]),[],[],[]⟩,fun k z=>ref13_first k z.1 z.2⟩
def h_ref13_first:Hc:=(.s .a (.s .a (.s .a (.s .a (.s .a (.s .a (.s .a (.s (.s .a (.c (.s .a (.s .a (.s .a (.s .a (.s (.r (.run 5 (.pl .done))) .a))))) .a)) (.s .a (.s .a (.s (.s (.r (.run 3 (.split 130 8 ⟨[(135,.bool)],[],[]⟩ .done .done .done))) .a) .a)))))))))))
def E_ref13_named:Ent U:=⟨172,0,⟨[.lst 9,.int .i64,.int .i64,.int .i64],[],[],.tup (.L [.typ 0,.int .i64,.bool]),[],[],[]⟩,fun k z=>ref13_named k z.1 z.2.1 z.2.2.1 z.2.2.2⟩
def h_ref13_named:Hc:=.a
def tb90:List (Ent U):=[E_ref13_Args,E_ref13_Expr,E_ref13_level,E_ref13_factor,E_ref13_part,E_ref13_first,E_ref13_named] ++ tb89
theorem k90:TblOk Y tb90:=TblOk.grp k89 ⟨⟨_,h_ref13_Args,Tryz.func152,fun _=>rfl,fun k z=>by kernel_rfl⟩,⟨_,h_ref13_Expr,Tryz.func153,fun _=>rfl,fun k z=>by kernel_rfl⟩,⟨_,h_ref13_level,Tryz.func161,fun _=>rfl,fun k z=>by kernel_rfl⟩,⟨_,h_ref13_factor,Tryz.func165,fun _=>rfl,fun k z=>by kernel_rfl⟩,⟨_,h_ref13_part,Tryz.func168,fun _=>rfl,fun k z=>by kernel_rfl⟩,⟨_,h_ref13_first,Tryz.func171,fun _=>rfl,fun k z=>by kernel_rfl⟩,⟨_,h_ref13_named,Tryz.func172,fun _=>rfl,fun k z=>by kernel_rfl⟩,trivial⟩
def E_ref14_expr:Ent U:=⟨141,0,⟨[.lst 9,.int .i64],[],[],.typ 10,[],[],[]⟩,fun k z=>ref14_expr k z.1 z.2⟩
def h_ref14_expr:Hc:=.a
def tb91:List (Ent U):=E_ref14_expr :: tb90
theorem k91:TblOk Y tb91:=TblOk.cons k90 Tryz.func141 h_ref14_expr (fun k z=>by kernel_rfl)
def E_ref14_named:Ent U:=⟨138,0,⟨[.lst 9,.int .i64],[],[],.typ 10,[],[],[]⟩,fun k z=>ref14_named k z.1 z.2⟩
def h_ref14_named:Hc:=(.s .a (.s .a (.s (.s .a (.c (.s .a (.s .a (.s (.r (.run 8 (.typ 44 0 .done))) .a))) .a)) (.s .a (.s .a (.s (.j .normal ⟨[(1,.int .i64)],[(.loc 10,0,.typ 0)],[]⟩ (.b (.l ⟨[(1,.int .i64)],[(.loc 10,0,.typ 0)],[]⟩ (.s (.s (.r (.run 4 (.split 58 8 ⟨[(62,.bool)],[],[]⟩ .done .done .done))) .a) (.b (.s .a (.s .a (.s .a (.s (.r (.run 6 (.typ 97 0 .done))) .a))))))))) (.s .a (.s .a (.s (.r (.run 9 (.typ 127 0 .done))) .a)))))))))
def tb92:List (Ent U):=E_ref14_named :: tb91
theorem k92:TblOk Y tb92:=TblOk.cons k91 Tryz.func138 h_ref14_named (fun k z=>by kernel_rfl)
def E_ref14_Block:Ent U:=⟨91,0,⟨[.lst 9,.int .i64],[],[],.typ 10,[],[],[]⟩,fun k z=>ref14_Block k z.1 z.2⟩
def h_ref14_Block:Hc:=(.s .a (.s .a (.s .a (.s .a (.s (.j .normal ⟨[(1,.int .i64),(5,.ptr (.loc 5) 0)],[(.loc 5,4,.tip (.cl (.loc 5) 4))],[(.cl (.loc 5) 4,0)]⟩ (.b (.g (.cl (.loc 5) 4) 0 5 (some 4) (.l ⟨[(1,.int .i64)],[(.loc 5,4,.tip (.cl (.loc 5) 4))],[(.cl (.loc 5) 4,0)]⟩ (.s .a (.b (.s .a (.s .a (.s (.r (.run 4 (.typ 34 0 .done))) .a))))))))) .a)))))
def E_ref14_Stmt:Ent U:=⟨120,0,⟨[.lst 9,.int .i64],[],[],.typ 10,[],[],[]⟩,fun k z=>ref14_Stmt k z.1 z.2⟩
def h_ref14_Stmt:Hc:=(.s .a (.s .a (.s .a (.s .a (.s .a (.s .a (.s (.s .a (.c (.s .a (.s .a (.s (.r (.run 6 (.typ 62 0 .done))) .a))) .a)) (.s (.s .a (.c (.s .a (.s (.r (.run 6 (.typ 78 0 .done))) .a)) .a)) (.s .a (.s (.s (.r (.run 3 (.split 87 8 ⟨[(92,.bool)],[],[]⟩ .done .done .done))) .a) (.s .a (.s .a (.s .a (.s .a (.s .a (.s (.r (.run 8 (.typ 137 0 .done))) .a))))))))))))))))
def E_ref14_choice:Ent U:=⟨139,0,⟨[.lst 9,.int .i64],[],[],.typ 10,[],[],[]⟩,fun k z=>ref14_choice k z.1 z.2⟩
def h_ref14_choice:Hc:=(.s .a (.s .a (.s (.s (.r (.run 4 (.split 13 10 ⟨[(19,.bool)],[],[]⟩ .done .done .done))) .a) (.s .a (.s (.j .normal ⟨[],[(.loc 6,0,.typ 10)],[]⟩ .a) (.s .a (.s (.r (.run 5 (.typ 44 0 .done))) .a)))))))
def E_ref14_headed:Ent U:=⟨140,0,⟨[.lst 9,.int .i64,.int .i64],[],[],.agg (.L [.int .i64,.int .i64,.int .i64,.str,.lstf 0,.int .i64,.bool]),[],[],[]⟩,fun k z=>ref14_headed k z.1 z.2.1 z.2.2⟩
def h_ref14_headed:Hc:=(.s .a (.s .a (.s .a (.s .a (.s .a (.s (.r (.run 9 (.typ 31 0 (.typ 33 0 .done)))) .a))))))
def tb93:List (Ent U):=[E_ref14_Block,E_ref14_Stmt,E_ref14_choice,E_ref14_headed] ++ tb92
theorem k93:TblOk Y tb93:=TblOk.grp k92 ⟨⟨_,h_ref14_Block,Tryz.func91,fun _=>rfl,fun k z=>by kernel_rfl⟩,⟨_,h_ref14_Stmt,Tryz.func120,fun _=>rfl,fun k z=>by kernel_rfl⟩,⟨_,h_ref14_choice,Tryz.func139,fun _=>rfl,fun k z=>by kernel_rfl⟩,⟨_,h_ref14_headed,Tryz.func140,fun _=>rfl,fun k z=>by kernel_rfl⟩,trivial⟩
def E_ref14_tail_v2:Ent U:=⟨137,1,⟨[.lst 9,.int .i64,.agg (.L [.int .i64,.int .i64,.int .i64,.str,.full 0])],[],[],.typ 10,[],[],[]⟩,fun k z=>ref14_tail_v2 k z.1 z.2.1 z.2.2.1 z.2.2.2.1 z.2.2.2.2.1 z.2.2.2.2.2.1 z.2.2.2.2.2.2⟩
def h_ref14_tail_v2:Hc:=(.s .a (.s (.g (.cl (.loc 5) 4) 0 5 (some 4) (.j .normal ⟨[(1,.int .i64),(5,.ptr (.loc 5) 0)],[(.loc 5,4,.tip (.cl (.loc 5) 4))],[(.cl (.loc 5) 4,0)]⟩ (.s (.r (.run 4 (.split 14 9 ⟨[(19,.bool)],[],[]⟩ .done .done .done))) (.c .a (.s .a (.c (.r (.run 3 (.typ 43 0 .done))) .a)))))) (.s .a (.s .a (.s (.r (.run 4 (.typ 57 0 .done))) .a)))))
def tb94:List (Ent U):=E_ref14_tail_v2 :: tb93
theorem k94:TblOk Y tb94:=TblOk.cons k93 Tryz.func137 h_ref14_tail_v2 (fun k z=>by kernel_rfl)
def E_ref14_tail_v3:Ent U:=⟨137,2,⟨[.lst 9,.int .i64,.agg (.L [.int .i64,.int .i64,.int .i64,.str,.tip (.cl (.ext 0) 4)])],[[.int .i64,.int .i64,.int .i64,.str,.tip (.cl (.ext 0) 4)]],[(.cl (.ext 0) 4,0)],.typ 10,[],[(.cl (.ext 0) 4,0)],[]⟩,fun k z=>ref14_tail_v3 k z.1 z.2.1 z.2.2.1 z.2.2.2.1 z.2.2.2.2.1 z.2.2.2.2.2.1 z.2.2.2.2.2.2.1 z.2.2.2.2.2.2.2.1 z.2.2.2.2.2.2.2.2.1 z.2.2.2.2.2.2.2.2.2.1 z.2.2.2.2.2.2.2.2.2.2⟩
def h_ref14_tail_v3:Hc:=(.s (.r (.pl .done)) (.s (.j .normal ⟨[(1,.int .i64)],[(.loc 5,4,.tip (.cl (.ext 0) 4))],[(.cl (.ext 0) 4,0)]⟩ (.s (.r (.run 4 (.split 14 9 ⟨[(19,.bool)],[],[]⟩ .done .done .done))) (.c (.s .a (.s .a (.s (.r (.run 6 (.pl .done))) .a))) (.s .a (.c (.r (.run 3 (.typ 43 0 (.run 3 (.pl .done))))) .a))))) (.s .a (.s .a (.s (.r (.run 4 (.typ 57 0 (.run 3 (.pl .done))))) .a)))))
def tb95:List (Ent U):=E_ref14_tail_v3 :: tb94
theorem k95:TblOk Y tb95:=TblOk.cons k94 Tryz.func137 h_ref14_tail_v3 (fun k z=>by kernel_rfl)
def E_ref14_fun_v2:Ent U:=⟨118,1,⟨[.lst 9,.int .i64,.agg (.L [.int .i64,.int .i64,.int .i64,.str,.full 0])],[],[],.typ 10,[],[],[]⟩,fun k z=>ref14_fun_v2 k z.1 z.2.1 z.2.2.1 z.2.2.2.1 z.2.2.2.2.1 z.2.2.2.2.2.1 z.2.2.2.2.2.2⟩
def h_ref14_fun_v2:Hc:=(.s .a (.s .a (.s .a (.s (.s (.r (.run 4 (.split 21 8 ⟨[(25,.bool)],[],[]⟩ .done .done .done))) (.c (.s (.r (.run 4 (.call 1 .done))) .a) .a)) (.b (.g (.cl (.loc 5) 4) 0 5 (some 4) (.l ⟨[(1,.int .i64)],[(.loc 5,4,.tip (.cl (.loc 5) 4))],[(.cl (.loc 5) 4,0)]⟩ (.b (.s .a (.s .a (.s (.r (.run 4 (.typ 41 0 .done))) (.s .a (.s (.r (.run 4 (.mux 50 9 ⟨[(55,.bool)],[],[]⟩ .done .done .done))) (.s (.r (.run 4 (.mux 59 9 ⟨[(64,.bool)],[],[]⟩ .done .done .done))) (.s (.s (.r (.run 2 (.split 66 6 ⟨[(70,.bool)],[],[]⟩ .done .done .done))) (.c (.s (.r (.run 4 (.keep 2 .done))) .a) .a)) (.s (.s (.r (.run 3 (.split 78 8 ⟨[(83,.bool)],[],[]⟩ .done .done .done))) .a) .a))))))))))))))))
def tb96:List (Ent U):=E_ref14_fun_v2 :: tb95
theorem k96:TblOk Y tb96:=TblOk.cons k95 Tryz.func118 h_ref14_fun_v2 (fun k z=>by kernel_rfl)
def E_ref14_Decl:Ent U:=⟨90,0,⟨[.lst 9,.int .i64],[],[],.typ 10,[],[],[]⟩,fun k z=>ref14_Decl k z.1 z.2⟩
def h_ref14_Decl:Hc:=(.s .a (.s .a (.s .a (.s (.j .normal ⟨[(6,.int .i64)],[],[]⟩ (.b (.l ⟨[(6,.int .i64)],[],[]⟩ (.s (.s (.r (.run 3 (.split 12 12 ⟨[(21,.bool)],[],[]⟩ .done .done .done))) .a) .a)))) (.s .a (.s .a (.s .a (.s .a (.s (.s .a (.c (.s (.r (.run 4 (.call 1 .done))) .a) .a)) (.s .a (.s (.r (.run 4 (.call 1 .done))) .a)))))))))))
def tb97:List (Ent U):=E_ref14_Decl :: tb96
theorem k97:TblOk Y tb97:=TblOk.cons k96 Tryz.func90 h_ref14_Decl (fun k z=>by kernel_rfl)
def E_ref14_Prog:Ent U:=⟨66,0,⟨[.lst 9],[],[],.typ 10,[],[],[]⟩,fun k z=>ref14_Prog k z⟩
def h_ref14_Prog:Hc:=(.s .a (.s .a (.s .a (.s (.j .normal ⟨[(3,.ptr (.loc 3) 0),(4,.int .i64)],[(.loc 3,4,.tip (.cl (.loc 3) 4))],[(.cl (.loc 3) 4,0)]⟩ (.b (.g (.cl (.loc 3) 4) 0 3 (some 4) (.l ⟨[(4,.int .i64)],[(.loc 3,4,.tip (.cl (.loc 3) 4))],[(.cl (.loc 3) 4,0)]⟩ (.s .a (.b (.s .a (.s .a (.s (.r (.run 4 (.typ 22 0 .done))) .a))))))))) (.s .a (.s .a (.s (.r (.run 4 (.typ 39 0 .done))) (.s (.s (.r (.run 7 (.split 49 15 ⟨[(57,.bool)],[],[]⟩ .done .done .done))) .a) .a))))))))
def tb98:List (Ent U):=E_ref14_Prog :: tb97
theorem k98:TblOk Y tb98:=TblOk.cons k97 Tryz.func66 h_ref14_Prog (fun k z=>by kernel_rfl)
def E_ref15_Prog:Ent U:=⟨40,0,⟨[.str],[],[],.typ 8,[],[],[]⟩,fun k z=>ref15_Prog k z⟩
def h_ref15_Prog:Hc:=.a
def tb99:List (Ent U):=E_ref15_Prog :: tb98
theorem k99:TblOk Y tb99:=TblOk.cons k98 Tryz.func40 h_ref15_Prog (fun k z=>by kernel_rfl)
def E_law21_works:Ent U:=⟨12,0,⟨[],[],[],.bool,[],[],[]⟩,fun k z=>law21_works k⟩
def h_law21_works:Hc:=(.s .a (.s .a (.s .a (.s .a (.s (.r (.run 3 (.mux 22 6 ⟨[(25,.bool)],[],[]⟩ .done .done (.run 1 (.split 26 10 ⟨[(29,.bool)],[],[]⟩ .done .done (.run 1 (.split 30 15 ⟨[(34,.bool)],[],[]⟩ .done .done .done))))))) .a)))))
def tb100:List (Ent U):=E_law21_works :: tb99
theorem k100:TblOk Y tb100:=TblOk.cons k99 Tryz.func12 h_law21_works (fun k z=>by kernel_rfl)
def E_ref11_Walk:Ent U:=⟨15,0,⟨[.typ 0],[],[],.lst 0,[],[],[]⟩,fun k z=>ref11_Walk k z⟩
def h_ref11_Walk:Hc:=(.s .a (.s .a (.s (.j .normal ⟨[(3,.tip (.loc 3))],[],[(.loc 3,0)]⟩ (.s .a (.b (.g (.loc 3) 0 3 none (.l ⟨[(3,.tip (.loc 3)),(4,.int .i64)],[],[(.loc 3,0)]⟩ .a))))) .a)))
def tb101:List (Ent U):=[E_ref11_Walk] ++ tb100
theorem k101:TblOk Y tb101:=TblOk.grp k100 ⟨⟨_,h_ref11_Walk,Tryz.func15,fun _=>rfl,fun k z=>by kernel_rfl⟩,trivial⟩
def E_law20_Fits:Ent U:=⟨13,0,⟨[.typ 0],[],[],.int .i64,[],[],[]⟩,fun k z=>law20_Fits k z⟩
def h_law20_Fits:Hc:=.a
def tb102:List (Ent U):=E_law20_Fits :: tb101
theorem k102:TblOk Y tb102:=TblOk.cons k101 Tryz.func13 h_law20_Fits (fun k z=>by kernel_rfl)
def E_ref11_alone:Ent U:=⟨44,0,⟨[.typ 0],[],[],.bool,[],[],[]⟩,fun k z=>ref11_alone k z⟩
def h_ref11_alone:Hc:=(.s .a (.s (.r (.run 4 (.mux 6 8 ⟨[(10,.bool)],[],[]⟩ .done .done .done))) .a))
def tb103:List (Ent U):=E_ref11_alone :: tb102
theorem k103:TblOk Y tb103:=TblOk.cons k102 Tryz.func44 h_ref11_alone (fun k z=>by kernel_rfl)
def E_ref11_Named:Ent U:=⟨47,0,⟨[.str],[],[],.bool,[],[],[]⟩,fun k z=>ref11_Named k z⟩
def h_ref11_Named:Hc:=(.s .a (.s .a (.s (.r (.run 3 (.mux 14 7 ⟨[(18,.bool)],[],[]⟩ .done .done (.run 1 (.split 19 14 ⟨[(25,.bool)],[],[]⟩ .done .done (.run 1 (.split 26 22 ⟨[(33,.bool)],[],[]⟩ .done .done .done))))))) .a)))
def tb104:List (Ent U):=E_ref11_Named :: tb103
theorem k104:TblOk Y tb104:=TblOk.cons k103 Tryz.func47 h_ref11_Named (fun k z=>by kernel_rfl)
def E_ref11_Type:Ent U:=⟨74,0,⟨[.typ 0],[],[],.bool,[],[],[]⟩,fun k z=>ref11_Type k z⟩
def h_ref11_Type:Hc:=(.s .a (.s .a (.s (.s .a (.c (.s (.r (.run 4 (.mux 12 9 ⟨[(17,.bool)],[],[]⟩ .done .done .done))) .a) .a)) (.s .a (.s (.s .a (.c (.s (.r (.run 5 (.split 28 11 ⟨[(34,.bool)],[],[]⟩ .done .done .done))) .a) .a)) (.s (.r (.run 4 (.mux 38 8 ⟨[(42,.bool)],[],[]⟩ .done .done (.run 1 (.mux 43 14 ⟨[(48,.bool)],[],[]⟩ .done .done .done))))) .a))))))
def tb105:List (Ent U):=[E_ref11_Type] ++ tb104
theorem k105:TblOk Y tb105:=TblOk.grp k104 ⟨⟨_,h_ref11_Type,Tryz.func74,fun _=>rfl,fun k z=>by kernel_rfl⟩,trivial⟩
def E_ref11_Expr:Ent U:=⟨48,0,⟨[.typ 0],[],[],.bool,[],[],[]⟩,fun k z=>ref11_Expr k z⟩
def h_ref11_Expr:Hc:=(.s .a (.s .a (.s (.s .a (.c (.s (.r (.run 3 (.mux 12 6 ⟨[(15,.bool)],[],[]⟩ .done .done (.run 1 (.split 16 13 ⟨[(22,.bool)],[],[]⟩ .done .done (.run 1 (.split 23 19 ⟨[(28,.bool)],[],[]⟩ .done .done .done))))))) .a) .a)) (.s .a (.s (.s (.r (.run 4 (.mux 36 8 ⟨[(40,.bool)],[],[]⟩ .done .done .done))) (.c (.s (.r (.run 3 (.mux 43 7 ⟨[(47,.bool)],[],[]⟩ .done .done (.run 1 (.mux 48 12 ⟨[(52,.bool)],[],[]⟩ .done .done (.run 1 (.mux 53 22 ⟨[(62,.bool)],[],[]⟩ (.run 4 (.mux 57 21 ⟨[(61,.bool)],[],[]⟩ .done .done .done)) .done .done))))))) .a) .a)) (.s (.s (.r (.run 4 (.mux 66 8 ⟨[(70,.bool)],[],[]⟩ .done .done .done))) (.c (.s (.s .a (.c (.s (.r (.run 3 (.mux 76 7 ⟨[(80,.bool)],[],[]⟩ .done .done (.run 1 (.mux 81 17 ⟨[(90,.bool)],[],[]⟩ (.run 4 (.mux 85 16 ⟨[(89,.bool)],[],[]⟩ .done .done .done)) .done .done))))) .a) .a)) (.s (.r (.run 3 (.mux 93 7 ⟨[(97,.bool)],[],[]⟩ .done .done (.run 1 (.split 98 13 ⟨[(103,.bool)],[],[]⟩ .done .done .done))))) .a)) .a)) (.s (.s .a (.c (.s (.r (.run 3 (.split 109 6 ⟨[(112,.bool)],[],[]⟩ .done .done .done))) .a) .a)) (.s (.s (.r (.run 4 (.split 116 9 ⟨[(121,.bool)],[],[]⟩ .done .done .done))) .a) (.s (.r (.run 4 (.mux 125 7 ⟨[(128,.bool)],[],[]⟩ .done .done (.run 1 (.mux 129 16 ⟨[(137,.bool)],[],[]⟩ .done (.run 4 (.mux 133 15 ⟨[(136,.bool)],[],[]⟩ .done .done .done)) (.run 1 (.mux 138 21 ⟨[(142,.bool)],[],[]⟩ .done .done (.run 1 (.mux 143 26 ⟨[(147,.bool)],[],[]⟩ .done .done .done))))))))) .a)))))))))
def E_ref11_exprs:Ent U:=⟨76,0,⟨[.lst 0],[],[],.bool,[],[],[]⟩,fun k z=>ref11_exprs k z⟩
def h_ref11_exprs:Hc:=(.s .a (.s (.j .normal ⟨[],[],[]⟩ (.s .a (.b (.l ⟨[(3,.int .i64)],[],[]⟩ .a)))) .a))
def tb106:List (Ent U):=[E_ref11_Expr,E_ref11_exprs] ++ tb105
theorem k106:TblOk Y tb106:=TblOk.grp k105 ⟨⟨_,h_ref11_Expr,Tryz.func48,fun _=>rfl,fun k z=>by kernel_rfl⟩,⟨_,h_ref11_exprs,Tryz.func76,fun _=>rfl,fun k z=>by kernel_rfl⟩,trivial⟩
def E_ref11_place:Ent U:=⟨49,0,⟨[.typ 0],[],[],.bool,[],[],[]⟩,fun k z=>ref11_place k z⟩
def h_ref11_place:Hc:=(.s .a (.s .a (.s .a (.s (.r (.run 4 (.mux 12 8 ⟨[(16,.bool)],[],[]⟩ .done .done (.run 1 (.split 17 15 ⟨[(23,.bool)],[],[]⟩ .done .done .done))))) .a))))
def tb107:List (Ent U):=[E_ref11_place] ++ tb106
theorem k107:TblOk Y tb107:=TblOk.grp k106 ⟨⟨_,h_ref11_place,Tryz.func49,fun _=>rfl,fun k z=>by kernel_rfl⟩,trivial⟩
def E_ref11_Stmt:Ent U:=⟨16,0,⟨[.typ 0],[],[],.bool,[],[],[]⟩,fun k z=>ref11_Stmt k z⟩
def h_ref11_Stmt:Hc:=(.s .a (.s .a (.s (.s (.r (.run 4 (.mux 11 8 ⟨[(15,.bool)],[],[]⟩ .done .done .done))) (.c (.s (.s (.r (.run 4 (.split 19 9 ⟨[(24,.bool)],[],[]⟩ .done .done .done))) .a) (.s (.r (.run 4 (.mux 28 7 ⟨[(31,.bool)],[],[]⟩ .done .done (.run 1 (.split 32 23 ⟨[(47,.bool)],[],[]⟩ .done (.run 4 (.mux 36 15 ⟨[(39,.bool)],[],[]⟩ .done .done (.run 1 (.split 40 22 ⟨[(46,.bool)],[],[]⟩ .done .done .done)))) .done))))) .a)) .a)) (.s .a (.s (.s .a (.c (.s (.j .normal ⟨[],[],[]⟩ (.s .a (.b (.l ⟨[(4,.int .i64)],[],[]⟩ .a)))) .a) .a)) (.s (.s (.r (.run 4 (.mux 69 7 ⟨[(72,.bool)],[],[]⟩ .done .done .done))) .a) (.s (.s (.r (.run 4 (.mux 76 8 ⟨[(80,.bool)],[],[]⟩ .done .done .done))) (.c (.s (.r (.run 3 (.split 83 9 ⟨[(89,.bool)],[],[]⟩ .done .done .done))) .a) .a)) (.s (.s .a (.c (.s (.r (.run 3 (.split 95 10 ⟨[(102,.bool)],[],[]⟩ .done .done (.run 1 (.split 103 17 ⟨[(109,.bool)],[],[]⟩ .done .done .done))))) .a) .a)) (.s (.s .a (.c (.s (.r (.run 3 (.split 115 9 ⟨[(121,.bool)],[],[]⟩ .done .done (.run 1 (.split 122 16 ⟨[(128,.bool)],[],[]⟩ .done .done .done))))) .a) .a)) (.s (.s (.r (.run 4 (.mux 132 8 ⟨[(136,.bool)],[],[]⟩ .done .done (.run 1 (.mux 137 12 ⟨[(140,.bool)],[],[]⟩ .done .done (.run 1 (.split 141 20 ⟨[(148,.bool)],[],[]⟩ .done .done (.run 1 (.split 149 28 ⟨[(156,.bool)],[],[]⟩ .done .done .done))))))))) .a) (.s .a (.s (.r (.run 4 (.mux 162 7 ⟨[(165,.bool)],[],[]⟩ .done .done (.run 1 (.split 166 21 ⟨[(179,.bool)],[],[]⟩ (.run 6 (.split 172 20 ⟨[(178,.bool)],[],[]⟩ .done .done .done)) .done .done))))) .a))))))))))))
def E_ref11_kind:Ent U:=⟨45,0,⟨[.typ 0,.int .i64],[],[],.bool,[],[],[]⟩,fun k z=>ref11_kind k z.1 z.2⟩
def h_ref11_kind:Hc:=(.s .a (.s (.r (.run 5 (.split 9 8 ⟨[(12,.bool)],[],[]⟩ .done .done .done))) .a))
def tb108:List (Ent U):=[E_ref11_Stmt,E_ref11_kind] ++ tb107
theorem k108:TblOk Y tb108:=TblOk.grp k107 ⟨⟨_,h_ref11_Stmt,Tryz.func16,fun _=>rfl,fun k z=>by kernel_rfl⟩,⟨_,h_ref11_kind,Tryz.func45,fun _=>rfl,fun k z=>by kernel_rfl⟩,trivial⟩
def E_ref11_param:Ent U:=⟨75,0,⟨[.typ 0],[],[],.bool,[],[],[]⟩,fun k z=>ref11_param k z⟩
def h_ref11_param:Hc:=(.s .a (.s (.r (.run 4 (.mux 6 8 ⟨[(10,.bool)],[],[]⟩ .done .done (.run 1 (.split 11 13 ⟨[(15,.bool)],[],[]⟩ .done .done (.run 1 (.mux 16 19 ⟨[(21,.bool)],[],[]⟩ .done .done (.run 1 (.split 22 26 ⟨[(28,.bool)],[],[]⟩ .done .done .done))))))))) .a))
def tb109:List (Ent U):=E_ref11_param :: tb108
theorem k109:TblOk Y tb109:=TblOk.cons k108 Tryz.func75 h_ref11_param (fun k z=>by kernel_rfl)
def E_ref11_Decl:Ent U:=⟨46,0,⟨[.typ 0],[],[],.bool,[],[],[]⟩,fun k z=>ref11_Decl k z⟩
def h_ref11_Decl:Hc:=(.s .a (.s .a (.s (.s (.r (.run 5 (.mux 14 8 ⟨[(17,.bool)],[],[]⟩ .done .done .done))) .a) (.s (.s .a (.c (.s (.s (.r (.run 4 (.split 24 11 ⟨[(31,.bool)],[],[]⟩ .done .done (.run 1 (.mux 32 15 ⟨[(35,.bool)],[],[]⟩ .done .done .done))))) .a) (.s (.r (.run 3 (.split 38 17 ⟨[(52,.bool)],[],[]⟩ .done (.run 7 (.split 45 16 ⟨[(51,.bool)],[],[]⟩ .done .done .done)) .done))) .a)) .a)) (.s .a (.s .a (.s (.j .normal ⟨[(4,.int .i64)],[],[]⟩ .a) (.s (.j .normal ⟨[(4,.int .i64)],[],[]⟩ .a) (.s .a (.s (.j .normal ⟨[],[],[]⟩ (.s .a (.b (.l ⟨[(5,.int .i64)],[],[]⟩ .a)))) (.s .a (.s .a (.s .a (.s .a (.s (.r (.run 4 (.split 107 22 ⟨[(125,.bool)],[],[]⟩ (.run 3 (.split 110 21 ⟨[(124,.bool)],[],[]⟩ .done (.run 4 (.split 114 14 ⟨[(117,.bool)],[],[]⟩ .done .done (.run 1 (.mux 118 20 ⟨[(123,.bool)],[],[]⟩ .done .done .done)))) .done)) .done .done))) .a)))))))))))))))
def tb110:List (Ent U):=E_ref11_Decl :: tb109
theorem k110:TblOk Y tb110:=TblOk.cons k109 Tryz.func46 h_ref11_Decl (fun k z=>by kernel_rfl)
def E_ref11_Prog:Ent U:=⟨14,0,⟨[.typ 0],[],[],.bool,[],[],[]⟩,fun k z=>ref11_Prog k z⟩
def h_ref11_Prog:Hc:=(.s .a (.s .a (.s (.s (.r (.run 4 (.split 11 8 ⟨[(15,.bool)],[],[]⟩ .done .done (.run 1 (.mux 16 12 ⟨[(19,.bool)],[],[]⟩ .done .done (.run 1 (.split 20 22 ⟨[(29,.bool)],[],[]⟩ .done .done .done))))))) .a) (.s (.j .normal ⟨[],[],[]⟩ (.s .a (.b (.l ⟨[(4,.int .i64)],[],[]⟩ .a)))) .a))))
def tb111:List (Ent U):=E_ref11_Prog :: tb110
theorem k111:TblOk Y tb111:=TblOk.cons k110 Tryz.func14 h_ref11_Prog (fun k z=>by kernel_rfl)
def E_ref21_Stmt:Ent U:=⟨18,0,⟨[.typ 0],[],[],.bool,[],[],[]⟩,fun k z=>ref21_Stmt k z⟩
def h_ref21_Stmt:Hc:=(.s .a (.s .a (.s (.s .a (.c (.s (.r (.run 5 (.split 14 11 ⟨[(20,.bool)],[],[]⟩ .done .done (.run 1 (.split 21 18 ⟨[(27,.bool)],[],[]⟩ .done .done .done))))) .a) .a)) (.s .a (.s (.j .normal ⟨[],[],[]⟩ (.s .a (.b (.l ⟨[(3,.int .i64)],[],[]⟩ .a)))) .a)))))
def tb112:List (Ent U):=[E_ref21_Stmt] ++ tb111
theorem k112:TblOk Y tb112:=TblOk.grp k111 ⟨⟨_,h_ref21_Stmt,Tryz.func18,fun _=>rfl,fun k z=>by kernel_rfl⟩,trivial⟩
def E_ref18_Decls:Ent U:=⟨51,0,⟨[.typ 0,.int .i64],[],[],.lst 0,[],[],[]⟩,fun k z=>ref18_Decls k z.1 z.2⟩
def h_ref18_Decls:Hc:=(.s .a (.s .a (.s (.j .normal ⟨[(5,.tip (.loc 5))],[],[(.loc 5,0)]⟩ (.s .a (.b (.g (.loc 5) 0 5 none (.l ⟨[(5,.tip (.loc 5)),(6,.int .i64)],[],[(.loc 5,0)]⟩ (.s .a (.s (.j .normal ⟨[(5,.tip (.loc 5))],[],[(.loc 5,0)]⟩ (.b (.s (.r (.run 3 (.split 17 12 ⟨[(26,.bool)],[],[]⟩ .done .done .done))) .a))) .a))))))) .a)))
def tb113:List (Ent U):=E_ref18_Decls :: tb112
theorem k113:TblOk Y tb113:=TblOk.cons k112 Tryz.func51 h_ref18_Decls (fun k z=>by kernel_rfl)
def E_ref18_Given:Ent U:=⟨39,0,⟨[.str],[],[],.int .i64,[],[],[]⟩,fun k z=>ref18_Given k z⟩
def h_ref18_Given:Hc:=(.s .a (.s (.s (.r (.run 3 (.mux 5 6 ⟨[(8,.bool)],[],[]⟩ .done .done .done))) .a) .a))
def tb114:List (Ent U):=E_ref18_Given :: tb113
theorem k114:TblOk Y tb114:=TblOk.cons k113 Tryz.func39 h_ref18_Given (fun k z=>by kernel_rfl)
def E_ref18_Find:Ent U:=⟨53,0,⟨[.typ 0,.int .i64,.str],[],[],.int .i64,[],[],[]⟩,fun k z=>ref18_Find k z.1 z.2.1 z.2.2⟩
def h_ref18_Find:Hc:=(.s .a (.s .a (.s (.j .normal ⟨[],[],[]⟩ (.s .a (.b (.l ⟨[(8,.int .i64)],[],[]⟩ .a)))) .a)))
def tb115:List (Ent U):=E_ref18_Find :: tb114
theorem k115:TblOk Y tb115:=TblOk.cons k114 Tryz.func53 h_ref18_Find (fun k z=>by kernel_rfl)
def E_ref17_Rec:Ent U:=⟨110,0,⟨[.lst 0,.str],[],[],.tup (.L [.typ 0,.bool]),[],[],[]⟩,fun k z=>ref17_Rec k z.1 z.2⟩
def h_ref17_Rec:Hc:=(.s .a (.s (.j .normal ⟨[],[],[]⟩ (.s .a (.b (.l ⟨[(6,.int .i64)],[],[]⟩ .a)))) .a))
def tb116:List (Ent U):=E_ref17_Rec :: tb115
theorem k116:TblOk Y tb116:=TblOk.cons k115 Tryz.func110 h_ref17_Rec (fun k z=>by kernel_rfl)
def E_ref18_Typed:Ent U:=⟨81,0,⟨[.typ 0,.lst 0,.bool],[],[],.typ 1,[],[],[]⟩,fun k z=>ref18_Typed k z.1 z.2.1 z.2.2⟩
def h_ref18_Typed:Hc:=(.s .a (.s .a (.s (.s (.r (.run 4 (.mux 21 7 ⟨[(24,.bool)],[],[]⟩ .done .done .done))) .a) (.s .a (.s (.s (.r (.run 4 (.mux 38 7 ⟨[(41,.bool)],[],[]⟩ .done .done .done))) .a) .a)))))
def tb117:List (Ent U):=[E_ref18_Typed] ++ tb116
theorem k117:TblOk Y tb117:=TblOk.grp k116 ⟨⟨_,h_ref18_Typed,Tryz.func81,fun _=>rfl,fun k z=>by kernel_rfl⟩,trivial⟩
def E_ref18_Global:Ent U:=⟨106,0,⟨[.typ 0,.str],[],[],.bool,[],[],[]⟩,fun k z=>ref18_Global k z.1 z.2⟩
def h_ref18_Global:Hc:=(.s .a (.s (.r (.run 4 (.split 8 9 ⟨[(13,.bool)],[],[]⟩ .done .done .done))) .a))
def tb118:List (Ent U):=E_ref18_Global :: tb117
theorem k118:TblOk Y tb118:=TblOk.cons k117 Tryz.func106 h_ref18_Global (fun k z=>by kernel_rfl)
def E_ref11_Same:Ent U:=⟨107,0,⟨[.typ 0,.typ 0],[],[],.bool,[],[],[]⟩,fun k z=>ref11_Same k z.1 z.2⟩
def h_ref11_Same:Hc:=(.s .a (.s (.s (.r (.run 6 (.mux 11 12 ⟨[(17,.bool)],[],[]⟩ .done .done (.run 1 (.mux 18 19 ⟨[(24,.bool)],[],[]⟩ .done .done (.run 1 (.mux 25 28 ⟨[(33,.bool)],[],[]⟩ .done .done .done))))))) .a) (.s (.j .normal ⟨[],[],[]⟩ (.s .a (.b (.l ⟨[(5,.int .i64)],[],[]⟩ .a)))) .a)))
def tb119:List (Ent U):=[E_ref11_Same] ++ tb118
theorem k119:TblOk Y tb119:=TblOk.grp k118 ⟨⟨_,h_ref11_Same,Tryz.func107,fun _=>rfl,fun k z=>by kernel_rfl⟩,trivial⟩
def E_ref18_params:Ent U:=⟨79,0,⟨[.typ 0,.lst 0,.lst 0,.int .i64],[],[],.typ 1,[],[],[]⟩,fun k z=>ref18_params k z.1 z.2.1 z.2.2.1 z.2.2.2⟩
def h_ref18_params:Hc:=(.s .a (.s (.j .normal ⟨[],[],[]⟩ (.s .a (.b (.l ⟨[(9,.int .i64)],[],[]⟩ (.s .a (.s (.b (.s (.j .normal ⟨[],[],[]⟩ (.s .a (.b (.l ⟨[(10,.int .i64)],[],[]⟩ .a)))) (.s (.s (.r (.run 3 (.split 42 11 ⟨[(50,.bool)],[],[]⟩ .done .done .done))) .a) (.s .a (.s .a (.s (.r (.run 3 (.split 74 19 ⟨[(90,.bool)],[],[]⟩ .done .done .done))) .a)))))) .a)))))) .a))
def tb120:List (Ent U):=E_ref18_params :: tb119
theorem k120:TblOk Y tb120:=TblOk.cons k119 Tryz.func79 h_ref18_params (fun k z=>by kernel_rfl)
def E_ref17_size:Ent U:=⟨130,0,⟨[.typ 0,.lst 0,.int .i64],[],[],.int .i64,[],[],[]⟩,fun k z=>ref17_size k z.1 z.2.1 z.2.2⟩
def h_ref17_size:Hc:=(.s .a (.s (.s (.r (.run 4 (.mux 14 8 ⟨[(18,.bool)],[],[]⟩ .done .done (.run 1 (.mux 19 13 ⟨[(23,.bool)],[],[]⟩ .done .done .done))))) .a) (.s .a (.s (.s (.r (.run 4 (.mux 34 7 ⟨[(37,.bool)],[],[]⟩ .done .done (.run 1 (.mux 38 11 ⟨[(41,.bool)],[],[]⟩ .done .done .done))))) .a) (.s .a (.s (.j .normal ⟨[(9,.int .i64)],[],[]⟩ (.s .a (.b (.l ⟨[(9,.int .i64),(10,.int .i64)],[],[]⟩ (.s (.s (.r (.run 6 (.mux 47 9 ⟨[(50,.bool)],[],[]⟩ .done .done .done))) .a) .a))))) .a))))))
def tb121:List (Ent U):=[E_ref17_size] ++ tb120
theorem k121:TblOk Y tb121:=TblOk.grp k120 ⟨⟨_,h_ref17_size,Tryz.func130,fun _=>rfl,fun k z=>by kernel_rfl⟩,trivial⟩
def E_ref17_first:Ent U:=⟨131,0,⟨[.typ 0,.lst 0],[],[],.typ 12,[],[],[]⟩,fun k z=>ref17_first k z.1 z.2⟩
def h_ref17_first:Hc:=(.s .a (.s .a (.s .a (.s .a (.s .a (.s .a (.s (.j .normal ⟨[(7,.ptr (.loc 7) 0)],[(.loc 7,2,.tip (.cl (.loc 7) 2))],[(.cl (.loc 7) 2,12)]⟩ (.s .a (.b (.g (.cl (.loc 7) 2) 12 7 (some 2) (.l ⟨[(8,.int .i64)],[(.loc 7,2,.tip (.cl (.loc 7) 2))],[(.cl (.loc 7) 2,12)]⟩ .a))))) .a)))))))
def tb122:List (Ent U):=[E_ref17_first] ++ tb121
theorem k122:TblOk Y tb122:=TblOk.grp k121 ⟨⟨_,h_ref17_first,Tryz.func131,fun _=>rfl,fun k z=>by kernel_rfl⟩,trivial⟩
def E_ref17_Zero:Ent U:=⟨108,0,⟨[.typ 0,.lst 0],[],[],.tup (.L [.typ 12,.bool]),[],[],[]⟩,fun k z=>ref17_Zero k z.1 z.2⟩
def h_ref17_Zero:Hc:=.a
def tb123:List (Ent U):=E_ref17_Zero :: tb122
theorem k123:TblOk Y tb123:=TblOk.cons k122 Tryz.func108 h_ref17_Zero (fun k z=>by kernel_rfl)
def E_ref18_Locs:Ent U:=⟨109,0,⟨[.typ 0,.int .i64],[],[],.int .i64,[],[],[]⟩,fun k z=>ref18_Locs k z.1 z.2⟩
def h_ref18_Locs:Hc:=(.s .a (.s .a (.s .a (.s (.j .normal ⟨[(5,.int .i64)],[],[]⟩ (.s .a (.b (.l ⟨[(5,.int .i64),(7,.int .i64)],[],[]⟩ (.s (.s (.r (.run 4 (.mux 13 9 ⟨[(18,.bool)],[],[]⟩ .done .done .done))) .a) .a))))) .a))))
def tb124:List (Ent U):=E_ref18_Locs :: tb123
theorem k124:TblOk Y tb124:=TblOk.cons k123 Tryz.func109 h_ref18_Locs (fun k z=>by kernel_rfl)
def E_ref18_iso:Ent U:=⟨80,0,⟨[.typ 0,.typ 0,.int .i64],[],[],.typ 1,[],[],[]⟩,fun k z=>ref18_iso k z.1 z.2.1 z.2.2⟩
def h_ref18_iso:Hc:=(.s .a (.s .a (.s .a (.s .a (.s .a (.s .a (.s (.s (.r (.run 3 (.split 41 9 ⟨[(47,.bool)],[],[]⟩ .done .done .done))) .a) .a)))))))
def tb125:List (Ent U):=E_ref18_iso :: tb124
theorem k125:TblOk Y tb125:=TblOk.cons k124 Tryz.func80 h_ref18_iso (fun k z=>by kernel_rfl)
def E_ref18_one:Ent U:=⟨52,0,⟨[.typ 0,.typ 0,.int .i64],[],[],.typ 1,[],[],[]⟩,fun k z=>ref18_one k z.1 z.2.1 z.2.2⟩
def h_ref18_one:Hc:=.a
def tb126:List (Ent U):=E_ref18_one :: tb125
theorem k126:TblOk Y tb126:=TblOk.cons k125 Tryz.func52 h_ref18_one (fun k z=>by kernel_rfl)
def E_ref18_Check:Ent U:=⟨19,0,⟨[.typ 0],[],[],.typ 1,[],[],[]⟩,fun k z=>ref18_Check k z⟩
def h_ref18_Check:Hc:=(.s .a (.s .a (.s (.j .normal ⟨[],[],[]⟩ (.s .a (.b (.l ⟨[(4,.int .i64)],[],[]⟩ (.s .a (.s (.b (.s .a (.s (.j .normal ⟨[(5,.bool)],[],[]⟩ (.s .a (.b (.l ⟨[(5,.bool),(6,.int .i64)],[],[]⟩ (.s .a (.s (.b (.r (.run 2 (.split 30 14 ⟨[(42,.bool)],[],[]⟩ .done .done .done)))) .a)))))) .a))) .a)))))) (.s (.j .normal ⟨[],[],[]⟩ (.s .a (.b (.l ⟨[(7,.int .i64)],[],[]⟩ .a)))) .a))))
def tb127:List (Ent U):=E_ref18_Check :: tb126
theorem k127:TblOk Y tb127:=TblOk.cons k126 Tryz.func19 h_ref18_Check (fun k z=>by kernel_rfl)
def E_ref18_Bodies:Ent U:=⟨22,0,⟨[.typ 0],[],[],.lst 0,[],[],[]⟩,fun k z=>ref18_Bodies k z⟩
def h_ref18_Bodies:Hc:=(.s .a (.s .a (.s (.j .normal ⟨[(3,.tip (.loc 3))],[],[(.loc 3,0)]⟩ (.s .a (.b (.g (.loc 3) 0 3 none (.l ⟨[(3,.tip (.loc 3)),(4,.int .i64)],[],[(.loc 3,0)]⟩ (.s .a (.s (.j .normal ⟨[(3,.tip (.loc 3))],[],[(.loc 3,0)]⟩ (.b (.s (.r (.run 8 (.split 19 16 ⟨[(27,.bool)],[],[]⟩ .done .done .done))) .a))) .a))))))) .a)))
def tb128:List (Ent U):=E_ref18_Bodies :: tb127
theorem k128:TblOk Y tb128:=TblOk.cons k127 Tryz.func22 h_ref18_Bodies (fun k z=>by kernel_rfl)
def E_ref19_Get:Ent U:=⟨54,0,⟨[.lst 7,.str],[],[],.int .i64,[],[],[]⟩,fun k z=>ref19_Get k z.1 z.2⟩
def h_ref19_Get:Hc:=(.s .a (.s (.j .normal ⟨[],[],[]⟩ (.s .a (.b (.l ⟨[(5,.int .i64)],[],[]⟩ .a)))) .a))
def tb129:List (Ent U):=E_ref19_Get :: tb128
theorem k129:TblOk Y tb129:=TblOk.cons k128 Tryz.func54 h_ref19_Get (fun k z=>by kernel_rfl)
def E_ref20_Params:Ent U:=⟨23,0,⟨[.typ 0],[],[],.tup (.L [.lst 7,.typ 0]),[],[],[]⟩,fun k z=>ref20_Params k z⟩
def h_ref20_Params:Hc:=(.s .a (.s .a (.s .a (.s .a (.s (.j .normal ⟨[(5,.int .i64)],[(.loc 6,0,.typ 0)],[]⟩ .a) (.s (.j .normal ⟨[(5,.int .i64)],[(.loc 6,0,.typ 0)],[]⟩ .a) (.s (.j .normal ⟨[(4,.tip (.loc 4))],[],[(.loc 4,7)]⟩ (.s .a (.b (.g (.loc 4) 7 4 none (.l ⟨[(4,.tip (.loc 4)),(7,.int .i64)],[],[(.loc 4,7)]⟩ (.s .a (.s (.j .normal ⟨[(4,.tip (.loc 4))],[],[(.loc 4,7)]⟩ (.b (.s .a (.c (.r (.run 16 (.typ 59 7 .done))) .a)))) .a))))))) .a)))))))
def tb130:List (Ent U):=E_ref20_Params :: tb129
theorem k130:TblOk Y tb130:=TblOk.cons k129 Tryz.func23 h_ref20_Params (fun k z=>by kernel_rfl)
def E_ref20_Block:Ent U:=⟨25,0,⟨[.typ 0],[],[],.typ 0,[],[],[]⟩,fun k z=>ref20_Block k z⟩
def h_ref20_Block:Hc:=.a
def tb131:List (Ent U):=E_ref20_Block :: tb130
theorem k131:TblOk Y tb131:=TblOk.cons k130 Tryz.func25 h_ref20_Block (fun k z=>by kernel_rfl)
def E_ref21_All:Ent U:=⟨21,0,⟨[.typ 0],[],[],.typ 1,[],[],[]⟩,fun k z=>ref21_All k z⟩
def h_ref21_All:Hc:=(.s .a (.s .a (.s (.j .normal ⟨[],[],[]⟩ (.s .a (.b (.l ⟨[(4,.int .i64)],[],[]⟩ (.s .a (.s (.b (.s .a (.s (.r (.run 4 (.split 26 12 ⟨[(34,.bool)],[],[]⟩ .done .done .done))) .a))) .a)))))) .a)))
def tb132:List (Ent U):=E_ref21_All :: tb131
theorem k132:TblOk Y tb132:=TblOk.cons k131 Tryz.func21 h_ref21_All (fun k z=>by kernel_rfl)
def E_law21_EndsTell:Ent U:=⟨4,0,⟨[.typ 0],[],[],.bool,[],[],[]⟩,fun k z=>law21_EndsTell k z⟩
def h_law21_EndsTell:Hc:=(.s .a (.s (.s (.r (.run 3 (.split 17 7 ⟨[(21,.bool)],[],[]⟩ .done .done (.run 1 (.split 22 12 ⟨[(26,.bool)],[],[]⟩ .done .done .done))))) .a) (.s .a (.s (.j .normal ⟨[],[],[]⟩ (.s .a (.b (.l ⟨[(4,.int .i64)],[],[]⟩ (.s .a (.s (.b (.s (.r (.run 6 (.split 41 18 ⟨[(53,.bool)],[],[]⟩ .done .done .done))) .a)) .a)))))) (.s .a (.s .a (.s .a (.s .a (.s .a (.s (.j .normal ⟨[],[],[]⟩ (.s .a (.b (.l ⟨[(12,.int .i64)],[],[]⟩ (.s .a (.s (.b (.s .a (.s (.r (.run 9 (.split 95 16 ⟨[(102,.bool)],[],[]⟩ .done .done .done))) .a))) .a)))))) (.s (.r (.run 5 (.mux 108 10 ⟨[(113,.bool)],[],[]⟩ .done .done .done))) .a)))))))))))
def tb133:List (Ent U):=E_law21_EndsTell :: tb132
theorem k133:TblOk Y tb133:=TblOk.cons k132 Tryz.func4 h_law21_EndsTell (fun k z=>by kernel_rfl)
end Go.Proofs.YtjojaiomgdjhfaaGreatDoor.SY
