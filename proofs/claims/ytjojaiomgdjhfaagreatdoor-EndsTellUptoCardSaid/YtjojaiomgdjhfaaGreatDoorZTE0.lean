/- The code of these functions comes to what the printed functions answer. Printed by wip/sy/gs.py. No condition. -/
import Derived.Test.YtjojaiomgdjhfaaGreatDoorZX0
import Derived.Test.YtjojaiomgdjhfaaGreatDoorZS1
set_option linter.unusedVariables false
set_option linter.unusedSimpArgs false
set_option maxRecDepth 100000
namespace Go.Proofs.YtjojaiomgdjhfaaGreatDoor.SY
open Go AE F
def tb0:List (Ent U):=[]
theorem k0:TblOk Y tb0:=TblOk.nil
def E_ends_Stmt:Ent U:=⟨17,0,⟨[.typ 0],[],[],.bool,[],[],[]⟩,fun k z=>ends_Stmt k z⟩
def h_ends_Stmt:Hc:=(.s .a (.s (.s .a (.b (.s .a (.c .a (.s .a (.c .a (.s .a (.c (.s (.r (.run 5 (.split 18 11 ⟨[(24,.bool)],[],[]⟩ .done .done (.run 1 (.split 25 18 ⟨[(31,.bool)],[],[]⟩ .done .done .done))))) .a) .a)))))))) .a))
def E_slices_ContainsFunc_Node:Ent U:=⟨50,0,⟨[.lst 0,.fn 17 (.L []) (.L [])],[],[],.bool,[],[],[]⟩,fun k z=>slices_ContainsFunc_Node k z⟩
def h_slices_ContainsFunc_Node:Hc:=.a
def E_slices_IndexFunc_Node:Ent U:=⟨78,0,⟨[.lst 0,.fn 17 (.L []) (.L [])],[],[],.int .i64,[],[],[]⟩,fun k z=>slices_IndexFunc_Node k z⟩
def h_slices_IndexFunc_Node:Hc:=(.s .a (.s (.j .normal ⟨[],[],[]⟩ (.s .a (.b (.l ⟨[(8,.int .i64)],[],[]⟩ .a)))) .a))
def tb1:List (Ent U):=[E_ends_Stmt,E_slices_ContainsFunc_Node,E_slices_IndexFunc_Node] ++ tb0
theorem k1:TblOk Y tb1:=TblOk.grp k0 ⟨⟨_,h_ends_Stmt,Tryz.func17,fun _=>rfl,fun k z=>by kernel_rfl⟩,⟨_,h_slices_ContainsFunc_Node,Tryz.func50,fun _=>rfl,fun k z=>by kernel_rfl⟩,⟨_,h_slices_IndexFunc_Node,Tryz.func78,fun _=>rfl,fun k z=>by kernel_rfl⟩,trivial⟩
def tb2:List (Ent U):=E_strings_IndexByte :: tb1
theorem k2:TblOk Y tb2:=TblOk.ext k1 ok_strings_IndexByte
def E_tree_inner_1:Ent U:=⟨143,0,⟨[.int .u8],[],[],.bool,[],[],[]⟩,fun k z=>tree_inner_1 k z⟩
def h_tree_inner_1:Hc:=.a
def tb3:List (Ent U):=E_tree_inner_1 :: tb2
theorem k3:TblOk Y tb3:=TblOk.cons k2 Tryz.func143 h_tree_inner_1 (fun k z=>by kernel_rfl)
def E_slices_IndexFunc_byte:Ent U:=⟨154,0,⟨[.lst 15,.fn 143 (.L []) (.L [])],[],[],.int .i64,[],[],[]⟩,fun k z=>slices_IndexFunc_byte k z⟩
def h_slices_IndexFunc_byte:Hc:=(.s .a (.s (.j .normal ⟨[],[],[]⟩ (.s .a (.b (.l ⟨[(8,.int .i64)],[],[]⟩ .a)))) .a))
def tb4:List (Ent U):=E_slices_IndexFunc_byte :: tb3
theorem k4:TblOk Y tb4:=TblOk.cons k3 Tryz.func154 h_slices_IndexFunc_byte (fun k z=>by kernel_rfl)
def E_slices_ContainsFunc_byte:Ent U:=⟨142,0,⟨[.lst 15,.fn 143 (.L []) (.L [])],[],[],.bool,[],[],[]⟩,fun k z=>slices_ContainsFunc_byte k z⟩
def h_slices_ContainsFunc_byte:Hc:=.a
def tb5:List (Ent U):=E_slices_ContainsFunc_byte :: tb4
theorem k5:TblOk Y tb5:=TblOk.cons k4 Tryz.func142 h_slices_ContainsFunc_byte (fun k z=>by kernel_rfl)
def E_tree_inner:Ent U:=⟨121,0,⟨[.str],[],[],.bool,[],[],[]⟩,fun k z=>tree_inner k z⟩
def h_tree_inner:Hc:=.a
def tb6:List (Ent U):=E_tree_inner :: tb5
theorem k6:TblOk Y tb6:=TblOk.cons k5 Tryz.func121 h_tree_inner (fun k z=>by kernel_rfl)
def tb7:List (Ent U):=E_strings_Fields :: tb6
theorem k7:TblOk Y tb7:=TblOk.ext k6 ok_strings_Fields
def E_word_All:Ent U:=⟨146,0,⟨[],[],[],.lst 13,[],[],[]⟩,fun k z=>word_All k⟩
def h_word_All:Hc:=.a
def tb8:List (Ent U):=E_word_All :: tb7
theorem k8:TblOk Y tb8:=TblOk.cons k7 Tryz.func146 h_word_All (fun k z=>by kernel_rfl)
def E_slices_Index_string:Ent U:=⟨156,0,⟨[.lst 13,.str],[],[],.int .i64,[],[],[]⟩,fun k z=>slices_Index_string k z.1 z.2⟩
def h_slices_Index_string:Hc:=(.s .a (.s (.j .normal ⟨[],[],[]⟩ (.s .a (.b (.l ⟨[(8,.int .i64)],[],[]⟩ .a)))) .a))
def tb9:List (Ent U):=E_slices_Index_string :: tb8
theorem k9:TblOk Y tb9:=TblOk.cons k8 Tryz.func156 h_slices_Index_string (fun k z=>by kernel_rfl)
def E_slices_Contains_string:Ent U:=⟨145,0,⟨[.lst 13,.str],[],[],.bool,[],[],[]⟩,fun k z=>slices_Contains_string k z.1 z.2⟩
def h_slices_Contains_string:Hc:=.a
def tb10:List (Ent U):=E_slices_Contains_string :: tb9
theorem k10:TblOk Y tb10:=TblOk.cons k9 Tryz.func145 h_slices_Contains_string (fun k z=>by kernel_rfl)
def E_word_Is:Ent U:=⟨123,0,⟨[.str],[],[],.bool,[],[],[]⟩,fun k z=>word_Is k z⟩
def h_word_Is:Hc:=.a
def tb11:List (Ent U):=E_word_Is :: tb10
theorem k11:TblOk Y tb11:=TblOk.cons k10 Tryz.func123 h_word_Is (fun k z=>by kernel_rfl)
def E_tree_named:Ent U:=⟨94,0,⟨[.str],[],[],.bool,[],[],[]⟩,fun k z=>tree_named k z⟩
def h_tree_named:Hc:=(.s .a (.s (.r (.run 3 (.mux 5 7 ⟨[(9,.bool)],[],[]⟩ .done .done (.run 1 (.split 10 11 ⟨[(13,.bool)],[],[]⟩ .done .done (.run 1 (.split 14 17 ⟨[(19,.bool)],[],[]⟩ .done .done (.run 1 (.split 20 22 ⟨[(24,.bool)],[],[]⟩ .done .done .done))))))))) .a))
def tb12:List (Ent U):=E_tree_named :: tb11
theorem k12:TblOk Y tb12:=TblOk.cons k11 Tryz.func94 h_tree_named (fun k z=>by kernel_rfl)
def E_word_Bind:Ent U:=⟨147,0,⟨[.int .i64],[],[],.int .i64,[],[],[]⟩,fun k z=>word_Bind k z⟩
def h_word_Bind:Hc:=(.s .a (.s (.s .a (.b (.s .a (.c .a (.s .a (.c .a (.s (.j .normal ⟨[(8,.bool)],[],[]⟩ .a) (.c .a (.s (.j .normal ⟨[(15,.bool)],[],[]⟩ .a) (.c .a (.s (.j .normal ⟨[(18,.bool)],[],[]⟩ .a) .a))))))))))) .a))
def tb13:List (Ent U):=E_word_Bind :: tb12
theorem k13:TblOk Y tb13:=TblOk.cons k12 Tryz.func147 h_word_Bind (fun k z=>by kernel_rfl)
def E_tree_block:Ent U:=⟨69,0,⟨[.typ 0],[],[],.bool,[],[],[]⟩,fun k z=>tree_block k z⟩
def h_tree_block:Hc:=(.s .a (.s (.r (.run 4 (.split 6 7 ⟨[(9,.bool)],[],[]⟩ .done .done .done))) .a))
def E_tree_Stmt:Ent U:=⟨101,0,⟨[.typ 0],[],[],.bool,[],[],[]⟩,fun k z=>tree_Stmt k z⟩
def h_tree_Stmt:Hc:=(.s .a (.s (.s .a (.b (.s .a (.c (.s (.r (.run 4 (.mux 10 8 ⟨[(14,.bool)],[],[]⟩ .done .done (.run 1 (.split 15 13 ⟨[(19,.bool)],[],[]⟩ (.run 2 (.call 1 .done)) .done .done))))) .a) (.s .a (.c .a (.s .a (.c .a (.s .a (.c (.s (.r (.run 4 (.split 35 8 ⟨[(39,.bool)],[],[]⟩ .done .done .done))) .a) (.s .a (.c .a (.s .a (.c (.s (.r (.run 3 (.split 49 7 ⟨[(53,.bool)],[],[]⟩ .done .done .done))) .a) .a)))))))))))))) .a))
def E_tree_every_v2:Ent U:=⟨67,1,⟨[.lst 0,.fn 101 (.L []) (.L [])],[],[],.bool,[],[],[]⟩,fun k z=>tree_every_v2 k z⟩
def h_tree_every_v2:Hc:=(.s .a (.s (.r (.run 2 (.call 4 .done))) .a))
def E_tree_plain:Ent U:=⟨100,0,⟨[.typ 0,.bool,.lst 14],[],[],.bool,[],[],[]⟩,fun k z=>tree_plain k z.1 z.2.1 z.2.2⟩
def h_tree_plain:Hc:=(.s .a (.s (.r (.run 4 (.split 10 9 ⟨[(15,.bool)],[],[]⟩ .done .done .done))) .a))
def E_slices_ContainsFunc_Node_v5:Ent U:=⟨50,4,⟨[.lst 0,.fn 93 (.L []) (.L [.ptr (.ext 0) 0])],[[.fn 101 (.L []) (.L [])]],[],.bool,[],[],[]⟩,fun k z=>slices_ContainsFunc_Node_v5 k z⟩
def h_slices_ContainsFunc_Node_v5:Hc:=(.s .a (.s (.r (.run 2 (.call 4 .done))) .a))
def E_tree_kids:Ent U:=⟨96,0,⟨[.typ 0,.bool,.lst 14],[],[],.bool,[],[],[]⟩,fun k z=>tree_kids k z.1 z.2.1 z.2.2⟩
def h_tree_kids:Hc:=(.s .a (.s (.s (.r (.run 2 (.split 10 7 ⟨[(15,.bool)],[],[]⟩ .done .done (.run 1 (.mux 16 16 ⟨[(24,.bool)],[],[]⟩ .done (.run 3 (.mux 19 15 ⟨[(23,.bool)],[],[]⟩ .done .done .done)) (.run 1 (.mux 25 24 ⟨[(32,.bool)],[],[]⟩ .done .done .done))))))) .a) (.s (.j .normal ⟨[],[],[]⟩ (.s .a (.b (.l ⟨[(36,.int .i64)],[],[]⟩ .a)))) .a)))
def E_slices_IndexFunc_Node_v5:Ent U:=⟨78,4,⟨[.lst 0,.fn 93 (.L []) (.L [.ptr (.ext 0) 0])],[[.fn 101 (.L []) (.L [])]],[],.int .i64,[],[],[]⟩,fun k z=>slices_IndexFunc_Node_v5 k z⟩
def h_slices_IndexFunc_Node_v5:Hc:=(.s .a (.s (.j .normal ⟨[],[],[]⟩ (.s .a (.b (.l ⟨[(8,.int .i64)],[],[]⟩ (.s .a (.s .a (.s (.b (.s .a (.s (.r (.run 5 (.call 1 .done))) .a))) .a))))))) .a))
def E_tree_Expr:Ent U:=⟨124,0,⟨[.typ 0],[],[],.bool,[],[],[]⟩,fun k z=>tree_Expr k z⟩
def h_tree_Expr:Hc:=(.s .a (.s (.s .a (.b (.s .a (.c (.s (.r (.run 4 (.split 10 7 ⟨[(13,.bool)],[],[]⟩ .done .done .done))) .a) (.s .a (.c (.s (.r (.run 4 (.mux 19 8 ⟨[(23,.bool)],[],[]⟩ .done .done (.run 1 (.split 24 12 ⟨[(27,.bool)],[],[]⟩ .done .done .done))))) .a) (.s .a (.c .a (.s .a (.c .a (.s .a (.c .a (.s .a (.c (.s (.r (.run 4 (.mux 47 8 ⟨[(51,.bool)],[],[]⟩ .done .done (.run 1 (.split 52 13 ⟨[(56,.bool)],[],[]⟩ .done .done .done))))) .a) (.s .a (.c (.s (.r (.run 5 (.split 63 9 ⟨[(67,.bool)],[],[]⟩ .done .done .done))) .a) (.s (.j .normal ⟨[(68,.bool)],[],[]⟩ .a) (.c (.s (.r (.run 4 (.split 74 8 ⟨[(78,.bool)],[],[]⟩ .done .done (.run 1 (.split 79 13 ⟨[(83,.bool)],[],[]⟩ (.run 2 (.call 3 .done)) .done .done))))) .a) (.s .a (.c (.s (.r (.run 4 (.mux 89 8 ⟨[(93,.bool)],[],[]⟩ .done .done (.run 1 (.mux 94 14 ⟨[(99,.bool)],[],[]⟩ .done .done (.run 1 (.split 100 21 ⟨[(106,.bool)],[],[]⟩ .done .done (.run 1 (.split 107 27 ⟨[(112,.bool)],[],[]⟩ (.run 3 (.call 3 .done)) .done .done))))))))) .a) .a)))))))))))))))))))) .a))
def E_tree_place:Ent U:=⟨125,0,⟨[.typ 0],[],[],.bool,[],[],[]⟩,fun k z=>tree_place k z⟩
def h_tree_place:Hc:=.a
def E_tree_branch:Ent U:=⟨126,0,⟨[.typ 0],[],[],.bool,[],[],[]⟩,fun k z=>tree_branch k z⟩
def h_tree_branch:Hc:=(.s .a (.s (.r (.run 4 (.mux 6 8 ⟨[(10,.bool)],[],[]⟩ .done .done (.run 1 (.split 11 12 ⟨[(14,.bool)],[],[]⟩ .done .done .done))))) .a))
def E_tree_call:Ent U:=⟨127,0,⟨[.typ 0],[],[],.bool,[],[],[]⟩,fun k z=>tree_call k z⟩
def h_tree_call:Hc:=(.s .a (.s (.r (.run 4 (.split 6 7 ⟨[(9,.bool)],[],[]⟩ .done .done .done))) .a))
def E_tree_every_1_v2:Ent U:=⟨93,1,⟨[.typ 0,.ptr (.ext 0) 0],[[.fn 101 (.L []) (.L [])]],[],.bool,[],[],[]⟩,fun k z=>tree_every_1_v2 k z⟩
def h_tree_every_1_v2:Hc:=.a
def E_tree_every_v4:Ent U:=⟨67,3,⟨[.lst 0,.fn 124 (.L []) (.L [])],[],[],.bool,[],[],[]⟩,fun k z=>tree_every_v4 k z⟩
def h_tree_every_v4:Hc:=(.s .a (.s (.r (.run 2 (.call 6 .done))) .a))
def E_tree_Type:Ent U:=⟨97,0,⟨[.typ 0],[],[],.bool,[],[],[]⟩,fun k z=>tree_Type k z⟩
def h_tree_Type:Hc:=(.s .a (.s (.s .a (.b (.s (.j .normal ⟨[(5,.bool)],[],[]⟩ .a) .a))) .a))
def E_tree_merger:Ent U:=⟨98,0,⟨[.typ 0],[],[],.bool,[],[],[]⟩,fun k z=>tree_merger k z⟩
def h_tree_merger:Hc:=(.s .a (.s (.r (.run 4 (.split 6 7 ⟨[(9,.bool)],[],[]⟩ .done .done .done))) .a))
def E_tree_param:Ent U:=⟨95,0,⟨[.typ 0],[],[],.bool,[],[],[]⟩,fun k z=>tree_param k z⟩
def h_tree_param:Hc:=(.s .a (.s (.r (.run 4 (.split 6 8 ⟨[(10,.bool)],[],[]⟩ .done .done .done))) .a))
def E_slices_ContainsFunc_Node_v7:Ent U:=⟨50,6,⟨[.lst 0,.fn 93 (.L []) (.L [.ptr (.ext 0) 0])],[[.fn 124 (.L []) (.L [])]],[],.bool,[],[],[]⟩,fun k z=>slices_ContainsFunc_Node_v7 k z⟩
def h_slices_ContainsFunc_Node_v7:Hc:=(.s .a (.s (.r (.run 2 (.call 7 .done))) .a))
def E_slices_IndexFunc_Node_v8:Ent U:=⟨78,7,⟨[.lst 0,.fn 93 (.L []) (.L [.ptr (.ext 0) 0])],[[.fn 124 (.L []) (.L [])]],[],.int .i64,[],[],[]⟩,fun k z=>slices_IndexFunc_Node_v8 k z⟩
def h_slices_IndexFunc_Node_v8:Hc:=(.s .a (.s (.j .normal ⟨[],[],[]⟩ (.s .a (.b (.l ⟨[(8,.int .i64)],[],[]⟩ (.s .a (.s .a (.s (.b (.s .a (.s (.r (.run 5 (.call 3 .done))) .a))) .a))))))) .a))
def E_tree_every_1_v4:Ent U:=⟨93,3,⟨[.typ 0,.ptr (.ext 0) 0],[[.fn 124 (.L []) (.L [])]],[],.bool,[],[],[]⟩,fun k z=>tree_every_1_v4 k z⟩
def h_tree_every_1_v4:Hc:=.a
def tb14:List (Ent U):=[E_tree_block,E_tree_Stmt,E_tree_every_v2,E_tree_plain,E_slices_ContainsFunc_Node_v5,E_tree_kids,E_slices_IndexFunc_Node_v5,E_tree_Expr,E_tree_place,E_tree_branch,E_tree_call,E_tree_every_1_v2,E_tree_every_v4,E_tree_Type,E_tree_merger,E_tree_param,E_slices_ContainsFunc_Node_v7,E_slices_IndexFunc_Node_v8,E_tree_every_1_v4] ++ tb13
theorem k14:TblOk Y tb14:=TblOk.grp k13 ⟨⟨_,h_tree_block,Tryz.func69,fun _=>rfl,fun k z=>by kernel_rfl⟩,⟨_,h_tree_Stmt,Tryz.func101,fun _=>rfl,fun k z=>by kernel_rfl⟩,⟨_,h_tree_every_v2,Tryz.func67,fun _=>rfl,fun k z=>by kernel_rfl⟩,⟨_,h_tree_plain,Tryz.func100,fun _=>rfl,fun k z=>by kernel_rfl⟩,⟨_,h_slices_ContainsFunc_Node_v5,Tryz.func50,fun _=>rfl,fun k z=>by kernel_rfl⟩,⟨_,h_tree_kids,Tryz.func96,fun _=>rfl,fun k z=>by kernel_rfl⟩,⟨_,h_slices_IndexFunc_Node_v5,Tryz.func78,fun _=>rfl,fun k z=>by kernel_rfl⟩,⟨_,h_tree_Expr,Tryz.func124,fun _=>rfl,fun k z=>by kernel_rfl⟩,⟨_,h_tree_place,Tryz.func125,fun _=>rfl,fun k z=>by kernel_rfl⟩,⟨_,h_tree_branch,Tryz.func126,fun _=>rfl,fun k z=>by kernel_rfl⟩,⟨_,h_tree_call,Tryz.func127,fun _=>rfl,fun k z=>by kernel_rfl⟩,⟨_,h_tree_every_1_v2,Tryz.func93,fun _=>rfl,fun k z=>by kernel_rfl⟩,⟨_,h_tree_every_v4,Tryz.func67,fun _=>rfl,fun k z=>by kernel_rfl⟩,⟨_,h_tree_Type,Tryz.func97,fun _=>rfl,fun k z=>by kernel_rfl⟩,⟨_,h_tree_merger,Tryz.func98,fun _=>rfl,fun k z=>by kernel_rfl⟩,⟨_,h_tree_param,Tryz.func95,fun _=>rfl,fun k z=>by kernel_rfl⟩,⟨_,h_slices_ContainsFunc_Node_v7,Tryz.func50,fun _=>rfl,fun k z=>by kernel_rfl⟩,⟨_,h_slices_IndexFunc_Node_v8,Tryz.func78,fun _=>rfl,fun k z=>by kernel_rfl⟩,⟨_,h_tree_every_1_v4,Tryz.func93,fun _=>rfl,fun k z=>by kernel_rfl⟩,trivial⟩
def E_tree_every_1_v3:Ent U:=⟨93,2,⟨[.typ 0,.ptr (.ext 0) 0],[[.fn 95 (.L []) (.L [])]],[],.bool,[],[],[]⟩,fun k z=>tree_every_1_v3 k z⟩
def h_tree_every_1_v3:Hc:=.a
def tb15:List (Ent U):=E_tree_every_1_v3 :: tb14
theorem k15:TblOk Y tb15:=TblOk.cons k14 Tryz.func93 h_tree_every_1_v3 (fun k z=>by kernel_rfl)
def E_slices_IndexFunc_Node_v7:Ent U:=⟨78,6,⟨[.lst 0,.fn 93 (.L []) (.L [.ptr (.ext 0) 0])],[[.fn 95 (.L []) (.L [])]],[],.int .i64,[],[],[]⟩,fun k z=>slices_IndexFunc_Node_v7 k z⟩
def h_slices_IndexFunc_Node_v7:Hc:=(.s .a (.s (.j .normal ⟨[],[],[]⟩ (.s .a (.b (.l ⟨[(8,.int .i64)],[],[]⟩ (.s .a (.s .a (.s (.b (.s .a (.s (.r (.run 5 (.call 2 .done))) .a))) .a))))))) .a))
def tb16:List (Ent U):=E_slices_IndexFunc_Node_v7 :: tb15
theorem k16:TblOk Y tb16:=TblOk.cons k15 Tryz.func78 h_slices_IndexFunc_Node_v7 (fun k z=>by kernel_rfl)
def E_slices_ContainsFunc_Node_v6:Ent U:=⟨50,5,⟨[.lst 0,.fn 93 (.L []) (.L [.ptr (.ext 0) 0])],[[.fn 95 (.L []) (.L [])]],[],.bool,[],[],[]⟩,fun k z=>slices_ContainsFunc_Node_v6 k z⟩
def h_slices_ContainsFunc_Node_v6:Hc:=(.s .a (.s (.r (.run 2 (.call 6 .done))) .a))
def tb17:List (Ent U):=E_slices_ContainsFunc_Node_v6 :: tb16
theorem k17:TblOk Y tb17:=TblOk.cons k16 Tryz.func50 h_slices_ContainsFunc_Node_v6 (fun k z=>by kernel_rfl)
def E_tree_every_v3:Ent U:=⟨67,2,⟨[.lst 0,.fn 95 (.L []) (.L [])],[],[],.bool,[],[],[]⟩,fun k z=>tree_every_v3 k z⟩
def h_tree_every_v3:Hc:=(.s .a (.s (.r (.run 2 (.call 5 .done))) .a))
def tb18:List (Ent U):=E_tree_every_v3 :: tb17
theorem k18:TblOk Y tb18:=TblOk.cons k17 Tryz.func67 h_tree_every_v3 (fun k z=>by kernel_rfl)
def E_tree_answer:Ent U:=⟨99,0,⟨[.typ 0],[],[],.bool,[],[],[]⟩,fun k z=>tree_answer k z⟩
def h_tree_answer:Hc:=(.s .a (.s (.r (.run 3 (.split 5 11 ⟨[(13,.bool)],[],[]⟩ .done (.run 4 (.split 9 10 ⟨[(12,.bool)],[],[]⟩ .done .done .done)) .done))) .a))
def tb19:List (Ent U):=E_tree_answer :: tb18
theorem k19:TblOk Y tb19:=TblOk.cons k18 Tryz.func99 h_tree_answer (fun k z=>by kernel_rfl)
def E_tree_Decl:Ent U:=⟨68,0,⟨[.typ 0],[],[],.bool,[],[],[]⟩,fun k z=>tree_Decl k z⟩
def h_tree_Decl:Hc:=(.s .a (.s (.s .a (.s .a (.b (.s .a (.c (.s (.r (.run 4 (.split 15 8 ⟨[(19,.bool)],[],[]⟩ .done .done (.run 1 (.mux 20 12 ⟨[(23,.bool)],[],[]⟩ .done .done (.run 1 (.split 24 17 ⟨[(28,.bool)],[],[]⟩ (.run 2 (.call 2 .done)) .done .done))))))) .a) (.s .a (.c (.s (.r (.run 4 (.split 34 13 ⟨[(43,.bool)],[],[]⟩ (.run 4 (.split 38 12 ⟨[(42,.bool)],[],[]⟩ .done .done .done)) .done .done))) .a) (.s .a (.c (.s (.r (.run 4 (.split 49 8 ⟨[(53,.bool)],[],[]⟩ .done .done (.run 1 (.mux 54 12 ⟨[(57,.bool)],[],[]⟩ .done .done (.run 1 (.split 58 20 ⟨[(65,.bool)],[],[]⟩ (.run 5 (.call 2 .done)) .done (.run 1 (.split 66 29 ⟨[(74,.bool)],[],[]⟩ .done .done (.run 1 (.split 75 37 ⟨[(82,.bool)],[],[]⟩ .done .done .done))))))))))) .a) .a))))))))) .a))
def tb20:List (Ent U):=E_tree_Decl :: tb19
theorem k20:TblOk Y tb20:=TblOk.cons k19 Tryz.func68 h_tree_Decl (fun k z=>by kernel_rfl)
def E_tree_every_1:Ent U:=⟨93,0,⟨[.typ 0,.ptr (.ext 0) 0],[[.fn 68 (.L []) (.L [])]],[],.bool,[],[],[]⟩,fun k z=>tree_every_1 k z⟩
def h_tree_every_1:Hc:=.a
def tb21:List (Ent U):=E_tree_every_1 :: tb20
theorem k21:TblOk Y tb21:=TblOk.cons k20 Tryz.func93 h_tree_every_1 (fun k z=>by kernel_rfl)
def E_slices_IndexFunc_Node_v2:Ent U:=⟨78,1,⟨[.lst 0,.fn 93 (.L []) (.L [.ptr (.ext 0) 0])],[[.fn 68 (.L []) (.L [])]],[],.int .i64,[],[],[]⟩,fun k z=>slices_IndexFunc_Node_v2 k z⟩
def h_slices_IndexFunc_Node_v2:Hc:=(.s .a (.s (.j .normal ⟨[],[],[]⟩ (.s .a (.b (.l ⟨[(8,.int .i64)],[],[]⟩ .a)))) .a))
def tb22:List (Ent U):=E_slices_IndexFunc_Node_v2 :: tb21
theorem k22:TblOk Y tb22:=TblOk.cons k21 Tryz.func78 h_slices_IndexFunc_Node_v2 (fun k z=>by kernel_rfl)
def E_slices_ContainsFunc_Node_v2:Ent U:=⟨50,1,⟨[.lst 0,.fn 93 (.L []) (.L [.ptr (.ext 0) 0])],[[.fn 68 (.L []) (.L [])]],[],.bool,[],[],[]⟩,fun k z=>slices_ContainsFunc_Node_v2 k z⟩
def h_slices_ContainsFunc_Node_v2:Hc:=(.s .a (.s (.r (.run 2 (.call 1 .done))) .a))
def tb23:List (Ent U):=E_slices_ContainsFunc_Node_v2 :: tb22
theorem k23:TblOk Y tb23:=TblOk.cons k22 Tryz.func50 h_slices_ContainsFunc_Node_v2 (fun k z=>by kernel_rfl)
def E_tree_every:Ent U:=⟨67,0,⟨[.lst 0,.fn 68 (.L []) (.L [])],[],[],.bool,[],[],[]⟩,fun k z=>tree_every k z⟩
def h_tree_every:Hc:=(.s .a (.s (.r (.run 2 (.call 1 .done))) .a))
def tb24:List (Ent U):=E_tree_every :: tb23
theorem k24:TblOk Y tb24:=TblOk.cons k23 Tryz.func67 h_tree_every (fun k z=>by kernel_rfl)
def E_tree_Prog:Ent U:=⟨41,0,⟨[.typ 0],[],[],.bool,[],[],[]⟩,fun k z=>tree_Prog k z⟩
def h_tree_Prog:Hc:=(.s .a (.s .a (.s (.r (.run 4 (.mux 11 8 ⟨[(15,.bool)],[],[]⟩ .done .done (.run 1 (.mux 16 13 ⟨[(20,.bool)],[],[]⟩ .done .done (.run 1 (.mux 21 17 ⟨[(24,.bool)],[],[]⟩ .done .done (.run 1 (.split 25 24 ⟨[(31,.bool)],[],[]⟩ .done .done (.run 1 (.split 32 32 ⟨[(39,.bool)],[],[]⟩ .done .done .done))))))))))) .a)))
def tb25:List (Ent U):=E_tree_Prog :: tb24
theorem k25:TblOk Y tb25:=TblOk.cons k24 Tryz.func41 h_tree_Prog (fun k z=>by kernel_rfl)
def E_decl_Table_decls:Ent U:=⟨70,0,⟨[.ptr (.ext 0) 0],[[.mapr (.ext 1),.typ 0,.nils,.int .i64],[.tip (.cl (.ext 1) 0),.mapr (.ext 2),.tip (.cl (.ext 1) 2),.mapr (.ext 3),.tip (.cl (.ext 1) 4),.mapr (.ext 4),.tip (.cl (.ext 1) 6),.mapr (.ext 5)],[.typ 5],[.typ 5],[.typ 5],[.typ 5]],[(.cl (.ext 1) 0,0),(.cl (.ext 1) 2,0),(.cl (.ext 1) 4,0),(.cl (.ext 1) 6,0)],.lst 0,[],[],[.rw,.mk .i64 [51,52,53,54] 2,.mw,.mw,.mw,.mw]⟩,fun k z=>decl_Table_decls k z.1 z.2.1 z.2.2.1 z.2.2.2.1 z.2.2.2.2.1 z.2.2.2.2.2.1 z.2.2.2.2.2.2.1 z.2.2.2.2.2.2.2.1 z.2.2.2.2.2.2.2.2.1 z.2.2.2.2.2.2.2.2.2⟩
def h_decl_Table_decls:Hc:=.a
def tb26:List (Ent U):=E_decl_Table_decls :: tb25
theorem k26:TblOk Y tb26:=TblOk.cons k25 Tryz.func70 h_decl_Table_decls (fun k z=>by kernel_rfl)
def E_word_Given:Ent U:=⟨62,0,⟨[.str],[],[],.tup (.L [.int .i64,.bool]),[],[],[]⟩,fun k z=>word_Given k z⟩
def h_word_Given:Hc:=(.s .a (.s (.s .a (.b (.s (.j .normal ⟨[(5,.bool)],[],[]⟩ .a) .a))) .a))
def tb27:List (Ent U):=E_word_Given :: tb26
theorem k27:TblOk Y tb27:=TblOk.cons k26 Tryz.func62 h_word_Given (fun k z=>by kernel_rfl)
def E_decl_kinds_find:Ent U:=⟨83,0,⟨[.agg (.L [.lst 0,.mapr (.ext 0)]),.str],[[.typ 5]],[],.tup (.L [.int .i64,.bool]),[],[],[.mw]⟩,fun k z=>decl_kinds_find k z.1 z.2.1 z.2.2⟩
def h_decl_kinds_find:Hc:=.a
def tb28:List (Ent U):=E_decl_kinds_find :: tb27
theorem k28:TblOk Y tb28:=TblOk.cons k27 Tryz.func83 h_decl_kinds_find (fun k z=>by kernel_rfl)
def E_decl_Table_number:Ent U:=⟨60,0,⟨[.ptr (.ext 0) 0,.int .i64,.str],[[.mapr (.ext 1),.typ 0,.nils,.int .i64],[.tip (.cl (.ext 1) 0),.mapr (.ext 2),.tip (.cl (.ext 1) 2),.mapr (.ext 3),.tip (.cl (.ext 1) 4),.mapr (.ext 4),.tip (.cl (.ext 1) 6),.mapr (.ext 5)],[.typ 5],[.typ 5],[.typ 5],[.typ 5]],[(.cl (.ext 1) 0,0),(.cl (.ext 1) 2,0),(.cl (.ext 1) 4,0),(.cl (.ext 1) 6,0)],.tup (.L [.int .i64,.bool]),[],[],[.rw,.mk .i64 [51,52,53,54] 2,.mw,.mw,.mw,.mw]⟩,fun k z=>decl_Table_number k z.1 z.2.1 z.2.2.1 z.2.2.2.1 z.2.2.2.2.1 z.2.2.2.2.2.1 z.2.2.2.2.2.2.1 z.2.2.2.2.2.2.2.1 z.2.2.2.2.2.2.2.2.1 z.2.2.2.2.2.2.2.2.2.1 z.2.2.2.2.2.2.2.2.2.2.1 z.2.2.2.2.2.2.2.2.2.2.2⟩
def h_decl_Table_number:Hc:=.a
def tb29:List (Ent U):=E_decl_Table_number :: tb28
theorem k29:TblOk Y tb29:=TblOk.cons k28 Tryz.func60 h_decl_Table_number (fun k z=>by kernel_rfl)
def E_decl_Table_Global:Ent U:=⟨38,0,⟨[.ptr (.ext 0) 0,.str],[[.mapr (.ext 1),.typ 0,.nils,.int .i64],[.tip (.cl (.ext 1) 0),.mapr (.ext 2),.tip (.cl (.ext 1) 2),.mapr (.ext 3),.tip (.cl (.ext 1) 4),.mapr (.ext 4),.tip (.cl (.ext 1) 6),.mapr (.ext 5)],[.typ 5],[.typ 5],[.typ 5],[.typ 5]],[(.cl (.ext 1) 0,0),(.cl (.ext 1) 2,0),(.cl (.ext 1) 4,0),(.cl (.ext 1) 6,0)],.bool,[],[],[.rw,.mk .i64 [51,52,53,54] 2,.mw,.mw,.mw,.mw]⟩,fun k z=>decl_Table_Global k z.1 z.2.1 z.2.2.1 z.2.2.2.1 z.2.2.2.2.1 z.2.2.2.2.2.1 z.2.2.2.2.2.2.1 z.2.2.2.2.2.2.2.1 z.2.2.2.2.2.2.2.2.1 z.2.2.2.2.2.2.2.2.2.1 z.2.2.2.2.2.2.2.2.2.2⟩
def h_decl_Table_Global:Hc:=(.s .a (.s .a (.s (.j .normal ⟨[],[],[]⟩ (.s .a (.b (.l ⟨[(19,.int .i64)],[],[]⟩ .a)))) .a)))
def tb30:List (Ent U):=E_decl_Table_Global :: tb29
theorem k30:TblOk Y tb30:=TblOk.cons k29 Tryz.func38 h_decl_Table_Global (fun k z=>by kernel_rfl)
def E_decl_Table_names:Ent U:=⟨42,0,⟨[.ptr (.ext 0) 0],[[.mapr (.ext 1),.typ 0,.nils,.int .i64],[.tip (.cl (.ext 1) 0),.mapr (.ext 2),.tip (.cl (.ext 1) 2),.mapr (.ext 3),.tip (.cl (.ext 1) 4),.mapr (.ext 4),.tip (.cl (.ext 1) 6),.mapr (.ext 5)],[.typ 5],[.typ 5],[.typ 5],[.typ 5]],[(.cl (.ext 1) 0,0),(.cl (.ext 1) 2,0),(.cl (.ext 1) 4,0),(.cl (.ext 1) 6,0)],.tup (.L [.int .i64,.int .i64]),[(.ext 1,0,.tip (.cl (.ext 1) 0)),(.ext 1,1,.mapr (.ext 2)),(.ext 1,2,.tip (.cl (.ext 1) 2)),(.ext 1,3,.mapr (.ext 3)),(.ext 1,4,.tip (.cl (.ext 1) 4)),(.ext 1,5,.mapr (.ext 4)),(.ext 1,6,.tip (.cl (.ext 1) 6)),(.ext 1,7,.mapr (.ext 5)),(.ext 2,0,.typ 5),(.ext 3,0,.typ 5),(.ext 4,0,.typ 5),(.ext 5,0,.typ 5)],[(.cl (.ext 1) 0,0),(.cl (.ext 1) 2,0),(.cl (.ext 1) 4,0),(.cl (.ext 1) 6,0)],[.rw,.mk .i64 [51,52,53,54] 2,.mw,.mw,.mw,.mw]⟩,fun k z=>decl_Table_names k z.1 z.2.1 z.2.2.1 z.2.2.2.1 z.2.2.2.2.1 z.2.2.2.2.2.1 z.2.2.2.2.2.2.1 z.2.2.2.2.2.2.2.1 z.2.2.2.2.2.2.2.2.1 z.2.2.2.2.2.2.2.2.2⟩
def h_decl_Table_names:Hc:=(.s .a (.s (.j .normal ⟨[],[(.ext 1,0,.tip (.cl (.ext 1) 0)),(.ext 1,1,.mapr (.ext 2)),(.ext 1,2,.tip (.cl (.ext 1) 2)),(.ext 1,3,.mapr (.ext 3)),(.ext 1,4,.tip (.cl (.ext 1) 4)),(.ext 1,5,.mapr (.ext 4)),(.ext 1,6,.tip (.cl (.ext 1) 6)),(.ext 1,7,.mapr (.ext 5)),(.ext 2,0,.typ 5),(.ext 3,0,.typ 5),(.ext 4,0,.typ 5),(.ext 5,0,.typ 5)],[(.cl (.ext 1) 0,0),(.cl (.ext 1) 2,0),(.cl (.ext 1) 4,0),(.cl (.ext 1) 6,0)]⟩ (.s .a (.b (.l ⟨[(10,.int .i64)],[(.ext 1,0,.tip (.cl (.ext 1) 0)),(.ext 1,1,.mapr (.ext 2)),(.ext 1,2,.tip (.cl (.ext 1) 2)),(.ext 1,3,.mapr (.ext 3)),(.ext 1,4,.tip (.cl (.ext 1) 4)),(.ext 1,5,.mapr (.ext 4)),(.ext 1,6,.tip (.cl (.ext 1) 6)),(.ext 1,7,.mapr (.ext 5)),(.ext 2,0,.typ 5),(.ext 3,0,.typ 5),(.ext 4,0,.typ 5),(.ext 5,0,.typ 5)],[(.cl (.ext 1) 0,0),(.cl (.ext 1) 2,0),(.cl (.ext 1) 4,0),(.cl (.ext 1) 6,0)]⟩ (.s .a (.s .a (.s (.b (.s .a (.s .a (.s (.r (.run 8 (.pl .done))) (.s .a (.s (.r (.run 6 (.pl .done))) .a)))))) .a))))))) .a))
def tb31:List (Ent U):=E_decl_Table_names :: tb30
theorem k31:TblOk Y tb31:=TblOk.cons k30 Tryz.func42 h_decl_Table_names (fun k z=>by kernel_rfl)
def E_decl_Table_decls_v2:Ent U:=⟨70,1,⟨[.ptr (.ext 0) 0],[[.typ 3,.typ 0,.tip (.cl (.ext 0) 6),.int .i64]],[(.cl (.ext 0) 6,6)],.lst 0,[],[],[]⟩,fun k z=>decl_Table_decls_v2 k z.1 z.2.1 z.2.2.1 z.2.2.2⟩
def h_decl_Table_decls_v2:Hc:=.a
def tb32:List (Ent U):=E_decl_Table_decls_v2 :: tb31
theorem k32:TblOk Y tb32:=TblOk.cons k31 Tryz.func70 h_decl_Table_decls_v2 (fun k z=>by kernel_rfl)
def E_slices_Clone_Node:Ent U:=⟨84,0,⟨[.lst 0],[],[],.lst 0,[],[],[]⟩,fun k z=>slices_Clone_Node k z⟩
theorem ok_slices_Clone_Node (k:Nat):OkE Y k E_slices_Clone_Node:=by
  intro (a0:List TNode) (y:List TNode) S1 hy hi
  have e:injSh Y [] E_slices_Clone_Node.sig.out y (E_slices_Clone_Node.sig.st0 a0) = some ⟨[(0,.lst false 0 y)],[],[],[],[]⟩:=by kernel_rfl
  rw [e] at hi; cases hi
  have hy:slices_Clone_Node k a0 = some y:=hy
  unfold slices_Clone_Node at hy
  split at hy
  case isFalse=>cases hy
  rename_i hr
  cases hy
  have hr:roomy 64 (0 + (a0.map e0).length) = true:=by rw [List.length_map]; exact hr
  show SF Zs 84 [.slice .none 5 (a0.map e0)] [] (.slice .none 5 (a0.map e0)) []
  generalize a0.map e0 = l at hr ⊢
  refine SF.intro (m:=8) (rs:=[.tmp 2]) Tryz.func84 rfl (by kernel_rfl) (by kernel_rfl) (Nat.le_of_ble_eq_true rfl) (by decide) ?_
  refine SC.seq ?_
  refine SC.region 1 rfl ?_
  refine SO.run c0 1 ⟨[(0,.slice .none 5 l)],[]⟩ (by decide) (by kernel_rfl) ?_
  refine SO.done ?_
  refine SC.seq ?_
  refine SC.seq ?_
  refine SC.region 2 rfl ?_
  refine SO.run c0 1 ⟨[(0,.slice .none 5 l),(3,.slice .none 5 l)],[]⟩ (by decide) (by kernel_rfl) ?_
  by_cases hl:l = []
  · refine SO.ask 4 (by decide) (fun b=>⟨[(0,.slice .none 5 l),(4,.bool b)],[]⟩) (by kernel_rfl) (fun b=>by cases b <;> kernel_rfl) (fun b=>?_)
    refine SO.done ?_
    refine SC.cond b (by kernel_rfl) (fun ht=>?_) (fun ht=>?_)
    · refine SC.seq ?_
      refine SC.region 1 rfl ?_
      refine SO.run c0 1 ⟨[(2,.nils)],[]⟩ (by decide) (by kernel_rfl) ?_
      refine SO.done ?_
      refine SC.ret ?_
      subst hl
      exact ⟨[.nils],by kernel_rfl,Wk.nils _ _,trivial,by kernel_rfl⟩
    refine SC.skip ?_
    refine SC.seq ?_
    refine SC.region 4 rfl ?_
    refine SO.run c0 2 ⟨[(5,.slice .full 5 []),(6,.slice .none 5 l)],[]⟩ (by decide) (by kernel_rfl) ?_
    refine SO.op (cP [7]) { v:=.slice .none 5 l } ⟨[(7,.slice .none 5 l)],[]⟩ (by decide) ((show _ = (if roomy 64 (0 + l.length) = true then some { v:=.slice .none 5 l } else none) by kernel_rfl).trans (if_pos hr)) (by kernel_rfl) ?_
    refine SO.run c0 4 ⟨[(2,.slice .none 5 l)],[]⟩ (by decide) (by kernel_rfl) ?_
    refine SO.done ?_
    refine SC.ret ?_
    exact ⟨[.slice .none 5 l],by kernel_rfl,Wk.eq (by kernel_rfl),trivial,by kernel_rfl⟩
  · refine SO.op c0 { v:=.bool false } ⟨[(0,.slice .none 5 l),(4,.bool false)],[]⟩ (by decide) (by cases l with | nil=>exact absurd rfl hl | cons x l=>kernel_rfl) (by kernel_rfl) ?_
    refine SO.done ?_
    refine SC.cond false (by kernel_rfl) (fun ht=>by cases ht) (fun ht=>?_)
    refine SC.skip ?_
    refine SC.seq ?_
    refine SC.region 4 rfl ?_
    refine SO.run c0 2 ⟨[(5,.slice .full 5 []),(6,.slice .none 5 l)],[]⟩ (by decide) (by kernel_rfl) ?_
    refine SO.op (cP [7]) { v:=.slice .none 5 l } ⟨[(7,.slice .none 5 l)],[]⟩ (by decide) ((show _ = (if roomy 64 (0 + l.length) = true then some { v:=.slice .none 5 l } else none) by kernel_rfl).trans (if_pos hr)) (by kernel_rfl) ?_
    refine SO.run c0 4 ⟨[(2,.slice .none 5 l)],[]⟩ (by decide) (by kernel_rfl) ?_
    refine SO.done ?_
    refine SC.ret ?_
    exact ⟨[.slice .none 5 l],by kernel_rfl,Wk.eq (by kernel_rfl),trivial,by kernel_rfl⟩
def tb33:List (Ent U):=E_slices_Clone_Node :: tb32
theorem k33:TblOk Y tb33:=TblOk.ext k32 ok_slices_Clone_Node
def E_decl_Table_list:Ent U:=⟨61,0,⟨[.ptr (.ext 0) 0,.int .i64],[[.typ 3,.typ 0,.tip (.cl (.ext 0) 6),.int .i64]],[(.cl (.ext 0) 6,6)],.lst 0,[],[],[]⟩,fun k z=>decl_Table_list k z.1 z.2.1 z.2.2.1 z.2.2.2.1 z.2.2.2.2⟩
def h_decl_Table_list:Hc:=.a
def tb34:List (Ent U):=E_decl_Table_list :: tb33
theorem k34:TblOk Y tb34:=TblOk.cons k33 Tryz.func61 h_decl_Table_list (fun k z=>by kernel_rfl)
def E_decl_Table_Recs:Ent U:=⟨32,0,⟨[.ptr (.ext 0) 0],[[.typ 3,.typ 0,.tip (.cl (.ext 0) 6),.int .i64]],[(.cl (.ext 0) 6,6)],.lst 0,[],[],[]⟩,fun k z=>decl_Table_Recs k z.1 z.2.1 z.2.2.1 z.2.2.2⟩
def h_decl_Table_Recs:Hc:=.a
def tb35:List (Ent U):=E_decl_Table_Recs :: tb34
theorem k35:TblOk Y tb35:=TblOk.cons k34 Tryz.func32 h_decl_Table_Recs (fun k z=>by kernel_rfl)
def E_decl_typed_1:Ent U:=⟨105,0,⟨[.typ 0,.ptr (.ext 0) 0],[[.typ 0]],[],.bool,[],[],[]⟩,fun k z=>decl_typed_1 k z.1 z.2⟩
def h_decl_typed_1:Hc:=.a
def tb36:List (Ent U):=E_decl_typed_1 :: tb35
theorem k36:TblOk Y tb36:=TblOk.cons k35 Tryz.func105 h_decl_typed_1 (fun k z=>by kernel_rfl)
def E_slices_IndexFunc_Node_v4:Ent U:=⟨78,3,⟨[.lst 0,.fn 105 (.L []) (.L [.ptr (.ext 0) 0])],[[.typ 0]],[],.int .i64,[],[],[]⟩,fun k z=>slices_IndexFunc_Node_v4 k z.1 z.2⟩
def h_slices_IndexFunc_Node_v4:Hc:=(.s .a (.s (.j .normal ⟨[],[],[]⟩ (.s .a (.b (.l ⟨[(8,.int .i64)],[],[]⟩ .a)))) .a))
def tb37:List (Ent U):=E_slices_IndexFunc_Node_v4 :: tb36
theorem k37:TblOk Y tb37:=TblOk.cons k36 Tryz.func78 h_slices_IndexFunc_Node_v4 (fun k z=>by kernel_rfl)
def E_slices_ContainsFunc_Node_v4:Ent U:=⟨50,3,⟨[.lst 0,.fn 105 (.L []) (.L [.ptr (.ext 0) 0])],[[.typ 0]],[],.bool,[],[],[]⟩,fun k z=>slices_ContainsFunc_Node_v4 k z.1 z.2⟩
def h_slices_ContainsFunc_Node_v4:Hc:=(.s .a (.s (.r (.run 2 (.call 3 .done))) .a))
def tb38:List (Ent U):=E_slices_ContainsFunc_Node_v4 :: tb37
theorem k38:TblOk Y tb38:=TblOk.cons k37 Tryz.func50 h_slices_ContainsFunc_Node_v4 (fun k z=>by kernel_rfl)
def E_decl_typed:Ent U:=⟨73,0,⟨[.typ 0,.lst 0,.bool],[],[],.tup (.L [.int .i64,.int .i64]),[],[],[]⟩,fun k z=>decl_typed k z.1 z.2.1 z.2.2⟩
def h_decl_typed:Hc:=(.s .a (.s (.j .normal ⟨[],[],[]⟩ (.s .a (.b (.s .a (.c .a (.s .a (.c .a (.s .a (.c (.s (.r (.run 2 (.call 3 .done))) .a) .a))))))))) .a))
def tb39:List (Ent U):=[E_decl_typed] ++ tb38
theorem k39:TblOk Y tb39:=TblOk.grp k38 ⟨⟨_,h_decl_typed,Tryz.func73,fun _=>rfl,fun k z=>by kernel_rfl⟩,trivial⟩
def E_decl_Table_params_1:Ent U:=⟨102,0,⟨[.typ 0,.ptr (.ext 0) 0],[[.typ 0]],[],.bool,[],[],[]⟩,fun k z=>decl_Table_params_1 k z.1 z.2⟩
def h_decl_Table_params_1:Hc:=.a
def tb40:List (Ent U):=E_decl_Table_params_1 :: tb39
theorem k40:TblOk Y tb40:=TblOk.cons k39 Tryz.func102 h_decl_Table_params_1 (fun k z=>by kernel_rfl)
def E_slices_IndexFunc_Node_v3:Ent U:=⟨78,2,⟨[.lst 0,.fn 102 (.L []) (.L [.ptr (.ext 0) 0])],[[.typ 0]],[],.int .i64,[],[],[]⟩,fun k z=>slices_IndexFunc_Node_v3 k z.1 z.2⟩
def h_slices_IndexFunc_Node_v3:Hc:=(.s .a (.s (.j .normal ⟨[],[],[]⟩ (.s .a (.b (.l ⟨[(8,.int .i64)],[],[]⟩ .a)))) .a))
def tb41:List (Ent U):=E_slices_IndexFunc_Node_v3 :: tb40
theorem k41:TblOk Y tb41:=TblOk.cons k40 Tryz.func78 h_slices_IndexFunc_Node_v3 (fun k z=>by kernel_rfl)
def E_slices_ContainsFunc_Node_v3:Ent U:=⟨50,2,⟨[.lst 0,.fn 102 (.L []) (.L [.ptr (.ext 0) 0])],[[.typ 0]],[],.bool,[],[],[]⟩,fun k z=>slices_ContainsFunc_Node_v3 k z.1 z.2⟩
def h_slices_ContainsFunc_Node_v3:Hc:=(.s .a (.s (.r (.run 2 (.call 2 .done))) .a))
def tb42:List (Ent U):=E_slices_ContainsFunc_Node_v3 :: tb41
theorem k42:TblOk Y tb42:=TblOk.cons k41 Tryz.func50 h_slices_ContainsFunc_Node_v3 (fun k z=>by kernel_rfl)
def E_decl_kinds_find_v2:Ent U:=⟨83,1,⟨[.typ 4,.str],[],[],.tup (.L [.int .i64,.bool]),[],[],[]⟩,fun k z=>decl_kinds_find_v2 k z.1 z.2⟩
def h_decl_kinds_find_v2:Hc:=.a
def tb43:List (Ent U):=E_decl_kinds_find_v2 :: tb42
theorem k43:TblOk Y tb43:=TblOk.cons k42 Tryz.func83 h_decl_kinds_find_v2 (fun k z=>by kernel_rfl)
def E_decl_Table_number_v2:Ent U:=⟨60,1,⟨[.ptr (.ext 0) 0,.int .i64,.str],[[.typ 3,.typ 0,.tip (.cl (.ext 0) 6),.int .i64]],[(.cl (.ext 0) 6,6)],.tup (.L [.int .i64,.bool]),[],[],[]⟩,fun k z=>decl_Table_number_v2 k z.1 z.2.1 z.2.2.1 z.2.2.2.1 z.2.2.2.2.1 z.2.2.2.2.2⟩
def h_decl_Table_number_v2:Hc:=(.s .a (.s .a (.s (.r (.run 7 (.call 1 .done))) .a)))
def tb44:List (Ent U):=E_decl_Table_number_v2 :: tb43
theorem k44:TblOk Y tb44:=TblOk.cons k43 Tryz.func60 h_decl_Table_number_v2 (fun k z=>by kernel_rfl)
def E_decl_Table_Global_v2:Ent U:=⟨38,1,⟨[.ptr (.ext 0) 0,.str],[[.typ 3,.typ 0,.tip (.cl (.ext 0) 6),.int .i64]],[(.cl (.ext 0) 6,6)],.bool,[],[],[]⟩,fun k z=>decl_Table_Global_v2 k z.1 z.2.1 z.2.2.1 z.2.2.2.1 z.2.2.2.2⟩
def h_decl_Table_Global_v2:Hc:=(.s .a (.s .a (.s (.j .normal ⟨[],[],[]⟩ (.s .a (.b (.l ⟨[(19,.int .i64)],[],[]⟩ (.s .a (.s .a (.s (.b (.s .a (.s (.r (.run 3 (.call 1 .done))) .a))) .a))))))) .a)))
def tb45:List (Ent U):=E_decl_Table_Global_v2 :: tb44
theorem k45:TblOk Y tb45:=TblOk.cons k44 Tryz.func38 h_decl_Table_Global_v2 (fun k z=>by kernel_rfl)
def E_tree_Same:Ent U:=⟨103,0,⟨[.typ 0,.typ 0],[],[],.bool,[],[],[]⟩,fun k z=>tree_Same k z.1 z.2⟩
def h_tree_Same:Hc:=(.s .a (.s (.r (.run 6 (.mux 10 12 ⟨[(16,.bool)],[],[]⟩ .done .done (.run 1 (.mux 17 19 ⟨[(23,.bool)],[],[]⟩ .done .done (.run 1 (.split 24 26 ⟨[(30,.bool)],[],[]⟩ .done .done .done))))))) .a))
def E_slices_EqualFunc_Node:Ent U:=⟨128,0,⟨[.lst 0,.lst 0,.fn 103 (.L []) (.L [])],[],[],.bool,[],[],[]⟩,fun k z=>slices_EqualFunc_Node k z.1 z.2⟩
def h_slices_EqualFunc_Node:Hc:=(.s .a (.s .a (.s (.j .normal ⟨[],[],[]⟩ (.s .a (.b (.l ⟨[(17,.int .i64)],[],[]⟩ .a)))) .a)))
def tb46:List (Ent U):=[E_tree_Same,E_slices_EqualFunc_Node] ++ tb45
theorem k46:TblOk Y tb46:=TblOk.grp k45 ⟨⟨_,h_tree_Same,Tryz.func103,fun _=>rfl,fun k z=>by kernel_rfl⟩,⟨_,h_slices_EqualFunc_Node,Tryz.func128,fun _=>rfl,fun k z=>by kernel_rfl⟩,trivial⟩
def E_decl_Table_params:Ent U:=⟨71,0,⟨[.ptr (.ext 0) 0,.lst 0,.lst 0,.int .i64],[[.typ 3,.typ 0,.tip (.cl (.ext 0) 6),.int .i64]],[(.cl (.ext 0) 6,6)],.tup (.L [.int .i64,.int .i64]),[],[],[]⟩,fun k z=>decl_Table_params k z.1 z.2.1 z.2.2.1 z.2.2.2.1 z.2.2.2.2.1 z.2.2.2.2.2.1 z.2.2.2.2.2.2⟩
def h_decl_Table_params:Hc:=(.s .a (.s (.j .normal ⟨[],[],[]⟩ (.s .a (.b (.l ⟨[(17,.int .i64)],[],[]⟩ (.s .a (.s .a (.s (.b (.s .a (.s (.r (.run 4 (.call 2 .done))) (.s (.s (.r (.run 2 (.split 28 11 ⟨[(37,.bool)],[],[]⟩ .done (.run 3 (.split 31 10 ⟨[(36,.bool)],[],[]⟩ (.run 3 (.call 1 .done)) .done .done)) .done))) .a) (.s .a (.s (.r (.run 3 (.split 57 16 ⟨[(70,.bool)],[],[]⟩ .done .done .done))) .a)))))) .a))))))) .a))
def tb47:List (Ent U):=E_decl_Table_params :: tb46
theorem k47:TblOk Y tb47:=TblOk.cons k46 Tryz.func71 h_decl_Table_params (fun k z=>by kernel_rfl)
def E_val_Int:Ent U:=⟨148,0,⟨[.int .i64],[],[],.typ 12,[],[],[]⟩,fun k z=>val_Int k z⟩
def h_val_Int:Hc:=.a
def tb48:List (Ent U):=E_val_Int :: tb47
theorem k48:TblOk Y tb48:=TblOk.cons k47 Tryz.func148 h_val_Int (fun k z=>by kernel_rfl)
def E_val_Bool:Ent U:=⟨149,0,⟨[.bool],[],[],.typ 12,[],[],[]⟩,fun k z=>val_Bool k z⟩
def h_val_Bool:Hc:=.a
def tb49:List (Ent U):=E_val_Bool :: tb48
theorem k49:TblOk Y tb49:=TblOk.cons k48 Tryz.func149 h_val_Bool (fun k z=>by kernel_rfl)
def E_slices_Clone_Value:Ent U:=⟨158,0,⟨[.lst 12],[],[],.lst 12,[],[],[]⟩,fun k z=>slices_Clone_Value k z⟩
theorem ok_slices_Clone_Value (k:Nat):OkE Y k E_slices_Clone_Value:=by
  intro (a0:List TValue) (y:List TValue) S1 hy hi
  have e:injSh Y [] E_slices_Clone_Value.sig.out y (E_slices_Clone_Value.sig.st0 a0) = some ⟨[(0,.lst false 12 y)],[],[],[],[]⟩:=by kernel_rfl
  rw [e] at hi; cases hi
  have hy:slices_Clone_Value k a0 = some y:=hy
  unfold slices_Clone_Value at hy
  split at hy
  case isFalse=>cases hy
  rename_i hr
  cases hy
  have hr:roomy 40 (0 + (a0.map e12).length) = true:=by rw [List.length_map]; exact hr
  show SF Zs 158 [.slice .none 3 (a0.map e12)] [] (.slice .none 3 (a0.map e12)) []
  generalize a0.map e12 = l at hr ⊢
  refine SF.intro (m:=8) (rs:=[.tmp 2]) Tryz.func158 rfl (by kernel_rfl) (by kernel_rfl) (Nat.le_of_ble_eq_true rfl) (by decide) ?_
  refine SC.seq ?_
  refine SC.region 1 rfl ?_
  refine SO.run c0 1 ⟨[(0,.slice .none 3 l)],[]⟩ (by decide) (by kernel_rfl) ?_
  refine SO.done ?_
  refine SC.seq ?_
  refine SC.seq ?_
  refine SC.region 2 rfl ?_
  refine SO.run c0 1 ⟨[(0,.slice .none 3 l),(3,.slice .none 3 l)],[]⟩ (by decide) (by kernel_rfl) ?_
  by_cases hl:l = []
  · refine SO.ask 4 (by decide) (fun b=>⟨[(0,.slice .none 3 l),(4,.bool b)],[]⟩) (by kernel_rfl) (fun b=>by cases b <;> kernel_rfl) (fun b=>?_)
    refine SO.done ?_
    refine SC.cond b (by kernel_rfl) (fun ht=>?_) (fun ht=>?_)
    · refine SC.seq ?_
      refine SC.region 1 rfl ?_
      refine SO.run c0 1 ⟨[(2,.nils)],[]⟩ (by decide) (by kernel_rfl) ?_
      refine SO.done ?_
      refine SC.ret ?_
      subst hl
      exact ⟨[.nils],by kernel_rfl,Wk.nils _ _,trivial,by kernel_rfl⟩
    refine SC.skip ?_
    refine SC.seq ?_
    refine SC.region 4 rfl ?_
    refine SO.run c0 2 ⟨[(5,.slice .full 3 []),(6,.slice .none 3 l)],[]⟩ (by decide) (by kernel_rfl) ?_
    refine SO.op (cP [7]) { v:=.slice .none 3 l } ⟨[(7,.slice .none 3 l)],[]⟩ (by decide) ((show _ = (if roomy 40 (0 + l.length) = true then some { v:=.slice .none 3 l } else none) by kernel_rfl).trans (if_pos hr)) (by kernel_rfl) ?_
    refine SO.run c0 4 ⟨[(2,.slice .none 3 l)],[]⟩ (by decide) (by kernel_rfl) ?_
    refine SO.done ?_
    refine SC.ret ?_
    exact ⟨[.slice .none 3 l],by kernel_rfl,Wk.eq (by kernel_rfl),trivial,by kernel_rfl⟩
  · refine SO.op c0 { v:=.bool false } ⟨[(0,.slice .none 3 l),(4,.bool false)],[]⟩ (by decide) (by cases l with | nil=>exact absurd rfl hl | cons x l=>kernel_rfl) (by kernel_rfl) ?_
    refine SO.done ?_
    refine SC.cond false (by kernel_rfl) (fun ht=>by cases ht) (fun ht=>?_)
    refine SC.skip ?_
    refine SC.seq ?_
    refine SC.region 4 rfl ?_
    refine SO.run c0 2 ⟨[(5,.slice .full 3 []),(6,.slice .none 3 l)],[]⟩ (by decide) (by kernel_rfl) ?_
    refine SO.op (cP [7]) { v:=.slice .none 3 l } ⟨[(7,.slice .none 3 l)],[]⟩ (by decide) ((show _ = (if roomy 40 (0 + l.length) = true then some { v:=.slice .none 3 l } else none) by kernel_rfl).trans (if_pos hr)) (by kernel_rfl) ?_
    refine SO.run c0 4 ⟨[(2,.slice .none 3 l)],[]⟩ (by decide) (by kernel_rfl) ?_
    refine SO.done ?_
    refine SC.ret ?_
    exact ⟨[.slice .none 3 l],by kernel_rfl,Wk.eq (by kernel_rfl),trivial,by kernel_rfl⟩
def tb50:List (Ent U):=E_slices_Clone_Value :: tb49
theorem k50:TblOk Y tb50:=TblOk.ext k49 ok_slices_Clone_Value
def E_val_Arr:Ent U:=⟨150,0,⟨[.lst 12],[],[],.typ 12,[],[],[]⟩,fun k z=>val_Arr k z⟩
def h_val_Arr:Hc:=.a
def tb51:List (Ent U):=E_val_Arr :: tb50
theorem k51:TblOk Y tb51:=TblOk.cons k50 Tryz.func150 h_val_Arr (fun k z=>by kernel_rfl)
def E_kind_params_1:Ent U:=⟨164,0,⟨[.typ 0,.ptr (.ext 0) 0],[[.typ 0]],[],.bool,[],[],[]⟩,fun k z=>kind_params_1 k z.1 z.2⟩
def h_kind_params_1:Hc:=.a
def tb52:List (Ent U):=E_kind_params_1 :: tb51
theorem k52:TblOk Y tb52:=TblOk.cons k51 Tryz.func164 h_kind_params_1 (fun k z=>by kernel_rfl)
def E_slices_IndexFunc_Node_v6:Ent U:=⟨78,5,⟨[.lst 0,.fn 164 (.L []) (.L [.ptr (.ext 0) 0])],[[.typ 0]],[],.int .i64,[],[],[]⟩,fun k z=>slices_IndexFunc_Node_v6 k z.1 z.2⟩
def h_slices_IndexFunc_Node_v6:Hc:=(.s .a (.s (.j .normal ⟨[],[],[]⟩ (.s .a (.b (.l ⟨[(8,.int .i64)],[],[]⟩ .a)))) .a))
def tb53:List (Ent U):=E_slices_IndexFunc_Node_v6 :: tb52
theorem k53:TblOk Y tb53:=TblOk.cons k52 Tryz.func78 h_slices_IndexFunc_Node_v6 (fun k z=>by kernel_rfl)
def E_kind_params:Ent U:=⟨159,0,⟨[.typ 0,.lst 0],[],[],.tup (.L [.lst 0,.bool]),[],[],[]⟩,fun k z=>kind_params k z.1 z.2⟩
def h_kind_params:Hc:=(.s .a (.s .a (.s (.r (.run 2 (.call 5 .done))) .a)))
def tb54:List (Ent U):=E_kind_params :: tb53
theorem k54:TblOk Y tb54:=TblOk.cons k53 Tryz.func159 h_kind_params (fun k z=>by kernel_rfl)
def E_kind_typed:Ent U:=⟨160,0,⟨[.typ 0],[],[],.typ 0,[],[],[]⟩,fun k z=>kind_typed k z⟩
def h_kind_typed:Hc:=.a
def tb55:List (Ent U):=E_kind_typed :: tb54
theorem k55:TblOk Y tb55:=TblOk.cons k54 Tryz.func160 h_kind_typed (fun k z=>by kernel_rfl)
def E_kind_Fields:Ent U:=⟨151,0,⟨[.typ 0,.lst 0],[],[],.tup (.L [.lst 0,.bool]),[],[],[]⟩,fun k z=>kind_Fields k z.1 z.2⟩
def h_kind_Fields:Hc:=(.s .a (.s .a (.s .a (.s (.j .normal ⟨[(8,.tip (.loc 8))],[],[(.loc 8,0)]⟩ (.s .a (.b (.g (.loc 8) 0 8 none (.l ⟨[(8,.tip (.loc 8)),(19,.int .i64)],[],[(.loc 8,0)]⟩ .a))))) .a))))
def tb56:List (Ent U):=E_kind_Fields :: tb55
theorem k56:TblOk Y tb56:=TblOk.cons k55 Tryz.func151 h_kind_Fields (fun k z=>by kernel_rfl)
def E_kind_zero_of:Ent U:=⟨129,0,⟨[.ptr (.ext 0) 0,.typ 0,.int .i64],[[.lst 0,.int .i64]],[],.tup (.L [.typ 12,.bool]),[(.ext 0,1,.int .i64)],[],[]⟩,fun k z=>kind_zero_of k z.1 z.2.1 z.2.2.1 z.2.2.2⟩
def h_kind_zero_of:Hc:=(.s .a (.s .a (.s (.s (.r (.run 6 (.mux 27 9 ⟨[(30,.bool)],[],[]⟩ .done .done .done))) .a) (.s .a (.s .a (.s .a (.s (.j .normal ⟨[(10,.ptr (.loc 10) 0)],[(.ext 0,1,.int .i64),(.loc 10,2,.tip (.cl (.loc 10) 2))],[(.cl (.loc 10) 2,12)]⟩ (.s .a (.b (.g (.cl (.loc 10) 2) 12 10 (some 2) (.l ⟨[(55,.int .i64)],[(.ext 0,1,.int .i64),(.loc 10,2,.tip (.cl (.loc 10) 2))],[(.cl (.loc 10) 2,12)]⟩ .a))))) .a)))))))
def tb57:List (Ent U):=[E_kind_zero_of] ++ tb56
theorem k57:TblOk Y tb57:=TblOk.grp k56 ⟨⟨_,h_kind_zero_of,Tryz.func129,fun _=>rfl,fun k z=>by kernel_rfl⟩,trivial⟩
def E_kind_Zero:Ent U:=⟨104,0,⟨[.typ 0,.lst 0],[],[],.tup (.L [.typ 12,.bool]),[],[],[]⟩,fun k z=>kind_Zero k z.1 z.2⟩
def h_kind_Zero:Hc:=.a
def tb58:List (Ent U):=E_kind_Zero :: tb57
theorem k58:TblOk Y tb58:=TblOk.cons k57 Tryz.func104 h_kind_Zero (fun k z=>by kernel_rfl)
def E_decl_Table_Merge:Ent U:=⟨31,0,⟨[.ptr (.ext 0) 0,.str],[[.typ 3,.typ 0,.tip (.cl (.ext 0) 6),.int .i64]],[(.cl (.ext 0) 6,6)],.tup (.L [.int .i64,.bool]),[],[],[]⟩,fun k z=>decl_Table_Merge k z.1 z.2.1 z.2.2.1 z.2.2.2.1 z.2.2.2.2⟩
def h_decl_Table_Merge:Hc:=(.s .a (.s (.r (.run 2 (.call 1 .done))) .a))
def tb59:List (Ent U):=E_decl_Table_Merge :: tb58
theorem k59:TblOk Y tb59:=TblOk.cons k58 Tryz.func31 h_decl_Table_Merge (fun k z=>by kernel_rfl)
def E_decl_Table_iso:Ent U:=⟨72,0,⟨[.ptr (.ext 0) 0,.typ 0],[[.typ 3,.typ 0,.tip (.cl (.ext 0) 6),.int .i64]],[(.cl (.ext 0) 6,6)],.tup (.L [.int .i64,.int .i64]),[(.ext 0,6,.tip (.cl (.ext 0) 6)),(.ext 0,7,.int .i64)],[(.cl (.ext 0) 6,6)],[]⟩,fun k z=>decl_Table_iso k z.1 z.2.1 z.2.2.1 z.2.2.2.1 z.2.2.2.2⟩
def h_decl_Table_iso:Hc:=(.s .a (.s .a (.s .a (.s .a (.s .a (.s (.s .a (.s (.r (.run 3 (.mux 67 9 ⟨[(73,.bool)],[],[]⟩ .done .done .done))) .a)) .a))))))
def tb60:List (Ent U):=E_decl_Table_iso :: tb59
theorem k60:TblOk Y tb60:=TblOk.cons k59 Tryz.func72 h_decl_Table_iso (fun k z=>by kernel_rfl)
def E_decl_Table_stand:Ent U:=⟨43,0,⟨[.ptr (.ext 0) 0],[[.typ 3,.typ 0,.tip (.cl (.ext 0) 6),.int .i64]],[(.cl (.ext 0) 6,6)],.tup (.L [.int .i64,.int .i64]),[(.ext 0,6,.tip (.cl (.ext 0) 6)),(.ext 0,7,.int .i64)],[(.cl (.ext 0) 6,6)],[]⟩,fun k z=>decl_Table_stand k z.1 z.2.1 z.2.2.1 z.2.2.2⟩
def h_decl_Table_stand:Hc:=(.s .a (.s .a (.s (.j .normal ⟨[],[(.ext 0,6,.tip (.cl (.ext 0) 6)),(.ext 0,7,.int .i64)],[(.cl (.ext 0) 6,6)]⟩ (.s (.r (.run 1 (.call 1 .done))) (.b (.l ⟨[(4,.int .i64),(13,.int .i64)],[(.ext 0,6,.tip (.cl (.ext 0) 6)),(.ext 0,7,.int .i64)],[(.cl (.ext 0) 6,6)]⟩ (.s .a (.s .a (.s (.b (.s .a (.s .a (.s (.j .normal ⟨[(4,.int .i64),(7,.int .i64),(8,.int .i64)],[(.ext 0,6,.tip (.cl (.ext 0) 6)),(.ext 0,7,.int .i64)],[(.cl (.ext 0) 6,6)]⟩ .a) .a)))) .a))))))) .a)))
def tb61:List (Ent U):=E_decl_Table_stand :: tb60
theorem k61:TblOk Y tb61:=TblOk.cons k60 Tryz.func43 h_decl_Table_stand (fun k z=>by kernel_rfl)
def E_decl_Of:Ent U:=⟨8,0,⟨[.typ 0],[],[],.tup (.L [.opt 2,.int .i64,.int .i64]),[],[],[]⟩,fun k z=>decl_Of k z⟩
def h_decl_Of:Ht:=(.s (.c .a) (.s (.c .a) (.s (.r (.mk 1000 (.mk .i64 [] 2) 3 .done)) (.s (.s (.c .a) (.b (.u (.s (.c .a) (.s (.i (.c .a) (.c .a)) (.s (.b (.s (.c .a) (.r (.run 5 .done (.mk 1001 .mw 5 (.run 1 .done (.ins .done))))))) (.c .a)))) (.u (.s (.c .a) (.s (.i (.c .a) (.c .a)) (.s (.b (.s (.c .a) (.r (.run 5 .done (.mk 1002 .mw 5 (.run 1 .done (.ins .done))))))) (.c .a)))) (.u (.s (.c .a) (.s (.i (.c .a) (.c .a)) (.s (.b (.s (.c .a) (.r (.run 5 .done (.mk 1003 .mw 5 (.run 1 .done (.ins .done))))))) (.c .a)))) (.u (.s (.c .a) (.s (.i (.c .a) (.c .a)) (.s (.b (.s (.c .a) (.r (.run 5 .done (.mk 1004 .mw 5 (.run 1 .done (.ins .done))))))) (.c .a)))) (.u (.s (.c .a) (.s (.i (.c .a) (.c .a)) (.s (.b (.s (.c .a) (.r (.run 5 .done (.mk 1004 .mw 5 (.run 1 .done (.ins .done))))))) (.c .a)))) (.c .a)))))))) (.s (.s (.r (.run 1 .done (.run 1 (.bego (.cl (.loc 1000) 0) 0 (.loc 1000) 0 (.bego (.cl (.loc 1000) 2) 0 (.loc 1000) 2 (.bego (.cl (.loc 1000) 4) 0 (.loc 1000) 4 (.bego (.cl (.loc 1000) 6) 0 (.loc 1000) 6 (.call 0 .done))))) .done))) (.c .a)) (.s (.s (.r (.frz (.loc 1001) 5 (.frz (.loc 1002) 5 (.frz (.loc 1003) 5 (.frz (.loc 1004) 5 (.frz (.loc 1000) 3 (.run 1 .done (.run 1 (.bego (.cl (.loc 18) 6) 6 (.loc 18) 6 (.call 0 .done)) .done)))))))) (.c .a)) (.c .a)))))))
def tb62:List (Ent U):=E_decl_Of :: tb61
theorem k62:TblOk Y tb62:=TblOk.consT k61 Tryz.func8 h_decl_Of (fun k z=>by kernel_rfl)
def E_ends_Body:Ent U:=⟨24,0,⟨[.typ 0],[],[],.bool,[],[],[]⟩,fun k z=>ends_Body k z⟩
def h_ends_Body:Hc:=(.s .a (.s .a (.s (.b (.s (.r (.run 4 (.mux 12 7 ⟨[(15,.bool)],[],[]⟩ .done .done .done))) (.c .a (.s (.r (.run 4 (.mux 26 7 ⟨[(29,.bool)],[],[]⟩ .done .done (.run 1 (.split 30 17 ⟨[(39,.bool)],[],[]⟩ .done .done .done))))) .a)))) .a)))
def tb63:List (Ent U):=E_ends_Body :: tb62
theorem k63:TblOk Y tb63:=TblOk.cons k62 Tryz.func24 h_ends_Body (fun k z=>by kernel_rfl)
def E_decl_Table_Bodies:Ent U:=⟨36,0,⟨[.opt 2],[],[],.lst 0,[],[],[]⟩,fun k z=>decl_Table_Bodies k z⟩
def h_decl_Table_Bodies:Hc:=(.s .a (.s .a (.s .a (.s (.j .normal ⟨[(3,.tip (.loc 3))],[],[(.loc 3,0)]⟩ (.s .a (.b (.g (.loc 3) 0 3 none (.l ⟨[(3,.tip (.loc 3)),(14,.int .i64)],[],[(.loc 3,0)]⟩ (.s .a (.s .a (.s (.j .normal ⟨[(3,.tip (.loc 3))],[],[(.loc 3,0)]⟩ (.b (.s .a (.s (.r (.run 4 (.mux 21 8 ⟨[(25,.bool)],[],[]⟩ .done .done .done))) .a)))) .a)))))))) .a))))
def tb64:List (Ent U):=E_decl_Table_Bodies :: tb63
theorem k64:TblOk Y tb64:=TblOk.cons k63 Tryz.func36 h_decl_Table_Bodies (fun k z=>by kernel_rfl)
def E_ends_All:Ent U:=⟨20,0,⟨[.opt 2],[],[],.tup (.L [.int .i64,.int .i64]),[],[],[]⟩,fun k z=>ends_All k z⟩
def h_ends_All:Hc:=(.s .a (.s (.j .normal ⟨[],[],[]⟩ (.s .a (.b (.l ⟨[(9,.int .i64)],[],[]⟩ .a)))) .a))
def tb65:List (Ent U):=E_ends_All :: tb64
theorem k65:TblOk Y tb65:=TblOk.cons k64 Tryz.func20 h_ends_All (fun k z=>by kernel_rfl)
def E_ref10_class:Ent U:=⟨85,0,⟨[.int .u8],[],[],.int .i64,[],[],[]⟩,fun k z=>ref10_class k z⟩
def h_ref10_class:Hc:=(.s .a (.s (.s (.r (.run 3 (.mux 5 10 ⟨[(12,.bool)],[],[]⟩ .done (.run 3 (.mux 8 9 ⟨[(11,.bool)],[],[]⟩ .done .done .done)) (.run 1 (.mux 13 18 ⟨[(20,.bool)],[],[]⟩ .done (.run 3 (.mux 16 17 ⟨[(19,.bool)],[],[]⟩ .done .done .done)) .done))))) .a) (.s (.s (.r (.run 3 (.mux 23 6 ⟨[(26,.bool)],[],[]⟩ .done .done .done))) .a) (.s (.s (.r (.run 3 (.mux 29 6 ⟨[(32,.bool)],[],[]⟩ .done .done (.run 1 (.mux 33 10 ⟨[(36,.bool)],[],[]⟩ .done .done (.run 1 (.mux 37 14 ⟨[(40,.bool)],[],[]⟩ .done .done .done))))))) .a) .a))))
def tb66:List (Ent U):=E_ref10_class :: tb65
theorem k66:TblOk Y tb66:=TblOk.cons k65 Tryz.func85 h_ref10_class (fun k z=>by kernel_rfl)
def E_ref09_All:Ent U:=⟨132,0,⟨[],[],[],.lst 13,[],[],[]⟩,fun k z=>ref09_All k⟩
def h_ref09_All:Hc:=.a
def tb67:List (Ent U):=E_ref09_All :: tb66
theorem k67:TblOk Y tb67:=TblOk.cons k66 Tryz.func132 h_ref09_All (fun k z=>by kernel_rfl)
def E_ref09_Is:Ent U:=⟨111,0,⟨[.str],[],[],.bool,[],[],[]⟩,fun k z=>ref09_Is k z⟩
def h_ref09_Is:Hc:=(.s .a (.s .a (.s (.j .normal ⟨[],[],[]⟩ (.s .a (.b (.l ⟨[(4,.int .i64)],[],[]⟩ .a)))) .a)))
def tb68:List (Ent U):=E_ref09_Is :: tb67
theorem k68:TblOk Y tb68:=TblOk.cons k67 Tryz.func111 h_ref09_Is (fun k z=>by kernel_rfl)
def E_ref01_Read:Ent U:=⟨112,0,⟨[.str],[],[],.tup (.L [.int .i64,.int .i64]),[],[],[]⟩,fun k z=>ref01_Read k z⟩
def h_ref01_Read:Hc:=(.s .a (.s .a (.s .a (.s .a (.s (.j .normal ⟨[(4,.int .u64),(5,.bool)],[],[]⟩ (.s .a (.b (.l ⟨[(4,.int .u64),(5,.bool),(6,.int .i64)],[],[]⟩ (.s .a (.s (.j .normal ⟨[(4,.int .u64),(5,.bool)],[],[]⟩ (.b (.s (.s (.r (.run 5 (.split 19 10 ⟨[(24,.bool)],[],[]⟩ .done .done .done))) .a) (.s (.j .normal ⟨[(5,.bool)],[],[]⟩ .a) .a)))) .a)))))) (.s (.s (.r (.run 2 (.mux 38 5 ⟨[(41,.bool)],[],[]⟩ .done .done .done))) .a) .a))))))
def tb69:List (Ent U):=E_ref01_Read :: tb68
theorem k69:TblOk Y tb69:=TblOk.cons k68 Tryz.func112 h_ref01_Read (fun k z=>by kernel_rfl)
def E_ref09_Spell:Ent U:=⟨133,0,⟨[.int .i64],[],[],.str,[],[],[]⟩,fun k z=>ref09_Spell k z⟩
def h_ref09_Spell:Hc:=(.s .a (.s .a (.s (.s (.r (.run 3 (.mux 7 6 ⟨[(10,.bool)],[],[]⟩ .done .done .done))) .a) .a)))
def tb70:List (Ent U):=E_ref09_Spell :: tb69
theorem k70:TblOk Y tb70:=TblOk.cons k69 Tryz.func133 h_ref09_Spell (fun k z=>by kernel_rfl)
def E_ref09_Mark:Ent U:=⟨113,0,⟨[.str],[],[],.str,[],[],[]⟩,fun k z=>ref09_Mark k z⟩
def h_ref09_Mark:Hc:=(.s .a (.s .a (.s (.j .normal ⟨[(3,.tip (.loc 3))],[],[(.loc 3,13)]⟩ (.s .a (.b (.g (.loc 3) 13 3 none (.l ⟨[(3,.tip (.loc 3)),(4,.int .i64)],[],[(.loc 3,13)]⟩ .a))))) (.s .a (.s (.j .normal ⟨[(5,.str)],[],[]⟩ (.s .a (.b (.l ⟨[(5,.str),(6,.int .i64)],[],[]⟩ (.s .a (.s (.j .normal ⟨[(5,.str)],[],[]⟩ (.b (.s (.r (.run 9 (.split 31 22 ⟨[(44,.bool)],[],[]⟩ .done .done (.run 1 (.split 45 32 ⟨[(54,.bool)],[],[]⟩ .done .done .done))))) .a))) .a)))))) .a)))))
def tb71:List (Ent U):=E_ref09_Mark :: tb70
theorem k71:TblOk Y tb71:=TblOk.cons k70 Tryz.func113 h_ref09_Mark (fun k z=>by kernel_rfl)
def E_ref10_one:Ent U:=⟨86,0,⟨[.str,.int .i64],[],[],.tup (.L [.typ 9,.int .i64]),[],[],[]⟩,fun k z=>ref10_one k z.1 z.2⟩
def h_ref10_one:Hc:=(.s .a (.s .a (.s .a (.s (.s .a (.c (.s (.j .normal ⟨[(7,.int .i64)],[],[]⟩ (.b (.l ⟨[(7,.int .i64)],[],[]⟩ (.s (.s (.r (.run 5 (.split 23 18 ⟨[(36,.bool)],[],[]⟩ (.run 6 (.split 29 17 ⟨[(35,.bool)],[],[]⟩ .done .done .done)) .done .done))) .a) .a)))) (.s .a (.s (.j .normal ⟨[],[(.loc 8,0,.int .i64)],[]⟩ .a) .a))) .a)) (.s (.s .a (.c (.s (.j .normal ⟨[(7,.int .i64)],[],[]⟩ (.b (.l ⟨[(7,.int .i64)],[],[]⟩ (.s (.s (.r (.run 5 (.split 61 11 ⟨[(67,.bool)],[],[]⟩ .done .done .done))) .a) .a)))) .a) .a)) .a)))))
def tb72:List (Ent U):=E_ref10_one :: tb71
theorem k72:TblOk Y tb72:=TblOk.cons k71 Tryz.func86 h_ref10_one (fun k z=>by kernel_rfl)
def E_ref10_All:Ent U:=⟨63,0,⟨[.str],[],[],.tup (.L [.lst 9,.int .i64,.int .i64]),[],[],[]⟩,fun k z=>ref10_All k z⟩
def h_ref10_All:Hc:=(.s .a (.s .a (.s .a (.s (.j .normal ⟨[(5,.tip (.loc 5))],[],[(.loc 5,9)]⟩ (.s .a (.b (.g (.loc 5) 9 5 none (.l ⟨[(5,.tip (.loc 5)),(6,.int .i64)],[],[(.loc 5,9)]⟩ (.s .a (.b (.s .a (.s .a (.s (.s .a (.c (.s (.j .normal ⟨[(6,.int .i64)],[],[]⟩ (.b (.l ⟨[(6,.int .i64)],[],[]⟩ (.s (.s (.r (.run 5 (.split 31 10 ⟨[(36,.bool)],[],[]⟩ .done .done .done))) .a) .a)))) .a) .a)) .a)))))))))) (.s (.r (.run 4 (.typ 61 9 .done))) .a)))))
def tb73:List (Ent U):=E_ref10_All :: tb72
theorem k73:TblOk Y tb73:=TblOk.cons k72 Tryz.func63 h_ref10_All (fun k z=>by kernel_rfl)
def E_ref02_At:Ent U:=⟨87,0,⟨[.str,.int .i64],[],[],.tup (.L [.int .i64,.int .i64]),[],[],[]⟩,fun k z=>ref02_At k z.1 z.2⟩
def h_ref02_At:Hc:=(.s .a (.s (.j .normal ⟨[(1,.int .i64)],[],[]⟩ .a) (.s (.j .normal ⟨[(1,.int .i64)],[],[]⟩ .a) (.s .a (.s (.j .normal ⟨[(6,.int .i64),(7,.int .i64)],[],[]⟩ (.s .a (.b (.l ⟨[(6,.int .i64),(7,.int .i64),(8,.int .i64)],[],[]⟩ (.s .a (.s (.j .normal ⟨[(6,.int .i64),(7,.int .i64)],[],[]⟩ .a) .a)))))) .a)))))
def tb74:List (Ent U):=E_ref02_At :: tb73
theorem k74:TblOk Y tb74:=TblOk.cons k73 Tryz.func87 h_ref02_At (fun k z=>by kernel_rfl)
def E_ref15_at:Ent U:=⟨64,0,⟨[.str,.int .i64,.int .i64],[],[],.typ 8,[],[],[]⟩,fun k z=>ref15_at k z.1 z.2.1 z.2.2⟩
def h_ref15_at:Hc:=.a
def tb75:List (Ent U):=E_ref15_at :: tb74
theorem k75:TblOk Y tb75:=TblOk.cons k74 Tryz.func64 h_ref15_at (fun k z=>by kernel_rfl)
def E_ref12_mark:Ent U:=⟨114,0,⟨[.typ 9],[],[],.int .i64,[],[],[]⟩,fun k z=>ref12_mark k z⟩
def h_ref12_mark:Hc:=(.s .a (.s .a (.s (.s (.r (.run 4 (.mux 9 8 ⟨[(13,.bool)],[],[]⟩ .done .done (.run 1 (.mux 14 13 ⟨[(18,.bool)],[],[]⟩ .done .done .done))))) .a) (.s (.s (.r (.run 4 (.mux 22 8 ⟨[(26,.bool)],[],[]⟩ .done .done (.run 1 (.mux 27 13 ⟨[(31,.bool)],[],[]⟩ .done .done .done))))) .a) (.s (.s (.r (.run 4 (.mux 35 8 ⟨[(39,.bool)],[],[]⟩ .done .done .done))) .a) .a)))))
def tb76:List (Ent U):=E_ref12_mark :: tb75
theorem k76:TblOk Y tb76:=TblOk.cons k75 Tryz.func114 h_ref12_mark (fun k z=>by kernel_rfl)
def E_ref12_At:Ent U:=⟨88,0,⟨[.lst 9],[],[],.lst 11,[],[],[]⟩,fun k z=>ref12_At k z⟩
def h_ref12_At:Hc:=(.s .a (.s .a (.s .a (.s (.j .normal ⟨[(3,.tip (.loc 3))],[],[(.loc 3,11)]⟩ (.s .a (.b (.g (.loc 3) 11 3 none (.l ⟨[(3,.tip (.loc 3)),(4,.int .i64),(5,.int .i64),(6,.int .i64)],[],[(.loc 3,11)]⟩ (.s .a (.s (.b (.s .a (.s (.j .normal ⟨[(4,.int .i64)],[],[]⟩ .a) (.s (.j .normal ⟨[(4,.int .i64)],[],[]⟩ (.s (.r (.run 3 (.mux 25 6 ⟨[(28,.bool)],[],[]⟩ .done .done .done))) .a)) (.s (.j .normal ⟨[(5,.int .i64)],[],[]⟩ .a) (.r (.run 4 (.typ 38 11 .done)))))))) .a))))))) .a))))
def tb77:List (Ent U):=E_ref12_At :: tb76
theorem k77:TblOk Y tb77:=TblOk.cons k76 Tryz.func88 h_ref12_At (fun k z=>by kernel_rfl)
def E_ref12_Check:Ent U:=⟨65,0,⟨[.lst 9],[],[],.tup (.L [.int .i64,.int .i64]),[],[],[]⟩,fun k z=>ref12_Check k z⟩
def h_ref12_Check:Hc:=(.s .a (.s .a (.s (.j .normal ⟨[],[],[]⟩ (.s .a (.b (.l ⟨[(5,.int .i64)],[],[]⟩ (.s .a (.s (.b (.s (.r (.run 7 (.split 20 14 ⟨[(27,.bool)],[],[]⟩ .done .done .done))) .a)) .a)))))) .a)))
def tb78:List (Ent U):=E_ref12_Check :: tb77
theorem k78:TblOk Y tb78:=TblOk.cons k77 Tryz.func65 h_ref12_Check (fun k z=>by kernel_rfl)
def E_ref13_Tok:Ent U:=⟨115,0,⟨[.lst 9,.int .i64],[],[],.typ 9,[],[],[]⟩,fun k z=>ref13_Tok k z.1 z.2⟩
def h_ref13_Tok:Hc:=(.s .a (.s (.s (.r (.run 3 (.mux 7 8 ⟨[(12,.bool)],[],[]⟩ .done .done .done))) .a) .a))
def tb79:List (Ent U):=E_ref13_Tok :: tb78
theorem k79:TblOk Y tb79:=TblOk.cons k78 Tryz.func115 h_ref13_Tok (fun k z=>by kernel_rfl)
def E_ref13_Says:Ent U:=⟨89,0,⟨[.lst 9,.int .i64,.str],[],[],.bool,[],[],[]⟩,fun k z=>ref13_Says k z.1 z.2.1 z.2.2⟩
def h_ref13_Says:Hc:=(.s .a (.s .a (.s (.r (.run 4 (.mux 14 9 ⟨[(19,.bool)],[],[]⟩ .done .done .done))) .a)))
def tb80:List (Ent U):=E_ref13_Says :: tb79
theorem k80:TblOk Y tb80:=TblOk.cons k79 Tryz.func89 h_ref13_Says (fun k z=>by kernel_rfl)
def E_ref14_fail:Ent U:=⟨92,0,⟨[.int .i64],[],[],.typ 10,[],[],[]⟩,fun k z=>ref14_fail k z⟩
def h_ref14_fail:Hc:=.a
def tb81:List (Ent U):=E_ref14_fail :: tb80
theorem k81:TblOk Y tb81:=TblOk.cons k80 Tryz.func92 h_ref14_fail (fun k z=>by kernel_rfl)
def E_ref13_Is:Ent U:=⟨119,0,⟨[.lst 9,.int .i64,.str],[],[],.bool,[],[],[]⟩,fun k z=>ref13_Is k z.1 z.2.1 z.2.2⟩
def h_ref13_Is:Hc:=(.s .a (.s .a (.s (.r (.run 4 (.mux 14 9 ⟨[(19,.bool)],[],[]⟩ .done .done .done))) .a)))
def tb82:List (Ent U):=E_ref13_Is :: tb81
theorem k82:TblOk Y tb82:=TblOk.cons k81 Tryz.func119 h_ref13_Is (fun k z=>by kernel_rfl)
def E_ref14_closed:Ent U:=⟨135,0,⟨[.lst 9,.typ 10,.typ 0,.str],[],[],.typ 10,[],[],[]⟩,fun k z=>ref14_closed k z.1 z.2.1 z.2.2.1 z.2.2.2⟩
def h_ref14_closed:Hc:=(.s .a (.s (.s (.r (.run 4 (.split 12 11 ⟨[(19,.bool)],[],[]⟩ .done .done .done))) .a) .a))
def tb83:List (Ent U):=E_ref14_closed :: tb82
theorem k83:TblOk Y tb83:=TblOk.cons k82 Tryz.func135 h_ref14_closed (fun k z=>by kernel_rfl)
def E_ref13_Type:Ent U:=⟨136,0,⟨[.lst 9,.int .i64],[],[],.tup (.L [.typ 0,.int .i64,.bool]),[],[],[]⟩,fun k z=>ref13_Type k z.1 z.2⟩
def h_ref13_Type:Hc:=.a
def tb84:List (Ent U):=[E_ref13_Type] ++ tb83
theorem k84:TblOk Y tb84:=TblOk.grp k83 ⟨⟨_,h_ref13_Type,Tryz.func136,fun _=>rfl,fun k z=>by kernel_rfl⟩,trivial⟩
def E_ref14_iso:Ent U:=⟨117,0,⟨[.lst 9,.int .i64,.typ 0],[],[],.typ 10,[],[],[]⟩,fun k z=>ref14_iso k z.1 z.2.1 z.2.2⟩
def h_ref14_iso:Hc:=(.s .a (.s (.j .normal ⟨[(1,.int .i64)],[(.loc 5,2,.int .i64)],[]⟩ (.s (.r (.run 4 (.split 15 10 ⟨[(21,.bool)],[],[]⟩ .done .done .done))) (.c (.s .a (.s (.s (.r (.run 4 (.mux 29 8 ⟨[(33,.bool)],[],[]⟩ .done .done .done))) .a) .a)) .a))) (.s .a (.s .a (.s .a (.s (.j .normal ⟨[(5,.ptr (.loc 5) 0),(9,.int .i64)],[(.loc 5,4,.lst 0)],[]⟩ (.s .a (.c (.s .a (.s .a (.s (.g (.cl (.loc 5) 4) 0 5 (some 4) (.r (.run 7 (.typ 83 0 .done)))) .a))) .a))) .a))))))
def tb85:List (Ent U):=E_ref14_iso :: tb84
theorem k85:TblOk Y tb85:=TblOk.cons k84 Tryz.func117 h_ref14_iso (fun k z=>by kernel_rfl)
def E_ref14_param:Ent U:=⟨134,0,⟨[.lst 9,.int .i64],[],[],.typ 10,[],[],[]⟩,fun k z=>ref14_param k z.1 z.2⟩
def h_ref14_param:Hc:=.a
def tb86:List (Ent U):=E_ref14_param :: tb85
theorem k86:TblOk Y tb86:=TblOk.cons k85 Tryz.func134 h_ref14_param (fun k z=>by kernel_rfl)
def E_ref14_rec_v2:Ent U:=⟨116,1,⟨[.lst 9,.int .i64,.agg (.L [.int .i64,.int .i64,.int .i64,.str,.full 0])],[],[],.typ 10,[],[],[]⟩,fun k z=>ref14_rec_v2 k z.1 z.2.1 z.2.2.1 z.2.2.2.1 z.2.2.2.2.1 z.2.2.2.2.2.1 z.2.2.2.2.2.2⟩
def h_ref14_rec_v2:Hc:=(.s .a (.s .a (.s .a (.b (.g (.cl (.loc 5) 4) 0 5 (some 4) (.l ⟨[(1,.int .i64)],[(.loc 5,4,.tip (.cl (.loc 5) 4))],[(.cl (.loc 5) 4,0)]⟩ (.b (.s .a (.s .a (.s .a (.s (.r (.run 4 (.typ 32 0 .done))) .a)))))))))))
def tb87:List (Ent U):=E_ref14_rec_v2 :: tb86
theorem k87:TblOk Y tb87:=TblOk.cons k86 Tryz.func116 h_ref14_rec_v2 (fun k z=>by kernel_rfl)
end Go.Proofs.YtjojaiomgdjhfaaGreatDoor.SY
