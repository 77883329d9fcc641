/- The code of these functions comes to what the printed functions answer. Printed by wip/sy/gs.py. No condition. -/
import Derived.Test.YtjakhfaodfaimaaGreatDoorZPE0
set_option linter.unusedVariables false
set_option maxRecDepth 100000
namespace Go.Proofs.YtjakhfaodfaimaaGreatDoor.SY
open Go AE F
def E_ref14_fun_v2 : Ent U := ⟨62, 1, ⟨[.lst 4, .int .i64, .agg (.L [.int .i64, .int .i64, .int .i64, .str, .full 1])], [], [], .typ 5, [], []⟩, fun k z => ref14_fun_v2 k z.1 z.2.1 z.2.2.1 z.2.2.2.1 z.2.2.2.2.1 z.2.2.2.2.2.1 z.2.2.2.2.2.2⟩
def h_ref14_fun_v2 : Hc := (.s .a (.s .a (.s .a (.s (.s (.r (.run 4 (.split 21 8 ⟨[(25, .bool)], [], []⟩ .done .done .done))) (.c (.s (.r (.run 4 (.call 1 .done))) .a) .a)) (.b (.g (.cl (.loc 5) 4) 1 5 (some 4) (.l ⟨[(1, .int .i64)], [(.loc 5, 4, .tip (.cl (.loc 5) 4))], [(.cl (.loc 5) 4, 1)]⟩ (.b (.s .a (.s .a (.s (.r (.run 4 (.typ 41 1 .done))) (.s .a (.s (.r (.run 4 (.mux 50 9 ⟨[(55, .bool)], [], []⟩ .done .done .done))) (.s (.r (.run 4 (.mux 59 9 ⟨[(64, .bool)], [], []⟩ .done .done .done))) (.s (.s (.r (.run 2 (.split 66 6 ⟨[(70, .bool)], [], []⟩ .done .done .done))) (.c (.s (.r (.run 4 (.keep 2 .done))) .a) .a)) (.s (.s (.r (.run 3 (.split 78 8 ⟨[(83, .bool)], [], []⟩ .done .done .done))) .a) .a))))))))))))))))
def tb102 : List (Ent U) := E_ref14_fun_v2 :: tb101
theorem k102 : TblOk Y tb102 := TblOk.cons k101 Tryz.func62 h_ref14_fun_v2 (fun k z => by kernel_rfl)
def E_ref14_Decl : Ent U := ⟨35, 0, ⟨[.lst 4, .int .i64], [], [], .typ 5, [], []⟩, fun k z => ref14_Decl k z.1 z.2⟩
def h_ref14_Decl : Hc := (.s .a (.s .a (.s .a (.s (.j .normal ⟨[(6, .int .i64)], [], []⟩ (.b (.l ⟨[(6, .int .i64)], [], []⟩ (.s (.s (.r (.run 3 (.split 12 12 ⟨[(21, .bool)], [], []⟩ .done .done .done))) .a) .a)))) (.s .a (.s .a (.s .a (.s .a (.s (.s .a (.c (.s (.r (.run 4 (.call 1 .done))) .a) .a)) (.s .a (.s (.r (.run 4 (.call 1 .done))) .a)))))))))))
def tb103 : List (Ent U) := E_ref14_Decl :: tb102
theorem k103 : TblOk Y tb103 := TblOk.cons k102 Tryz.func35 h_ref14_Decl (fun k z => by kernel_rfl)
def E_ref14_Prog : Ent U := ⟨18, 0, ⟨[.lst 4], [], [], .typ 5, [], []⟩, fun k z => ref14_Prog k z⟩
def h_ref14_Prog : Hc := (.s .a (.s .a (.s .a (.s (.j .normal ⟨[(3, .ptr (.loc 3) 0), (4, .int .i64)], [(.loc 3, 4, .tip (.cl (.loc 3) 4))], [(.cl (.loc 3) 4, 1)]⟩ (.b (.g (.cl (.loc 3) 4) 1 3 (some 4) (.l ⟨[(4, .int .i64)], [(.loc 3, 4, .tip (.cl (.loc 3) 4))], [(.cl (.loc 3) 4, 1)]⟩ (.s .a (.b (.s .a (.s .a (.s (.r (.run 4 (.typ 22 1 .done))) .a))))))))) (.s .a (.s .a (.s (.r (.run 4 (.typ 39 1 .done))) (.s (.s (.r (.run 7 (.split 49 15 ⟨[(57, .bool)], [], []⟩ .done .done .done))) .a) .a))))))))
def tb104 : List (Ent U) := E_ref14_Prog :: tb103
theorem k104 : TblOk Y tb104 := TblOk.cons k103 Tryz.func18 h_ref14_Prog (fun k z => by kernel_rfl)
def E_ref15_Prog : Ent U := ⟨8, 0, ⟨[.str], [], [], .typ 3, [], []⟩, fun k z => ref15_Prog k z⟩
def h_ref15_Prog : Hc := .a
def tb105 : List (Ent U) := E_ref15_Prog :: tb104
theorem k105 : TblOk Y tb105 := TblOk.cons k104 Tryz.func8 h_ref15_Prog (fun k z => by kernel_rfl)
def E_ref13_Placed : Ent U := ⟨14, 0, ⟨[.typ 1, .typ 1], [], [], .bool, [], []⟩, fun k z => ref13_Placed k z.1 z.2⟩
def h_ref13_Placed : Hc := (.s .a (.s (.s (.r (.run 6 (.mux 11 12 ⟨[(17, .bool)], [], []⟩ .done .done (.run 1 (.mux 18 19 ⟨[(24, .bool)], [], []⟩ .done .done (.run 1 (.mux 25 26 ⟨[(31, .bool)], [], []⟩ .done .done (.run 1 (.mux 32 35 ⟨[(40, .bool)], [], []⟩ .done .done .done))))))))) .a) (.s (.j .normal ⟨[], [], []⟩ (.s .a (.b (.l ⟨[(5, .int .i64)], [], []⟩ .a)))) .a)))
def tb106 : List (Ent U) := [E_ref13_Placed] ++ tb105
theorem k106 : TblOk Y tb106 := TblOk.grp k105 ⟨⟨_, h_ref13_Placed, Tryz.func14, fun _ => rfl, fun k z => by kernel_rfl⟩, trivial⟩
def E_law15_same : Ent U := ⟨7, 0, ⟨[.typ 1, .typ 2, .typ 3], [], [], .bool, [], []⟩, fun k z => law15_same k z.1 z.2.1 z.2.2⟩
def h_law15_same : Hc := (.s .a (.s (.r (.run 5 (.mux 11 11 ⟨[(17, .bool)], [], []⟩ .done .done (.run 1 (.mux 18 18 ⟨[(24, .bool)], [], []⟩ .done .done (.run 1 (.mux 25 25 ⟨[(31, .bool)], [], []⟩ .done .done (.run 1 (.mux 32 32 ⟨[(38, .bool)], [], []⟩ .done .done .done))))))))) .a))
def tb107 : List (Ent U) := E_law15_same :: tb106
theorem k107 : TblOk Y tb107 := TblOk.cons k106 Tryz.func7 h_law15_same (fun k z => by kernel_rfl)
def E_ref15_Expr : Ent U := ⟨9, 0, ⟨[.str], [], [], .typ 3, [], []⟩, fun k z => ref15_Expr k z⟩
def h_ref15_Expr : Hc := (.s .a (.s .a (.s .a (.s .a (.s .a (.s .a (.s (.s (.r (.run 3 (.split 40 10 ⟨[(47, .bool)], [], []⟩ .done .done .done))) .a) .a)))))))
def tb108 : List (Ent U) := E_ref15_Expr :: tb107
theorem k108 : TblOk Y tb108 := TblOk.cons k107 Tryz.func9 h_ref15_Expr (fun k z => by kernel_rfl)
def E_law15_ParseReads : Ent U := ⟨3, 0, ⟨[.str], [], [], .bool, [], []⟩, fun k z => law15_ParseReads k z⟩
def h_law15_ParseReads : Hc := (.s .a (.s (.s (.r (.run 3 (.mux 9 7 ⟨[(13, .bool)], [], []⟩ .done .done .done))) .a) (.s .a (.s .a (.s (.r (.run 6 (.split 30 12 ⟨[(36, .bool)], [], []⟩ .done .done .done))) .a)))))
def tb109 : List (Ent U) := E_law15_ParseReads :: tb108
theorem k109 : TblOk Y tb109 := TblOk.cons k108 Tryz.func3 h_law15_ParseReads (fun k z => by kernel_rfl)
end Go.Proofs.YtjakhfaodfaimaaGreatDoor.SY
