/- The code of these functions comes to what the printed functions answer. Printed by wip/sy/gs.py. No condition. -/
import Derived.Test.YtjakhfaodfaimaaGreatDoorZX0
set_option linter.unusedVariables false
set_option maxRecDepth 100000
namespace Go.Proofs.YtjakhfaodfaimaaGreatDoor.SY
open Go AE F
def tb0 : List (Ent U) := []
theorem k0 : TblOk Y tb0 := TblOk.nil
def E_lex_lexer_skip_1 : Ent U := ⟨68, 0, ⟨[.int .u8], [], [], .bool, [], []⟩, fun k z => lex_lexer_skip_1 k z⟩
def h_lex_lexer_skip_1 : Hc := .a
def tb1 : List (Ent U) := E_lex_lexer_skip_1 :: tb0
theorem k1 : TblOk Y tb1 := TblOk.cons k0 Tryz.func68 h_lex_lexer_skip_1 (fun k z => by kernel_rfl)
def E_lex_lexer_run : Ent U := ⟨67, 0, ⟨[.ptr (.ext 0) 0, .fn 68 (.L []) (.L [])], [[.str, .int .i64]], [], .int .i64, [], []⟩, fun k z => lex_lexer_run k z.1 z.2⟩
def h_lex_lexer_run : Hc := (.s .a (.s .a (.s (.j .normal ⟨[(5, .int .i64)], [], []⟩ (.b (.l ⟨[(5, .int .i64)], [], []⟩ (.s (.s (.r (.run 13 (.split 18 27 ⟨[(32, .bool)], [], []⟩ .done .done .done))) .a) .a)))) .a)))
def tb2 : List (Ent U) := E_lex_lexer_run :: tb1
theorem k2 : TblOk Y tb2 := TblOk.cons k1 Tryz.func67 h_lex_lexer_run (fun k z => by kernel_rfl)
def E_lex_lexer_skip : Ent U := ⟨39, 0, ⟨[.ptr (.ext 0) 0], [[.str, .int .i64]], [], .unit, [(.ext 0, 1, .int .i64)], []⟩, fun k z => lex_lexer_skip k z.1 z.2⟩
def h_lex_lexer_skip : Hc := (.b (.l ⟨[], [(.ext 0, 1, .int .i64)], []⟩ (.s .a (.b (.s .a (.b (.s (.j .normal ⟨[(21, .bool)], [], []⟩ .a) .a)))))))
def tb3 : List (Ent U) := E_lex_lexer_skip :: tb2
theorem k3 : TblOk Y tb3 := TblOk.cons k2 Tryz.func39 h_lex_lexer_skip (fun k z => by kernel_rfl)
def E_lex_letter : Ent U := ⟨69, 0, ⟨[.int .u8], [], [], .bool, [], []⟩, fun k z => lex_letter k z⟩
def h_lex_letter : Hc := (.s .a (.s (.r (.run 3 (.mux 5 12 ⟨[(14, .bool)], [], []⟩ .done (.run 4 (.mux 9 11 ⟨[(13, .bool)], [], []⟩ .done .done .done)) .done))) .a))
def tb4 : List (Ent U) := E_lex_letter :: tb3
theorem k4 : TblOk Y tb4 := TblOk.cons k3 Tryz.func69 h_lex_letter (fun k z => by kernel_rfl)
def E_lex_digit : Ent U := ⟨71, 0, ⟨[.int .u8], [], [], .bool, [], []⟩, fun k z => lex_digit k z⟩
def h_lex_digit : Hc := (.s .a (.s (.r (.run 3 (.mux 5 6 ⟨[(8, .bool)], [], []⟩ .done .done .done))) .a))
def tb5 : List (Ent U) := E_lex_digit :: tb4
theorem k5 : TblOk Y tb5 := TblOk.cons k4 Tryz.func71 h_lex_digit (fun k z => by kernel_rfl)
def E_lex_lexer_next_1 : Ent U := ⟨70, 0, ⟨[.int .u8], [], [], .bool, [], []⟩, fun k z => lex_lexer_next_1 k z⟩
def h_lex_lexer_next_1 : Hc := (.s .a (.s (.r (.run 3 (.split 5 6 ⟨[(8, .bool)], [], []⟩ .done .done .done))) .a))
def tb6 : List (Ent U) := E_lex_lexer_next_1 :: tb5
theorem k6 : TblOk Y tb6 := TblOk.cons k5 Tryz.func70 h_lex_lexer_next_1 (fun k z => by kernel_rfl)
def E_lex_lexer_run_v2 : Ent U := ⟨67, 1, ⟨[.ptr (.ext 0) 0, .fn 70 (.L []) (.L [])], [[.str, .int .i64]], [], .int .i64, [], []⟩, fun k z => lex_lexer_run_v2 k z.1 z.2⟩
def h_lex_lexer_run_v2 : Hc := (.s .a (.s .a (.s (.j .normal ⟨[(5, .int .i64)], [], []⟩ (.b (.l ⟨[(5, .int .i64)], [], []⟩ (.s (.s (.r (.run 13 (.split 18 27 ⟨[(32, .bool)], [], []⟩ .done .done .done))) .a) .a)))) .a)))
def tb7 : List (Ent U) := E_lex_lexer_run_v2 :: tb6
theorem k7 : TblOk Y tb7 := TblOk.cons k6 Tryz.func67 h_lex_lexer_run_v2 (fun k z => by kernel_rfl)
def tb8 : List (Ent U) := E_strings_Fields :: tb7
theorem k8 : TblOk Y tb8 := TblOk.ext k7 ok_strings_Fields
def E_word_All : Ent U := ⟨101, 0, ⟨[], [], [], .lst 0, [], []⟩, fun k z => word_All k⟩
def h_word_All : Hc := .a
def tb9 : List (Ent U) := E_word_All :: tb8
theorem k9 : TblOk Y tb9 := TblOk.cons k8 Tryz.func101 h_word_All (fun k z => by kernel_rfl)
def E_slices_Index_string : Ent U := ⟨114, 0, ⟨[.lst 0, .str], [], [], .int .i64, [], []⟩, fun k z => slices_Index_string k z.1 z.2⟩
def h_slices_Index_string : Hc := (.s .a (.s (.j .normal ⟨[], [], []⟩ (.s .a (.b (.l ⟨[(8, .int .i64)], [], []⟩ .a)))) .a))
def tb10 : List (Ent U) := E_slices_Index_string :: tb9
theorem k10 : TblOk Y tb10 := TblOk.cons k9 Tryz.func114 h_slices_Index_string (fun k z => by kernel_rfl)
def E_slices_Contains_string : Ent U := ⟨100, 0, ⟨[.lst 0, .str], [], [], .bool, [], []⟩, fun k z => slices_Contains_string k z.1 z.2⟩
def h_slices_Contains_string : Hc := .a
def tb11 : List (Ent U) := E_slices_Contains_string :: tb10
theorem k11 : TblOk Y tb11 := TblOk.cons k10 Tryz.func100 h_slices_Contains_string (fun k z => by kernel_rfl)
def E_word_Is : Ent U := ⟨72, 0, ⟨[.str], [], [], .bool, [], []⟩, fun k z => word_Is k z⟩
def h_word_Is : Hc := .a
def tb12 : List (Ent U) := E_word_Is :: tb11
theorem k12 : TblOk Y tb12 := TblOk.cons k11 Tryz.func72 h_word_Is (fun k z => by kernel_rfl)
def E_lex_lexer_run_v3 : Ent U := ⟨67, 2, ⟨[.ptr (.ext 0) 0, .fn 71 (.L []) (.L [])], [[.str, .int .i64]], [], .int .i64, [], []⟩, fun k z => lex_lexer_run_v3 k z.1 z.2⟩
def h_lex_lexer_run_v3 : Hc := (.s .a (.s .a (.s (.j .normal ⟨[(5, .int .i64)], [], []⟩ (.b (.l ⟨[(5, .int .i64)], [], []⟩ (.s (.s (.r (.run 13 (.split 18 27 ⟨[(32, .bool)], [], []⟩ .done .done .done))) .a) .a)))) .a)))
def tb13 : List (Ent U) := E_lex_lexer_run_v3 :: tb12
theorem k13 : TblOk Y tb13 := TblOk.cons k12 Tryz.func67 h_lex_lexer_run_v3 (fun k z => by kernel_rfl)
def E_whole_Read : Ent U := ⟨73, 0, ⟨[.str], [], [], .tup (.L [.int .i64, .int .i64]), [], []⟩, fun k z => whole_Read k z⟩
def h_whole_Read : Hc := (.s .a (.s .a (.s .a (.s (.j .normal ⟨[(4, .int .i64), (5, .bool)], [], []⟩ (.s .a (.b (.l ⟨[(4, .int .i64), (5, .bool), (15, .int .i64)], [], []⟩ (.s .a (.s .a (.s (.j .normal ⟨[(4, .int .i64), (5, .bool)], [], []⟩ (.b (.s .a (.s (.s (.r (.run 3 (.mux 21 6 ⟨[(24, .bool)], [], []⟩ .done .done .done))) .a) (.s .a (.s (.r (.run 2 (.mux 29 8 ⟨[(35, .bool)], [], []⟩ .done .done .done))) .a)))))) .a))))))) .a))))
def tb14 : List (Ent U) := E_whole_Read :: tb13
theorem k14 : TblOk Y tb14 := TblOk.cons k13 Tryz.func73 h_whole_Read (fun k z => by kernel_rfl)
def E_word_Sign : Ent U := ⟨86, 0, ⟨[.str], [], [], .tup (.L [.int .i64, .bool]), [], []⟩, fun k z => word_Sign k z⟩
def h_word_Sign : Hc := (.s .a (.s (.j .normal ⟨[], [], []⟩ (.s .a (.b (.l ⟨[(7, .int .i64)], [], []⟩ (.s .a (.s .a (.s (.b (.s .a (.s (.r (.run 3 (.mux 13 7 ⟨[(17, .bool)], [], []⟩ .done .done .done))) .a))) .a))))))) .a))
def tb15 : List (Ent U) := E_word_Sign :: tb14
theorem k15 : TblOk Y tb15 := TblOk.cons k14 Tryz.func86 h_word_Sign (fun k z => by kernel_rfl)
def tb16 : List (Ent U) := E_strings_IndexByte :: tb15
theorem k16 : TblOk Y tb16 := TblOk.ext k15 ok_strings_IndexByte
def E_word_Mark : Ent U := ⟨74, 0, ⟨[.str], [], [], .str, [], []⟩, fun k z => word_Mark k z⟩
def h_word_Mark : Hc := (.s .a (.s (.j .normal ⟨[], [], []⟩ .a) (.s (.s (.r (.run 3 (.split 19 8 ⟨[(24, .bool)], [], []⟩ .done .done .done))) .a) .a)))
def tb17 : List (Ent U) := E_word_Mark :: tb16
theorem k17 : TblOk Y tb17 := TblOk.cons k16 Tryz.func74 h_word_Mark (fun k z => by kernel_rfl)
def E_lex_lexer_next : Ent U := ⟨40, 0, ⟨[.ptr (.ext 0) 0], [[.str, .int .i64]], [], .tup (.L [.typ 4, .int .i64]), [(.ext 0, 1, .int .i64)], []⟩, fun k z => lex_lexer_next k z.1 z.2⟩
def h_lex_lexer_next : Hc := (.s .a (.s .a (.s .a (.s .a (.s (.j .normal ⟨[(5, .int .i64), (6, .int .i64)], [(.loc 4, 0, .int .i64), (.loc 4, 2, .int .i64)], []⟩ (.s .a (.b (.s .a (.c (.s (.r (.run 1 (.call 1 .done))) (.s .a (.s (.j .normal ⟨[], [(.loc 4, 0, .int .i64)], []⟩ .a) .a))) (.s .a (.c (.s (.r (.run 1 (.call 2 .done))) .a) .a))))))) .a)))))
def tb18 : List (Ent U) := E_lex_lexer_next :: tb17
theorem k18 : TblOk Y tb18 := TblOk.cons k17 Tryz.func40 h_lex_lexer_next (fun k z => by kernel_rfl)
def E_lex_All : Ent U := ⟨20, 0, ⟨[.str], [], [], .tup (.L [.lst 4, .int .i64, .int .i64]), [], []⟩, fun k z => lex_All k z⟩
def h_lex_All : Hc := (.s .a (.s .a (.s .a (.s .a (.b (.g (.loc 6) 4 6 none (.l ⟨[(6, .tip (.loc 6))], [(.loc 5, 1, .int .i64)], [(.loc 6, 4)]⟩ .a)))))))
def tb19 : List (Ent U) := E_lex_All :: tb18
theorem k19 : TblOk Y tb19 := TblOk.cons k18 Tryz.func20 h_lex_All (fun k z => by kernel_rfl)
def E_place_Of : Ent U := ⟨41, 0, ⟨[.str], [], [], .opt 8, [], []⟩, fun k z => place_Of k z⟩
def h_place_Of : Hc := (.s .a (.s .a (.s (.j .normal ⟨[(3, .ptr (.loc 8) 0)], [(.loc 8, 1, .tip (.cl (.loc 8) 1))], [(.cl (.loc 8) 1, 6)]⟩ (.s .a (.b (.g (.cl (.loc 8) 1) 6 3 (some 1) (.l ⟨[(11, .int .i64)], [(.loc 8, 1, .tip (.cl (.loc 8) 1))], [(.cl (.loc 8) 1, 6)]⟩ (.s .a (.s .a (.s (.j .normal ⟨[], [(.loc 8, 1, .tip (.cl (.loc 8) 1))], [(.cl (.loc 8) 1, 6)]⟩ .a) .a)))))))) .a)))
def tb20 : List (Ent U) := E_place_Of :: tb19
theorem k20 : TblOk Y tb20 := TblOk.cons k19 Tryz.func41 h_place_Of (fun k z => by kernel_rfl)
def E_place_Lines_At_1 : Ent U := ⟨76, 0, ⟨[.int .i64, .ptr (.ext 0) 0, .ptr (.ext 1) 0], [[.opt 8], [.int .i64]], [], .bool, [], []⟩, fun k z => place_Lines_At_1 k z.1 z.2.1 z.2.2⟩
def h_place_Lines_At_1 : Hc := .a
def tb21 : List (Ent U) := E_place_Lines_At_1 :: tb20
theorem k21 : TblOk Y tb21 := TblOk.cons k20 Tryz.func76 h_place_Lines_At_1 (fun k z => by kernel_rfl)
def E_sort_Search : Ent U := ⟨75, 0, ⟨[.int .i64, .fn 76 (.L []) (.L [.ptr (.ext 0) 0, .ptr (.ext 1) 0])], [[.opt 8], [.int .i64]], [], .int .i64, [], []⟩, fun k z => sort_Search k z.1 z.2.1 z.2.2⟩
def h_sort_Search : Hc := (.s .a (.s .a (.s (.j .normal ⟨[(5, .int .i64)], [], []⟩ (.b (.l ⟨[(5, .int .i64), (6, .int .i64)], [], []⟩ .a))) .a)))
def tb22 : List (Ent U) := E_sort_Search :: tb21
theorem k22 : TblOk Y tb22 := TblOk.cons k21 Tryz.func75 h_sort_Search (fun k z => by kernel_rfl)
def E_place_Lines_At : Ent U := ⟨42, 0, ⟨[.opt 8, .int .i64], [], [], .tup (.L [.int .i64, .int .i64]), [], []⟩, fun k z => place_Lines_At k z.1 z.2⟩
def h_place_Lines_At : Hc := .a
def tb23 : List (Ent U) := E_place_Lines_At :: tb22
theorem k23 : TblOk Y tb23 := TblOk.cons k22 Tryz.func42 h_place_Lines_At (fun k z => by kernel_rfl)
def E_parse_fault : Ent U := ⟨21, 0, ⟨[.str, .int .i64, .int .i64], [], [], .tup (.L [.typ 1, .typ 2]), [], []⟩, fun k z => parse_fault k z.1 z.2.1 z.2.2⟩
def h_parse_fault : Hc := .a
def tb24 : List (Ent U) := E_parse_fault :: tb23
theorem k24 : TblOk Y tb24 := TblOk.cons k23 Tryz.func21 h_parse_fault (fun k z => by kernel_rfl)
def E_nest_depth_behind : Ent U := ⟨43, 0, ⟨[.typ 9, .typ 4], [], [], .typ 9, [], []⟩, fun k z => nest_depth_behind k z.1 z.2⟩
def h_nest_depth_behind : Hc := (.s .a (.s .a (.s (.j .normal ⟨[(5, .str)], [], []⟩ .a) (.s (.s .a (.b (.s (.j .normal ⟨[(12, .bool)], [], []⟩ .a) (.c .a (.s (.j .normal ⟨[(21, .bool)], [], []⟩ .a) (.c .a (.s (.j .normal ⟨[(29, .bool)], [], []⟩ .a) .a))))))) .a))))
def tb25 : List (Ent U) := E_nest_depth_behind :: tb24
theorem k25 : TblOk Y tb25 := TblOk.cons k24 Tryz.func43 h_nest_depth_behind (fun k z => by kernel_rfl)
def E_nest_Check : Ent U := ⟨22, 0, ⟨[.lst 4], [], [], .tup (.L [.int .i64, .int .i64]), [], []⟩, fun k z => nest_Check k z⟩
def h_nest_Check : Hc := (.s .a (.s .a (.s (.j .normal ⟨[], [(.loc 4, 0, .typ 9)], []⟩ (.s .a (.b (.l ⟨[(9, .int .i64)], [(.loc 4, 0, .typ 9)], []⟩ (.s .a (.s .a (.s (.b (.s .a (.s .a (.s (.r (.run 4 (.mux 19 8 ⟨[(23, .bool)], [], []⟩ .done .done .done))) .a)))) .a))))))) .a)))
def tb26 : List (Ent U) := E_nest_Check :: tb25
theorem k26 : TblOk Y tb26 := TblOk.cons k25 Tryz.func22 h_nest_Check (fun k z => by kernel_rfl)
def E_stmt_cursor_look : Ent U := ⟨26, 0, ⟨[.ptr (.ext 0) 0], [[.lst 4, .int .i64, .bool]], [], .typ 4, [], []⟩, fun k z => stmt_cursor_look k z.1 z.2.1 z.2.2⟩
def h_stmt_cursor_look : Hc := (.s .a (.s (.s (.r (.run 6 (.mux 8 17 ⟨[(19, .bool)], [], []⟩ .done .done .done))) .a) .a))
def tb27 : List (Ent U) := E_stmt_cursor_look :: tb26
theorem k27 : TblOk Y tb27 := TblOk.cons k26 Tryz.func26 h_stmt_cursor_look (fun k z => by kernel_rfl)
def E_stmt_cursor_is : Ent U := ⟨44, 0, ⟨[.ptr (.ext 0) 0, .int .i64, .str], [[.lst 4, .int .i64, .bool]], [], .bool, [], []⟩, fun k z => stmt_cursor_is k z.1 z.2.1 z.2.2.1 z.2.2.2.1 z.2.2.2.2⟩
def h_stmt_cursor_is : Hc := (.s .a (.s .a (.s (.r (.run 6 (.mux 15 11 ⟨[(20, .bool)], [], []⟩ .done .done (.run 1 (.mux 21 17 ⟨[(26, .bool)], [], []⟩ .done .done .done))))) .a)))
def tb28 : List (Ent U) := E_stmt_cursor_is :: tb27
theorem k28 : TblOk Y tb28 := TblOk.cons k27 Tryz.func44 h_stmt_cursor_is (fun k z => by kernel_rfl)
def E_stmt_cursor_takes : Ent U := ⟨23, 0, ⟨[.ptr (.ext 0) 0, .int .i64, .str], [[.lst 4, .int .i64, .bool]], [], .bool, [(.ext 0, 1, .int .i64)], []⟩, fun k z => stmt_cursor_takes k z.1 z.2.1 z.2.2.1 z.2.2.2.1 z.2.2.2.2⟩
def h_stmt_cursor_takes : Hc := .a
def tb29 : List (Ent U) := E_stmt_cursor_takes :: tb28
theorem k29 : TblOk Y tb29 := TblOk.cons k28 Tryz.func23 h_stmt_cursor_takes (fun k z => by kernel_rfl)
def E_stmt_cursor_name : Ent U := ⟨45, 0, ⟨[.ptr (.ext 0) 0], [[.lst 4, .int .i64, .bool]], [], .tup (.L [.str, .int .i64]), [(.ext 0, 1, .int .i64), (.ext 0, 2, .bool)], []⟩, fun k z => stmt_cursor_name k z.1 z.2.1 z.2.2⟩
def h_stmt_cursor_name : Hc := (.s .a (.s .a (.s (.s (.r (.run 5 (.mux 11 9 ⟨[(15, .bool)], [], []⟩ .done .done .done))) .a) .a)))
def tb30 : List (Ent U) := E_stmt_cursor_name :: tb29
theorem k30 : TblOk Y tb30 := TblOk.cons k29 Tryz.func45 h_stmt_cursor_name (fun k z => by kernel_rfl)
def E_stmt_cursor_wants : Ent U := ⟨50, 0, ⟨[.ptr (.ext 0) 0, .lst 0], [[.lst 4, .int .i64, .bool]], [], .unit, [(.ext 0, 1, .int .i64), (.ext 0, 2, .bool)], []⟩, fun k z => stmt_cursor_wants k z.1 z.2.1 z.2.2.1 z.2.2.2⟩
def h_stmt_cursor_wants : Hc := (.s .a (.b (.l ⟨[(8, .int .i64)], [(.ext 0, 1, .int .i64), (.ext 0, 2, .bool)], []⟩ (.s .a (.s .a (.s (.b (.s .a (.r (.run 6 (.mux 17 11 ⟨[(22, .bool)], [], []⟩ .done .done .done))))) .a))))))
def tb31 : List (Ent U) := E_stmt_cursor_wants :: tb30
theorem k31 : TblOk Y tb31 := TblOk.cons k30 Tryz.func50 h_stmt_cursor_wants (fun k z => by kernel_rfl)
def E_expr_reader_end : Ent U := ⟨28, 0, ⟨[.ptr (.ext 0) 0, .typ 1], [[.lst 4, .int .i64, .bool]], [], .tup (.L [.typ 1, .int .i64, .int .i64]), [], []⟩, fun k z => expr_reader_end k z.1 z.2.1 z.2.2.1 z.2.2.2⟩
def h_expr_reader_end : Hc := .a
def tb32 : List (Ent U) := E_expr_reader_end :: tb31
theorem k32 : TblOk Y tb32 := TblOk.cons k31 Tryz.func28 h_expr_reader_end (fun k z => by kernel_rfl)
def E_expr_reader_look : Ent U := ⟨54, 0, ⟨[.ptr (.ext 0) 0], [[.lst 4, .int .i64, .bool]], [], .typ 4, [], []⟩, fun k z => expr_reader_look k z.1 z.2.1 z.2.2⟩
def h_expr_reader_look : Hc := (.s .a (.s (.s (.r (.run 6 (.mux 8 17 ⟨[(19, .bool)], [], []⟩ .done .done .done))) .a) .a))
def tb33 : List (Ent U) := E_expr_reader_look :: tb32
theorem k33 : TblOk Y tb33 := TblOk.cons k32 Tryz.func54 h_expr_reader_look (fun k z => by kernel_rfl)
def E_expr_reader_is : Ent U := ⟨108, 0, ⟨[.ptr (.ext 0) 0, .int .i64, .str], [[.lst 4, .int .i64, .bool]], [], .bool, [], []⟩, fun k z => expr_reader_is k z.1 z.2.1 z.2.2.1 z.2.2.2.1 z.2.2.2.2⟩
def h_expr_reader_is : Hc := (.s .a (.s .a (.s (.r (.run 5 (.mux 14 10 ⟨[(19, .bool)], [], []⟩ .done .done .done))) .a)))
def tb34 : List (Ent U) := E_expr_reader_is :: tb33
theorem k34 : TblOk Y tb34 := TblOk.cons k33 Tryz.func108 h_expr_reader_is (fun k z => by kernel_rfl)
def E_expr_reader_takes : Ent U := ⟨83, 0, ⟨[.ptr (.ext 0) 0, .str], [[.lst 4, .int .i64, .bool]], [], .bool, [(.ext 0, 1, .int .i64)], []⟩, fun k z => expr_reader_takes k z.1 z.2.1 z.2.2.1 z.2.2.2⟩
def h_expr_reader_takes : Hc := (.s .a (.s (.s (.r (.run 5 (.split 9 10 ⟨[(14, .bool)], [], []⟩ .done .done .done))) .a) .a))
def tb35 : List (Ent U) := E_expr_reader_takes :: tb34
theorem k35 : TblOk Y tb35 := TblOk.cons k34 Tryz.func83 h_expr_reader_takes (fun k z => by kernel_rfl)
def E_expr_reader_wants : Ent U := ⟨110, 0, ⟨[.ptr (.ext 0) 0, .str], [[.lst 4, .int .i64, .bool]], [], .unit, [(.ext 0, 1, .int .i64), (.ext 0, 2, .bool)], []⟩, fun k z => expr_reader_wants k z.1 z.2.1 z.2.2.1 z.2.2.2⟩
def h_expr_reader_wants : Hc := (.r (.run 6 (.mux 9 11 ⟨[(14, .bool)], [], []⟩ .done .done .done)))
def tb36 : List (Ent U) := E_expr_reader_wants :: tb35
theorem k36 : TblOk Y tb36 := TblOk.cons k35 Tryz.func110 h_expr_reader_wants (fun k z => by kernel_rfl)
def E_expr_reader_name : Ent U := ⟨111, 0, ⟨[.ptr (.ext 0) 0], [[.lst 4, .int .i64, .bool]], [], .str, [(.ext 0, 1, .int .i64), (.ext 0, 2, .bool)], []⟩, fun k z => expr_reader_name k z.1 z.2.1 z.2.2⟩
def h_expr_reader_name : Hc := (.s .a (.s .a (.s (.s (.r (.run 5 (.mux 10 9 ⟨[(14, .bool)], [], []⟩ .done .done .done))) .a) .a)))
def tb37 : List (Ent U) := E_expr_reader_name :: tb36
theorem k37 : TblOk Y tb37 := TblOk.cons k36 Tryz.func111 h_expr_reader_name (fun k z => by kernel_rfl)
def E_expr_reader_kind : Ent U := ⟨103, 0, ⟨[.ptr (.ext 0) 0], [[.lst 4, .int .i64, .bool]], [], .typ 1, [(.ext 0, 1, .int .i64), (.ext 0, 2, .bool)], []⟩, fun k z => expr_reader_kind k z.1 z.2.1 z.2.2⟩
def h_expr_reader_kind : Hc := (.s .a (.s .a (.s .a (.s (.j .normal ⟨[], [(.ext 0, 1, .int .i64), (.loc 4, 0, .int .i64)], []⟩ .a) .a))))
def tb38 : List (Ent U) := [E_expr_reader_kind] ++ tb37
theorem k38 : TblOk Y tb38 := TblOk.grp k37 ⟨⟨_, h_expr_reader_kind, Tryz.func103, fun _ => rfl, fun k z => by kernel_rfl⟩, trivial⟩
def E_expr_Type : Ent U := ⟨80, 0, ⟨[.lst 4, .int .i64], [], [], .tup (.L [.typ 1, .int .i64, .int .i64]), [], []⟩, fun k z => expr_Type k z.1 z.2⟩
def h_expr_Type : Hc := .a
def tb39 : List (Ent U) := E_expr_Type :: tb38
theorem k39 : TblOk Y tb39 := TblOk.cons k38 Tryz.func80 h_expr_Type (fun k z => by kernel_rfl)
def E_stmt_cursor_part : Ent U := ⟨79, 0, ⟨[.ptr (.ext 0) 0, .fn 80 (.L []) (.L [])], [[.lst 4, .int .i64, .bool]], [], .typ 1, [(.ext 0, 1, .int .i64), (.ext 0, 2, .bool)], []⟩, fun k z => stmt_cursor_part k z.1 z.2.1 z.2.2⟩
def h_stmt_cursor_part : Hc := .a
def tb40 : List (Ent U) := E_stmt_cursor_part :: tb39
theorem k40 : TblOk Y tb40 := TblOk.cons k39 Tryz.func79 h_stmt_cursor_part (fun k z => by kernel_rfl)
def E_stmt_cursor_param : Ent U := ⟨77, 0, ⟨[.ptr (.ext 0) 0], [[.lst 4, .int .i64, .bool]], [], .typ 1, [(.ext 0, 1, .int .i64), (.ext 0, 2, .bool)], []⟩, fun k z => stmt_cursor_param k z.1 z.2.1 z.2.2⟩
def h_stmt_cursor_param : Hc := .a
def tb41 : List (Ent U) := E_stmt_cursor_param :: tb40
theorem k41 : TblOk Y tb41 := TblOk.cons k40 Tryz.func77 h_stmt_cursor_param (fun k z => by kernel_rfl)
def E_stmt_cursor_rec_v2 : Ent U := ⟨46, 1, ⟨[.ptr (.ext 0) 0, .agg (.L [.int .i64, .int .i64, .int .i64, .str, .full 1])], [[.lst 4, .int .i64, .bool]], [], .typ 1, [(.ext 0, 1, .int .i64), (.ext 0, 2, .bool)], []⟩, fun k z => stmt_cursor_rec_v2 k z.1 z.2.1 z.2.2.1 z.2.2.2.1 z.2.2.2.2.1 z.2.2.2.2.2.1 z.2.2.2.2.2.2.1 z.2.2.2.2.2.2.2⟩
def h_stmt_cursor_rec_v2 : Hc := (.s .a (.s .a (.s (.j .normal ⟨[(3, .ptr (.loc 3) 0)], [(.ext 0, 1, .int .i64), (.ext 0, 2, .bool), (.loc 3, 4, .tip (.cl (.loc 3) 4))], [(.cl (.loc 3) 4, 1)]⟩ (.b (.g (.cl (.loc 3) 4) 1 3 (some 4) (.l ⟨[], [(.ext 0, 1, .int .i64), (.ext 0, 2, .bool), (.loc 3, 4, .tip (.cl (.loc 3) 4))], [(.cl (.loc 3) 4, 1)]⟩ .a)))) .a)))
def tb42 : List (Ent U) := E_stmt_cursor_rec_v2 :: tb41
theorem k42 : TblOk Y tb42 := TblOk.cons k41 Tryz.func46 h_stmt_cursor_rec_v2 (fun k z => by kernel_rfl)
def E_stmt_cursor_empty : Ent U := ⟨78, 0, ⟨[.ptr (.ext 0) 0], [[.lst 4, .int .i64, .bool]], [], .bool, [], []⟩, fun k z => stmt_cursor_empty k z.1 z.2.1 z.2.2⟩
def h_stmt_cursor_empty : Hc := .a
def tb43 : List (Ent U) := E_stmt_cursor_empty :: tb42
theorem k43 : TblOk Y tb43 := TblOk.cons k42 Tryz.func78 h_stmt_cursor_empty (fun k z => by kernel_rfl)
def E_stmt_cursor_iso_v2 : Ent U := ⟨47, 1, ⟨[.ptr (.ext 0) 0, .agg (.L [.int .i64, .int .i64, .int .i64, .str, .full 1])], [[.lst 4, .int .i64, .bool]], [], .typ 1, [(.ext 0, 1, .int .i64), (.ext 0, 2, .bool)], []⟩, fun k z => stmt_cursor_iso_v2 k z.1 z.2.1 z.2.2.1 z.2.2.2.1 z.2.2.2.2.1 z.2.2.2.2.2.1 z.2.2.2.2.2.2.1 z.2.2.2.2.2.2.2⟩
def h_stmt_cursor_iso_v2 : Hc := (.s .a (.s (.j .normal ⟨[], [(.ext 0, 1, .int .i64), (.ext 0, 2, .bool), (.loc 3, 2, .int .i64)], []⟩ (.s (.r (.run 3 (.split 9 7 ⟨[(13, .bool)], [], []⟩ .done .done .done))) (.c (.s .a (.s .a (.s (.j .normal ⟨[], [(.ext 0, 1, .int .i64), (.ext 0, 2, .bool), (.loc 3, 2, .int .i64)], []⟩ (.s (.r (.run 5 (.mux 27 9 ⟨[(31, .bool)], [], []⟩ .done .done .done))) .a)) .a))) .a))) (.s (.g (.cl (.loc 3) 4) 1 3 (some 4) .a) (.s (.j .normal ⟨[], [(.ext 0, 1, .int .i64), (.ext 0, 2, .bool), (.loc 3, 4, .tip (.cl (.loc 3) 4))], [(.cl (.loc 3) 4, 1)]⟩ (.s .a (.c (.s .a (.s .a (.r (.run 3 (.typ 71 1 .done))))) .a))) .a))))
def tb44 : List (Ent U) := E_stmt_cursor_iso_v2 :: tb43
theorem k44 : TblOk Y tb44 := TblOk.cons k43 Tryz.func47 h_stmt_cursor_iso_v2 (fun k z => by kernel_rfl)
def E_word_Spell : Ent U := ⟨84, 0, ⟨[.int .i64], [], [], .str, [], []⟩, fun k z => word_Spell k z⟩
def h_word_Spell : Hc := (.s .a (.s (.s (.r (.run 3 (.mux 5 6 ⟨[(8, .bool)], [], []⟩ .done .done .done))) .a) .a))
def tb45 : List (Ent U) := E_word_Spell :: tb44
theorem k45 : TblOk Y tb45 := TblOk.cons k44 Tryz.func84 h_word_Spell (fun k z => by kernel_rfl)
def E_word_Bind : Ent U := ⟨87, 0, ⟨[.int .i64], [], [], .int .i64, [], []⟩, fun k z => word_Bind k z⟩
def h_word_Bind : Hc := (.s .a (.s (.s .a (.b (.s .a (.c .a (.s .a (.c .a (.s (.j .normal ⟨[(8, .bool)], [], []⟩ .a) (.c .a (.s (.j .normal ⟨[(15, .bool)], [], []⟩ .a) (.c .a (.s (.j .normal ⟨[(18, .bool)], [], []⟩ .a) .a))))))))))) .a))
def tb46 : List (Ent U) := E_word_Bind :: tb45
theorem k46 : TblOk Y tb46 := TblOk.cons k45 Tryz.func87 h_word_Bind (fun k z => by kernel_rfl)
def E_expr_reader_sign : Ent U := ⟨53, 0, ⟨[.ptr (.ext 0) 0, .int .i64], [[.lst 4, .int .i64, .bool]], [], .int .i64, [], []⟩, fun k z => expr_reader_sign k z.1 z.2.1 z.2.2.1 z.2.2.2⟩
def h_expr_reader_sign : Hc := (.s .a (.s .a (.s (.s .a (.s (.r (.run 2 (.mux 17 6 ⟨[(21, .bool)], [], []⟩ .done .done (.run 1 (.split 22 12 ⟨[(27, .bool)], [], []⟩ .done .done .done))))) .a)) .a)))
def tb47 : List (Ent U) := E_expr_reader_sign :: tb46
theorem k47 : TblOk Y tb47 := TblOk.cons k46 Tryz.func53 h_expr_reader_sign (fun k z => by kernel_rfl)
def E_expr_reader_level : Ent U := ⟨29, 0, ⟨[.ptr (.ext 0) 0, .int .i64], [[.lst 4, .int .i64, .bool]], [], .typ 1, [(.ext 0, 1, .int .i64), (.ext 0, 2, .bool)], []⟩, fun k z => expr_reader_level k z.1 z.2.1 z.2.2.1 z.2.2.2⟩
def h_expr_reader_level : Hc := (.s .a (.s .a (.s .a (.s (.j .normal ⟨[], [(.ext 0, 1, .int .i64), (.ext 0, 2, .bool), (.loc 5, 0, .typ 1)], []⟩ (.b (.l ⟨[], [(.ext 0, 1, .int .i64), (.ext 0, 2, .bool), (.loc 5, 0, .typ 1)], []⟩ .a))) .a))))
def E_expr_reader_factor : Ent U := ⟨52, 0, ⟨[.ptr (.ext 0) 0], [[.lst 4, .int .i64, .bool]], [], .typ 1, [(.ext 0, 1, .int .i64), (.ext 0, 2, .bool)], []⟩, fun k z => expr_reader_factor k z.1 z.2.1 z.2.2⟩
def h_expr_reader_factor : Hc := (.s .a (.s .a (.s (.j .normal ⟨[], [(.ext 0, 1, .int .i64)], []⟩ (.s .a (.b (.l ⟨[(11, .int .i64)], [(.ext 0, 1, .int .i64)], []⟩ .a)))) .a)))
def E_expr_reader_part : Ent U := ⟨85, 0, ⟨[.ptr (.ext 0) 0], [[.lst 4, .int .i64, .bool]], [], .typ 1, [(.ext 0, 1, .int .i64), (.ext 0, 2, .bool)], []⟩, fun k z => expr_reader_part k z.1 z.2.1 z.2.2⟩
def h_expr_reader_part : Hc := (.s .a (.s .a (.s (.j .normal ⟨[], [(.ext 0, 1, .int .i64), (.ext 0, 2, .bool), (.loc 3, 0, .typ 1)], []⟩ (.b (.l ⟨[], [(.ext 0, 1, .int .i64), (.ext 0, 2, .bool), (.loc 3, 0, .typ 1)], []⟩ .a))) .a)))
def E_expr_reader_args : Ent U := ⟨117, 0, ⟨[.ptr (.ext 0) 0], [[.lst 4, .int .i64, .bool]], [], .lst 1, [(.ext 0, 1, .int .i64), (.ext 0, 2, .bool)], []⟩, fun k z => expr_reader_args k z.1 z.2.1 z.2.2⟩
def h_expr_reader_args : Hc := (.s .a (.s .a (.s .a (.s .a (.s (.j .normal ⟨[], [(.ext 0, 1, .int .i64), (.ext 0, 2, .bool)], []⟩ (.b (.g (.loc 3) 1 3 none (.l ⟨[(3, .tip (.loc 3))], [(.ext 0, 1, .int .i64), (.ext 0, 2, .bool)], [(.loc 3, 1)]⟩ .a)))) .a)))))
def E_expr_reader_first : Ent U := ⟨109, 0, ⟨[.ptr (.ext 0) 0], [[.lst 4, .int .i64, .bool]], [], .typ 1, [(.ext 0, 1, .int .i64), (.ext 0, 2, .bool)], []⟩, fun k z => expr_reader_first k z.1 z.2.1 z.2.2⟩
def h_expr_reader_first : Hc := (.s .a (.s .a (.s .a (.s (.j .normal ⟨[], [(.ext 0, 1, .int .i64), (.ext 0, 2, .bool), (.loc 4, 0, .typ 1)], []⟩ .a) .a))))
def E_expr_reader_word : Ent U := ⟨118, 0, ⟨[.ptr (.ext 0) 0, .typ 1, .str], [[.lst 4, .int .i64, .bool]], [], .typ 1, [(.ext 0, 1, .int .i64), (.ext 0, 2, .bool)], []⟩, fun k z => expr_reader_word k z.1 z.2.1 z.2.2.1 z.2.2.2.1 z.2.2.2.2⟩
def h_expr_reader_word : Hc := (.s .a (.s (.j .normal ⟨[], [(.ext 0, 1, .int .i64), (.ext 0, 2, .bool), (.loc 4, 0, .typ 1)], []⟩ (.s .a (.b (.s (.j .normal ⟨[(11, .bool)], [], []⟩ .a) (.c .a (.s .a (.c .a (.s .a (.c (.s .a (.s .a (.r (.run 5 (.begin (.loc 53) 1 53 none .done))))) .a))))))))) .a))
def tb48 : List (Ent U) := [E_expr_reader_level, E_expr_reader_factor, E_expr_reader_part, E_expr_reader_args, E_expr_reader_first, E_expr_reader_word] ++ tb47
theorem k48 : TblOk Y tb48 := TblOk.grp k47 ⟨⟨_, h_expr_reader_level, Tryz.func29, fun _ => rfl, fun k z => by kernel_rfl⟩, ⟨_, h_expr_reader_factor, Tryz.func52, fun _ => rfl, fun k z => by kernel_rfl⟩, ⟨_, h_expr_reader_part, Tryz.func85, fun _ => rfl, fun k z => by kernel_rfl⟩, ⟨_, h_expr_reader_args, Tryz.func117, fun _ => rfl, fun k z => by kernel_rfl⟩, ⟨_, h_expr_reader_first, Tryz.func109, fun _ => rfl, fun k z => by kernel_rfl⟩, ⟨_, h_expr_reader_word, Tryz.func118, fun _ => rfl, fun k z => by kernel_rfl⟩, trivial⟩
def E_expr_Args : Ent U := ⟨104, 0, ⟨[.lst 4, .int .i64], [], [], .tup (.L [.lst 1, .int .i64, .int .i64]), [], []⟩, fun k z => expr_Args k z.1 z.2⟩
def h_expr_Args : Hc := .a
def tb49 : List (Ent U) := E_expr_Args :: tb48
theorem k49 : TblOk Y tb49 := TblOk.cons k48 Tryz.func104 h_expr_Args (fun k z => by kernel_rfl)
def E_expr_Expr : Ent U := ⟨13, 0, ⟨[.lst 4, .int .i64], [], [], .tup (.L [.typ 1, .int .i64, .int .i64]), [], []⟩, fun k z => expr_Expr k z.1 z.2⟩
def h_expr_Expr : Hc := .a
def tb50 : List (Ent U) := E_expr_Expr :: tb49
theorem k50 : TblOk Y tb50 := TblOk.cons k49 Tryz.func13 h_expr_Expr (fun k z => by kernel_rfl)
def E_stmt_cursor_part_v2 : Ent U := ⟨79, 1, ⟨[.ptr (.ext 0) 0, .fn 13 (.L []) (.L [])], [[.lst 4, .int .i64, .bool]], [], .typ 1, [(.ext 0, 1, .int .i64), (.ext 0, 2, .bool)], []⟩, fun k z => stmt_cursor_part_v2 k z.1 z.2.1 z.2.2⟩
def h_stmt_cursor_part_v2 : Hc := .a
def tb51 : List (Ent U) := E_stmt_cursor_part_v2 :: tb50
theorem k51 : TblOk Y tb51 := TblOk.cons k50 Tryz.func79 h_stmt_cursor_part_v2 (fun k z => by kernel_rfl)
def E_stmt_cursor_expr : Ent U := ⟨106, 0, ⟨[.ptr (.ext 0) 0], [[.lst 4, .int .i64, .bool]], [], .typ 1, [(.ext 0, 1, .int .i64), (.ext 0, 2, .bool)], []⟩, fun k z => stmt_cursor_expr k z.1 z.2.1 z.2.2⟩
def h_stmt_cursor_expr : Hc := (.s .a (.s (.r (.run 1 (.call 1 .done))) .a))
def tb52 : List (Ent U) := E_stmt_cursor_expr :: tb51
theorem k52 : TblOk Y tb52 := TblOk.cons k51 Tryz.func106 h_stmt_cursor_expr (fun k z => by kernel_rfl)
def E_stmt_cursor_place : Ent U := ⟨105, 0, ⟨[.ptr (.ext 0) 0], [[.lst 4, .int .i64, .bool]], [], .typ 1, [(.ext 0, 1, .int .i64), (.ext 0, 2, .bool)], []⟩, fun k z => stmt_cursor_place k z.1 z.2.1 z.2.2⟩
def h_stmt_cursor_place : Hc := (.s .a (.s .a (.s .a (.s (.j .normal ⟨[], [(.ext 0, 1, .int .i64), (.ext 0, 2, .bool), (.loc 3, 0, .typ 1)], []⟩ (.b (.l ⟨[], [(.ext 0, 1, .int .i64), (.ext 0, 2, .bool), (.loc 3, 0, .typ 1)], []⟩ .a))) .a))))
def tb53 : List (Ent U) := E_stmt_cursor_place :: tb52
theorem k53 : TblOk Y tb53 := TblOk.cons k52 Tryz.func105 h_stmt_cursor_place (fun k z => by kernel_rfl)
def E_stmt_cursor_named : Ent U := ⟨81, 0, ⟨[.ptr (.ext 0) 0], [[.lst 4, .int .i64, .bool]], [], .typ 1, [(.ext 0, 1, .int .i64), (.ext 0, 2, .bool)], []⟩, fun k z => stmt_cursor_named k z.1 z.2.1 z.2.2⟩
def h_stmt_cursor_named : Hc := (.s .a (.s (.s (.r (.run 12 (.split 21 26 ⟨[(35, .bool)], [], []⟩ .done .done (.run 1 (.split 36 41 ⟨[(50, .bool)], [], []⟩ .done .done .done))))) (.c (.s .a (.s .a (.s .a (.s .a (.s (.r (.run 8 (.typ 86 1 .done))) .a))))) .a)) .a))
def tb54 : List (Ent U) := E_stmt_cursor_named :: tb53
theorem k54 : TblOk Y tb54 := TblOk.cons k53 Tryz.func81 h_stmt_cursor_named (fun k z => by kernel_rfl)
def E_stmt_cursor_block : Ent U := ⟨25, 0, ⟨[.ptr (.ext 0) 0], [[.lst 4, .int .i64, .bool]], [], .typ 1, [(.ext 0, 1, .int .i64), (.ext 0, 2, .bool)], []⟩, fun k z => stmt_cursor_block k z.1 z.2.1 z.2.2⟩
def h_stmt_cursor_block : Hc := (.s .a (.s .a (.s .a (.s (.j .normal ⟨[(3, .ptr (.loc 3) 0)], [(.ext 0, 1, .int .i64), (.ext 0, 2, .bool), (.loc 3, 4, .tip (.cl (.loc 3) 4))], [(.cl (.loc 3) 4, 1)]⟩ (.b (.g (.cl (.loc 3) 4) 1 3 (some 4) (.l ⟨[], [(.ext 0, 1, .int .i64), (.ext 0, 2, .bool), (.loc 3, 4, .tip (.cl (.loc 3) 4))], [(.cl (.loc 3) 4, 1)]⟩ (.s (.s (.r (.run 6 (.split 16 10 ⟨[(20, .bool)], [(.ext 0, 1, .int .i64)], []⟩ .done .done .done))) .a) .a))))) .a))))
def E_stmt_cursor_stmt : Ent U := ⟨51, 0, ⟨[.ptr (.ext 0) 0], [[.lst 4, .int .i64, .bool]], [], .typ 1, [(.ext 0, 1, .int .i64), (.ext 0, 2, .bool)], []⟩, fun k z => stmt_cursor_stmt k z.1 z.2.1 z.2.2⟩
def h_stmt_cursor_stmt : Hc := (.s .a (.s .a (.s .a (.s (.r (.run 6 (.call 1 .done))) .a))))
def E_stmt_cursor_word_v2 : Ent U := ⟨82, 1, ⟨[.ptr (.ext 0) 0, .agg (.L [.int .i64, .int .i64, .int .i64, .str, .full 1]), .str], [[.lst 4, .int .i64, .bool]], [], .typ 1, [(.ext 0, 1, .int .i64), (.ext 0, 2, .bool)], []⟩, fun k z => stmt_cursor_word_v2 k z.1 z.2.1 z.2.2.1 z.2.2.2.1 z.2.2.2.2.1 z.2.2.2.2.2.1 z.2.2.2.2.2.2.1 z.2.2.2.2.2.2.2.1 z.2.2.2.2.2.2.2.2⟩
def h_stmt_cursor_word_v2 : Hc := (.s .a (.s .a (.s (.j .normal ⟨[(4, .ptr (.loc 4) 0)], [(.ext 0, 1, .int .i64), (.ext 0, 2, .bool), (.loc 4, 0, .int .i64), (.loc 4, 3, .str), (.loc 4, 4, .lst 1)], []⟩ (.s .a (.b (.s .a (.c .a (.s .a (.c (.s (.r (.run 2 (.call 1 .done))) .a) (.s .a (.c (.s .a (.s (.g (.cl (.loc 4) 4) 1 4 (some 4) .a) .a)) .a))))))))) .a)))
def E_stmt_cursor_choice_v2 : Ent U := ⟨107, 1, ⟨[.ptr (.ext 0) 0, .agg (.L [.int .i64, .int .i64, .int .i64, .str, .full 1])], [[.lst 4, .int .i64, .bool]], [], .typ 1, [(.ext 0, 1, .int .i64), (.ext 0, 2, .bool)], []⟩, fun k z => stmt_cursor_choice_v2 k z.1 z.2.1 z.2.2.1 z.2.2.2.1 z.2.2.2.2.1 z.2.2.2.2.2.1 z.2.2.2.2.2.2.1 z.2.2.2.2.2.2.2⟩
def h_stmt_cursor_choice_v2 : Hc := (.s .a (.s .a (.s (.g (.cl (.loc 3) 4) 1 3 (some 4) .a) (.s .a (.s .a (.s .a (.s (.j .normal ⟨[], [(.ext 0, 1, .int .i64), (.ext 0, 2, .bool), (.loc 3, 4, .tip (.cl (.loc 3) 4))], [(.cl (.loc 3) 4, 1)]⟩ (.s .a (.c (.r (.run 5 (.call 1 .done))) .a))) .a)))))))
def tb55 : List (Ent U) := [E_stmt_cursor_block, E_stmt_cursor_stmt, E_stmt_cursor_word_v2, E_stmt_cursor_choice_v2] ++ tb54
theorem k55 : TblOk Y tb55 := TblOk.grp k54 ⟨⟨_, h_stmt_cursor_block, Tryz.func25, fun _ => rfl, fun k z => by kernel_rfl⟩, ⟨_, h_stmt_cursor_stmt, Tryz.func51, fun _ => rfl, fun k z => by kernel_rfl⟩, ⟨_, h_stmt_cursor_word_v2, Tryz.func82, fun _ => rfl, fun k z => by kernel_rfl⟩, ⟨_, h_stmt_cursor_choice_v2, Tryz.func107, fun _ => rfl, fun k z => by kernel_rfl⟩, trivial⟩
def E_stmt_cursor_fun_v2 : Ent U := ⟨48, 1, ⟨[.ptr (.ext 0) 0, .agg (.L [.int .i64, .int .i64, .int .i64, .str, .full 1])], [[.lst 4, .int .i64, .bool]], [], .typ 1, [(.ext 0, 1, .int .i64), (.ext 0, 2, .bool)], []⟩, fun k z => stmt_cursor_fun_v2 k z.1 z.2.1 z.2.2.1 z.2.2.2.1 z.2.2.2.2.1 z.2.2.2.2.2.1 z.2.2.2.2.2.2.1 z.2.2.2.2.2.2.2⟩
def h_stmt_cursor_fun_v2 : Hc := (.s .a (.s .a (.s (.g (.cl (.loc 3) 4) 1 3 (some 4) (.j .normal ⟨[(3, .ptr (.loc 3) 0)], [(.ext 0, 1, .int .i64), (.ext 0, 2, .bool), (.loc 3, 4, .tip (.cl (.loc 3) 4))], [(.cl (.loc 3) 4, 1)]⟩ (.s .a (.c (.b (.l ⟨[], [(.ext 0, 1, .int .i64), (.ext 0, 2, .bool), (.loc 3, 4, .tip (.cl (.loc 3) 4))], [(.cl (.loc 3) 4, 1)]⟩ .a)) .a)))) (.s (.j .normal ⟨[], [(.ext 0, 1, .int .i64), (.ext 0, 2, .bool), (.loc 3, 4, .tip (.cl (.loc 3) 4))], [(.cl (.loc 3) 4, 1)]⟩ (.s .a (.c (.r (.run 3 (.typ 32 1 .done))) .a))) .a))))
def tb56 : List (Ent U) := E_stmt_cursor_fun_v2 :: tb55
theorem k56 : TblOk Y tb56 := TblOk.cons k55 Tryz.func48 h_stmt_cursor_fun_v2 (fun k z => by kernel_rfl)
def E_stmt_cursor_merge_v2 : Ent U := ⟨49, 1, ⟨[.ptr (.ext 0) 0, .agg (.L [.int .i64, .int .i64, .int .i64, .str, .full 1])], [[.lst 4, .int .i64, .bool]], [], .typ 1, [(.ext 0, 1, .int .i64), (.ext 0, 2, .bool)], []⟩, fun k z => stmt_cursor_merge_v2 k z.1 z.2.1 z.2.2.1 z.2.2.2.1 z.2.2.2.2.1 z.2.2.2.2.2.1 z.2.2.2.2.2.2.1 z.2.2.2.2.2.2.2⟩
def h_stmt_cursor_merge_v2 : Hc := (.s .a (.s (.j .normal ⟨[(3, .ptr (.loc 3) 0)], [(.ext 0, 1, .int .i64), (.ext 0, 2, .bool), (.loc 3, 4, .tip (.cl (.loc 3) 4))], [(.cl (.loc 3) 4, 1)]⟩ (.s .a (.b (.g (.cl (.loc 3) 4) 1 3 (some 4) (.l ⟨[(9, .int .i64)], [(.ext 0, 1, .int .i64), (.ext 0, 2, .bool), (.loc 3, 4, .tip (.cl (.loc 3) 4))], [(.cl (.loc 3) 4, 1)]⟩ .a))))) .a))
def tb57 : List (Ent U) := E_stmt_cursor_merge_v2 :: tb56
theorem k57 : TblOk Y tb57 := TblOk.cons k56 Tryz.func49 h_stmt_cursor_merge_v2 (fun k z => by kernel_rfl)
def E_stmt_cursor_decl : Ent U := ⟨24, 0, ⟨[.ptr (.ext 0) 0], [[.lst 4, .int .i64, .bool]], [], .typ 1, [(.ext 0, 1, .int .i64), (.ext 0, 2, .bool)], []⟩, fun k z => stmt_cursor_decl k z.1 z.2.1 z.2.2⟩
def h_stmt_cursor_decl : Hc := (.s .a (.s .a (.s .a (.s (.j .normal ⟨[], [(.ext 0, 1, .int .i64)], []⟩ (.s .a (.b (.l ⟨[(14, .int .i64)], [(.ext 0, 1, .int .i64)], []⟩ (.s .a (.s .a (.s (.b (.s .a (.s .a (.s .a (.s .a (.s (.s .a (.b (.s .a (.c (.s (.r (.run 2 (.call 1 .done))) .a) (.s .a (.c (.s (.r (.run 2 (.call 1 .done))) .a) (.s .a (.c (.s (.r (.run 2 (.call 1 .done))) .a) .a)))))))) (.s (.r (.run 2 (.call 1 .done))) .a))))))) .a))))))) .a))))
def tb58 : List (Ent U) := E_stmt_cursor_decl :: tb57
theorem k58 : TblOk Y tb58 := TblOk.cons k57 Tryz.func24 h_stmt_cursor_decl (fun k z => by kernel_rfl)
def E_stmt_cursor_end : Ent U := ⟨27, 0, ⟨[.ptr (.ext 0) 0, .typ 1], [[.lst 4, .int .i64, .bool]], [], .tup (.L [.typ 1, .int .i64, .int .i64]), [], []⟩, fun k z => stmt_cursor_end k z.1 z.2.1 z.2.2.1 z.2.2.2⟩
def h_stmt_cursor_end : Hc := .a
def tb59 : List (Ent U) := E_stmt_cursor_end :: tb58
theorem k59 : TblOk Y tb59 := TblOk.cons k58 Tryz.func27 h_stmt_cursor_end (fun k z => by kernel_rfl)
def E_stmt_cursor_look_v2 : Ent U := ⟨26, 1, ⟨[.ptr (.ext 0) 0], [[.typ 10]], [], .typ 4, [], []⟩, fun k z => stmt_cursor_look_v2 k z⟩
def h_stmt_cursor_look_v2 : Hc := (.s .a (.s (.s (.r (.run 6 (.mux 8 17 ⟨[(19, .bool)], [], []⟩ .done .done .done))) .a) .a))
def tb60 : List (Ent U) := E_stmt_cursor_look_v2 :: tb59
theorem k60 : TblOk Y tb60 := TblOk.cons k59 Tryz.func26 h_stmt_cursor_look_v2 (fun k z => by kernel_rfl)
def E_stmt_cursor_is_v2 : Ent U := ⟨44, 1, ⟨[.ptr (.ext 0) 0, .int .i64, .str], [[.typ 10]], [], .bool, [], []⟩, fun k z => stmt_cursor_is_v2 k z.1 z.2.1 z.2.2⟩
def h_stmt_cursor_is_v2 : Hc := (.s .a (.s (.r (.run 1 (.call 1 .done))) (.s (.r (.run 6 (.mux 15 11 ⟨[(20, .bool)], [], []⟩ .done .done (.run 1 (.mux 21 17 ⟨[(26, .bool)], [], []⟩ .done .done .done))))) .a)))
def tb61 : List (Ent U) := E_stmt_cursor_is_v2 :: tb60
theorem k61 : TblOk Y tb61 := TblOk.cons k60 Tryz.func44 h_stmt_cursor_is_v2 (fun k z => by kernel_rfl)
def E_stmt_cursor_takes_v2 : Ent U := ⟨23, 1, ⟨[.ptr (.ext 0) 0, .int .i64, .str], [[.typ 10]], [], .bool, [(.ext 0, 1, .int .i64)], []⟩, fun k z => stmt_cursor_takes_v2 k z.1 z.2.1 z.2.2⟩
def h_stmt_cursor_takes_v2 : Hc := (.s .a (.s (.s (.r (.run 3 (.call 1 .done))) .a) .a))
def tb62 : List (Ent U) := E_stmt_cursor_takes_v2 :: tb61
theorem k62 : TblOk Y tb62 := TblOk.cons k61 Tryz.func23 h_stmt_cursor_takes_v2 (fun k z => by kernel_rfl)
def E_stmt_cursor_wants_v2 : Ent U := ⟨50, 1, ⟨[.ptr (.ext 0) 0, .lst 0], [[.typ 10]], [], .unit, [(.ext 0, 1, .int .i64), (.ext 0, 2, .bool)], []⟩, fun k z => stmt_cursor_wants_v2 k z.1 z.2⟩
def h_stmt_cursor_wants_v2 : Hc := (.s .a (.b (.l ⟨[(8, .int .i64)], [(.ext 0, 1, .int .i64), (.ext 0, 2, .bool)], []⟩ (.s .a (.s .a (.s (.b (.s .a (.r (.run 6 (.mux 17 11 ⟨[(22, .bool)], [], []⟩ .done .done .done))))) .a))))))
def tb63 : List (Ent U) := E_stmt_cursor_wants_v2 :: tb62
theorem k63 : TblOk Y tb63 := TblOk.cons k62 Tryz.func50 h_stmt_cursor_wants_v2 (fun k z => by kernel_rfl)
def E_stmt_cursor_block_v2 : Ent U := ⟨25, 1, ⟨[.ptr (.ext 0) 0], [[.typ 10]], [], .typ 1, [(.ext 0, 1, .int .i64), (.ext 0, 2, .bool)], []⟩, fun k z => stmt_cursor_block_v2 k z⟩
def h_stmt_cursor_block_v2 : Hc := (.s .a (.s (.r (.run 1 (.call 1 .done))) (.s (.r (.run 2 (.call 1 .done))) (.s (.j .normal ⟨[(3, .ptr (.loc 3) 0)], [(.ext 0, 1, .int .i64), (.ext 0, 2, .bool), (.loc 3, 4, .tip (.cl (.loc 3) 4))], [(.cl (.loc 3) 4, 1)]⟩ (.b (.g (.cl (.loc 3) 4) 1 3 (some 4) (.l ⟨[], [(.ext 0, 1, .int .i64), (.ext 0, 2, .bool), (.loc 3, 4, .tip (.cl (.loc 3) 4))], [(.cl (.loc 3) 4, 1)]⟩ (.s (.s (.r (.run 6 (.split 16 10 ⟨[(20, .bool)], [(.ext 0, 1, .int .i64)], []⟩ .done .done .done))) .a) .a))))) .a))))
def tb64 : List (Ent U) := E_stmt_cursor_block_v2 :: tb63
theorem k64 : TblOk Y tb64 := TblOk.cons k63 Tryz.func25 h_stmt_cursor_block_v2 (fun k z => by kernel_rfl)
def E_stmt_Prog : Ent U := ⟨11, 0, ⟨[.lst 4], [], [], .tup (.L [.typ 1, .int .i64, .int .i64]), [], []⟩, fun k z => stmt_Prog k z⟩
def h_stmt_Prog : Hc := (.s .a (.s .a (.s .a (.s (.j .normal ⟨[(6, .ptr (.loc 6) 0)], [(.loc 5, 0, .typ 10), (.loc 6, 4, .tip (.cl (.loc 6) 4))], [(.cl (.loc 6) 4, 1)]⟩ (.b (.g (.cl (.loc 6) 4) 1 6 (some 4) (.l ⟨[], [(.loc 5, 0, .typ 10), (.loc 6, 4, .tip (.cl (.loc 6) 4))], [(.cl (.loc 6) 4, 1)]⟩ (.s (.s (.r (.run 4 (.split 13 7 ⟨[(16, .bool)], [(.loc 5, 1, .int .i64)], []⟩ (.call 1 .done) .done .done))) .a) .a))))) (.s (.r (.run 2 (.call 1 .done))) (.s (.j .normal ⟨[], [(.loc 5, 2, .bool)], []⟩ (.s (.r (.run 4 (.split 32 16 ⟨[(44, .bool)], [], []⟩ (.run 7 (.split 39 15 ⟨[(43, .bool)], [], []⟩ .done .done .done)) .done .done))) .a)) .a))))))
def tb65 : List (Ent U) := E_stmt_Prog :: tb64
theorem k65 : TblOk Y tb65 := TblOk.cons k64 Tryz.func11 h_stmt_Prog (fun k z => by kernel_rfl)
def E_parse_read : Ent U := ⟨10, 0, ⟨[.str, .fn 11 (.L []) (.L [])], [], [], .tup (.L [.typ 1, .typ 2]), [], []⟩, fun k z => parse_read k z⟩
def h_parse_read : Hc := .a
def tb66 : List (Ent U) := E_parse_read :: tb65
theorem k66 : TblOk Y tb66 := TblOk.cons k65 Tryz.func10 h_parse_read (fun k z => by kernel_rfl)
def E_parse_Prog : Ent U := ⟨5, 0, ⟨[.str], [], [], .tup (.L [.typ 1, .typ 2]), [], []⟩, fun k z => parse_Prog k z⟩
def h_parse_Prog : Hc := .a
def tb67 : List (Ent U) := E_parse_Prog :: tb66
theorem k67 : TblOk Y tb67 := TblOk.cons k66 Tryz.func5 h_parse_Prog (fun k z => by kernel_rfl)
def E_law15_works : Ent U := ⟨4, 0, ⟨[], [], [], .bool, [], []⟩, fun k z => law15_works k⟩
def h_law15_works : Hc := (.s .a (.s .a (.s .a (.s (.r (.run 4 (.mux 16 8 ⟨[(20, .bool)], [], []⟩ .done .done (.run 1 (.mux 21 13 ⟨[(25, .bool)], [], []⟩ .done .done .done))))) .a))))
def tb68 : List (Ent U) := E_law15_works :: tb67
theorem k68 : TblOk Y tb68 := TblOk.cons k67 Tryz.func4 h_law15_works (fun k z => by kernel_rfl)
def E_parse_Expr_1 : Ent U := ⟨12, 0, ⟨[.lst 4], [], [], .tup (.L [.typ 1, .int .i64, .int .i64]), [], []⟩, fun k z => parse_Expr_1 k z⟩
def h_parse_Expr_1 : Hc := (.s .a (.s .a (.s (.s (.r (.run 3 (.split 16 10 ⟨[(23, .bool)], [], []⟩ .done .done .done))) .a) .a)))
def tb69 : List (Ent U) := E_parse_Expr_1 :: tb68
theorem k69 : TblOk Y tb69 := TblOk.cons k68 Tryz.func12 h_parse_Expr_1 (fun k z => by kernel_rfl)
def E_parse_read_v2 : Ent U := ⟨10, 1, ⟨[.str, .fn 12 (.L []) (.L [])], [], [], .tup (.L [.typ 1, .typ 2]), [], []⟩, fun k z => parse_read_v2 k z⟩
def h_parse_read_v2 : Hc := .a
def tb70 : List (Ent U) := E_parse_read_v2 :: tb69
theorem k70 : TblOk Y tb70 := TblOk.cons k69 Tryz.func10 h_parse_read_v2 (fun k z => by kernel_rfl)
def E_parse_Expr : Ent U := ⟨6, 0, ⟨[.str], [], [], .tup (.L [.typ 1, .typ 2]), [], []⟩, fun k z => parse_Expr k z⟩
def h_parse_Expr : Hc := (.s .a (.s (.r (.run 1 (.call 1 .done))) .a))
def tb71 : List (Ent U) := E_parse_Expr :: tb70
theorem k71 : TblOk Y tb71 := TblOk.cons k70 Tryz.func6 h_parse_Expr (fun k z => by kernel_rfl)
def E_ref10_class : Ent U := ⟨30, 0, ⟨[.int .u8], [], [], .int .i64, [], []⟩, fun k z => ref10_class k z⟩
def h_ref10_class : Hc := (.s .a (.s (.s (.r (.run 3 (.mux 5 10 ⟨[(12, .bool)], [], []⟩ .done (.run 3 (.mux 8 9 ⟨[(11, .bool)], [], []⟩ .done .done .done)) (.run 1 (.mux 13 18 ⟨[(20, .bool)], [], []⟩ .done (.run 3 (.mux 16 17 ⟨[(19, .bool)], [], []⟩ .done .done .done)) .done))))) .a) (.s (.s (.r (.run 3 (.mux 23 6 ⟨[(26, .bool)], [], []⟩ .done .done .done))) .a) (.s (.s (.r (.run 3 (.mux 29 6 ⟨[(32, .bool)], [], []⟩ .done .done (.run 1 (.mux 33 10 ⟨[(36, .bool)], [], []⟩ .done .done (.run 1 (.mux 37 14 ⟨[(40, .bool)], [], []⟩ .done .done .done))))))) .a) .a))))
def tb72 : List (Ent U) := E_ref10_class :: tb71
theorem k72 : TblOk Y tb72 := TblOk.cons k71 Tryz.func30 h_ref10_class (fun k z => by kernel_rfl)
def E_ref09_All : Ent U := ⟨88, 0, ⟨[], [], [], .lst 0, [], []⟩, fun k z => ref09_All k⟩
def h_ref09_All : Hc := .a
def tb73 : List (Ent U) := E_ref09_All :: tb72
theorem k73 : TblOk Y tb73 := TblOk.cons k72 Tryz.func88 h_ref09_All (fun k z => by kernel_rfl)
def E_ref09_Is : Ent U := ⟨55, 0, ⟨[.str], [], [], .bool, [], []⟩, fun k z => ref09_Is k z⟩
def h_ref09_Is : Hc := (.s .a (.s .a (.s (.j .normal ⟨[], [], []⟩ (.s .a (.b (.l ⟨[(4, .int .i64)], [], []⟩ .a)))) .a)))
def tb74 : List (Ent U) := E_ref09_Is :: tb73
theorem k74 : TblOk Y tb74 := TblOk.cons k73 Tryz.func55 h_ref09_Is (fun k z => by kernel_rfl)
def E_ref01_Read : Ent U := ⟨56, 0, ⟨[.str], [], [], .tup (.L [.int .i64, .int .i64]), [], []⟩, fun k z => ref01_Read k z⟩
def h_ref01_Read : Hc := (.s .a (.s .a (.s .a (.s .a (.s (.j .normal ⟨[(4, .int .u64), (5, .bool)], [], []⟩ (.s .a (.b (.l ⟨[(4, .int .u64), (5, .bool), (6, .int .i64)], [], []⟩ (.s .a (.s (.j .normal ⟨[(4, .int .u64), (5, .bool)], [], []⟩ (.b (.s (.s (.r (.run 5 (.split 19 10 ⟨[(24, .bool)], [], []⟩ .done .done .done))) .a) (.s (.j .normal ⟨[(5, .bool)], [], []⟩ .a) .a)))) .a)))))) (.s (.s (.r (.run 2 (.mux 38 5 ⟨[(41, .bool)], [], []⟩ .done .done .done))) .a) .a))))))
def tb75 : List (Ent U) := E_ref01_Read :: tb74
theorem k75 : TblOk Y tb75 := TblOk.cons k74 Tryz.func56 h_ref01_Read (fun k z => by kernel_rfl)
def E_ref09_Spell : Ent U := ⟨89, 0, ⟨[.int .i64], [], [], .str, [], []⟩, fun k z => ref09_Spell k z⟩
def h_ref09_Spell : Hc := (.s .a (.s .a (.s (.s (.r (.run 3 (.mux 7 6 ⟨[(10, .bool)], [], []⟩ .done .done .done))) .a) .a)))
def tb76 : List (Ent U) := E_ref09_Spell :: tb75
theorem k76 : TblOk Y tb76 := TblOk.cons k75 Tryz.func89 h_ref09_Spell (fun k z => by kernel_rfl)
def E_ref09_Mark : Ent U := ⟨57, 0, ⟨[.str], [], [], .str, [], []⟩, fun k z => ref09_Mark k z⟩
def h_ref09_Mark : Hc := (.s .a (.s .a (.s (.j .normal ⟨[(3, .tip (.loc 3))], [], [(.loc 3, 0)]⟩ (.s .a (.b (.g (.loc 3) 0 3 none (.l ⟨[(3, .tip (.loc 3)), (4, .int .i64)], [], [(.loc 3, 0)]⟩ .a))))) (.s .a (.s (.j .normal ⟨[(5, .str)], [], []⟩ (.s .a (.b (.l ⟨[(5, .str), (6, .int .i64)], [], []⟩ (.s .a (.s (.j .normal ⟨[(5, .str)], [], []⟩ (.b (.s (.r (.run 9 (.split 31 22 ⟨[(44, .bool)], [], []⟩ .done .done (.run 1 (.split 45 32 ⟨[(54, .bool)], [], []⟩ .done .done .done))))) .a))) .a)))))) .a)))))
def tb77 : List (Ent U) := E_ref09_Mark :: tb76
theorem k77 : TblOk Y tb77 := TblOk.cons k76 Tryz.func57 h_ref09_Mark (fun k z => by kernel_rfl)
def E_ref10_one : Ent U := ⟨31, 0, ⟨[.str, .int .i64], [], [], .tup (.L [.typ 4, .int .i64]), [], []⟩, fun k z => ref10_one k z.1 z.2⟩
def h_ref10_one : Hc := (.s .a (.s .a (.s .a (.s (.s .a (.c (.s (.j .normal ⟨[(7, .int .i64)], [], []⟩ (.b (.l ⟨[(7, .int .i64)], [], []⟩ (.s (.s (.r (.run 5 (.split 23 18 ⟨[(36, .bool)], [], []⟩ (.run 6 (.split 29 17 ⟨[(35, .bool)], [], []⟩ .done .done .done)) .done .done))) .a) .a)))) (.s .a (.s (.j .normal ⟨[], [(.loc 8, 0, .int .i64)], []⟩ .a) .a))) .a)) (.s (.s .a (.c (.s (.j .normal ⟨[(7, .int .i64)], [], []⟩ (.b (.l ⟨[(7, .int .i64)], [], []⟩ (.s (.s (.r (.run 5 (.split 61 11 ⟨[(67, .bool)], [], []⟩ .done .done .done))) .a) .a)))) .a) .a)) .a)))))
def tb78 : List (Ent U) := E_ref10_one :: tb77
theorem k78 : TblOk Y tb78 := TblOk.cons k77 Tryz.func31 h_ref10_one (fun k z => by kernel_rfl)
def E_ref10_All : Ent U := ⟨15, 0, ⟨[.str], [], [], .tup (.L [.lst 4, .int .i64, .int .i64]), [], []⟩, fun k z => ref10_All k z⟩
def h_ref10_All : Hc := (.s .a (.s .a (.s .a (.s (.j .normal ⟨[(5, .tip (.loc 5))], [], [(.loc 5, 4)]⟩ (.s .a (.b (.g (.loc 5) 4 5 none (.l ⟨[(5, .tip (.loc 5)), (6, .int .i64)], [], [(.loc 5, 4)]⟩ (.s .a (.b (.s .a (.s .a (.s (.s .a (.c (.s (.j .normal ⟨[(6, .int .i64)], [], []⟩ (.b (.l ⟨[(6, .int .i64)], [], []⟩ (.s (.s (.r (.run 5 (.split 31 10 ⟨[(36, .bool)], [], []⟩ .done .done .done))) .a) .a)))) .a) .a)) .a)))))))))) (.s (.r (.run 4 (.typ 61 4 .done))) .a)))))
def tb79 : List (Ent U) := E_ref10_All :: tb78
theorem k79 : TblOk Y tb79 := TblOk.cons k78 Tryz.func15 h_ref10_All (fun k z => by kernel_rfl)
def E_ref02_At : Ent U := ⟨32, 0, ⟨[.str, .int .i64], [], [], .tup (.L [.int .i64, .int .i64]), [], []⟩, fun k z => ref02_At k z.1 z.2⟩
def h_ref02_At : Hc := (.s .a (.s (.j .normal ⟨[(1, .int .i64)], [], []⟩ .a) (.s (.j .normal ⟨[(1, .int .i64)], [], []⟩ .a) (.s .a (.s (.j .normal ⟨[(6, .int .i64), (7, .int .i64)], [], []⟩ (.s .a (.b (.l ⟨[(6, .int .i64), (7, .int .i64), (8, .int .i64)], [], []⟩ (.s .a (.s (.j .normal ⟨[(6, .int .i64), (7, .int .i64)], [], []⟩ .a) .a)))))) .a)))))
def tb80 : List (Ent U) := E_ref02_At :: tb79
theorem k80 : TblOk Y tb80 := TblOk.cons k79 Tryz.func32 h_ref02_At (fun k z => by kernel_rfl)
def E_ref15_at : Ent U := ⟨16, 0, ⟨[.str, .int .i64, .int .i64], [], [], .typ 3, [], []⟩, fun k z => ref15_at k z.1 z.2.1 z.2.2⟩
def h_ref15_at : Hc := .a
def tb81 : List (Ent U) := E_ref15_at :: tb80
theorem k81 : TblOk Y tb81 := TblOk.cons k80 Tryz.func16 h_ref15_at (fun k z => by kernel_rfl)
def E_ref12_mark : Ent U := ⟨58, 0, ⟨[.typ 4], [], [], .int .i64, [], []⟩, fun k z => ref12_mark k z⟩
def h_ref12_mark : Hc := (.s .a (.s .a (.s (.s (.r (.run 4 (.mux 9 8 ⟨[(13, .bool)], [], []⟩ .done .done (.run 1 (.mux 14 13 ⟨[(18, .bool)], [], []⟩ .done .done .done))))) .a) (.s (.s (.r (.run 4 (.mux 22 8 ⟨[(26, .bool)], [], []⟩ .done .done (.run 1 (.mux 27 13 ⟨[(31, .bool)], [], []⟩ .done .done .done))))) .a) (.s (.s (.r (.run 4 (.mux 35 8 ⟨[(39, .bool)], [], []⟩ .done .done .done))) .a) .a)))))
def tb82 : List (Ent U) := E_ref12_mark :: tb81
theorem k82 : TblOk Y tb82 := TblOk.cons k81 Tryz.func58 h_ref12_mark (fun k z => by kernel_rfl)
def E_ref12_At : Ent U := ⟨33, 0, ⟨[.lst 4], [], [], .lst 7, [], []⟩, fun k z => ref12_At k z⟩
def h_ref12_At : Hc := (.s .a (.s .a (.s .a (.s (.j .normal ⟨[(3, .tip (.loc 3))], [], [(.loc 3, 7)]⟩ (.s .a (.b (.g (.loc 3) 7 3 none (.l ⟨[(3, .tip (.loc 3)), (4, .int .i64), (5, .int .i64), (6, .int .i64)], [], [(.loc 3, 7)]⟩ (.s .a (.s (.b (.s .a (.s (.j .normal ⟨[(4, .int .i64)], [], []⟩ .a) (.s (.j .normal ⟨[(4, .int .i64)], [], []⟩ (.s (.r (.run 3 (.mux 25 6 ⟨[(28, .bool)], [], []⟩ .done .done .done))) .a)) (.s (.j .normal ⟨[(5, .int .i64)], [], []⟩ .a) (.r (.run 4 (.typ 38 7 .done)))))))) .a))))))) .a))))
def tb83 : List (Ent U) := E_ref12_At :: tb82
theorem k83 : TblOk Y tb83 := TblOk.cons k82 Tryz.func33 h_ref12_At (fun k z => by kernel_rfl)
def E_ref12_Check : Ent U := ⟨17, 0, ⟨[.lst 4], [], [], .tup (.L [.int .i64, .int .i64]), [], []⟩, fun k z => ref12_Check k z⟩
def h_ref12_Check : Hc := (.s .a (.s .a (.s (.j .normal ⟨[], [], []⟩ (.s .a (.b (.l ⟨[(5, .int .i64)], [], []⟩ (.s .a (.s (.b (.s (.r (.run 7 (.split 20 14 ⟨[(27, .bool)], [], []⟩ .done .done .done))) .a)) .a)))))) .a)))
def tb84 : List (Ent U) := E_ref12_Check :: tb83
theorem k84 : TblOk Y tb84 := TblOk.cons k83 Tryz.func17 h_ref12_Check (fun k z => by kernel_rfl)
def E_ref13_Tok : Ent U := ⟨59, 0, ⟨[.lst 4, .int .i64], [], [], .typ 4, [], []⟩, fun k z => ref13_Tok k z.1 z.2⟩
def h_ref13_Tok : Hc := (.s .a (.s (.s (.r (.run 3 (.mux 7 8 ⟨[(12, .bool)], [], []⟩ .done .done .done))) .a) .a))
def tb85 : List (Ent U) := E_ref13_Tok :: tb84
theorem k85 : TblOk Y tb85 := TblOk.cons k84 Tryz.func59 h_ref13_Tok (fun k z => by kernel_rfl)
def E_ref13_Says : Ent U := ⟨34, 0, ⟨[.lst 4, .int .i64, .str], [], [], .bool, [], []⟩, fun k z => ref13_Says k z.1 z.2.1 z.2.2⟩
def h_ref13_Says : Hc := (.s .a (.s .a (.s (.r (.run 4 (.mux 14 9 ⟨[(19, .bool)], [], []⟩ .done .done .done))) .a)))
def tb86 : List (Ent U) := E_ref13_Says :: tb85
theorem k86 : TblOk Y tb86 := TblOk.cons k85 Tryz.func34 h_ref13_Says (fun k z => by kernel_rfl)
def E_ref14_fail : Ent U := ⟨37, 0, ⟨[.int .i64], [], [], .typ 5, [], []⟩, fun k z => ref14_fail k z⟩
def h_ref14_fail : Hc := .a
def tb87 : List (Ent U) := E_ref14_fail :: tb86
theorem k87 : TblOk Y tb87 := TblOk.cons k86 Tryz.func37 h_ref14_fail (fun k z => by kernel_rfl)
def E_ref13_Is : Ent U := ⟨63, 0, ⟨[.lst 4, .int .i64, .str], [], [], .bool, [], []⟩, fun k z => ref13_Is k z.1 z.2.1 z.2.2⟩
def h_ref13_Is : Hc := (.s .a (.s .a (.s (.r (.run 4 (.mux 14 9 ⟨[(19, .bool)], [], []⟩ .done .done .done))) .a)))
def tb88 : List (Ent U) := E_ref13_Is :: tb87
theorem k88 : TblOk Y tb88 := TblOk.cons k87 Tryz.func63 h_ref13_Is (fun k z => by kernel_rfl)
def E_ref14_closed : Ent U := ⟨91, 0, ⟨[.lst 4, .typ 5, .typ 1, .str], [], [], .typ 5, [], []⟩, fun k z => ref14_closed k z.1 z.2.1 z.2.2.1 z.2.2.2⟩
def h_ref14_closed : Hc := (.s .a (.s (.s (.r (.run 4 (.split 12 11 ⟨[(19, .bool)], [], []⟩ .done .done .done))) .a) .a))
def tb89 : List (Ent U) := E_ref14_closed :: tb88
theorem k89 : TblOk Y tb89 := TblOk.cons k88 Tryz.func91 h_ref14_closed (fun k z => by kernel_rfl)
def E_ref13_Type : Ent U := ⟨92, 0, ⟨[.lst 4, .int .i64], [], [], .tup (.L [.typ 1, .int .i64, .bool]), [], []⟩, fun k z => ref13_Type k z.1 z.2⟩
def h_ref13_Type : Hc := .a
def tb90 : List (Ent U) := [E_ref13_Type] ++ tb89
theorem k90 : TblOk Y tb90 := TblOk.grp k89 ⟨⟨_, h_ref13_Type, Tryz.func92, fun _ => rfl, fun k z => by kernel_rfl⟩, trivial⟩
def E_ref14_iso : Ent U := ⟨61, 0, ⟨[.lst 4, .int .i64, .typ 1], [], [], .typ 5, [], []⟩, fun k z => ref14_iso k z.1 z.2.1 z.2.2⟩
def h_ref14_iso : Hc := (.s .a (.s (.j .normal ⟨[(1, .int .i64)], [(.loc 5, 2, .int .i64)], []⟩ (.s (.r (.run 4 (.split 15 10 ⟨[(21, .bool)], [], []⟩ .done .done .done))) (.c (.s .a (.s (.s (.r (.run 4 (.mux 29 8 ⟨[(33, .bool)], [], []⟩ .done .done .done))) .a) .a)) .a))) (.s .a (.s .a (.s .a (.s (.j .normal ⟨[(5, .ptr (.loc 5) 0), (9, .int .i64)], [(.loc 5, 4, .lst 1)], []⟩ (.s .a (.c (.s .a (.s .a (.s (.g (.cl (.loc 5) 4) 1 5 (some 4) (.r (.run 7 (.typ 83 1 .done)))) .a))) .a))) .a))))))
def tb91 : List (Ent U) := E_ref14_iso :: tb90
theorem k91 : TblOk Y tb91 := TblOk.cons k90 Tryz.func61 h_ref14_iso (fun k z => by kernel_rfl)
def E_ref14_param : Ent U := ⟨90, 0, ⟨[.lst 4, .int .i64], [], [], .typ 5, [], []⟩, fun k z => ref14_param k z.1 z.2⟩
def h_ref14_param : Hc := .a
def tb92 : List (Ent U) := E_ref14_param :: tb91
theorem k92 : TblOk Y tb92 := TblOk.cons k91 Tryz.func90 h_ref14_param (fun k z => by kernel_rfl)
def E_ref14_rec_v2 : Ent U := ⟨60, 1, ⟨[.lst 4, .int .i64, .agg (.L [.int .i64, .int .i64, .int .i64, .str, .full 1])], [], [], .typ 5, [], []⟩, fun k z => ref14_rec_v2 k z.1 z.2.1 z.2.2.1 z.2.2.2.1 z.2.2.2.2.1 z.2.2.2.2.2.1 z.2.2.2.2.2.2⟩
def h_ref14_rec_v2 : Hc := (.s .a (.s .a (.s .a (.b (.g (.cl (.loc 5) 4) 1 5 (some 4) (.l ⟨[(1, .int .i64)], [(.loc 5, 4, .tip (.cl (.loc 5) 4))], [(.cl (.loc 5) 4, 1)]⟩ (.b (.s .a (.s .a (.s .a (.s (.r (.run 4 (.typ 32 1 .done))) .a)))))))))))
def tb93 : List (Ent U) := E_ref14_rec_v2 :: tb92
theorem k93 : TblOk Y tb93 := TblOk.cons k92 Tryz.func60 h_ref14_rec_v2 (fun k z => by kernel_rfl)
def E_ref09_Bind : Ent U := ⟨99, 0, ⟨[.int .i64], [], [], .int .i64, [], []⟩, fun k z => ref09_Bind k z⟩
def h_ref09_Bind : Hc := (.s .a (.s (.s (.r (.run 3 (.mux 5 6 ⟨[(8, .bool)], [], []⟩ .done .done .done))) .a) (.s (.s (.r (.run 3 (.mux 11 6 ⟨[(14, .bool)], [], []⟩ .done .done .done))) .a) (.s (.s (.r (.run 3 (.mux 17 6 ⟨[(20, .bool)], [], []⟩ .done .done .done))) .a) .a))))
def tb94 : List (Ent U) := E_ref09_Bind :: tb93
theorem k94 : TblOk Y tb94 := TblOk.cons k93 Tryz.func99 h_ref09_Bind (fun k z => by kernel_rfl)
def E_ref13_sign : Ent U := ⟨66, 0, ⟨[.lst 4, .int .i64, .int .i64], [], [], .int .i64, [], []⟩, fun k z => ref13_sign k z.1 z.2.1 z.2.2⟩
def h_ref13_sign : Hc := (.s .a (.s .a (.s (.j .normal ⟨[], [], []⟩ (.s .a (.b (.l ⟨[(8, .int .i64)], [], []⟩ (.s .a (.s (.b (.s (.r (.run 4 (.split 19 10 ⟨[(25, .bool)], [], []⟩ .done .done (.run 1 (.split 26 16 ⟨[(31, .bool)], [], []⟩ .done .done .done))))) .a)) .a)))))) .a)))
def tb95 : List (Ent U) := E_ref13_sign :: tb94
theorem k95 : TblOk Y tb95 := TblOk.cons k94 Tryz.func66 h_ref13_sign (fun k z => by kernel_rfl)
def E_ref13_Expr : Ent U := ⟨19, 0, ⟨[.lst 4, .int .i64], [], [], .tup (.L [.typ 1, .int .i64, .bool]), [], []⟩, fun k z => ref13_Expr k z.1 z.2⟩
def h_ref13_Expr : Hc := .a
def E_ref13_level : Ent U := ⟨38, 0, ⟨[.lst 4, .int .i64, .int .i64], [], [], .tup (.L [.typ 1, .int .i64, .bool]), [], []⟩, fun k z => ref13_level k z.1 z.2.1 z.2.2⟩
def h_ref13_level : Hc := (.s .a (.s .a (.s .a (.s .a (.b (.l ⟨[(10, .int .i64)], [(.loc 9, 0, .typ 1)], []⟩ .a))))))
def E_ref13_factor : Ent U := ⟨65, 0, ⟨[.lst 4, .int .i64], [], [], .tup (.L [.typ 1, .int .i64, .bool]), [], []⟩, fun k z => ref13_factor k z.1 z.2⟩
def h_ref13_factor : Hc := (.s .a (.s .a (.s (.j .normal ⟨[(7, .int .i64)], [], []⟩ .a) (.s (.j .normal ⟨[(7, .int .i64)], [], []⟩ .a) .a))))
def E_ref13_part : Ent U := ⟨98, 0, ⟨[.lst 4, .int .i64], [], [], .tup (.L [.typ 1, .int .i64, .bool]), [], []⟩, fun k z => ref13_part k z.1 z.2⟩
def h_ref13_part : Hc := (.s .a (.s .a (.s .a (.b (.l ⟨[(8, .int .i64)], [(.loc 7, 0, .typ 1)], []⟩ (.b (.s .a (.s .a (.s .a (.s .a (.s (.s (.r (.run 3 (.split 67 8 ⟨[(72, .bool)], [], []⟩ .done .done .done))) .a) .a)))))))))))
def E_ref13_Args : Ent U := ⟨112, 0, ⟨[.lst 4, .int .i64], [], [], .tup (.L [.lst 1, .int .i64, .bool]), [], []⟩, fun k z => ref13_Args k z.1 z.2⟩
def h_ref13_Args : Hc := (.s .a (.s .a (.s .a (.s .a (.s .a (.b (.g (.loc 7) 1 7 none (.l ⟨[(1, .int .i64), (7, .tip (.loc 7))], [], [(.loc 7, 1)]⟩ .a))))))))
def E_ref13_first : Ent U := ⟨113, 0, ⟨[.lst 4, .int .i64], [], [], .tup (.L [.typ 1, .int .i64, .bool]), [], []⟩, fun k z => ref13_first k z.1 z.2⟩
def h_ref13_first : Hc := (.s .a (.s .a (.s .a (.s .a (.s .a (.s .a (.s .a (.s (.s .a (.c (.s .a (.s .a (.s .a (.s .a (.s (.r (.run 5 (.pl .done))) .a))))) .a)) (.s .a (.s .a (.s (.s (.r (.run 3 (.split 130 8 ⟨[(135, .bool)], [], []⟩ .done .done .done))) .a) .a)))))))))))
def E_ref13_named : Ent U := ⟨119, 0, ⟨[.lst 4, .int .i64, .int .i64, .int .i64], [], [], .tup (.L [.typ 1, .int .i64, .bool]), [], []⟩, fun k z => ref13_named k z.1 z.2.1 z.2.2.1 z.2.2.2⟩
def h_ref13_named : Hc := .a
def tb96 : List (Ent U) := [E_ref13_Expr, E_ref13_level, E_ref13_factor, E_ref13_part, E_ref13_Args, E_ref13_first, E_ref13_named] ++ tb95
theorem k96 : TblOk Y tb96 := TblOk.grp k95 ⟨⟨_, h_ref13_Expr, Tryz.func19, fun _ => rfl, fun k z => by kernel_rfl⟩, ⟨_, h_ref13_level, Tryz.func38, fun _ => rfl, fun k z => by kernel_rfl⟩, ⟨_, h_ref13_factor, Tryz.func65, fun _ => rfl, fun k z => by kernel_rfl⟩, ⟨_, h_ref13_part, Tryz.func98, fun _ => rfl, fun k z => by kernel_rfl⟩, ⟨_, h_ref13_Args, Tryz.func112, fun _ => rfl, fun k z => by kernel_rfl⟩, ⟨_, h_ref13_first, Tryz.func113, fun _ => rfl, fun k z => by kernel_rfl⟩, ⟨_, h_ref13_named, Tryz.func119, fun _ => rfl, fun k z => by kernel_rfl⟩, trivial⟩
def E_ref14_expr : Ent U := ⟨97, 0, ⟨[.lst 4, .int .i64], [], [], .typ 5, [], []⟩, fun k z => ref14_expr k z.1 z.2⟩
def h_ref14_expr : Hc := .a
def tb97 : List (Ent U) := E_ref14_expr :: tb96
theorem k97 : TblOk Y tb97 := TblOk.cons k96 Tryz.func97 h_ref14_expr (fun k z => by kernel_rfl)
def E_ref14_named : Ent U := ⟨94, 0, ⟨[.lst 4, .int .i64], [], [], .typ 5, [], []⟩, fun k z => ref14_named k z.1 z.2⟩
def h_ref14_named : Hc := (.s .a (.s .a (.s (.s .a (.c (.s .a (.s .a (.s (.r (.run 8 (.typ 44 1 .done))) .a))) .a)) (.s .a (.s .a (.s (.j .normal ⟨[(1, .int .i64)], [(.loc 10, 0, .typ 1)], []⟩ (.b (.l ⟨[(1, .int .i64)], [(.loc 10, 0, .typ 1)], []⟩ (.s (.s (.r (.run 4 (.split 58 8 ⟨[(62, .bool)], [], []⟩ .done .done .done))) .a) (.b (.s .a (.s .a (.s .a (.s (.r (.run 6 (.typ 97 1 .done))) .a))))))))) (.s .a (.s .a (.s (.r (.run 9 (.typ 127 1 .done))) .a)))))))))
def tb98 : List (Ent U) := E_ref14_named :: tb97
theorem k98 : TblOk Y tb98 := TblOk.cons k97 Tryz.func94 h_ref14_named (fun k z => by kernel_rfl)
def E_ref14_Block : Ent U := ⟨36, 0, ⟨[.lst 4, .int .i64], [], [], .typ 5, [], []⟩, fun k z => ref14_Block k z.1 z.2⟩
def h_ref14_Block : Hc := (.s .a (.s .a (.s .a (.s .a (.s (.j .normal ⟨[(1, .int .i64), (5, .ptr (.loc 5) 0)], [(.loc 5, 4, .tip (.cl (.loc 5) 4))], [(.cl (.loc 5) 4, 1)]⟩ (.b (.g (.cl (.loc 5) 4) 1 5 (some 4) (.l ⟨[(1, .int .i64)], [(.loc 5, 4, .tip (.cl (.loc 5) 4))], [(.cl (.loc 5) 4, 1)]⟩ (.s .a (.b (.s .a (.s .a (.s (.r (.run 4 (.typ 34 1 .done))) .a))))))))) .a)))))
def E_ref14_Stmt : Ent U := ⟨64, 0, ⟨[.lst 4, .int .i64], [], [], .typ 5, [], []⟩, fun k z => ref14_Stmt k z.1 z.2⟩
def h_ref14_Stmt : Hc := (.s .a (.s .a (.s .a (.s .a (.s .a (.s .a (.s (.s .a (.c (.s .a (.s .a (.s (.r (.run 6 (.typ 62 1 .done))) .a))) .a)) (.s (.s .a (.c (.s .a (.s (.r (.run 6 (.typ 78 1 .done))) .a)) .a)) (.s .a (.s (.s (.r (.run 3 (.split 87 8 ⟨[(92, .bool)], [], []⟩ .done .done .done))) .a) (.s .a (.s .a (.s .a (.s .a (.s .a (.s (.r (.run 8 (.typ 137 1 .done))) .a))))))))))))))))
def E_ref14_choice : Ent U := ⟨95, 0, ⟨[.lst 4, .int .i64], [], [], .typ 5, [], []⟩, fun k z => ref14_choice k z.1 z.2⟩
def h_ref14_choice : Hc := (.s .a (.s .a (.s (.s (.r (.run 4 (.split 13 10 ⟨[(19, .bool)], [], []⟩ .done .done .done))) .a) (.s .a (.s (.j .normal ⟨[], [(.loc 6, 0, .typ 5)], []⟩ .a) (.s .a (.s (.r (.run 5 (.typ 44 1 .done))) .a)))))))
def E_ref14_headed : Ent U := ⟨96, 0, ⟨[.lst 4, .int .i64, .int .i64], [], [], .agg (.L [.int .i64, .int .i64, .int .i64, .str, .lstf 1, .int .i64, .bool]), [], []⟩, fun k z => ref14_headed k z.1 z.2.1 z.2.2⟩
def h_ref14_headed : Hc := (.s .a (.s .a (.s .a (.s .a (.s .a (.s (.r (.run 9 (.typ 31 1 (.typ 33 1 .done)))) .a))))))
def tb99 : List (Ent U) := [E_ref14_Block, E_ref14_Stmt, E_ref14_choice, E_ref14_headed] ++ tb98
theorem k99 : TblOk Y tb99 := TblOk.grp k98 ⟨⟨_, h_ref14_Block, Tryz.func36, fun _ => rfl, fun k z => by kernel_rfl⟩, ⟨_, h_ref14_Stmt, Tryz.func64, fun _ => rfl, fun k z => by kernel_rfl⟩, ⟨_, h_ref14_choice, Tryz.func95, fun _ => rfl, fun k z => by kernel_rfl⟩, ⟨_, h_ref14_headed, Tryz.func96, fun _ => rfl, fun k z => by kernel_rfl⟩, trivial⟩
def E_ref14_tail_v2 : Ent U := ⟨93, 1, ⟨[.lst 4, .int .i64, .agg (.L [.int .i64, .int .i64, .int .i64, .str, .full 1])], [], [], .typ 5, [], []⟩, fun k z => ref14_tail_v2 k z.1 z.2.1 z.2.2.1 z.2.2.2.1 z.2.2.2.2.1 z.2.2.2.2.2.1 z.2.2.2.2.2.2⟩
def h_ref14_tail_v2 : Hc := (.s .a (.s (.g (.cl (.loc 5) 4) 1 5 (some 4) (.j .normal ⟨[(1, .int .i64), (5, .ptr (.loc 5) 0)], [(.loc 5, 4, .tip (.cl (.loc 5) 4))], [(.cl (.loc 5) 4, 1)]⟩ (.s (.r (.run 4 (.split 14 9 ⟨[(19, .bool)], [], []⟩ .done .done .done))) (.c .a (.s .a (.c (.r (.run 3 (.typ 43 1 .done))) .a)))))) (.s .a (.s .a (.s (.r (.run 4 (.typ 57 1 .done))) .a)))))
def tb100 : List (Ent U) := E_ref14_tail_v2 :: tb99
theorem k100 : TblOk Y tb100 := TblOk.cons k99 Tryz.func93 h_ref14_tail_v2 (fun k z => by kernel_rfl)
def E_ref14_tail_v3 : Ent U := ⟨93, 2, ⟨[.lst 4, .int .i64, .agg (.L [.int .i64, .int .i64, .int .i64, .str, .tip (.cl (.ext 0) 4)])], [[.int .i64, .int .i64, .int .i64, .str, .tip (.cl (.ext 0) 4)]], [(.cl (.ext 0) 4, 1)], .typ 5, [], [(.cl (.ext 0) 4, 1)]⟩, fun k z => ref14_tail_v3 k z.1 z.2.1 z.2.2.1 z.2.2.2.1 z.2.2.2.2.1 z.2.2.2.2.2.1 z.2.2.2.2.2.2.1 z.2.2.2.2.2.2.2.1 z.2.2.2.2.2.2.2.2.1 z.2.2.2.2.2.2.2.2.2.1 z.2.2.2.2.2.2.2.2.2.2⟩
def h_ref14_tail_v3 : Hc := (.s (.r (.pl .done)) (.s (.j .normal ⟨[(1, .int .i64)], [(.loc 5, 4, .tip (.cl (.ext 0) 4))], [(.cl (.ext 0) 4, 1)]⟩ (.s (.r (.run 4 (.split 14 9 ⟨[(19, .bool)], [], []⟩ .done .done .done))) (.c (.s .a (.s .a (.s (.r (.run 6 (.pl .done))) .a))) (.s .a (.c (.r (.run 3 (.typ 43 1 (.run 3 (.pl .done))))) .a))))) (.s .a (.s .a (.s (.r (.run 4 (.typ 57 1 (.run 3 (.pl .done))))) .a)))))
def tb101 : List (Ent U) := E_ref14_tail_v3 :: tb100
theorem k101 : TblOk Y tb101 := TblOk.cons k100 Tryz.func93 h_ref14_tail_v3 (fun k z => by kernel_rfl)
end Go.Proofs.YtjakhfaodfaimaaGreatDoor.SY
