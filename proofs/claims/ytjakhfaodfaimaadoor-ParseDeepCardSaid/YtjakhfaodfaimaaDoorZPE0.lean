/- The code of these functions comes to what the printed functions answer. Printed by wip/sy/gs.py. No condition. -/
import Derived.Test.YtjakhfaodfaimaaDoorZX0
set_option linter.unusedVariables false
set_option maxRecDepth 100000
namespace Go.Proofs.YtjakhfaodfaimaaDoor.SY
open Go AE F
def tb0 : List (Ent U) := []
theorem k0 : TblOk Y tb0 := TblOk.nil
def E_lex_lexer_skip_1 : Ent U := ⟨44, 0, ⟨[.int .u8], [], [], .bool, [], []⟩, fun k z => lex_lexer_skip_1 k z⟩
def h_lex_lexer_skip_1 : Hc := .a
def tb1 : List (Ent U) := E_lex_lexer_skip_1 :: tb0
theorem k1 : TblOk Y tb1 := TblOk.cons k0 Tryd.func44 h_lex_lexer_skip_1 (fun k z => by kernel_rfl)
def E_lex_lexer_run : Ent U := ⟨43, 0, ⟨[.ptr (.ext 0) 0, .fn 44 (.L []) (.L [])], [[.str, .int .i64]], [], .int .i64, [], []⟩, fun k z => lex_lexer_run k z.1 z.2⟩
def h_lex_lexer_run : Hc := (.s .a (.s .a (.s (.j .normal ⟨[(5, .int .i64)], [], []⟩ (.b (.l ⟨[(5, .int .i64)], [], []⟩ (.s (.s (.r (.run 13 (.split 18 27 ⟨[(32, .bool)], [], []⟩ .done .done .done))) .a) .a)))) .a)))
def tb2 : List (Ent U) := E_lex_lexer_run :: tb1
theorem k2 : TblOk Y tb2 := TblOk.cons k1 Tryd.func43 h_lex_lexer_run (fun k z => by kernel_rfl)
def E_lex_lexer_skip : Ent U := ⟨26, 0, ⟨[.ptr (.ext 0) 0], [[.str, .int .i64]], [], .unit, [(.ext 0, 1, .int .i64)], []⟩, fun k z => lex_lexer_skip k z.1 z.2⟩
def h_lex_lexer_skip : Hc := (.b (.l ⟨[], [(.ext 0, 1, .int .i64)], []⟩ (.s .a (.b (.s .a (.b (.s (.j .normal ⟨[(21, .bool)], [], []⟩ .a) .a)))))))
def tb3 : List (Ent U) := E_lex_lexer_skip :: tb2
theorem k3 : TblOk Y tb3 := TblOk.cons k2 Tryd.func26 h_lex_lexer_skip (fun k z => by kernel_rfl)
def E_lex_letter : Ent U := ⟨45, 0, ⟨[.int .u8], [], [], .bool, [], []⟩, fun k z => lex_letter k z⟩
def h_lex_letter : Hc := (.s .a (.s (.r (.run 3 (.mux 5 12 ⟨[(14, .bool)], [], []⟩ .done (.run 4 (.mux 9 11 ⟨[(13, .bool)], [], []⟩ .done .done .done)) .done))) .a))
def tb4 : List (Ent U) := E_lex_letter :: tb3
theorem k4 : TblOk Y tb4 := TblOk.cons k3 Tryd.func45 h_lex_letter (fun k z => by kernel_rfl)
def E_lex_digit : Ent U := ⟨47, 0, ⟨[.int .u8], [], [], .bool, [], []⟩, fun k z => lex_digit k z⟩
def h_lex_digit : Hc := (.s .a (.s (.r (.run 3 (.mux 5 6 ⟨[(8, .bool)], [], []⟩ .done .done .done))) .a))
def tb5 : List (Ent U) := E_lex_digit :: tb4
theorem k5 : TblOk Y tb5 := TblOk.cons k4 Tryd.func47 h_lex_digit (fun k z => by kernel_rfl)
def E_lex_lexer_next_1 : Ent U := ⟨46, 0, ⟨[.int .u8], [], [], .bool, [], []⟩, fun k z => lex_lexer_next_1 k z⟩
def h_lex_lexer_next_1 : Hc := (.s .a (.s (.r (.run 3 (.split 5 6 ⟨[(8, .bool)], [], []⟩ .done .done .done))) .a))
def tb6 : List (Ent U) := E_lex_lexer_next_1 :: tb5
theorem k6 : TblOk Y tb6 := TblOk.cons k5 Tryd.func46 h_lex_lexer_next_1 (fun k z => by kernel_rfl)
def E_lex_lexer_run_v2 : Ent U := ⟨43, 1, ⟨[.ptr (.ext 0) 0, .fn 46 (.L []) (.L [])], [[.str, .int .i64]], [], .int .i64, [], []⟩, fun k z => lex_lexer_run_v2 k z.1 z.2⟩
def h_lex_lexer_run_v2 : Hc := (.s .a (.s .a (.s (.j .normal ⟨[(5, .int .i64)], [], []⟩ (.b (.l ⟨[(5, .int .i64)], [], []⟩ (.s (.s (.r (.run 13 (.split 18 27 ⟨[(32, .bool)], [], []⟩ .done .done .done))) .a) .a)))) .a)))
def tb7 : List (Ent U) := E_lex_lexer_run_v2 :: tb6
theorem k7 : TblOk Y tb7 := TblOk.cons k6 Tryd.func43 h_lex_lexer_run_v2 (fun k z => by kernel_rfl)
def tb8 : List (Ent U) := E_strings_Fields :: tb7
theorem k8 : TblOk Y tb8 := TblOk.ext k7 ok_strings_Fields
def E_word_All : Ent U := ⟨62, 0, ⟨[], [], [], .lst 0, [], []⟩, fun k z => word_All k⟩
def h_word_All : Hc := .a
def tb9 : List (Ent U) := E_word_All :: tb8
theorem k9 : TblOk Y tb9 := TblOk.cons k8 Tryd.func62 h_word_All (fun k z => by kernel_rfl)
def E_slices_Index_string : Ent U := ⟨74, 0, ⟨[.lst 0, .str], [], [], .int .i64, [], []⟩, fun k z => slices_Index_string k z.1 z.2⟩
def h_slices_Index_string : Hc := (.s .a (.s (.j .normal ⟨[], [], []⟩ (.s .a (.b (.l ⟨[(8, .int .i64)], [], []⟩ .a)))) .a))
def tb10 : List (Ent U) := E_slices_Index_string :: tb9
theorem k10 : TblOk Y tb10 := TblOk.cons k9 Tryd.func74 h_slices_Index_string (fun k z => by kernel_rfl)
def E_slices_Contains_string : Ent U := ⟨61, 0, ⟨[.lst 0, .str], [], [], .bool, [], []⟩, fun k z => slices_Contains_string k z.1 z.2⟩
def h_slices_Contains_string : Hc := .a
def tb11 : List (Ent U) := E_slices_Contains_string :: tb10
theorem k11 : TblOk Y tb11 := TblOk.cons k10 Tryd.func61 h_slices_Contains_string (fun k z => by kernel_rfl)
def E_word_Is : Ent U := ⟨48, 0, ⟨[.str], [], [], .bool, [], []⟩, fun k z => word_Is k z⟩
def h_word_Is : Hc := .a
def tb12 : List (Ent U) := E_word_Is :: tb11
theorem k12 : TblOk Y tb12 := TblOk.cons k11 Tryd.func48 h_word_Is (fun k z => by kernel_rfl)
def E_lex_lexer_run_v3 : Ent U := ⟨43, 2, ⟨[.ptr (.ext 0) 0, .fn 47 (.L []) (.L [])], [[.str, .int .i64]], [], .int .i64, [], []⟩, fun k z => lex_lexer_run_v3 k z.1 z.2⟩
def h_lex_lexer_run_v3 : Hc := (.s .a (.s .a (.s (.j .normal ⟨[(5, .int .i64)], [], []⟩ (.b (.l ⟨[(5, .int .i64)], [], []⟩ (.s (.s (.r (.run 13 (.split 18 27 ⟨[(32, .bool)], [], []⟩ .done .done .done))) .a) .a)))) .a)))
def tb13 : List (Ent U) := E_lex_lexer_run_v3 :: tb12
theorem k13 : TblOk Y tb13 := TblOk.cons k12 Tryd.func43 h_lex_lexer_run_v3 (fun k z => by kernel_rfl)
def E_whole_Read : Ent U := ⟨49, 0, ⟨[.str], [], [], .tup (.L [.int .i64, .int .i64]), [], []⟩, fun k z => whole_Read k z⟩
def h_whole_Read : Hc := (.s .a (.s .a (.s .a (.s (.j .normal ⟨[(4, .int .i64), (5, .bool)], [], []⟩ (.s .a (.b (.l ⟨[(4, .int .i64), (5, .bool), (15, .int .i64)], [], []⟩ (.s .a (.s .a (.s (.j .normal ⟨[(4, .int .i64), (5, .bool)], [], []⟩ (.b (.s .a (.s (.s (.r (.run 3 (.mux 21 6 ⟨[(24, .bool)], [], []⟩ .done .done .done))) .a) (.s .a (.s (.r (.run 2 (.mux 29 8 ⟨[(35, .bool)], [], []⟩ .done .done .done))) .a)))))) .a))))))) .a))))
def tb14 : List (Ent U) := E_whole_Read :: tb13
theorem k14 : TblOk Y tb14 := TblOk.cons k13 Tryd.func49 h_whole_Read (fun k z => by kernel_rfl)
def E_word_Sign : Ent U := ⟨63, 0, ⟨[.str], [], [], .tup (.L [.int .i64, .bool]), [], []⟩, fun k z => word_Sign k z⟩
def h_word_Sign : Hc := (.s .a (.s (.j .normal ⟨[], [], []⟩ (.s .a (.b (.l ⟨[(7, .int .i64)], [], []⟩ (.s .a (.s .a (.s (.b (.s .a (.s (.r (.run 3 (.mux 13 7 ⟨[(17, .bool)], [], []⟩ .done .done .done))) .a))) .a))))))) .a))
def tb15 : List (Ent U) := E_word_Sign :: tb14
theorem k15 : TblOk Y tb15 := TblOk.cons k14 Tryd.func63 h_word_Sign (fun k z => by kernel_rfl)
def tb16 : List (Ent U) := E_strings_IndexByte :: tb15
theorem k16 : TblOk Y tb16 := TblOk.ext k15 ok_strings_IndexByte
def E_word_Mark : Ent U := ⟨50, 0, ⟨[.str], [], [], .str, [], []⟩, fun k z => word_Mark k z⟩
def h_word_Mark : Hc := (.s .a (.s (.j .normal ⟨[], [], []⟩ .a) (.s (.s (.r (.run 3 (.split 19 8 ⟨[(24, .bool)], [], []⟩ .done .done .done))) .a) .a)))
def tb17 : List (Ent U) := E_word_Mark :: tb16
theorem k17 : TblOk Y tb17 := TblOk.cons k16 Tryd.func50 h_word_Mark (fun k z => by kernel_rfl)
def E_lex_lexer_next : Ent U := ⟨27, 0, ⟨[.ptr (.ext 0) 0], [[.str, .int .i64]], [], .tup (.L [.typ 3, .int .i64]), [(.ext 0, 1, .int .i64)], []⟩, fun k z => lex_lexer_next k z.1 z.2⟩
def h_lex_lexer_next : Hc := (.s .a (.s .a (.s .a (.s .a (.s (.j .normal ⟨[(5, .int .i64), (6, .int .i64)], [(.loc 4, 0, .int .i64), (.loc 4, 2, .int .i64)], []⟩ (.s .a (.b (.s .a (.c (.s (.r (.run 1 (.call 1 .done))) (.s .a (.s (.j .normal ⟨[], [(.loc 4, 0, .int .i64)], []⟩ .a) .a))) (.s .a (.c (.s (.r (.run 1 (.call 2 .done))) .a) .a))))))) .a)))))
def tb18 : List (Ent U) := E_lex_lexer_next :: tb17
theorem k18 : TblOk Y tb18 := TblOk.cons k17 Tryd.func27 h_lex_lexer_next (fun k z => by kernel_rfl)
def E_lex_All : Ent U := ⟨13, 0, ⟨[.str], [], [], .tup (.L [.lst 3, .int .i64, .int .i64]), [], []⟩, fun k z => lex_All k z⟩
def h_lex_All : Hc := (.s .a (.s .a (.s .a (.s .a (.b (.g (.loc 6) 3 6 none (.l ⟨[(6, .tip (.loc 6))], [(.loc 5, 1, .int .i64)], [(.loc 6, 3)]⟩ .a)))))))
def tb19 : List (Ent U) := E_lex_All :: tb18
theorem k19 : TblOk Y tb19 := TblOk.cons k18 Tryd.func13 h_lex_All (fun k z => by kernel_rfl)
def E_place_Of : Ent U := ⟨28, 0, ⟨[.str], [], [], .opt 4, [], []⟩, fun k z => place_Of k z⟩
def h_place_Of : Hc := (.s .a (.s .a (.s (.j .normal ⟨[(3, .ptr (.loc 8) 0)], [(.loc 8, 1, .tip (.cl (.loc 8) 1))], [(.cl (.loc 8) 1, 5)]⟩ (.s .a (.b (.g (.cl (.loc 8) 1) 5 3 (some 1) (.l ⟨[(11, .int .i64)], [(.loc 8, 1, .tip (.cl (.loc 8) 1))], [(.cl (.loc 8) 1, 5)]⟩ (.s .a (.s .a (.s (.j .normal ⟨[], [(.loc 8, 1, .tip (.cl (.loc 8) 1))], [(.cl (.loc 8) 1, 5)]⟩ .a) .a)))))))) .a)))
def tb20 : List (Ent U) := E_place_Of :: tb19
theorem k20 : TblOk Y tb20 := TblOk.cons k19 Tryd.func28 h_place_Of (fun k z => by kernel_rfl)
def E_place_Lines_At_1 : Ent U := ⟨52, 0, ⟨[.int .i64, .ptr (.ext 0) 0, .ptr (.ext 1) 0], [[.opt 4], [.int .i64]], [], .bool, [], []⟩, fun k z => place_Lines_At_1 k z.1 z.2.1 z.2.2⟩
def h_place_Lines_At_1 : Hc := .a
def tb21 : List (Ent U) := E_place_Lines_At_1 :: tb20
theorem k21 : TblOk Y tb21 := TblOk.cons k20 Tryd.func52 h_place_Lines_At_1 (fun k z => by kernel_rfl)
def E_sort_Search : Ent U := ⟨51, 0, ⟨[.int .i64, .fn 52 (.L []) (.L [.ptr (.ext 0) 0, .ptr (.ext 1) 0])], [[.opt 4], [.int .i64]], [], .int .i64, [], []⟩, fun k z => sort_Search k z.1 z.2.1 z.2.2⟩
def h_sort_Search : Hc := (.s .a (.s .a (.s (.j .normal ⟨[(5, .int .i64)], [], []⟩ (.b (.l ⟨[(5, .int .i64), (6, .int .i64)], [], []⟩ .a))) .a)))
def tb22 : List (Ent U) := E_sort_Search :: tb21
theorem k22 : TblOk Y tb22 := TblOk.cons k21 Tryd.func51 h_sort_Search (fun k z => by kernel_rfl)
def E_place_Lines_At : Ent U := ⟨29, 0, ⟨[.opt 4, .int .i64], [], [], .tup (.L [.int .i64, .int .i64]), [], []⟩, fun k z => place_Lines_At k z.1 z.2⟩
def h_place_Lines_At : Hc := .a
def tb23 : List (Ent U) := E_place_Lines_At :: tb22
theorem k23 : TblOk Y tb23 := TblOk.cons k22 Tryd.func29 h_place_Lines_At (fun k z => by kernel_rfl)
def E_parse_fault : Ent U := ⟨14, 0, ⟨[.str, .int .i64, .int .i64], [], [], .tup (.L [.typ 1, .typ 2]), [], []⟩, fun k z => parse_fault k z.1 z.2.1 z.2.2⟩
def h_parse_fault : Hc := .a
def tb24 : List (Ent U) := E_parse_fault :: tb23
theorem k24 : TblOk Y tb24 := TblOk.cons k23 Tryd.func14 h_parse_fault (fun k z => by kernel_rfl)
def E_nest_depth_behind : Ent U := ⟨30, 0, ⟨[.typ 6, .typ 3], [], [], .typ 6, [], []⟩, fun k z => nest_depth_behind k z.1 z.2⟩
def h_nest_depth_behind : Hc := (.s .a (.s .a (.s (.j .normal ⟨[(5, .str)], [], []⟩ .a) (.s (.s .a (.b (.s (.j .normal ⟨[(12, .bool)], [], []⟩ .a) (.c .a (.s (.j .normal ⟨[(21, .bool)], [], []⟩ .a) (.c .a (.s (.j .normal ⟨[(29, .bool)], [], []⟩ .a) .a))))))) .a))))
def tb25 : List (Ent U) := E_nest_depth_behind :: tb24
theorem k25 : TblOk Y tb25 := TblOk.cons k24 Tryd.func30 h_nest_depth_behind (fun k z => by kernel_rfl)
def E_nest_Check : Ent U := ⟨15, 0, ⟨[.lst 3], [], [], .tup (.L [.int .i64, .int .i64]), [], []⟩, fun k z => nest_Check k z⟩
def h_nest_Check : Hc := (.s .a (.s .a (.s (.j .normal ⟨[], [(.loc 4, 0, .typ 6)], []⟩ (.s .a (.b (.l ⟨[(9, .int .i64)], [(.loc 4, 0, .typ 6)], []⟩ (.s .a (.s .a (.s (.b (.s .a (.s .a (.s (.r (.run 4 (.mux 19 8 ⟨[(23, .bool)], [], []⟩ .done .done .done))) .a)))) .a))))))) .a)))
def tb26 : List (Ent U) := E_nest_Check :: tb25
theorem k26 : TblOk Y tb26 := TblOk.cons k25 Tryd.func15 h_nest_Check (fun k z => by kernel_rfl)
def E_stmt_cursor_look : Ent U := ⟨19, 0, ⟨[.ptr (.ext 0) 0], [[.lst 3, .int .i64, .bool]], [], .typ 3, [], []⟩, fun k z => stmt_cursor_look k z.1 z.2.1 z.2.2⟩
def h_stmt_cursor_look : Hc := (.s .a (.s (.s (.r (.run 6 (.mux 8 17 ⟨[(19, .bool)], [], []⟩ .done .done .done))) .a) .a))
def tb27 : List (Ent U) := E_stmt_cursor_look :: tb26
theorem k27 : TblOk Y tb27 := TblOk.cons k26 Tryd.func19 h_stmt_cursor_look (fun k z => by kernel_rfl)
def E_stmt_cursor_is : Ent U := ⟨31, 0, ⟨[.ptr (.ext 0) 0, .int .i64, .str], [[.lst 3, .int .i64, .bool]], [], .bool, [], []⟩, fun k z => stmt_cursor_is k z.1 z.2.1 z.2.2.1 z.2.2.2.1 z.2.2.2.2⟩
def h_stmt_cursor_is : Hc := (.s .a (.s .a (.s (.r (.run 6 (.mux 15 11 ⟨[(20, .bool)], [], []⟩ .done .done (.run 1 (.mux 21 17 ⟨[(26, .bool)], [], []⟩ .done .done .done))))) .a)))
def tb28 : List (Ent U) := E_stmt_cursor_is :: tb27
theorem k28 : TblOk Y tb28 := TblOk.cons k27 Tryd.func31 h_stmt_cursor_is (fun k z => by kernel_rfl)
def E_stmt_cursor_takes : Ent U := ⟨16, 0, ⟨[.ptr (.ext 0) 0, .int .i64, .str], [[.lst 3, .int .i64, .bool]], [], .bool, [(.ext 0, 1, .int .i64)], []⟩, fun k z => stmt_cursor_takes k z.1 z.2.1 z.2.2.1 z.2.2.2.1 z.2.2.2.2⟩
def h_stmt_cursor_takes : Hc := .a
def tb29 : List (Ent U) := E_stmt_cursor_takes :: tb28
theorem k29 : TblOk Y tb29 := TblOk.cons k28 Tryd.func16 h_stmt_cursor_takes (fun k z => by kernel_rfl)
def E_stmt_cursor_name : Ent U := ⟨32, 0, ⟨[.ptr (.ext 0) 0], [[.lst 3, .int .i64, .bool]], [], .tup (.L [.str, .int .i64]), [(.ext 0, 1, .int .i64), (.ext 0, 2, .bool)], []⟩, fun k z => stmt_cursor_name k z.1 z.2.1 z.2.2⟩
def h_stmt_cursor_name : Hc := (.s .a (.s .a (.s (.s (.r (.run 5 (.mux 11 9 ⟨[(15, .bool)], [], []⟩ .done .done .done))) .a) .a)))
def tb30 : List (Ent U) := E_stmt_cursor_name :: tb29
theorem k30 : TblOk Y tb30 := TblOk.cons k29 Tryd.func32 h_stmt_cursor_name (fun k z => by kernel_rfl)
def E_stmt_cursor_wants : Ent U := ⟨37, 0, ⟨[.ptr (.ext 0) 0, .lst 0], [[.lst 3, .int .i64, .bool]], [], .unit, [(.ext 0, 1, .int .i64), (.ext 0, 2, .bool)], []⟩, fun k z => stmt_cursor_wants k z.1 z.2.1 z.2.2.1 z.2.2.2⟩
def h_stmt_cursor_wants : Hc := (.s .a (.b (.l ⟨[(8, .int .i64)], [(.ext 0, 1, .int .i64), (.ext 0, 2, .bool)], []⟩ (.s .a (.s .a (.s (.b (.s .a (.r (.run 6 (.mux 17 11 ⟨[(22, .bool)], [], []⟩ .done .done .done))))) .a))))))
def tb31 : List (Ent U) := E_stmt_cursor_wants :: tb30
theorem k31 : TblOk Y tb31 := TblOk.cons k30 Tryd.func37 h_stmt_cursor_wants (fun k z => by kernel_rfl)
def E_expr_reader_look : Ent U := ⟨77, 0, ⟨[.ptr (.ext 0) 0], [[.lst 3, .int .i64, .bool]], [], .typ 3, [], []⟩, fun k z => expr_reader_look k z.1 z.2.1 z.2.2⟩
def h_expr_reader_look : Hc := (.s .a (.s (.s (.r (.run 6 (.mux 8 17 ⟨[(19, .bool)], [], []⟩ .done .done .done))) .a) .a))
def tb32 : List (Ent U) := E_expr_reader_look :: tb31
theorem k32 : TblOk Y tb32 := TblOk.cons k31 Tryd.func77 h_expr_reader_look (fun k z => by kernel_rfl)
def E_expr_reader_name : Ent U := ⟨78, 0, ⟨[.ptr (.ext 0) 0], [[.lst 3, .int .i64, .bool]], [], .str, [(.ext 0, 1, .int .i64), (.ext 0, 2, .bool)], []⟩, fun k z => expr_reader_name k z.1 z.2.1 z.2.2⟩
def h_expr_reader_name : Hc := (.s .a (.s .a (.s (.s (.r (.run 5 (.mux 10 9 ⟨[(14, .bool)], [], []⟩ .done .done .done))) .a) .a)))
def tb33 : List (Ent U) := E_expr_reader_name :: tb32
theorem k33 : TblOk Y tb33 := TblOk.cons k32 Tryd.func78 h_expr_reader_name (fun k z => by kernel_rfl)
def E_expr_reader_is : Ent U := ⟨81, 0, ⟨[.ptr (.ext 0) 0, .int .i64, .str], [[.lst 3, .int .i64, .bool]], [], .bool, [], []⟩, fun k z => expr_reader_is k z.1 z.2.1 z.2.2.1 z.2.2.2.1 z.2.2.2.2⟩
def h_expr_reader_is : Hc := (.s .a (.s .a (.s (.r (.run 5 (.mux 14 10 ⟨[(19, .bool)], [], []⟩ .done .done .done))) .a)))
def tb34 : List (Ent U) := E_expr_reader_is :: tb33
theorem k34 : TblOk Y tb34 := TblOk.cons k33 Tryd.func81 h_expr_reader_is (fun k z => by kernel_rfl)
def E_expr_reader_takes : Ent U := ⟨79, 0, ⟨[.ptr (.ext 0) 0, .str], [[.lst 3, .int .i64, .bool]], [], .bool, [(.ext 0, 1, .int .i64)], []⟩, fun k z => expr_reader_takes k z.1 z.2.1 z.2.2.1 z.2.2.2⟩
def h_expr_reader_takes : Hc := (.s .a (.s (.s (.r (.run 5 (.split 9 10 ⟨[(14, .bool)], [], []⟩ .done .done .done))) .a) .a))
def tb35 : List (Ent U) := E_expr_reader_takes :: tb34
theorem k35 : TblOk Y tb35 := TblOk.cons k34 Tryd.func79 h_expr_reader_takes (fun k z => by kernel_rfl)
def E_expr_reader_wants : Ent U := ⟨80, 0, ⟨[.ptr (.ext 0) 0, .str], [[.lst 3, .int .i64, .bool]], [], .unit, [(.ext 0, 1, .int .i64), (.ext 0, 2, .bool)], []⟩, fun k z => expr_reader_wants k z.1 z.2.1 z.2.2.1 z.2.2.2⟩
def h_expr_reader_wants : Hc := (.r (.run 6 (.mux 9 11 ⟨[(14, .bool)], [], []⟩ .done .done .done)))
def tb36 : List (Ent U) := E_expr_reader_wants :: tb35
theorem k36 : TblOk Y tb36 := TblOk.cons k35 Tryd.func80 h_expr_reader_wants (fun k z => by kernel_rfl)
def E_expr_reader_kind : Ent U := ⟨66, 0, ⟨[.ptr (.ext 0) 0], [[.lst 3, .int .i64, .bool]], [], .typ 1, [(.ext 0, 1, .int .i64), (.ext 0, 2, .bool)], []⟩, fun k z => expr_reader_kind k z.1 z.2.1 z.2.2⟩
def h_expr_reader_kind : Hc := (.s .a (.s .a (.s .a (.s (.j .normal ⟨[], [(.ext 0, 1, .int .i64), (.loc 4, 0, .int .i64)], []⟩ .a) .a))))
def tb37 : List (Ent U) := [E_expr_reader_kind] ++ tb36
theorem k37 : TblOk Y tb37 := TblOk.grp k36 ⟨⟨_, h_expr_reader_kind, Tryd.func66, fun _ => rfl, fun k z => by kernel_rfl⟩, trivial⟩
def E_expr_reader_end : Ent U := ⟨65, 0, ⟨[.ptr (.ext 0) 0, .typ 1], [[.lst 3, .int .i64, .bool]], [], .tup (.L [.typ 1, .int .i64, .int .i64]), [], []⟩, fun k z => expr_reader_end k z.1 z.2.1 z.2.2.1 z.2.2.2⟩
def h_expr_reader_end : Hc := .a
def tb38 : List (Ent U) := E_expr_reader_end :: tb37
theorem k38 : TblOk Y tb38 := TblOk.cons k37 Tryd.func65 h_expr_reader_end (fun k z => by kernel_rfl)
def E_expr_Type : Ent U := ⟨56, 0, ⟨[.lst 3, .int .i64], [], [], .tup (.L [.typ 1, .int .i64, .int .i64]), [], []⟩, fun k z => expr_Type k z.1 z.2⟩
def h_expr_Type : Hc := .a
def tb39 : List (Ent U) := E_expr_Type :: tb38
theorem k39 : TblOk Y tb39 := TblOk.cons k38 Tryd.func56 h_expr_Type (fun k z => by kernel_rfl)
def E_stmt_cursor_part : Ent U := ⟨55, 0, ⟨[.ptr (.ext 0) 0, .fn 56 (.L []) (.L [])], [[.lst 3, .int .i64, .bool]], [], .typ 1, [(.ext 0, 1, .int .i64), (.ext 0, 2, .bool)], []⟩, fun k z => stmt_cursor_part k z.1 z.2.1 z.2.2⟩
def h_stmt_cursor_part : Hc := .a
def tb40 : List (Ent U) := E_stmt_cursor_part :: tb39
theorem k40 : TblOk Y tb40 := TblOk.cons k39 Tryd.func55 h_stmt_cursor_part (fun k z => by kernel_rfl)
def E_stmt_cursor_param : Ent U := ⟨53, 0, ⟨[.ptr (.ext 0) 0], [[.lst 3, .int .i64, .bool]], [], .typ 1, [(.ext 0, 1, .int .i64), (.ext 0, 2, .bool)], []⟩, fun k z => stmt_cursor_param k z.1 z.2.1 z.2.2⟩
def h_stmt_cursor_param : Hc := .a
def tb41 : List (Ent U) := E_stmt_cursor_param :: tb40
theorem k41 : TblOk Y tb41 := TblOk.cons k40 Tryd.func53 h_stmt_cursor_param (fun k z => by kernel_rfl)
def E_stmt_cursor_rec_v2 : Ent U := ⟨33, 1, ⟨[.ptr (.ext 0) 0, .agg (.L [.int .i64, .int .i64, .int .i64, .str, .full 1])], [[.lst 3, .int .i64, .bool]], [], .typ 1, [(.ext 0, 1, .int .i64), (.ext 0, 2, .bool)], []⟩, fun k z => stmt_cursor_rec_v2 k z.1 z.2.1 z.2.2.1 z.2.2.2.1 z.2.2.2.2.1 z.2.2.2.2.2.1 z.2.2.2.2.2.2.1 z.2.2.2.2.2.2.2⟩
def h_stmt_cursor_rec_v2 : Hc := (.s .a (.s .a (.s (.j .normal ⟨[(3, .ptr (.loc 3) 0)], [(.ext 0, 1, .int .i64), (.ext 0, 2, .bool), (.loc 3, 4, .tip (.cl (.loc 3) 4))], [(.cl (.loc 3) 4, 1)]⟩ (.b (.g (.cl (.loc 3) 4) 1 3 (some 4) (.l ⟨[], [(.ext 0, 1, .int .i64), (.ext 0, 2, .bool), (.loc 3, 4, .tip (.cl (.loc 3) 4))], [(.cl (.loc 3) 4, 1)]⟩ .a)))) .a)))
def tb42 : List (Ent U) := E_stmt_cursor_rec_v2 :: tb41
theorem k42 : TblOk Y tb42 := TblOk.cons k41 Tryd.func33 h_stmt_cursor_rec_v2 (fun k z => by kernel_rfl)
def E_stmt_cursor_empty : Ent U := ⟨54, 0, ⟨[.ptr (.ext 0) 0], [[.lst 3, .int .i64, .bool]], [], .bool, [], []⟩, fun k z => stmt_cursor_empty k z.1 z.2.1 z.2.2⟩
def h_stmt_cursor_empty : Hc := .a
def tb43 : List (Ent U) := E_stmt_cursor_empty :: tb42
theorem k43 : TblOk Y tb43 := TblOk.cons k42 Tryd.func54 h_stmt_cursor_empty (fun k z => by kernel_rfl)
def E_stmt_cursor_iso_v2 : Ent U := ⟨34, 1, ⟨[.ptr (.ext 0) 0, .agg (.L [.int .i64, .int .i64, .int .i64, .str, .full 1])], [[.lst 3, .int .i64, .bool]], [], .typ 1, [(.ext 0, 1, .int .i64), (.ext 0, 2, .bool)], []⟩, fun k z => stmt_cursor_iso_v2 k z.1 z.2.1 z.2.2.1 z.2.2.2.1 z.2.2.2.2.1 z.2.2.2.2.2.1 z.2.2.2.2.2.2.1 z.2.2.2.2.2.2.2⟩
def h_stmt_cursor_iso_v2 : Hc := (.s .a (.s (.j .normal ⟨[], [(.ext 0, 1, .int .i64), (.ext 0, 2, .bool), (.loc 3, 2, .int .i64)], []⟩ (.s (.r (.run 3 (.split 9 7 ⟨[(13, .bool)], [], []⟩ .done .done .done))) (.c (.s .a (.s .a (.s (.j .normal ⟨[], [(.ext 0, 1, .int .i64), (.ext 0, 2, .bool), (.loc 3, 2, .int .i64)], []⟩ (.s (.r (.run 5 (.mux 27 9 ⟨[(31, .bool)], [], []⟩ .done .done .done))) .a)) .a))) .a))) (.s (.g (.cl (.loc 3) 4) 1 3 (some 4) .a) (.s (.j .normal ⟨[], [(.ext 0, 1, .int .i64), (.ext 0, 2, .bool), (.loc 3, 4, .tip (.cl (.loc 3) 4))], [(.cl (.loc 3) 4, 1)]⟩ (.s .a (.c (.s .a (.s .a (.r (.run 3 (.typ 71 1 .done))))) .a))) .a))))
def tb44 : List (Ent U) := E_stmt_cursor_iso_v2 :: tb43
theorem k44 : TblOk Y tb44 := TblOk.cons k43 Tryd.func34 h_stmt_cursor_iso_v2 (fun k z => by kernel_rfl)
def E_word_Spell : Ent U := ⟨95, 0, ⟨[.int .i64], [], [], .str, [], []⟩, fun k z => word_Spell k z⟩
def h_word_Spell : Hc := (.s .a (.s (.s (.r (.run 3 (.mux 5 6 ⟨[(8, .bool)], [], []⟩ .done .done .done))) .a) .a))
def tb45 : List (Ent U) := E_word_Spell :: tb44
theorem k45 : TblOk Y tb45 := TblOk.cons k44 Tryd.func95 h_word_Spell (fun k z => by kernel_rfl)
def E_word_Bind : Ent U := ⟨97, 0, ⟨[.int .i64], [], [], .int .i64, [], []⟩, fun k z => word_Bind k z⟩
def h_word_Bind : Hc := (.s .a (.s (.s .a (.b (.s .a (.c .a (.s .a (.c .a (.s (.j .normal ⟨[(8, .bool)], [], []⟩ .a) (.c .a (.s (.j .normal ⟨[(15, .bool)], [], []⟩ .a) (.c .a (.s (.j .normal ⟨[(18, .bool)], [], []⟩ .a) .a))))))))))) .a))
def tb46 : List (Ent U) := E_word_Bind :: tb45
theorem k46 : TblOk Y tb46 := TblOk.cons k45 Tryd.func97 h_word_Bind (fun k z => by kernel_rfl)
def E_expr_reader_sign : Ent U := ⟨92, 0, ⟨[.ptr (.ext 0) 0, .int .i64], [[.lst 3, .int .i64, .bool]], [], .int .i64, [], []⟩, fun k z => expr_reader_sign k z.1 z.2.1 z.2.2.1 z.2.2.2⟩
def h_expr_reader_sign : Hc := (.s .a (.s .a (.s (.s .a (.s (.r (.run 2 (.mux 17 6 ⟨[(21, .bool)], [], []⟩ .done .done (.run 1 (.split 22 12 ⟨[(27, .bool)], [], []⟩ .done .done .done))))) .a)) .a)))
def tb47 : List (Ent U) := E_expr_reader_sign :: tb46
theorem k47 : TblOk Y tb47 := TblOk.cons k46 Tryd.func92 h_expr_reader_sign (fun k z => by kernel_rfl)
def E_expr_reader_args : Ent U := ⟨82, 0, ⟨[.ptr (.ext 0) 0], [[.lst 3, .int .i64, .bool]], [], .lst 1, [(.ext 0, 1, .int .i64), (.ext 0, 2, .bool)], []⟩, fun k z => expr_reader_args k z.1 z.2.1 z.2.2⟩
def h_expr_reader_args : Hc := (.s .a (.s .a (.s .a (.s .a (.s (.j .normal ⟨[], [(.ext 0, 1, .int .i64), (.ext 0, 2, .bool)], []⟩ (.b (.g (.loc 3) 1 3 none (.l ⟨[(3, .tip (.loc 3))], [(.ext 0, 1, .int .i64), (.ext 0, 2, .bool)], [(.loc 3, 1)]⟩ .a)))) .a)))))
def E_expr_reader_level : Ent U := ⟨89, 0, ⟨[.ptr (.ext 0) 0, .int .i64], [[.lst 3, .int .i64, .bool]], [], .typ 1, [(.ext 0, 1, .int .i64), (.ext 0, 2, .bool)], []⟩, fun k z => expr_reader_level k z.1 z.2.1 z.2.2.1 z.2.2.2⟩
def h_expr_reader_level : Hc := (.s .a (.s .a (.s .a (.s (.j .normal ⟨[], [(.ext 0, 1, .int .i64), (.ext 0, 2, .bool), (.loc 5, 0, .typ 1)], []⟩ (.b (.l ⟨[], [(.ext 0, 1, .int .i64), (.ext 0, 2, .bool), (.loc 5, 0, .typ 1)], []⟩ .a))) .a))))
def E_expr_reader_factor : Ent U := ⟨91, 0, ⟨[.ptr (.ext 0) 0], [[.lst 3, .int .i64, .bool]], [], .typ 1, [(.ext 0, 1, .int .i64), (.ext 0, 2, .bool)], []⟩, fun k z => expr_reader_factor k z.1 z.2.1 z.2.2⟩
def h_expr_reader_factor : Hc := (.s .a (.s .a (.s (.j .normal ⟨[], [(.ext 0, 1, .int .i64)], []⟩ (.s .a (.b (.l ⟨[(11, .int .i64)], [(.ext 0, 1, .int .i64)], []⟩ .a)))) .a)))
def E_expr_reader_part : Ent U := ⟨96, 0, ⟨[.ptr (.ext 0) 0], [[.lst 3, .int .i64, .bool]], [], .typ 1, [(.ext 0, 1, .int .i64), (.ext 0, 2, .bool)], []⟩, fun k z => expr_reader_part k z.1 z.2.1 z.2.2⟩
def h_expr_reader_part : Hc := (.s .a (.s .a (.s (.j .normal ⟨[], [(.ext 0, 1, .int .i64), (.ext 0, 2, .bool), (.loc 3, 0, .typ 1)], []⟩ (.b (.l ⟨[], [(.ext 0, 1, .int .i64), (.ext 0, 2, .bool), (.loc 3, 0, .typ 1)], []⟩ .a))) .a)))
def E_expr_reader_first : Ent U := ⟨98, 0, ⟨[.ptr (.ext 0) 0], [[.lst 3, .int .i64, .bool]], [], .typ 1, [(.ext 0, 1, .int .i64), (.ext 0, 2, .bool)], []⟩, fun k z => expr_reader_first k z.1 z.2.1 z.2.2⟩
def h_expr_reader_first : Hc := (.s .a (.s .a (.s .a (.s (.j .normal ⟨[], [(.ext 0, 1, .int .i64), (.ext 0, 2, .bool), (.loc 4, 0, .typ 1)], []⟩ .a) .a))))
def E_expr_reader_word : Ent U := ⟨99, 0, ⟨[.ptr (.ext 0) 0, .typ 1, .str], [[.lst 3, .int .i64, .bool]], [], .typ 1, [(.ext 0, 1, .int .i64), (.ext 0, 2, .bool)], []⟩, fun k z => expr_reader_word k z.1 z.2.1 z.2.2.1 z.2.2.2.1 z.2.2.2.2⟩
def h_expr_reader_word : Hc := (.s .a (.s (.j .normal ⟨[], [(.ext 0, 1, .int .i64), (.ext 0, 2, .bool), (.loc 4, 0, .typ 1)], []⟩ (.s .a (.b (.s (.j .normal ⟨[(11, .bool)], [], []⟩ .a) (.c .a (.s .a (.c .a (.s .a (.c (.s .a (.s .a (.r (.run 5 (.begin (.loc 53) 1 53 none .done))))) .a))))))))) .a))
def tb48 : List (Ent U) := [E_expr_reader_args, E_expr_reader_level, E_expr_reader_factor, E_expr_reader_part, E_expr_reader_first, E_expr_reader_word] ++ tb47
theorem k48 : TblOk Y tb48 := TblOk.grp k47 ⟨⟨_, h_expr_reader_args, Tryd.func82, fun _ => rfl, fun k z => by kernel_rfl⟩, ⟨_, h_expr_reader_level, Tryd.func89, fun _ => rfl, fun k z => by kernel_rfl⟩, ⟨_, h_expr_reader_factor, Tryd.func91, fun _ => rfl, fun k z => by kernel_rfl⟩, ⟨_, h_expr_reader_part, Tryd.func96, fun _ => rfl, fun k z => by kernel_rfl⟩, ⟨_, h_expr_reader_first, Tryd.func98, fun _ => rfl, fun k z => by kernel_rfl⟩, ⟨_, h_expr_reader_word, Tryd.func99, fun _ => rfl, fun k z => by kernel_rfl⟩, trivial⟩
def E_expr_Args : Ent U := ⟨67, 0, ⟨[.lst 3, .int .i64], [], [], .tup (.L [.lst 1, .int .i64, .int .i64]), [], []⟩, fun k z => expr_Args k z.1 z.2⟩
def h_expr_Args : Hc := .a
def tb49 : List (Ent U) := E_expr_Args :: tb48
theorem k49 : TblOk Y tb49 := TblOk.cons k48 Tryd.func67 h_expr_Args (fun k z => by kernel_rfl)
def E_expr_Expr : Ent U := ⟨83, 0, ⟨[.lst 3, .int .i64], [], [], .tup (.L [.typ 1, .int .i64, .int .i64]), [], []⟩, fun k z => expr_Expr k z.1 z.2⟩
def h_expr_Expr : Hc := .a
def tb50 : List (Ent U) := E_expr_Expr :: tb49
theorem k50 : TblOk Y tb50 := TblOk.cons k49 Tryd.func83 h_expr_Expr (fun k z => by kernel_rfl)
def E_stmt_cursor_part_v2 : Ent U := ⟨55, 1, ⟨[.ptr (.ext 0) 0, .fn 83 (.L []) (.L [])], [[.lst 3, .int .i64, .bool]], [], .typ 1, [(.ext 0, 1, .int .i64), (.ext 0, 2, .bool)], []⟩, fun k z => stmt_cursor_part_v2 k z.1 z.2.1 z.2.2⟩
def h_stmt_cursor_part_v2 : Hc := .a
def tb51 : List (Ent U) := E_stmt_cursor_part_v2 :: tb50
theorem k51 : TblOk Y tb51 := TblOk.cons k50 Tryd.func55 h_stmt_cursor_part_v2 (fun k z => by kernel_rfl)
def E_stmt_cursor_expr : Ent U := ⟨69, 0, ⟨[.ptr (.ext 0) 0], [[.lst 3, .int .i64, .bool]], [], .typ 1, [(.ext 0, 1, .int .i64), (.ext 0, 2, .bool)], []⟩, fun k z => stmt_cursor_expr k z.1 z.2.1 z.2.2⟩
def h_stmt_cursor_expr : Hc := (.s .a (.s (.r (.run 1 (.call 1 .done))) .a))
def tb52 : List (Ent U) := E_stmt_cursor_expr :: tb51
theorem k52 : TblOk Y tb52 := TblOk.cons k51 Tryd.func69 h_stmt_cursor_expr (fun k z => by kernel_rfl)
def E_stmt_cursor_place : Ent U := ⟨68, 0, ⟨[.ptr (.ext 0) 0], [[.lst 3, .int .i64, .bool]], [], .typ 1, [(.ext 0, 1, .int .i64), (.ext 0, 2, .bool)], []⟩, fun k z => stmt_cursor_place k z.1 z.2.1 z.2.2⟩
def h_stmt_cursor_place : Hc := (.s .a (.s .a (.s .a (.s (.j .normal ⟨[], [(.ext 0, 1, .int .i64), (.ext 0, 2, .bool), (.loc 3, 0, .typ 1)], []⟩ (.b (.l ⟨[], [(.ext 0, 1, .int .i64), (.ext 0, 2, .bool), (.loc 3, 0, .typ 1)], []⟩ .a))) .a))))
def tb53 : List (Ent U) := E_stmt_cursor_place :: tb52
theorem k53 : TblOk Y tb53 := TblOk.cons k52 Tryd.func68 h_stmt_cursor_place (fun k z => by kernel_rfl)
def E_stmt_cursor_named : Ent U := ⟨57, 0, ⟨[.ptr (.ext 0) 0], [[.lst 3, .int .i64, .bool]], [], .typ 1, [(.ext 0, 1, .int .i64), (.ext 0, 2, .bool)], []⟩, fun k z => stmt_cursor_named k z.1 z.2.1 z.2.2⟩
def h_stmt_cursor_named : Hc := (.s .a (.s (.s (.r (.run 12 (.split 21 26 ⟨[(35, .bool)], [], []⟩ .done .done (.run 1 (.split 36 41 ⟨[(50, .bool)], [], []⟩ .done .done .done))))) (.c (.s .a (.s .a (.s .a (.s .a (.s (.r (.run 8 (.typ 86 1 .done))) .a))))) .a)) .a))
def tb54 : List (Ent U) := E_stmt_cursor_named :: tb53
theorem k54 : TblOk Y tb54 := TblOk.cons k53 Tryd.func57 h_stmt_cursor_named (fun k z => by kernel_rfl)
def E_stmt_cursor_block : Ent U := ⟨18, 0, ⟨[.ptr (.ext 0) 0], [[.lst 3, .int .i64, .bool]], [], .typ 1, [(.ext 0, 1, .int .i64), (.ext 0, 2, .bool)], []⟩, fun k z => stmt_cursor_block k z.1 z.2.1 z.2.2⟩
def h_stmt_cursor_block : Hc := (.s .a (.s .a (.s .a (.s (.j .normal ⟨[(3, .ptr (.loc 3) 0)], [(.ext 0, 1, .int .i64), (.ext 0, 2, .bool), (.loc 3, 4, .tip (.cl (.loc 3) 4))], [(.cl (.loc 3) 4, 1)]⟩ (.b (.g (.cl (.loc 3) 4) 1 3 (some 4) (.l ⟨[], [(.ext 0, 1, .int .i64), (.ext 0, 2, .bool), (.loc 3, 4, .tip (.cl (.loc 3) 4))], [(.cl (.loc 3) 4, 1)]⟩ (.s (.s (.r (.run 6 (.split 16 10 ⟨[(20, .bool)], [(.ext 0, 1, .int .i64)], []⟩ .done .done .done))) .a) .a))))) .a))))
def E_stmt_cursor_stmt : Ent U := ⟨38, 0, ⟨[.ptr (.ext 0) 0], [[.lst 3, .int .i64, .bool]], [], .typ 1, [(.ext 0, 1, .int .i64), (.ext 0, 2, .bool)], []⟩, fun k z => stmt_cursor_stmt k z.1 z.2.1 z.2.2⟩
def h_stmt_cursor_stmt : Hc := (.s .a (.s .a (.s .a (.s (.r (.run 6 (.call 1 .done))) .a))))
def E_stmt_cursor_word_v2 : Ent U := ⟨58, 1, ⟨[.ptr (.ext 0) 0, .agg (.L [.int .i64, .int .i64, .int .i64, .str, .full 1]), .str], [[.lst 3, .int .i64, .bool]], [], .typ 1, [(.ext 0, 1, .int .i64), (.ext 0, 2, .bool)], []⟩, fun k z => stmt_cursor_word_v2 k z.1 z.2.1 z.2.2.1 z.2.2.2.1 z.2.2.2.2.1 z.2.2.2.2.2.1 z.2.2.2.2.2.2.1 z.2.2.2.2.2.2.2.1 z.2.2.2.2.2.2.2.2⟩
def h_stmt_cursor_word_v2 : Hc := (.s .a (.s .a (.s (.j .normal ⟨[(4, .ptr (.loc 4) 0)], [(.ext 0, 1, .int .i64), (.ext 0, 2, .bool), (.loc 4, 0, .int .i64), (.loc 4, 3, .str), (.loc 4, 4, .lst 1)], []⟩ (.s .a (.b (.s .a (.c .a (.s .a (.c (.s (.r (.run 2 (.call 1 .done))) .a) (.s .a (.c (.s .a (.s (.g (.cl (.loc 4) 4) 1 4 (some 4) .a) .a)) .a))))))))) .a)))
def E_stmt_cursor_choice_v2 : Ent U := ⟨70, 1, ⟨[.ptr (.ext 0) 0, .agg (.L [.int .i64, .int .i64, .int .i64, .str, .full 1])], [[.lst 3, .int .i64, .bool]], [], .typ 1, [(.ext 0, 1, .int .i64), (.ext 0, 2, .bool)], []⟩, fun k z => stmt_cursor_choice_v2 k z.1 z.2.1 z.2.2.1 z.2.2.2.1 z.2.2.2.2.1 z.2.2.2.2.2.1 z.2.2.2.2.2.2.1 z.2.2.2.2.2.2.2⟩
def h_stmt_cursor_choice_v2 : Hc := (.s .a (.s .a (.s (.g (.cl (.loc 3) 4) 1 3 (some 4) .a) (.s .a (.s .a (.s .a (.s (.j .normal ⟨[], [(.ext 0, 1, .int .i64), (.ext 0, 2, .bool), (.loc 3, 4, .tip (.cl (.loc 3) 4))], [(.cl (.loc 3) 4, 1)]⟩ (.s .a (.c (.r (.run 5 (.call 1 .done))) .a))) .a)))))))
def tb55 : List (Ent U) := [E_stmt_cursor_block, E_stmt_cursor_stmt, E_stmt_cursor_word_v2, E_stmt_cursor_choice_v2] ++ tb54
theorem k55 : TblOk Y tb55 := TblOk.grp k54 ⟨⟨_, h_stmt_cursor_block, Tryd.func18, fun _ => rfl, fun k z => by kernel_rfl⟩, ⟨_, h_stmt_cursor_stmt, Tryd.func38, fun _ => rfl, fun k z => by kernel_rfl⟩, ⟨_, h_stmt_cursor_word_v2, Tryd.func58, fun _ => rfl, fun k z => by kernel_rfl⟩, ⟨_, h_stmt_cursor_choice_v2, Tryd.func70, fun _ => rfl, fun k z => by kernel_rfl⟩, trivial⟩
def E_stmt_cursor_fun_v2 : Ent U := ⟨35, 1, ⟨[.ptr (.ext 0) 0, .agg (.L [.int .i64, .int .i64, .int .i64, .str, .full 1])], [[.lst 3, .int .i64, .bool]], [], .typ 1, [(.ext 0, 1, .int .i64), (.ext 0, 2, .bool)], []⟩, fun k z => stmt_cursor_fun_v2 k z.1 z.2.1 z.2.2.1 z.2.2.2.1 z.2.2.2.2.1 z.2.2.2.2.2.1 z.2.2.2.2.2.2.1 z.2.2.2.2.2.2.2⟩
def h_stmt_cursor_fun_v2 : Hc := (.s .a (.s .a (.s (.g (.cl (.loc 3) 4) 1 3 (some 4) (.j .normal ⟨[(3, .ptr (.loc 3) 0)], [(.ext 0, 1, .int .i64), (.ext 0, 2, .bool), (.loc 3, 4, .tip (.cl (.loc 3) 4))], [(.cl (.loc 3) 4, 1)]⟩ (.s .a (.c (.b (.l ⟨[], [(.ext 0, 1, .int .i64), (.ext 0, 2, .bool), (.loc 3, 4, .tip (.cl (.loc 3) 4))], [(.cl (.loc 3) 4, 1)]⟩ .a)) .a)))) (.s (.j .normal ⟨[], [(.ext 0, 1, .int .i64), (.ext 0, 2, .bool), (.loc 3, 4, .tip (.cl (.loc 3) 4))], [(.cl (.loc 3) 4, 1)]⟩ (.s .a (.c (.r (.run 3 (.typ 32 1 .done))) .a))) .a))))
def tb56 : List (Ent U) := E_stmt_cursor_fun_v2 :: tb55
theorem k56 : TblOk Y tb56 := TblOk.cons k55 Tryd.func35 h_stmt_cursor_fun_v2 (fun k z => by kernel_rfl)
def E_stmt_cursor_merge_v2 : Ent U := ⟨36, 1, ⟨[.ptr (.ext 0) 0, .agg (.L [.int .i64, .int .i64, .int .i64, .str, .full 1])], [[.lst 3, .int .i64, .bool]], [], .typ 1, [(.ext 0, 1, .int .i64), (.ext 0, 2, .bool)], []⟩, fun k z => stmt_cursor_merge_v2 k z.1 z.2.1 z.2.2.1 z.2.2.2.1 z.2.2.2.2.1 z.2.2.2.2.2.1 z.2.2.2.2.2.2.1 z.2.2.2.2.2.2.2⟩
def h_stmt_cursor_merge_v2 : Hc := (.s .a (.s (.j .normal ⟨[(3, .ptr (.loc 3) 0)], [(.ext 0, 1, .int .i64), (.ext 0, 2, .bool), (.loc 3, 4, .tip (.cl (.loc 3) 4))], [(.cl (.loc 3) 4, 1)]⟩ (.s .a (.b (.g (.cl (.loc 3) 4) 1 3 (some 4) (.l ⟨[(9, .int .i64)], [(.ext 0, 1, .int .i64), (.ext 0, 2, .bool), (.loc 3, 4, .tip (.cl (.loc 3) 4))], [(.cl (.loc 3) 4, 1)]⟩ .a))))) .a))
def tb57 : List (Ent U) := E_stmt_cursor_merge_v2 :: tb56
theorem k57 : TblOk Y tb57 := TblOk.cons k56 Tryd.func36 h_stmt_cursor_merge_v2 (fun k z => by kernel_rfl)
def E_stmt_cursor_decl : Ent U := ⟨17, 0, ⟨[.ptr (.ext 0) 0], [[.lst 3, .int .i64, .bool]], [], .typ 1, [(.ext 0, 1, .int .i64), (.ext 0, 2, .bool)], []⟩, fun k z => stmt_cursor_decl k z.1 z.2.1 z.2.2⟩
def h_stmt_cursor_decl : Hc := (.s .a (.s .a (.s .a (.s (.j .normal ⟨[], [(.ext 0, 1, .int .i64)], []⟩ (.s .a (.b (.l ⟨[(14, .int .i64)], [(.ext 0, 1, .int .i64)], []⟩ (.s .a (.s .a (.s (.b (.s .a (.s .a (.s .a (.s .a (.s (.s .a (.b (.s .a (.c (.s (.r (.run 2 (.call 1 .done))) .a) (.s .a (.c (.s (.r (.run 2 (.call 1 .done))) .a) (.s .a (.c (.s (.r (.run 2 (.call 1 .done))) .a) .a)))))))) (.s (.r (.run 2 (.call 1 .done))) .a))))))) .a))))))) .a))))
def tb58 : List (Ent U) := E_stmt_cursor_decl :: tb57
theorem k58 : TblOk Y tb58 := TblOk.cons k57 Tryd.func17 h_stmt_cursor_decl (fun k z => by kernel_rfl)
def E_stmt_cursor_end : Ent U := ⟨20, 0, ⟨[.ptr (.ext 0) 0, .typ 1], [[.lst 3, .int .i64, .bool]], [], .tup (.L [.typ 1, .int .i64, .int .i64]), [], []⟩, fun k z => stmt_cursor_end k z.1 z.2.1 z.2.2.1 z.2.2.2⟩
def h_stmt_cursor_end : Hc := .a
def tb59 : List (Ent U) := E_stmt_cursor_end :: tb58
theorem k59 : TblOk Y tb59 := TblOk.cons k58 Tryd.func20 h_stmt_cursor_end (fun k z => by kernel_rfl)
def E_stmt_cursor_look_v2 : Ent U := ⟨19, 1, ⟨[.ptr (.ext 0) 0], [[.typ 7]], [], .typ 3, [], []⟩, fun k z => stmt_cursor_look_v2 k z⟩
def h_stmt_cursor_look_v2 : Hc := (.s .a (.s (.s (.r (.run 6 (.mux 8 17 ⟨[(19, .bool)], [], []⟩ .done .done .done))) .a) .a))
def tb60 : List (Ent U) := E_stmt_cursor_look_v2 :: tb59
theorem k60 : TblOk Y tb60 := TblOk.cons k59 Tryd.func19 h_stmt_cursor_look_v2 (fun k z => by kernel_rfl)
def E_stmt_cursor_is_v2 : Ent U := ⟨31, 1, ⟨[.ptr (.ext 0) 0, .int .i64, .str], [[.typ 7]], [], .bool, [], []⟩, fun k z => stmt_cursor_is_v2 k z.1 z.2.1 z.2.2⟩
def h_stmt_cursor_is_v2 : Hc := (.s .a (.s (.r (.run 1 (.call 1 .done))) (.s (.r (.run 6 (.mux 15 11 ⟨[(20, .bool)], [], []⟩ .done .done (.run 1 (.mux 21 17 ⟨[(26, .bool)], [], []⟩ .done .done .done))))) .a)))
def tb61 : List (Ent U) := E_stmt_cursor_is_v2 :: tb60
theorem k61 : TblOk Y tb61 := TblOk.cons k60 Tryd.func31 h_stmt_cursor_is_v2 (fun k z => by kernel_rfl)
def E_stmt_cursor_takes_v2 : Ent U := ⟨16, 1, ⟨[.ptr (.ext 0) 0, .int .i64, .str], [[.typ 7]], [], .bool, [(.ext 0, 1, .int .i64)], []⟩, fun k z => stmt_cursor_takes_v2 k z.1 z.2.1 z.2.2⟩
def h_stmt_cursor_takes_v2 : Hc := (.s .a (.s (.s (.r (.run 3 (.call 1 .done))) .a) .a))
def tb62 : List (Ent U) := E_stmt_cursor_takes_v2 :: tb61
theorem k62 : TblOk Y tb62 := TblOk.cons k61 Tryd.func16 h_stmt_cursor_takes_v2 (fun k z => by kernel_rfl)
def E_stmt_cursor_wants_v2 : Ent U := ⟨37, 1, ⟨[.ptr (.ext 0) 0, .lst 0], [[.typ 7]], [], .unit, [(.ext 0, 1, .int .i64), (.ext 0, 2, .bool)], []⟩, fun k z => stmt_cursor_wants_v2 k z.1 z.2⟩
def h_stmt_cursor_wants_v2 : Hc := (.s .a (.b (.l ⟨[(8, .int .i64)], [(.ext 0, 1, .int .i64), (.ext 0, 2, .bool)], []⟩ (.s .a (.s .a (.s (.b (.s .a (.r (.run 6 (.mux 17 11 ⟨[(22, .bool)], [], []⟩ .done .done .done))))) .a))))))
def tb63 : List (Ent U) := E_stmt_cursor_wants_v2 :: tb62
theorem k63 : TblOk Y tb63 := TblOk.cons k62 Tryd.func37 h_stmt_cursor_wants_v2 (fun k z => by kernel_rfl)
def E_stmt_cursor_block_v2 : Ent U := ⟨18, 1, ⟨[.ptr (.ext 0) 0], [[.typ 7]], [], .typ 1, [(.ext 0, 1, .int .i64), (.ext 0, 2, .bool)], []⟩, fun k z => stmt_cursor_block_v2 k z⟩
def h_stmt_cursor_block_v2 : Hc := (.s .a (.s (.r (.run 1 (.call 1 .done))) (.s (.r (.run 2 (.call 1 .done))) (.s (.j .normal ⟨[(3, .ptr (.loc 3) 0)], [(.ext 0, 1, .int .i64), (.ext 0, 2, .bool), (.loc 3, 4, .tip (.cl (.loc 3) 4))], [(.cl (.loc 3) 4, 1)]⟩ (.b (.g (.cl (.loc 3) 4) 1 3 (some 4) (.l ⟨[], [(.ext 0, 1, .int .i64), (.ext 0, 2, .bool), (.loc 3, 4, .tip (.cl (.loc 3) 4))], [(.cl (.loc 3) 4, 1)]⟩ (.s (.s (.r (.run 6 (.split 16 10 ⟨[(20, .bool)], [(.ext 0, 1, .int .i64)], []⟩ .done .done .done))) .a) .a))))) .a))))
def tb64 : List (Ent U) := E_stmt_cursor_block_v2 :: tb63
theorem k64 : TblOk Y tb64 := TblOk.cons k63 Tryd.func18 h_stmt_cursor_block_v2 (fun k z => by kernel_rfl)
def E_stmt_Prog : Ent U := ⟨9, 0, ⟨[.lst 3], [], [], .tup (.L [.typ 1, .int .i64, .int .i64]), [], []⟩, fun k z => stmt_Prog k z⟩
def h_stmt_Prog : Hc := (.s .a (.s .a (.s .a (.s (.j .normal ⟨[(6, .ptr (.loc 6) 0)], [(.loc 5, 0, .typ 7), (.loc 6, 4, .tip (.cl (.loc 6) 4))], [(.cl (.loc 6) 4, 1)]⟩ (.b (.g (.cl (.loc 6) 4) 1 6 (some 4) (.l ⟨[], [(.loc 5, 0, .typ 7), (.loc 6, 4, .tip (.cl (.loc 6) 4))], [(.cl (.loc 6) 4, 1)]⟩ (.s (.s (.r (.run 4 (.split 13 7 ⟨[(16, .bool)], [(.loc 5, 1, .int .i64)], []⟩ (.call 1 .done) .done .done))) .a) .a))))) (.s (.r (.run 2 (.call 1 .done))) (.s (.j .normal ⟨[], [(.loc 5, 2, .bool)], []⟩ (.s (.r (.run 4 (.split 32 16 ⟨[(44, .bool)], [], []⟩ (.run 7 (.split 39 15 ⟨[(43, .bool)], [], []⟩ .done .done .done)) .done .done))) .a)) .a))))))
def tb65 : List (Ent U) := E_stmt_Prog :: tb64
theorem k65 : TblOk Y tb65 := TblOk.cons k64 Tryd.func9 h_stmt_Prog (fun k z => by kernel_rfl)
def E_parse_read : Ent U := ⟨8, 0, ⟨[.str, .fn 9 (.L []) (.L [])], [], [], .tup (.L [.typ 1, .typ 2]), [], []⟩, fun k z => parse_read k z⟩
def h_parse_read : Hc := .a
def tb66 : List (Ent U) := E_parse_read :: tb65
theorem k66 : TblOk Y tb66 := TblOk.cons k65 Tryd.func8 h_parse_read (fun k z => by kernel_rfl)
def E_parse_Prog : Ent U := ⟨6, 0, ⟨[.str], [], [], .tup (.L [.typ 1, .typ 2]), [], []⟩, fun k z => parse_Prog k z⟩
def h_parse_Prog : Hc := .a
def tb67 : List (Ent U) := E_parse_Prog :: tb66
theorem k67 : TblOk Y tb67 := TblOk.cons k66 Tryd.func6 h_parse_Prog (fun k z => by kernel_rfl)
def E_law15_works : Ent U := ⟨5, 0, ⟨[], [], [], .bool, [], []⟩, fun k z => law15_works k⟩
def h_law15_works : Hc := (.s .a (.s .a (.s .a (.s (.r (.run 4 (.mux 16 8 ⟨[(20, .bool)], [], []⟩ .done .done (.run 1 (.mux 21 13 ⟨[(25, .bool)], [], []⟩ .done .done .done))))) .a))))
def tb68 : List (Ent U) := E_law15_works :: tb67
theorem k68 : TblOk Y tb68 := TblOk.cons k67 Tryd.func5 h_law15_works (fun k z => by kernel_rfl)
def E_ref11_alone : Ent U := ⟨10, 0, ⟨[.typ 1], [], [], .bool, [], []⟩, fun k z => ref11_alone k z⟩
def h_ref11_alone : Hc := (.s .a (.s (.r (.run 4 (.mux 6 8 ⟨[(10, .bool)], [], []⟩ .done .done .done))) .a))
def tb69 : List (Ent U) := E_ref11_alone :: tb68
theorem k69 : TblOk Y tb69 := TblOk.cons k68 Tryd.func10 h_ref11_alone (fun k z => by kernel_rfl)
def E_ref10_class : Ent U := ⟨59, 0, ⟨[.int .u8], [], [], .int .i64, [], []⟩, fun k z => ref10_class k z⟩
def h_ref10_class : Hc := (.s .a (.s (.s (.r (.run 3 (.mux 5 10 ⟨[(12, .bool)], [], []⟩ .done (.run 3 (.mux 8 9 ⟨[(11, .bool)], [], []⟩ .done .done .done)) (.run 1 (.mux 13 18 ⟨[(20, .bool)], [], []⟩ .done (.run 3 (.mux 16 17 ⟨[(19, .bool)], [], []⟩ .done .done .done)) .done))))) .a) (.s (.s (.r (.run 3 (.mux 23 6 ⟨[(26, .bool)], [], []⟩ .done .done .done))) .a) (.s (.s (.r (.run 3 (.mux 29 6 ⟨[(32, .bool)], [], []⟩ .done .done (.run 1 (.mux 33 10 ⟨[(36, .bool)], [], []⟩ .done .done (.run 1 (.mux 37 14 ⟨[(40, .bool)], [], []⟩ .done .done .done))))))) .a) .a))))
def tb70 : List (Ent U) := E_ref10_class :: tb69
theorem k70 : TblOk Y tb70 := TblOk.cons k69 Tryd.func59 h_ref10_class (fun k z => by kernel_rfl)
def E_ref09_All : Ent U := ⟨84, 0, ⟨[], [], [], .lst 0, [], []⟩, fun k z => ref09_All k⟩
def h_ref09_All : Hc := .a
def tb71 : List (Ent U) := E_ref09_All :: tb70
theorem k71 : TblOk Y tb71 := TblOk.cons k70 Tryd.func84 h_ref09_All (fun k z => by kernel_rfl)
def E_ref09_Is : Ent U := ⟨71, 0, ⟨[.str], [], [], .bool, [], []⟩, fun k z => ref09_Is k z⟩
def h_ref09_Is : Hc := (.s .a (.s .a (.s (.j .normal ⟨[], [], []⟩ (.s .a (.b (.l ⟨[(4, .int .i64)], [], []⟩ .a)))) .a)))
def tb72 : List (Ent U) := E_ref09_Is :: tb71
theorem k72 : TblOk Y tb72 := TblOk.cons k71 Tryd.func71 h_ref09_Is (fun k z => by kernel_rfl)
def E_ref01_Read : Ent U := ⟨72, 0, ⟨[.str], [], [], .tup (.L [.int .i64, .int .i64]), [], []⟩, fun k z => ref01_Read k z⟩
def h_ref01_Read : Hc := (.s .a (.s .a (.s .a (.s .a (.s (.j .normal ⟨[(4, .int .u64), (5, .bool)], [], []⟩ (.s .a (.b (.l ⟨[(4, .int .u64), (5, .bool), (6, .int .i64)], [], []⟩ (.s .a (.s (.j .normal ⟨[(4, .int .u64), (5, .bool)], [], []⟩ (.b (.s (.s (.r (.run 5 (.split 19 10 ⟨[(24, .bool)], [], []⟩ .done .done .done))) .a) (.s (.j .normal ⟨[(5, .bool)], [], []⟩ .a) .a)))) .a)))))) (.s (.s (.r (.run 2 (.mux 38 5 ⟨[(41, .bool)], [], []⟩ .done .done .done))) .a) .a))))))
def tb73 : List (Ent U) := E_ref01_Read :: tb72
theorem k73 : TblOk Y tb73 := TblOk.cons k72 Tryd.func72 h_ref01_Read (fun k z => by kernel_rfl)
def E_ref09_Spell : Ent U := ⟨85, 0, ⟨[.int .i64], [], [], .str, [], []⟩, fun k z => ref09_Spell k z⟩
def h_ref09_Spell : Hc := (.s .a (.s .a (.s (.s (.r (.run 3 (.mux 7 6 ⟨[(10, .bool)], [], []⟩ .done .done .done))) .a) .a)))
def tb74 : List (Ent U) := E_ref09_Spell :: tb73
theorem k74 : TblOk Y tb74 := TblOk.cons k73 Tryd.func85 h_ref09_Spell (fun k z => by kernel_rfl)
def E_ref09_Mark : Ent U := ⟨73, 0, ⟨[.str], [], [], .str, [], []⟩, fun k z => ref09_Mark k z⟩
def h_ref09_Mark : Hc := (.s .a (.s .a (.s (.j .normal ⟨[(3, .tip (.loc 3))], [], [(.loc 3, 0)]⟩ (.s .a (.b (.g (.loc 3) 0 3 none (.l ⟨[(3, .tip (.loc 3)), (4, .int .i64)], [], [(.loc 3, 0)]⟩ .a))))) (.s .a (.s (.j .normal ⟨[(5, .str)], [], []⟩ (.s .a (.b (.l ⟨[(5, .str), (6, .int .i64)], [], []⟩ (.s .a (.s (.j .normal ⟨[(5, .str)], [], []⟩ (.b (.s (.r (.run 9 (.split 31 22 ⟨[(44, .bool)], [], []⟩ .done .done (.run 1 (.split 45 32 ⟨[(54, .bool)], [], []⟩ .done .done .done))))) .a))) .a)))))) .a)))))
def tb75 : List (Ent U) := E_ref09_Mark :: tb74
theorem k75 : TblOk Y tb75 := TblOk.cons k74 Tryd.func73 h_ref09_Mark (fun k z => by kernel_rfl)
def E_ref10_one : Ent U := ⟨60, 0, ⟨[.str, .int .i64], [], [], .tup (.L [.typ 3, .int .i64]), [], []⟩, fun k z => ref10_one k z.1 z.2⟩
def h_ref10_one : Hc := (.s .a (.s .a (.s .a (.s (.s .a (.c (.s (.j .normal ⟨[(7, .int .i64)], [], []⟩ (.b (.l ⟨[(7, .int .i64)], [], []⟩ (.s (.s (.r (.run 5 (.split 23 18 ⟨[(36, .bool)], [], []⟩ (.run 6 (.split 29 17 ⟨[(35, .bool)], [], []⟩ .done .done .done)) .done .done))) .a) .a)))) (.s .a (.s (.j .normal ⟨[], [(.loc 8, 0, .int .i64)], []⟩ .a) .a))) .a)) (.s (.s .a (.c (.s (.j .normal ⟨[(7, .int .i64)], [], []⟩ (.b (.l ⟨[(7, .int .i64)], [], []⟩ (.s (.s (.r (.run 5 (.split 61 11 ⟨[(67, .bool)], [], []⟩ .done .done .done))) .a) .a)))) .a) .a)) .a)))))
def tb76 : List (Ent U) := E_ref10_one :: tb75
theorem k76 : TblOk Y tb76 := TblOk.cons k75 Tryd.func60 h_ref10_one (fun k z => by kernel_rfl)
def E_ref10_All : Ent U := ⟨40, 0, ⟨[.str], [], [], .tup (.L [.lst 3, .int .i64, .int .i64]), [], []⟩, fun k z => ref10_All k z⟩
def h_ref10_All : Hc := (.s .a (.s .a (.s .a (.s (.j .normal ⟨[(5, .tip (.loc 5))], [], [(.loc 5, 3)]⟩ (.s .a (.b (.g (.loc 5) 3 5 none (.l ⟨[(5, .tip (.loc 5)), (6, .int .i64)], [], [(.loc 5, 3)]⟩ (.s .a (.b (.s .a (.s .a (.s (.s .a (.c (.s (.j .normal ⟨[(6, .int .i64)], [], []⟩ (.b (.l ⟨[(6, .int .i64)], [], []⟩ (.s (.s (.r (.run 5 (.split 31 10 ⟨[(36, .bool)], [], []⟩ .done .done .done))) .a) .a)))) .a) .a)) .a)))))))))) (.s (.r (.run 4 (.typ 61 3 .done))) .a)))))
def tb77 : List (Ent U) := E_ref10_All :: tb76
theorem k77 : TblOk Y tb77 := TblOk.cons k76 Tryd.func40 h_ref10_All (fun k z => by kernel_rfl)
def E_ref11_Named : Ent U := ⟨22, 0, ⟨[.str], [], [], .bool, [], []⟩, fun k z => ref11_Named k z⟩
def h_ref11_Named : Hc := (.s .a (.s .a (.s (.r (.run 3 (.mux 14 7 ⟨[(18, .bool)], [], []⟩ .done .done (.run 1 (.split 19 14 ⟨[(25, .bool)], [], []⟩ .done .done (.run 1 (.split 26 22 ⟨[(33, .bool)], [], []⟩ .done .done .done))))))) .a)))
def tb78 : List (Ent U) := E_ref11_Named :: tb77
theorem k78 : TblOk Y tb78 := TblOk.cons k77 Tryd.func22 h_ref11_Named (fun k z => by kernel_rfl)
def E_ref11_Type : Ent U := ⟨23, 0, ⟨[.typ 1], [], [], .bool, [], []⟩, fun k z => ref11_Type k z⟩
def h_ref11_Type : Hc := (.s .a (.s .a (.s (.s .a (.c (.s (.r (.run 4 (.mux 12 9 ⟨[(17, .bool)], [], []⟩ .done .done .done))) .a) .a)) (.s .a (.s (.s .a (.c (.s (.r (.run 5 (.split 28 11 ⟨[(34, .bool)], [], []⟩ .done .done .done))) .a) .a)) (.s (.r (.run 4 (.mux 38 8 ⟨[(42, .bool)], [], []⟩ .done .done (.run 1 (.mux 43 14 ⟨[(48, .bool)], [], []⟩ .done .done .done))))) .a))))))
def tb79 : List (Ent U) := [E_ref11_Type] ++ tb78
theorem k79 : TblOk Y tb79 := TblOk.grp k78 ⟨⟨_, h_ref11_Type, Tryd.func23, fun _ => rfl, fun k z => by kernel_rfl⟩, trivial⟩
def E_ref09_Bind : Ent U := ⟨42, 0, ⟨[.int .i64], [], [], .int .i64, [], []⟩, fun k z => ref09_Bind k z⟩
def h_ref09_Bind : Hc := (.s .a (.s (.s (.r (.run 3 (.mux 5 6 ⟨[(8, .bool)], [], []⟩ .done .done .done))) .a) (.s (.s (.r (.run 3 (.mux 11 6 ⟨[(14, .bool)], [], []⟩ .done .done .done))) .a) (.s (.s (.r (.run 3 (.mux 17 6 ⟨[(20, .bool)], [], []⟩ .done .done .done))) .a) .a))))
def tb80 : List (Ent U) := E_ref09_Bind :: tb79
theorem k80 : TblOk Y tb80 := TblOk.cons k79 Tryd.func42 h_ref09_Bind (fun k z => by kernel_rfl)
def E_ref11_Expr : Ent U := ⟨24, 0, ⟨[.typ 1], [], [], .bool, [], []⟩, fun k z => ref11_Expr k z⟩
def h_ref11_Expr : Hc := (.s .a (.s .a (.s (.s .a (.c (.s (.r (.run 3 (.mux 12 6 ⟨[(15, .bool)], [], []⟩ .done .done (.run 1 (.split 16 13 ⟨[(22, .bool)], [], []⟩ .done .done (.run 1 (.split 23 19 ⟨[(28, .bool)], [], []⟩ .done .done .done))))))) .a) .a)) (.s .a (.s (.s (.r (.run 4 (.mux 36 8 ⟨[(40, .bool)], [], []⟩ .done .done .done))) (.c (.s (.r (.run 3 (.mux 43 7 ⟨[(47, .bool)], [], []⟩ .done .done (.run 1 (.mux 48 12 ⟨[(52, .bool)], [], []⟩ .done .done (.run 1 (.mux 53 22 ⟨[(62, .bool)], [], []⟩ (.run 4 (.mux 57 21 ⟨[(61, .bool)], [], []⟩ .done .done .done)) .done .done))))))) .a) .a)) (.s (.s (.r (.run 4 (.mux 66 8 ⟨[(70, .bool)], [], []⟩ .done .done .done))) (.c (.s (.s .a (.c (.s (.r (.run 3 (.mux 76 7 ⟨[(80, .bool)], [], []⟩ .done .done (.run 1 (.mux 81 17 ⟨[(90, .bool)], [], []⟩ (.run 4 (.mux 85 16 ⟨[(89, .bool)], [], []⟩ .done .done .done)) .done .done))))) .a) .a)) (.s (.r (.run 3 (.mux 93 7 ⟨[(97, .bool)], [], []⟩ .done .done (.run 1 (.split 98 13 ⟨[(103, .bool)], [], []⟩ .done .done .done))))) .a)) .a)) (.s (.s .a (.c (.s (.r (.run 3 (.split 109 6 ⟨[(112, .bool)], [], []⟩ .done .done .done))) .a) .a)) (.s (.s (.r (.run 4 (.split 116 9 ⟨[(121, .bool)], [], []⟩ .done .done .done))) .a) (.s (.r (.run 4 (.mux 125 7 ⟨[(128, .bool)], [], []⟩ .done .done (.run 1 (.mux 129 16 ⟨[(137, .bool)], [], []⟩ .done (.run 4 (.mux 133 15 ⟨[(136, .bool)], [], []⟩ .done .done .done)) (.run 1 (.mux 138 21 ⟨[(142, .bool)], [], []⟩ .done .done (.run 1 (.mux 143 26 ⟨[(147, .bool)], [], []⟩ .done .done .done))))))))) .a)))))))))
def E_ref11_exprs : Ent U := ⟨41, 0, ⟨[.lst 1], [], [], .bool, [], []⟩, fun k z => ref11_exprs k z⟩
def h_ref11_exprs : Hc := (.s .a (.s (.j .normal ⟨[], [], []⟩ (.s .a (.b (.l ⟨[(3, .int .i64)], [], []⟩ .a)))) .a))
def tb81 : List (Ent U) := [E_ref11_Expr, E_ref11_exprs] ++ tb80
theorem k81 : TblOk Y tb81 := TblOk.grp k80 ⟨⟨_, h_ref11_Expr, Tryd.func24, fun _ => rfl, fun k z => by kernel_rfl⟩, ⟨_, h_ref11_exprs, Tryd.func41, fun _ => rfl, fun k z => by kernel_rfl⟩, trivial⟩
def E_ref11_place : Ent U := ⟨39, 0, ⟨[.typ 1], [], [], .bool, [], []⟩, fun k z => ref11_place k z⟩
def h_ref11_place : Hc := (.s .a (.s .a (.s .a (.s (.r (.run 4 (.mux 12 8 ⟨[(16, .bool)], [], []⟩ .done .done (.run 1 (.split 17 15 ⟨[(23, .bool)], [], []⟩ .done .done .done))))) .a))))
def tb82 : List (Ent U) := [E_ref11_place] ++ tb81
theorem k82 : TblOk Y tb82 := TblOk.grp k81 ⟨⟨_, h_ref11_place, Tryd.func39, fun _ => rfl, fun k z => by kernel_rfl⟩, trivial⟩
def E_ref11_kind : Ent U := ⟨11, 0, ⟨[.typ 1, .int .i64], [], [], .bool, [], []⟩, fun k z => ref11_kind k z.1 z.2⟩
def h_ref11_kind : Hc := (.s .a (.s (.r (.run 5 (.split 9 8 ⟨[(12, .bool)], [], []⟩ .done .done .done))) .a))
def E_ref11_Stmt : Ent U := ⟨21, 0, ⟨[.typ 1], [], [], .bool, [], []⟩, fun k z => ref11_Stmt k z⟩
def h_ref11_Stmt : Hc := (.s .a (.s .a (.s (.s (.r (.run 4 (.mux 11 8 ⟨[(15, .bool)], [], []⟩ .done .done .done))) (.c (.s (.s (.r (.run 4 (.split 19 9 ⟨[(24, .bool)], [], []⟩ .done .done .done))) .a) (.s (.r (.run 4 (.mux 28 7 ⟨[(31, .bool)], [], []⟩ .done .done (.run 1 (.split 32 23 ⟨[(47, .bool)], [], []⟩ .done (.run 4 (.mux 36 15 ⟨[(39, .bool)], [], []⟩ .done .done (.run 1 (.split 40 22 ⟨[(46, .bool)], [], []⟩ .done .done .done)))) .done))))) .a)) .a)) (.s .a (.s (.s .a (.c (.s (.j .normal ⟨[], [], []⟩ (.s .a (.b (.l ⟨[(4, .int .i64)], [], []⟩ .a)))) .a) .a)) (.s (.s (.r (.run 4 (.mux 69 7 ⟨[(72, .bool)], [], []⟩ .done .done .done))) .a) (.s (.s (.r (.run 4 (.mux 76 8 ⟨[(80, .bool)], [], []⟩ .done .done .done))) (.c (.s (.r (.run 3 (.split 83 9 ⟨[(89, .bool)], [], []⟩ .done .done .done))) .a) .a)) (.s (.s .a (.c (.s (.r (.run 3 (.split 95 10 ⟨[(102, .bool)], [], []⟩ .done .done (.run 1 (.split 103 17 ⟨[(109, .bool)], [], []⟩ .done .done .done))))) .a) .a)) (.s (.s .a (.c (.s (.r (.run 3 (.split 115 9 ⟨[(121, .bool)], [], []⟩ .done .done (.run 1 (.split 122 16 ⟨[(128, .bool)], [], []⟩ .done .done .done))))) .a) .a)) (.s (.s (.r (.run 4 (.mux 132 8 ⟨[(136, .bool)], [], []⟩ .done .done (.run 1 (.mux 137 12 ⟨[(140, .bool)], [], []⟩ .done .done (.run 1 (.split 141 20 ⟨[(148, .bool)], [], []⟩ .done .done (.run 1 (.split 149 28 ⟨[(156, .bool)], [], []⟩ .done .done .done))))))))) .a) (.s .a (.s (.r (.run 4 (.mux 162 7 ⟨[(165, .bool)], [], []⟩ .done .done (.run 1 (.split 166 21 ⟨[(179, .bool)], [], []⟩ (.run 6 (.split 172 20 ⟨[(178, .bool)], [], []⟩ .done .done .done)) .done .done))))) .a))))))))))))
def tb83 : List (Ent U) := [E_ref11_kind, E_ref11_Stmt] ++ tb82
theorem k83 : TblOk Y tb83 := TblOk.grp k82 ⟨⟨_, h_ref11_kind, Tryd.func11, fun _ => rfl, fun k z => by kernel_rfl⟩, ⟨_, h_ref11_Stmt, Tryd.func21, fun _ => rfl, fun k z => by kernel_rfl⟩, trivial⟩
def E_ref11_param : Ent U := ⟨25, 0, ⟨[.typ 1], [], [], .bool, [], []⟩, fun k z => ref11_param k z⟩
def h_ref11_param : Hc := (.s .a (.s (.r (.run 4 (.mux 6 8 ⟨[(10, .bool)], [], []⟩ .done .done (.run 1 (.split 11 13 ⟨[(15, .bool)], [], []⟩ .done .done (.run 1 (.mux 16 19 ⟨[(21, .bool)], [], []⟩ .done .done (.run 1 (.split 22 26 ⟨[(28, .bool)], [], []⟩ .done .done .done))))))))) .a))
def tb84 : List (Ent U) := E_ref11_param :: tb83
theorem k84 : TblOk Y tb84 := TblOk.cons k83 Tryd.func25 h_ref11_param (fun k z => by kernel_rfl)
def E_ref11_Decl : Ent U := ⟨12, 0, ⟨[.typ 1], [], [], .bool, [], []⟩, fun k z => ref11_Decl k z⟩
def h_ref11_Decl : Hc := (.s .a (.s .a (.s (.s (.r (.run 5 (.mux 14 8 ⟨[(17, .bool)], [], []⟩ .done .done .done))) .a) (.s (.s .a (.c (.s (.s (.r (.run 4 (.split 24 11 ⟨[(31, .bool)], [], []⟩ .done .done (.run 1 (.mux 32 15 ⟨[(35, .bool)], [], []⟩ .done .done .done))))) .a) (.s (.r (.run 3 (.split 38 17 ⟨[(52, .bool)], [], []⟩ .done (.run 7 (.split 45 16 ⟨[(51, .bool)], [], []⟩ .done .done .done)) .done))) .a)) .a)) (.s .a (.s .a (.s (.j .normal ⟨[(4, .int .i64)], [], []⟩ .a) (.s (.j .normal ⟨[(4, .int .i64)], [], []⟩ .a) (.s .a (.s (.j .normal ⟨[], [], []⟩ (.s .a (.b (.l ⟨[(5, .int .i64)], [], []⟩ .a)))) (.s .a (.s .a (.s .a (.s .a (.s (.r (.run 4 (.split 107 22 ⟨[(125, .bool)], [], []⟩ (.run 3 (.split 110 21 ⟨[(124, .bool)], [], []⟩ .done (.run 4 (.split 114 14 ⟨[(117, .bool)], [], []⟩ .done .done (.run 1 (.mux 118 20 ⟨[(123, .bool)], [], []⟩ .done .done .done)))) .done)) .done .done))) .a)))))))))))))))
def tb85 : List (Ent U) := E_ref11_Decl :: tb84
theorem k85 : TblOk Y tb85 := TblOk.cons k84 Tryd.func12 h_ref11_Decl (fun k z => by kernel_rfl)
def E_ref11_Prog : Ent U := ⟨7, 0, ⟨[.typ 1], [], [], .bool, [], []⟩, fun k z => ref11_Prog k z⟩
def h_ref11_Prog : Hc := (.s .a (.s .a (.s (.s (.r (.run 4 (.split 11 8 ⟨[(15, .bool)], [], []⟩ .done .done (.run 1 (.mux 16 12 ⟨[(19, .bool)], [], []⟩ .done .done (.run 1 (.split 20 22 ⟨[(29, .bool)], [], []⟩ .done .done .done))))))) .a) (.s (.j .normal ⟨[], [], []⟩ (.s .a (.b (.l ⟨[(4, .int .i64)], [], []⟩ .a)))) .a))))
def tb86 : List (Ent U) := E_ref11_Prog :: tb85
theorem k86 : TblOk Y tb86 := TblOk.cons k85 Tryd.func7 h_ref11_Prog (fun k z => by kernel_rfl)
def E_law15_ParseFaults : Ent U := ⟨3, 0, ⟨[.str], [], [], .bool, [], []⟩, fun k z => law15_ParseFaults k z⟩
def h_law15_ParseFaults : Hc := (.s .a (.s (.s (.r (.run 3 (.mux 7 7 ⟨[(11, .bool)], [], []⟩ .done .done .done))) .a) (.s .a (.s .a (.s (.s (.r (.run 4 (.mux 26 10 ⟨[(32, .bool)], [], []⟩ .done .done (.run 1 (.mux 33 15 ⟨[(37, .bool)], [], []⟩ .done .done (.run 1 (.mux 38 20 ⟨[(42, .bool)], [], []⟩ .done .done (.run 1 (.mux 43 25 ⟨[(47, .bool)], [], []⟩ .done .done (.run 1 (.mux 48 31 ⟨[(53, .bool)], [], []⟩ .done .done .done))))))))))) .a) (.s (.r (.run 4 (.mux 57 8 ⟨[(61, .bool)], [], []⟩ .done .done (.run 1 (.mux 62 13 ⟨[(66, .bool)], [], []⟩ .done .done (.run 1 (.mux 67 18 ⟨[(71, .bool)], [], []⟩ .done .done .done))))))) .a))))))
def tb87 : List (Ent U) := E_law15_ParseFaults :: tb86
theorem k87 : TblOk Y tb87 := TblOk.cons k86 Tryd.func3 h_law15_ParseFaults (fun k z => by kernel_rfl)
def E_law15_ParseDeep : Ent U := ⟨4, 0, ⟨[.int .u16, .int .u8], [], [], .bool, [], []⟩, fun k z => law15_ParseDeep k z.1 z.2⟩
def h_law15_ParseDeep : Hc := (.s .a (.s .a (.s .a (.s .a (.s (.j .normal ⟨[(6, .str), (7, .str)], [], []⟩ .a) (.s .a (.s (.j .normal ⟨[(8, .str), (9, .str)], [], []⟩ (.s .a (.b (.l ⟨[(8, .str), (9, .str), (10, .int .i64)], [], []⟩ .a)))) (.s .a (.s .a (.s (.j .normal ⟨[(12, .int .i64)], [], []⟩ .a) (.s (.j .normal ⟨[(11, .str), (12, .int .i64)], [], []⟩ (.s .a (.c (.s .a (.s (.j .normal ⟨[(11, .str)], [], []⟩ (.s .a (.b (.l ⟨[(11, .str), (13, .int .i64)], [], []⟩ .a)))) (.s (.j .normal ⟨[(11, .str)], [], []⟩ (.s .a (.b (.l ⟨[(11, .str), (14, .int .i64)], [], []⟩ .a)))) .a))) .a))) (.s .a (.s (.s .a (.c (.s (.r (.run 4 (.mux 75 8 ⟨[(79, .bool)], [], []⟩ .done .done (.run 1 (.mux 80 13 ⟨[(84, .bool)], [], []⟩ .done .done .done))))) .a) .a)) (.s (.r (.run 4 (.split 88 7 ⟨[(91, .bool)], [], []⟩ .done .done .done))) .a))))))))))))))
def tb88 : List (Ent U) := E_law15_ParseDeep :: tb87
theorem k88 : TblOk Y tb88 := TblOk.cons k87 Tryd.func4 h_law15_ParseDeep (fun k z => by kernel_rfl)
end Go.Proofs.YtjakhfaodfaimaaDoor.SY
