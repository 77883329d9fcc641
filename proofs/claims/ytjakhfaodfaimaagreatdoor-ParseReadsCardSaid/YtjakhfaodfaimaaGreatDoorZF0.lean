/- The functions of the program, in plain Lean. No condition. -/
import Derived.Test.YtjakhfaodfaimaaGreatDoorZA1
import Derived.Lib.Fields
import Derived.Lib.Bytealg
set_option linter.unusedVariables false
set_option maxRecDepth 100000
namespace Go.Proofs.YtjakhfaodfaimaaGreatDoor.F
open Go
structure TNode where
  Kind : Int
  At : Int
  N : Int
  Name : List UInt8
  Kids : List TNode
structure Tparse_Fault where
  At : Int
  Line : Int
  Col : Int
  Why : Int
structure Tref15_Got where
  N : TNode
  At : Int
  Line : Int
  Col : Int
  Why : Int
structure TToken where
  Kind : Int
  At : Int
  N : Int
  Text : List UInt8
structure Tref14_Got where
  N : TNode
  At : Int
  Ok : Bool
structure Tplace_Lines where
  src : List UInt8
  begins : List Int
structure Tnest_depth where
  open_ : Int
  row : Int
structure Tstmt_cursor where
  l : List TToken
  at_ : Int
  bad : Bool
def g_word_spellings : List (List UInt8) := [[], [43], [45], [42], [47], [37], [61, 61], [33, 61], [60], [60, 61], [62], [62, 61], [38, 38], [124, 124], [33]]
end Go.Proofs.YtjakhfaodfaimaaGreatDoor.F
namespace Go.Proofs.YtjakhfaodfaimaaGreatDoor.F
open Go
def strings_IndexByte (k : Nat) (a0 : List UInt8) (a1 : Int) : Option Int := some (Lib.indexByte a0 a1.toNat.toUInt8)
def strings_Fields (k : Nat) (a0 : List UInt8) : Option (List (List UInt8)) := if a0.length < 4294967281 ∧ (a0.all fun b => decide (b.toNat < 128)) = true then some (Lib.fields a0) else none
end Go.Proofs.YtjakhfaodfaimaaGreatDoor.F
namespace Go.Proofs.YtjakhfaodfaimaaGreatDoor.F
open Go
def lex_lexer_skip_1 (k : Nat) (a0 : Int) : Option Bool :=
    some (a0 != 10)
def lex_lexer_run (k : Nat) (o0_src : List UInt8) (o0_at : Int) : Option Int :=
    joinK (fun (j0_5 : Int) =>
    some j0_5) fun j_j0 =>
    loopM k (fun (l1_5 : Int) =>
    joinK (fun (g2_26_32 : Bool) =>
    if g2_26_32 then
    some (.inl (IntKind.i64.wrap (l1_5 + 1)))
    else
    (j_j0 l1_5).map .inr) fun j_g2_26 =>
    if (decide ((IntKind.i64.wrap (o0_at + l1_5)) < (o0_src.length : Int))) then
    (ix o0_src (IntKind.i64.wrap (o0_at + l1_5))).bind fun x2_24 =>
    (lex_lexer_skip_1 k (x2_24.toNat : Int)).bind fun x2_25 =>
    j_g2_26 x2_25
    else
    j_g2_26 false) 0
def lex_lexer_skip (k : Nat) (o0_src : List UInt8) (o0_at : Int) : Option Int :=
    loopM k (fun (l0_oext0_1 : Int) =>
    if (decide (l0_oext0_1 < (o0_src.length : Int))) then
    (ix o0_src l0_oext0_1).bind fun x1_8 =>
    joinK (fun (j1_21 : Bool) =>
    if j1_21 then
    some (.inl (IntKind.i64.wrap (l0_oext0_1 + 1)))
    else
    if ((x1_8.toNat : Int) == 35) then
    (lex_lexer_run k o0_src l0_oext0_1).bind fun x8_5 =>
    some (.inl (IntKind.i64.wrap (l0_oext0_1 + x8_5)))
    else
    some (.inr l0_oext0_1)) fun j_j1 =>
    if ((x1_8.toNat : Int) == 32) then
    j_j1 ((x1_8.toNat : Int) == 32)
    else
    if ((x1_8.toNat : Int) == 9) then
    j_j1 ((x1_8.toNat : Int) == 9)
    else
    if ((x1_8.toNat : Int) == 10) then
    j_j1 ((x1_8.toNat : Int) == 10)
    else
    j_j1 ((x1_8.toNat : Int) == 13)
    else
    some (.inr l0_oext0_1)) o0_at
def lex_letter (k : Nat) (a0 : Int) : Option Bool :=
    some ((a0 == 95) || ((decide ((ior .u8 a0 32) ≥ 97)) && (decide ((ior .u8 a0 32) ≤ 122))))
def lex_digit (k : Nat) (a0 : Int) : Option Bool :=
    some ((decide (a0 ≥ 48)) && (decide (a0 ≤ 57)))
def lex_lexer_next_1 (k : Nat) (a0 : Int) : Option Bool :=
    (lex_letter k a0).bind fun x1_1 =>
    joinK (fun (g1_5_8 : Bool) =>
    some g1_5_8) fun j_g1_5 =>
    if x1_1 then
    j_g1_5 true
    else
    (lex_digit k a0).bind fun x1_4 =>
    j_g1_5 x1_4
def lex_lexer_run_v2 (k : Nat) (o0_src : List UInt8) (o0_at : Int) : Option Int :=
    joinK (fun (j0_5 : Int) =>
    some j0_5) fun j_j0 =>
    loopM k (fun (l1_5 : Int) =>
    joinK (fun (g2_26_32 : Bool) =>
    if g2_26_32 then
    some (.inl (IntKind.i64.wrap (l1_5 + 1)))
    else
    (j_j0 l1_5).map .inr) fun j_g2_26 =>
    if (decide ((IntKind.i64.wrap (o0_at + l1_5)) < (o0_src.length : Int))) then
    (ix o0_src (IntKind.i64.wrap (o0_at + l1_5))).bind fun x2_24 =>
    (lex_lexer_next_1 k (x2_24.toNat : Int)).bind fun x2_25 =>
    j_g2_26 x2_25
    else
    j_g2_26 false) 0
def word_All (k : Nat) : Option (List (List UInt8)) :=
    (strings_Fields k [114, 101, 99, 32, 105, 115, 111, 32, 102, 117, 110, 32, 109, 101, 114, 103, 101, 32, 109, 97, 105, 110, 32, 118, 97, 114, 32, 105, 102, 32, 101, 108, 115, 101, 32, 119, 104, 105, 108, 101, 32, 114, 101, 116, 117, 114, 110, 32, 102, 111, 114, 107, 32, 106, 111, 105, 110, 32, 112, 114, 105, 110, 116, 32, 110, 101, 119, 32, 98, 121, 32, 105, 110, 116, 32, 98, 111, 111, 108, 32, 114, 101, 118, 32, 116, 114, 117, 101, 32, 102, 97, 108, 115, 101]).bind fun x1_0 =>
    some x1_0
def slices_Index_string (k : Nat) (a0 : List (List UInt8)) (a1 : List UInt8) : Option Int :=
    joinK (fun (_ : Unit) =>
    some (-1)) fun j_j0 =>
    loopM k (fun (l1_8 : Int) =>
    if (decide (l1_8 < (a0.length : Int))) then
    (ix a0 l1_8).bind fun x4_3 =>
    if (a1 == x4_3) then
    some (.inr l1_8)
    else
    some (.inl (IntKind.i64.wrap (l1_8 + 1)))
    else
    (j_j0 ()).map .inr) 0
def slices_Contains_string (k : Nat) (a0 : List (List UInt8)) (a1 : List UInt8) : Option Bool :=
    (slices_Index_string k a0 a1).bind fun x1_2 =>
    some (decide (x1_2 ≥ 0))
def word_Is (k : Nat) (a0 : List UInt8) : Option Bool :=
    (word_All k).bind fun x1_0 =>
    (slices_Contains_string k x1_0 a0).bind fun x1_2 =>
    some x1_2
def lex_lexer_run_v3 (k : Nat) (o0_src : List UInt8) (o0_at : Int) : Option Int :=
    joinK (fun (j0_5 : Int) =>
    some j0_5) fun j_j0 =>
    loopM k (fun (l1_5 : Int) =>
    joinK (fun (g2_26_32 : Bool) =>
    if g2_26_32 then
    some (.inl (IntKind.i64.wrap (l1_5 + 1)))
    else
    (j_j0 l1_5).map .inr) fun j_g2_26 =>
    if (decide ((IntKind.i64.wrap (o0_at + l1_5)) < (o0_src.length : Int))) then
    (ix o0_src (IntKind.i64.wrap (o0_at + l1_5))).bind fun x2_24 =>
    (lex_digit k (x2_24.toNat : Int)).bind fun x2_25 =>
    j_g2_26 x2_25
    else
    j_g2_26 false) 0
def whole_Read (k : Nat) (a0 : List UInt8) : Option (Int × Int) :=
    if (a0 == []) then
    some (0, 1)
    else
    joinK (fun ((j0_4, j0_5) : Int × Bool) =>
    if j0_5 then
    some (0, 2)
    else
    some (j0_4, 0)) fun j_j0 =>
    loopM k (fun ((l1_4, l1_5, l1_15) : Int × Bool × Int) =>
    if (decide (l1_15 < ((a0.map fun b => (b.toNat : Int)).length : Int))) then
    joinK (fun ((j2_4, j2_5) : Int × Bool) =>
    some (.inl (j2_4, j2_5, (IntKind.i64.wrap (l1_15 + 1))))) fun j_j2 =>
    (ix (a0.map fun b => (b.toNat : Int)) l1_15).bind fun x6_0 =>
    if ((decide (x6_0 < 48)) || (decide (x6_0 > 57))) then
    some (.inr (0, 1))
    else
    if (!(l1_5 || (decide (l1_4 > (IntKind.i64.wrap (Int.tdiv (IntKind.i64.wrap (9223372036854775807 - (IntKind.i64.wrap (IntKind.u8.wrap (x6_0 - 48))))) 10)))))) then
    j_j2 ((IntKind.i64.wrap ((IntKind.i64.wrap (10 * l1_4)) + (IntKind.i64.wrap (IntKind.u8.wrap (x6_0 - 48))))), (l1_5 || (decide (l1_4 > (IntKind.i64.wrap (Int.tdiv (IntKind.i64.wrap (9223372036854775807 - (IntKind.i64.wrap (IntKind.u8.wrap (x6_0 - 48))))) 10))))))
    else
    j_j2 (l1_4, (l1_5 || (decide (l1_4 > (IntKind.i64.wrap (Int.tdiv (IntKind.i64.wrap (9223372036854775807 - (IntKind.i64.wrap (IntKind.u8.wrap (x6_0 - 48))))) 10))))))
    else
    (j_j0 (l1_4, l1_5)).map .inr) (0, (a0 == []), 0)
def word_Sign (k : Nat) (a0 : List UInt8) : Option (Int × Bool) :=
    joinK (fun (_ : Unit) =>
    some (0, false)) fun j_j0 =>
    loopM k (fun (l1_7 : Int) =>
    if (decide (l1_7 < 15)) then
    (ix g_word_spellings l1_7).bind fun x3_1 =>
    if ((decide (l1_7 > 0)) && (x3_1 == a0)) then
    some (.inr (l1_7, true))
    else
    some (.inl (IntKind.i64.wrap (l1_7 + 1)))
    else
    (j_j0 ()).map .inr) 0
def word_Mark (k : Nat) (a0 : List UInt8) : Option (List UInt8) :=
    joinK (fun (_ : Unit) =>
    joinK (fun (g5_7_24 : Bool) =>
    if g5_7_24 then
    (sub a0 0 1).bind fun x6_1 =>
    some x6_1
    else
    some []) fun j_g5_7 =>
    if (!(a0 == [])) then
    (ix a0 0).bind fun x5_4 =>
    (strings_IndexByte k [40, 41, 123, 125, 91, 93, 44, 59, 46, 61, 60, 62, 43, 45, 42, 47, 37, 33] (x5_4.toNat : Int)).bind fun x5_5 =>
    j_g5_7 (decide (x5_5 ≥ 0))
    else
    j_g5_7 false) fun j_j0 =>
    if (decide ((a0.length : Int) > 1)) then
    (sub a0 0 2).bind fun x2_1 =>
    (word_Sign k x2_1).bind fun (x2_2_0, x2_2_1) =>
    if x2_2_1 then
    (sub a0 0 2).bind fun x4_1 =>
    some x4_1
    else
    j_j0 ()
    else
    j_j0 ()
def lex_lexer_next (k : Nat) (o0_src : List UInt8) (o0_at : Int) : Option (TToken × Int × Int) :=
    if (o0_at == (o0_src.length : Int)) then
    some ((TToken.mk 0 o0_at 0 []), 0, o0_at)
    else
    joinK (fun ((j0_5, j0_6, j0_oloc4_0, j0_oloc4_2) : Int × Int × Int × Int) =>
    (sub o0_src o0_at (IntKind.i64.wrap (o0_at + j0_6))).bind fun x21_14 =>
    some ((TToken.mk j0_oloc4_0 o0_at j0_oloc4_2 x21_14), j0_5, (IntKind.i64.wrap (o0_at + j0_6)))) fun j_j0 =>
    (ix o0_src o0_at).bind fun x5_8 =>
    (lex_letter k (x5_8.toNat : Int)).bind fun x10_1 =>
    if x10_1 then
    (lex_lexer_run_v2 k o0_src o0_at).bind fun x11_1 =>
    joinK (fun (j1_oloc4_0 : Int) =>
    if (decide (x11_1 > 32)) then
    j_j0 (3, x11_1, j1_oloc4_0, 0)
    else
    j_j0 (0, x11_1, j1_oloc4_0, 0)) fun j_j1 =>
    (sub o0_src o0_at (IntKind.i64.wrap (o0_at + x11_1))).bind fun x13_14 =>
    (word_Is k x13_14).bind fun x13_15 =>
    if x13_15 then
    j_j1 3
    else
    j_j1 1
    else
    (lex_digit k (x5_8.toNat : Int)).bind fun x17_1 =>
    if x17_1 then
    (lex_lexer_run_v3 k o0_src o0_at).bind fun x18_1 =>
    (sub o0_src o0_at (IntKind.i64.wrap (o0_at + x18_1))).bind fun x20_14 =>
    (whole_Read k x20_14).bind fun (x20_15_0, x20_15_1) =>
    j_j0 (x20_15_1, x18_1, 2, x20_15_0)
    else
    (sub o0_src o0_at (o0_src.length : Int)).bind fun x6_8 =>
    (word_Mark k x6_8).bind fun x6_9 =>
    if ((x6_9.length : Int) == 0) then
    j_j0 (1, (x6_9.length : Int), 4, 0)
    else
    j_j0 (0, (x6_9.length : Int), 4, 0)
def lex_All (k : Nat) (a0 : List UInt8) : Option (List TToken × Int × Int) :=
    if (decide ((a0.length : Int) > 16384)) then
    some ([], 16384, 3)
    else
    loopM k (fun ((l0_6, l0_oloc5_1) : List TToken × Int) =>
    (lex_lexer_skip k a0 l0_oloc5_1).bind fun x5_0 =>
    (lex_lexer_next k a0 x5_0).bind fun (x6_0_0, x6_0_1, x6_0_2) =>
    if (x6_0_1 != 0) then
    some (.inr ([], x6_0_0.At, x6_0_1))
    else
    if (room 40 (l0_6.length + [x6_0_0].length)) then
    if (x6_0_0.Kind == 0) then
    some (.inr ((l0_6 ++ [x6_0_0]), 0, 0))
    else
    some (.inl ((l0_6 ++ [x6_0_0]), x6_0_2))
    else none) ([], 0)
def place_Of (k : Nat) (a0 : List UInt8) : Option (Option Tplace_Lines) :=
    joinK (fun (j0_bclloc81 : List Int) =>
    some (some (Tplace_Lines.mk a0 j0_bclloc81))) fun j_j0 =>
    loopM k (fun ((l1_bclloc81, l1_11) : List Int × Int) =>
    if (decide (l1_11 < (a0.length : Int))) then
    joinK (fun (j2_bclloc81 : List Int) =>
    some (.inl (j2_bclloc81, (IntKind.i64.wrap (l1_11 + 1))))) fun j_j2 =>
    (ix a0 l1_11).bind fun x5_2 =>
    if ((x5_2.toNat : Int) == 10) then
    if (room 8 (l1_bclloc81.length + [(IntKind.i64.wrap (l1_11 + 1))].length)) then
    j_j2 (l1_bclloc81 ++ [(IntKind.i64.wrap (l1_11 + 1))])
    else none
    else
    j_j2 l1_bclloc81
    else
    (j_j0 l1_bclloc81).map .inr) ([0], 0)
def place_Lines_At_1 (k : Nat) (a0 : Int) (o0_0 : Option Tplace_Lines) (o1_0 : Int) : Option Bool :=
    o0_0.bind fun x1_1 =>
    (ix x1_1.begins a0).bind fun x1_5 =>
    some (decide (x1_5 > o1_0))
def sort_Search (k : Nat) (a0 : Int) (o0_0 : Option Tplace_Lines) (o1_0 : Int) : Option Int :=
    joinK (fun (j0_5 : Int) =>
    some j0_5) fun j_j0 =>
    loopM k (fun ((l1_5, l1_6) : Int × Int) =>
    if (decide (l1_5 < l1_6)) then
    (place_Lines_At_1 k (IntKind.i64.wrap (Int.fdiv (IntKind.u64.wrap (IntKind.i64.wrap (l1_5 + l1_6))) (2 ^ (Int.toNat 1)))) o0_0 o1_0).bind fun x4_2 =>
    if (!x4_2) then
    some (.inl ((IntKind.i64.wrap ((IntKind.i64.wrap (Int.fdiv (IntKind.u64.wrap (IntKind.i64.wrap (l1_5 + l1_6))) (2 ^ (Int.toNat 1)))) + 1)), l1_6))
    else
    some (.inl (l1_5, (IntKind.i64.wrap (Int.fdiv (IntKind.u64.wrap (IntKind.i64.wrap (l1_5 + l1_6))) (2 ^ (Int.toNat 1))))))
    else
    (j_j0 l1_5).map .inr) (0, a0)
def place_Lines_At (k : Nat) (a0 : Option Tplace_Lines) (a1 : Int) : Option (Int × Int) :=
    if a0.isNone then
    some (0, 0)
    else
    a0.bind fun x3_2 =>
    a0.bind fun x4_1 =>
    (sort_Search k (x4_1.begins.length : Int) a0 (mx 0 (mn a1 (x3_2.src.length : Int)))).bind fun x4_6 =>
    a0.bind fun x5_3 =>
    (ix x5_3.begins (IntKind.i64.wrap (x4_6 - 1))).bind fun x5_8 =>
    some (x4_6, (IntKind.i64.wrap ((IntKind.i64.wrap ((mx 0 (mn a1 (x3_2.src.length : Int))) - x5_8)) + 1)))
def parse_fault (k : Nat) (a0 : List UInt8) (a1 : Int) (a2 : Int) : Option (TNode × Tparse_Fault) :=
    (place_Of k a0).bind fun x1_1 =>
    (place_Lines_At k x1_1 a1).bind fun (x1_3_0, x1_3_1) =>
    some ((TNode.mk 0 0 0 [] []), (Tparse_Fault.mk a1 x1_3_0 x1_3_1 a2))
def nest_depth_behind (k : Nat) (a0 : Tnest_depth) (a1 : TToken) : Option Tnest_depth :=
    joinK (fun (j0_5 : List UInt8) =>
    joinK (fun (j1_12 : Bool) =>
    if j1_12 then
    some (Tnest_depth.mk a0.open_ (IntKind.i64.wrap (a0.row + 1)))
    else
    joinK (fun (j2_21 : Bool) =>
    if j2_21 then
    some (Tnest_depth.mk (IntKind.i64.wrap (a0.open_ + 1)) 0)
    else
    joinK (fun (j3_29 : Bool) =>
    if j3_29 then
    some (Tnest_depth.mk (mx 0 (IntKind.i64.wrap (a0.open_ - 1))) 0)
    else
    some (Tnest_depth.mk a0.open_ 0)) fun j_j3 =>
    if (j0_5 == [41]) then
    j_j3 (j0_5 == [41])
    else
    if (j0_5 == [93]) then
    j_j3 (j0_5 == [93])
    else
    j_j3 (j0_5 == [125])) fun j_j2 =>
    if (j0_5 == [40]) then
    j_j2 (j0_5 == [40])
    else
    if (j0_5 == [91]) then
    j_j2 (j0_5 == [91])
    else
    j_j2 (j0_5 == [123])) fun j_j1 =>
    if (j0_5 == [45]) then
    j_j1 (j0_5 == [45])
    else
    j_j1 (j0_5 == [33])) fun j_j0 =>
    if (a1.Kind != 4) then
    j_j0 []
    else
    j_j0 a1.Text
def nest_Check (k : Nat) (a0 : List TToken) : Option (Int × Int) :=
    joinK (fun (j0_oloc4 : Tnest_depth) =>
    some (0, 0)) fun j_j0 =>
    loopM k (fun ((l1_9, l1_oloc4) : Int × Tnest_depth) =>
    if (decide (l1_9 < (a0.length : Int))) then
    (ix a0 l1_9).bind fun x4_0 =>
    (nest_depth_behind k l1_oloc4 x4_0).bind fun x5_2 =>
    if ((decide (x5_2.open_ > 60)) || (decide (x5_2.row > 60))) then
    some (.inr (x4_0.At, 4))
    else
    some (.inl ((IntKind.i64.wrap (l1_9 + 1)), x5_2))
    else
    (j_j0 l1_oloc4).map .inr) (0, (Tnest_depth.mk 0 0))
def stmt_cursor_look (k : Nat) (o0_l : List TToken) (o0_at : Int) (o0_bad : Bool) : Option TToken :=
    if ((decide (o0_at < 0)) || (decide (o0_at ≥ (o0_l.length : Int)))) then
    some (TToken.mk 0 0 0 [])
    else
    (ix o0_l o0_at).bind fun x3_8 =>
    some x3_8
def stmt_cursor_is (k : Nat) (a1 : Int) (a2 : List UInt8) (o0_l : List TToken) (o0_at : Int) (o0_bad : Bool) : Option Bool :=
    (stmt_cursor_look k o0_l o0_at o0_bad).bind fun x1_1 =>
    some (((!o0_bad) && (x1_1.Kind == a1)) && (x1_1.Text == a2))
def stmt_cursor_takes (k : Nat) (a1 : Int) (a2 : List UInt8) (o0_l : List TToken) (o0_at : Int) (o0_bad : Bool) : Option (Bool × Int) :=
    (stmt_cursor_is k a1 a2 o0_l o0_at o0_bad).bind fun x1_3 =>
    if (!x1_3) then
    some (false, o0_at)
    else
    some (true, (IntKind.i64.wrap (o0_at + 1)))
def stmt_cursor_name (k : Nat) (o0_l : List TToken) (o0_at : Int) (o0_bad : Bool) : Option (List UInt8 × Int × Int × Bool) :=
    (stmt_cursor_look k o0_l o0_at o0_bad).bind fun x1_1 =>
    if (o0_bad || (x1_1.Kind != 1)) then
    some ([], 0, o0_at, true)
    else
    some (x1_1.Text, x1_1.At, (IntKind.i64.wrap (o0_at + 1)), o0_bad)
def stmt_cursor_wants (k : Nat) (a1 : List (List UInt8)) (o0_l : List TToken) (o0_at : Int) (o0_bad : Bool) : Option (Int × Bool) :=
    loopM k (fun ((l0_8, l0_oext0_1, l0_oext0_2) : Int × Int × Bool) =>
    if (decide (l0_8 < (a1.length : Int))) then
    (ix a1 l0_8).bind fun x2_0 =>
    (stmt_cursor_takes k 4 x2_0 o0_l l0_oext0_1 l0_oext0_2).bind fun (x3_3_0, x3_3_1) =>
    some (.inl ((IntKind.i64.wrap (l0_8 + 1)), x3_3_1, ((!x3_3_0) || l0_oext0_2)))
    else
    some (.inr (l0_oext0_1, l0_oext0_2))) (0, o0_at, o0_bad)
def expr_reader_end (k : Nat) (a1 : TNode) (o0_l : List TToken) (o0_at : Int) (o0_bad : Bool) : Option (TNode × Int × Int) :=
    if o0_bad then
    some ((TNode.mk 0 0 0 [] []), o0_at, 1)
    else
    some (a1, o0_at, 0)
def expr_reader_look (k : Nat) (o0_l : List TToken) (o0_at : Int) (o0_bad : Bool) : Option TToken :=
    if ((decide (o0_at < 0)) || (decide (o0_at ≥ (o0_l.length : Int)))) then
    some (TToken.mk 0 0 0 [])
    else
    (ix o0_l o0_at).bind fun x3_8 =>
    some x3_8
def expr_reader_is (k : Nat) (a1 : Int) (a2 : List UInt8) (o0_l : List TToken) (o0_at : Int) (o0_bad : Bool) : Option Bool :=
    (expr_reader_look k o0_l o0_at o0_bad).bind fun x1_1 =>
    some ((x1_1.Kind == a1) && (x1_1.Text == a2))
def expr_reader_takes (k : Nat) (a1 : List UInt8) (o0_l : List TToken) (o0_at : Int) (o0_bad : Bool) : Option (Bool × Int) :=
    joinK (fun (g1_9_14 : Bool) =>
    if g1_9_14 then
    some (false, o0_at)
    else
    some (true, (IntKind.i64.wrap (o0_at + 1)))) fun j_g1_9 =>
    if o0_bad then
    j_g1_9 true
    else
    (expr_reader_is k 4 a1 o0_l o0_at o0_bad).bind fun x1_7 =>
    j_g1_9 (!x1_7)
def expr_reader_wants (k : Nat) (a1 : List UInt8) (o0_l : List TToken) (o0_at : Int) (o0_bad : Bool) : Option (Int × Bool) :=
    (expr_reader_takes k a1 o0_l o0_at o0_bad).bind fun (x0_3_0, x0_3_1) =>
    some (x0_3_1, ((!x0_3_0) || o0_bad))
def expr_reader_name (k : Nat) (o0_l : List TToken) (o0_at : Int) (o0_bad : Bool) : Option (List UInt8 × Int × Bool) :=
    (expr_reader_look k o0_l o0_at o0_bad).bind fun x1_1 =>
    if (o0_bad || (x1_1.Kind != 1)) then
    some ([], o0_at, true)
    else
    some (x1_1.Text, (IntKind.i64.wrap (o0_at + 1)), o0_bad)
def expr_reader_kind : Nat → List TToken → Int → Bool → Option (TNode × Int × Bool)
  | 0, _, _, _ => none
  | k + 1, o0_l, o0_at, o0_bad =>
    (expr_reader_look k o0_l o0_at o0_bad).bind fun x1_1 =>
    joinK (fun ((j0_oext0_1, j0_oloc4_0) : Int × Int) =>
    some ((TNode.mk j0_oloc4_0 x1_1.At 0 [] []), (IntKind.i64.wrap (j0_oext0_1 + 1)), o0_bad)) fun j_j0 =>
    if (x1_1.Kind == 1) then
    (expr_reader_name k o0_l o0_at o0_bad).bind fun (x6_1_0, x6_1_1, x6_1_2) =>
    some ((TNode.mk 4 x1_1.At 0 x6_1_0 []), x6_1_1, x6_1_2)
    else
    (expr_reader_takes k [91] o0_l o0_at o0_bad).bind fun (x8_1_0, x8_1_1) =>
    if x8_1_0 then
    (expr_reader_wants k [93] o0_l x8_1_1 o0_bad).bind fun (x9_1_0, x9_1_1) =>
    if x9_1_1 then
    some ((TNode.mk 0 x1_1.At 0 [] []), x9_1_0, x9_1_1)
    else
    (expr_reader_kind k o0_l x9_1_0 x9_1_1).bind fun (x12_1_0, x12_1_1, x12_1_2) =>
    some ((TNode.mk 5 x1_1.At 0 [] [x12_1_0]), x12_1_1, x12_1_2)
    else
    (expr_reader_is k 3 [105, 110, 116] o0_l x8_1_1 o0_bad).bind fun x14_1 =>
    if x14_1 then
    j_j0 (x8_1_1, 1)
    else
    (expr_reader_is k 3 [98, 111, 111, 108] o0_l x8_1_1 o0_bad).bind fun x16_1 =>
    if x16_1 then
    j_j0 (x8_1_1, 2)
    else
    (expr_reader_is k 3 [114, 101, 118] o0_l x8_1_1 o0_bad).bind fun x18_1 =>
    if x18_1 then
    j_j0 (x8_1_1, 3)
    else
    some ((TNode.mk 0 x1_1.At 0 [] []), x8_1_1, true)
def expr_Type (k : Nat) (a0 : List TToken) (a1 : Int) : Option (TNode × Int × Int) :=
    (expr_reader_kind k a0 a1 false).bind fun (x2_0_0, x2_0_1, x2_0_2) =>
    (expr_reader_end k x2_0_0 a0 x2_0_1 x2_0_2).bind fun (x2_1_0, x2_1_1, x2_1_2) =>
    some (x2_1_0, x2_1_1, x2_1_2)
def stmt_cursor_part (k : Nat) (o0_l : List TToken) (o0_at : Int) (o0_bad : Bool) : Option (TNode × Int × Bool) :=
    if o0_bad then
    some ((TNode.mk 0 0 0 [] []), o0_at, o0_bad)
    else
    (expr_Type k o0_l o0_at).bind fun (x3_9_0, x3_9_1, x3_9_2) =>
    some (x3_9_0, x3_9_1, (x3_9_2 != 0))
def stmt_cursor_param (k : Nat) (o0_l : List TToken) (o0_at : Int) (o0_bad : Bool) : Option (TNode × Int × Bool) :=
    (stmt_cursor_name k o0_l o0_at o0_bad).bind fun (x2_1_0, x2_1_1, x2_1_2, x2_1_3) =>
    (stmt_cursor_part k o0_l x2_1_2 x2_1_3).bind fun (x3_1_0, x3_1_1, x3_1_2) =>
    some ((TNode.mk 50 x2_1_1 0 x2_1_0 [x3_1_0]), x3_1_1, x3_1_2)
def stmt_cursor_rec_v2 (k : Nat) (a1_0 : Int) (a1_1 : Int) (a1_2 : Int) (a1_3 : List UInt8) (a1_4 : List TNode) (o0_l : List TToken) (o0_at : Int) (o0_bad : Bool) : Option (TNode × Int × Bool) :=
    (stmt_cursor_wants k [[123]] o0_l o0_at o0_bad).bind fun (x1_2_0, x1_2_1) =>
    joinK (fun ((j0_bclloc34, j0_oext0_1, j0_oext0_2) : List TNode × Int × Bool) =>
    some ((TNode.mk a1_0 a1_1 a1_2 a1_3 j0_bclloc34), j0_oext0_1, j0_oext0_2)) fun j_j0 =>
    loopM k (fun ((l1_bclloc34, l1_oext0_1, l1_oext0_2) : List TNode × Int × Bool) =>
    if (!l1_oext0_2) then
    (stmt_cursor_param k o0_l l1_oext0_1 l1_oext0_2).bind fun (x3_3_0, x3_3_1, x3_3_2) =>
    if (room 64 (l1_bclloc34.length + [x3_3_0].length)) then
    (stmt_cursor_wants k [[59]] o0_l x3_3_1 x3_3_2).bind fun (x4_2_0, x4_2_1) =>
    (stmt_cursor_takes k 4 [125] o0_l x4_2_0 x4_2_1).bind fun (x5_1_0, x5_1_1) =>
    if x5_1_0 then
    (j_j0 ((l1_bclloc34 ++ [x3_3_0]), x5_1_1, x4_2_1)).map .inr
    else
    some (.inl ((l1_bclloc34 ++ [x3_3_0]), x5_1_1, x4_2_1))
    else none
    else
    (j_j0 (l1_bclloc34, l1_oext0_1, l1_oext0_2)).map .inr) (a1_4, x1_2_0, x1_2_1)
def stmt_cursor_empty (k : Nat) (o0_l : List TToken) (o0_at : Int) (o0_bad : Bool) : Option Bool :=
    (stmt_cursor_is k 4 [93] o0_l (IntKind.i64.wrap (o0_at + 1)) false).bind fun x2_0 =>
    some x2_0
def stmt_cursor_iso_v2 (k : Nat) (a1_0 : Int) (a1_1 : Int) (a1_2 : Int) (a1_3 : List UInt8) (a1_4 : List TNode) (o0_l : List TToken) (o0_at : Int) (o0_bad : Bool) : Option (TNode × Int × Bool) :=
    joinK (fun ((j0_oext0_1, j0_oext0_2, j0_oloc3_2) : Int × Bool × Int) =>
    (stmt_cursor_part k o0_l j0_oext0_1 j0_oext0_2).bind fun (x9_3_0, x9_3_1, x9_3_2) =>
    if (room 64 (a1_4.length + [x9_3_0].length)) then
    joinK (fun ((j2_bclloc34, j2_oext0_1, j2_oext0_2) : List TNode × Int × Bool) =>
    (stmt_cursor_wants k [[59]] o0_l j2_oext0_1 j2_oext0_2).bind fun (x14_2_0, x14_2_1) =>
    some ((TNode.mk a1_0 a1_1 j0_oloc3_2 a1_3 j2_bclloc34), x14_2_0, x14_2_1)) fun j_j2 =>
    (stmt_cursor_takes k 3 [98, 121] o0_l x9_3_1 x9_3_2).bind fun (x10_1_0, x10_1_1) =>
    if x10_1_0 then
    (stmt_cursor_name k o0_l x10_1_1 x9_3_2).bind fun (x12_1_0, x12_1_1, x12_1_2, x12_1_3) =>
    if (room 64 ((a1_4 ++ [x9_3_0]).length + [(TNode.mk 12 x12_1_1 0 x12_1_0 [])].length)) then
    j_j2 (((a1_4 ++ [x9_3_0]) ++ [(TNode.mk 12 x12_1_1 0 x12_1_0 [])]), x12_1_2, x12_1_3)
    else none
    else
    j_j2 ((a1_4 ++ [x9_3_0]), x10_1_1, x9_3_2)
    else none) fun j_j0 =>
    (stmt_cursor_is k 4 [91] o0_l o0_at o0_bad).bind fun x1_1 =>
    joinK (fun (g1_6_13 : Bool) =>
    if g1_6_13 then
    (stmt_cursor_look k o0_l (IntKind.i64.wrap (o0_at + 1)) o0_bad).bind fun x3_1 =>
    joinK (fun ((j1_oext0_1, j1_oext0_2, j1_oloc3_2) : Int × Bool × Int) =>
    (stmt_cursor_wants k [[93]] o0_l j1_oext0_1 j1_oext0_2).bind fun (x8_2_0, x8_2_1) =>
    j_j0 (x8_2_0, x8_2_1, j1_oloc3_2)) fun j_j1 =>
    if (!((x3_1.Kind != 2) || (x3_1.N == 0))) then
    j_j1 ((IntKind.i64.wrap ((IntKind.i64.wrap (o0_at + 1)) + 1)), ((x3_1.Kind != 2) || (x3_1.N == 0)), x3_1.N)
    else
    j_j1 ((IntKind.i64.wrap (o0_at + 1)), ((x3_1.Kind != 2) || (x3_1.N == 0)), a1_2)
    else
    j_j0 (o0_at, o0_bad, a1_2)) fun j_g1_6 =>
    if x1_1 then
    (stmt_cursor_empty k o0_l o0_at o0_bad).bind fun x1_4 =>
    j_g1_6 (!x1_4)
    else
    j_g1_6 false
def word_Spell (k : Nat) (a0 : Int) : Option (List UInt8) :=
    if ((decide (a0 < 0)) || (decide (a0 ≥ 15))) then
    some []
    else
    (ix g_word_spellings a0).bind fun x3_1 =>
    some x3_1
def word_Bind (k : Nat) (a0 : Int) : Option Int :=
    if (a0 == 13) then
    some 1
    else
    if (a0 == 12) then
    some 2
    else
    joinK (fun (j0_8 : Bool) =>
    if j0_8 then
    some 3
    else
    joinK (fun (j1_15 : Bool) =>
    if j1_15 then
    some 4
    else
    joinK (fun (j2_18 : Bool) =>
    if j2_18 then
    some 5
    else
    some 0) fun j_j2 =>
    if (a0 == 3) then
    j_j2 (a0 == 3)
    else
    if (a0 == 4) then
    j_j2 (a0 == 4)
    else
    j_j2 (a0 == 5)) fun j_j1 =>
    if (a0 == 1) then
    j_j1 (a0 == 1)
    else
    j_j1 (a0 == 2)) fun j_j0 =>
    if (a0 == 6) then
    j_j0 (a0 == 6)
    else
    if (a0 == 7) then
    j_j0 (a0 == 7)
    else
    if (a0 == 8) then
    j_j0 (a0 == 8)
    else
    if (a0 == 9) then
    j_j0 (a0 == 9)
    else
    if (a0 == 10) then
    j_j0 (a0 == 10)
    else
    j_j0 (a0 == 11)
def expr_reader_sign (k : Nat) (a1 : Int) (o0_l : List TToken) (o0_at : Int) (o0_bad : Bool) : Option Int :=
    (expr_reader_look k o0_l o0_at o0_bad).bind fun x1_1 =>
    (word_Sign k x1_1.Text).bind fun (x2_2_0, x2_2_1) =>
    joinK (fun (g3_11_27 : Bool) =>
    if g3_11_27 then
    some x2_2_0
    else
    some 0) fun j_g3_11 =>
    if (x2_2_1 && (x1_1.Kind == 4)) then
    (word_Bind k x2_2_0).bind fun x3_8 =>
    j_g3_11 (x3_8 == a1)
    else
    j_g3_11 false
mutual
def expr_reader_level : Nat → Int → List TToken → Int → Bool → Option (TNode × Int × Bool)
  | 0, _, _, _, _ => none
  | k + 1, a1, o0_l, o0_at, o0_bad =>
    if (a1 == 6) then
    (expr_reader_factor k o0_l o0_at o0_bad).bind fun (x2_1_0, x2_1_1, x2_1_2) =>
    some (x2_1_0, x2_1_1, x2_1_2)
    else
    (expr_reader_level k (IntKind.i64.wrap (a1 + 1)) o0_l o0_at o0_bad).bind fun (x3_3_0, x3_3_1, x3_3_2) =>
    joinK (fun ((j0_oext0_1, j0_oext0_2, j0_oloc5) : Int × Bool × TNode) =>
    some (j0_oloc5, j0_oext0_1, j0_oext0_2)) fun j_j0 =>
    loopM k (fun ((l1_oext0_1, l1_oext0_2, l1_oloc5) : Int × Bool × TNode) =>
    if (!l1_oext0_2) then
    (expr_reader_sign k a1 o0_l l1_oext0_1 l1_oext0_2).bind fun x5_2 =>
    if (x5_2 == 0) then
    (j_j0 (l1_oext0_1, l1_oext0_2, l1_oloc5)).map .inr
    else
    (expr_reader_look k o0_l l1_oext0_1 l1_oext0_2).bind fun x7_1 =>
    (expr_reader_level k (IntKind.i64.wrap (a1 + 1)) o0_l (IntKind.i64.wrap (l1_oext0_1 + 1)) l1_oext0_2).bind fun (x9_4_0, x9_4_1, x9_4_2) =>
    if (a1 == 3) then
    (j_j0 (x9_4_1, x9_4_2, (TNode.mk 16 x7_1.At x5_2 [] [l1_oloc5, x9_4_0]))).map .inr
    else
    some (.inl (x9_4_1, x9_4_2, (TNode.mk 16 x7_1.At x5_2 [] [l1_oloc5, x9_4_0])))
    else
    (j_j0 (l1_oext0_1, l1_oext0_2, l1_oloc5)).map .inr) (x3_3_1, x3_3_2, x3_3_0)
def expr_reader_factor : Nat → List TToken → Int → Bool → Option (TNode × Int × Bool)
  | 0, _, _, _ => none
  | k + 1, o0_l, o0_at, o0_bad =>
    (expr_reader_look k o0_l o0_at o0_bad).bind fun x1_1 =>
    joinK (fun (j0_oext0_1 : Int) =>
    (expr_reader_part k o0_l j0_oext0_1 o0_bad).bind fun (x8_1_0, x8_1_1, x8_1_2) =>
    some (x8_1_0, x8_1_1, x8_1_2)) fun j_j0 =>
    loopM k (fun ((l1_11, l1_oext0_1) : Int × Int) =>
    if (decide (l1_11 < (([2, 14] : List Int).length : Int))) then
    (ix [2, 14] l1_11).bind fun x4_0 =>
    (word_Spell k x4_0).bind fun x5_2 =>
    (expr_reader_takes k x5_2 o0_l l1_oext0_1 o0_bad).bind fun (x5_3_0, x5_3_1) =>
    if x5_3_0 then
    (expr_reader_factor k o0_l x5_3_1 o0_bad).bind fun (x6_3_0, x6_3_1, x6_3_2) =>
    some (.inr ((TNode.mk 15 x1_1.At x4_0 [] [x6_3_0]), x6_3_1, x6_3_2))
    else
    some (.inl ((IntKind.i64.wrap (l1_11 + 1)), x5_3_1))
    else
    (j_j0 l1_oext0_1).map .inr) (0, o0_at)
def expr_reader_part : Nat → List TToken → Int → Bool → Option (TNode × Int × Bool)
  | 0, _, _, _ => none
  | k + 1, o0_l, o0_at, o0_bad =>
    (expr_reader_first k o0_l o0_at o0_bad).bind fun (x1_1_0, x1_1_1, x1_1_2) =>
    joinK (fun ((j0_oext0_1, j0_oext0_2, j0_oloc3) : Int × Bool × TNode) =>
    some (j0_oloc3, j0_oext0_1, j0_oext0_2)) fun j_j0 =>
    loopM k (fun ((l1_oext0_1, l1_oext0_2, l1_oloc3) : Int × Bool × TNode) =>
    if (!l1_oext0_2) then
    (expr_reader_look k o0_l l1_oext0_1 l1_oext0_2).bind fun x3_1 =>
    (expr_reader_takes k [91] o0_l l1_oext0_1 l1_oext0_2).bind fun (x5_1_0, x5_1_1) =>
    if x5_1_0 then
    (expr_reader_level k 1 o0_l x5_1_1 l1_oext0_2).bind fun (x6_3_0, x6_3_1, x6_3_2) =>
    (expr_reader_wants k [93] o0_l x6_3_1 x6_3_2).bind fun (x7_1_0, x7_1_1) =>
    some (.inl (x7_1_0, x7_1_1, (TNode.mk 13 x3_1.At 0 [] [l1_oloc3, x6_3_0])))
    else
    (expr_reader_takes k [46] o0_l x5_1_1 l1_oext0_2).bind fun (x8_1_0, x8_1_1) =>
    if x8_1_0 then
    (expr_reader_name k o0_l x8_1_1 l1_oext0_2).bind fun (x9_2_0, x9_2_1, x9_2_2) =>
    some (.inl (x9_2_1, x9_2_2, (TNode.mk 14 x3_1.At 0 x9_2_0 [l1_oloc3])))
    else
    some (.inr (l1_oloc3, x8_1_1, l1_oext0_2))
    else
    (j_j0 (l1_oext0_1, l1_oext0_2, l1_oloc3)).map .inr) (x1_1_1, x1_1_2, x1_1_0)
def expr_reader_args : Nat → List TToken → Int → Bool → Option (List TNode × Int × Bool)
  | 0, _, _, _ => none
  | k + 1, o0_l, o0_at, o0_bad =>
    (expr_reader_wants k [40] o0_l o0_at o0_bad).bind fun (x2_1_0, x2_1_1) =>
    (expr_reader_takes k [41] o0_l x2_1_0 x2_1_1).bind fun (x3_1_0, x3_1_1) =>
    if x3_1_0 then
    some ([], x3_1_1, x2_1_1)
    else
    joinK (fun ((j0_oext0_1, j0_oext0_2) : Int × Bool) =>
    some ([], j0_oext0_1, j0_oext0_2)) fun j_j0 =>
    loopM k (fun ((l1_3, l1_oext0_1, l1_oext0_2) : List TNode × Int × Bool) =>
    if (!l1_oext0_2) then
    (expr_reader_level k 1 o0_l l1_oext0_1 l1_oext0_2).bind fun (x6_2_0, x6_2_1, x6_2_2) =>
    if (room 64 (l1_3.length + [x6_2_0].length)) then
    (expr_reader_takes k [41] o0_l x6_2_1 x6_2_2).bind fun (x7_1_0, x7_1_1) =>
    if x7_1_0 then
    some (.inr ((l1_3 ++ [x6_2_0]), x7_1_1, x6_2_2))
    else
    (expr_reader_wants k [44] o0_l x7_1_1 x6_2_2).bind fun (x9_1_0, x9_1_1) =>
    some (.inl ((l1_3 ++ [x6_2_0]), x9_1_0, x9_1_1))
    else none
    else
    (j_j0 (l1_oext0_1, l1_oext0_2)).map .inr) ([], x3_1_1, x2_1_1)
def expr_reader_first : Nat → List TToken → Int → Bool → Option (TNode × Int × Bool)
  | 0, _, _, _ => none
  | k + 1, o0_l, o0_at, o0_bad =>
    (expr_reader_look k o0_l o0_at o0_bad).bind fun x1_1 =>
    joinK (fun ((j0_oext0_1, j0_oext0_2, j0_oloc4) : Int × Bool × TNode) =>
    some (j0_oloc4, j0_oext0_1, j0_oext0_2)) fun j_j0 =>
    if (x1_1.Kind == 2) then
    j_j0 ((IntKind.i64.wrap (o0_at + 1)), o0_bad, (TNode.mk 10 x1_1.At x1_1.N [] []))
    else
    if (x1_1.Kind == 1) then
    (expr_reader_name k o0_l o0_at o0_bad).bind fun (x8_1_0, x8_1_1, x8_1_2) =>
    (expr_reader_is k 4 [40] o0_l x8_1_1 x8_1_2).bind fun x9_1 =>
    if x9_1 then
    (expr_reader_args k o0_l x8_1_1 x8_1_2).bind fun (x10_1_0, x10_1_1, x10_1_2) =>
    j_j0 (x10_1_1, x10_1_2, (TNode.mk 17 x1_1.At 0 x8_1_0 x10_1_0))
    else
    j_j0 (x8_1_1, x8_1_2, (TNode.mk 12 x1_1.At 0 x8_1_0 []))
    else
    (expr_reader_takes k [40] o0_l o0_at o0_bad).bind fun (x11_1_0, x11_1_1) =>
    if x11_1_0 then
    (expr_reader_level k 1 o0_l x11_1_1 o0_bad).bind fun (x12_1_0, x12_1_1, x12_1_2) =>
    (expr_reader_wants k [41] o0_l x12_1_1 x12_1_2).bind fun (x13_1_0, x13_1_1) =>
    j_j0 (x13_1_0, x13_1_1, x12_1_0)
    else
    if (x1_1.Kind == 3) then
    (expr_reader_word k (TNode.mk 0 x1_1.At 0 [] []) x1_1.Text o0_l x11_1_1 o0_bad).bind fun (x15_4_0, x15_4_1, x15_4_2) =>
    some (x15_4_0, x15_4_1, x15_4_2)
    else
    j_j0 (x11_1_1, true, (TNode.mk 0 x1_1.At 0 [] []))
def expr_reader_word : Nat → TNode → List UInt8 → List TToken → Int → Bool → Option (TNode × Int × Bool)
  | 0, _, _, _, _, _ => none
  | k + 1, a1, a2, o0_l, o0_at, o0_bad =>
    joinK (fun ((j0_oext0_1, j0_oext0_2, j0_oloc4) : Int × Bool × TNode) =>
    some (j0_oloc4, j0_oext0_1, j0_oext0_2)) fun j_j0 =>
    joinK (fun (j1_11 : Bool) =>
    if j1_11 then
    if (a2 == [116, 114, 117, 101]) then
    j_j0 ((IntKind.i64.wrap (o0_at + 1)), o0_bad, (TNode.mk 11 a1.At 1 a1.Name a1.Kids))
    else
    j_j0 ((IntKind.i64.wrap (o0_at + 1)), o0_bad, (TNode.mk 11 a1.At a1.N a1.Name a1.Kids))
    else
    if (a2 == [102, 111, 114, 107]) then
    (expr_reader_name k o0_l (IntKind.i64.wrap (o0_at + 1)) o0_bad).bind fun (x11_1_0, x11_1_1, x11_1_2) =>
    (expr_reader_args k o0_l x11_1_1 x11_1_2).bind fun (x12_1_0, x12_1_1, x12_1_2) =>
    j_j0 (x12_1_1, x12_1_2, (TNode.mk 18 a1.At a1.N x11_1_0 x12_1_0))
    else
    if (a2 == [110, 101, 119]) then
    (expr_reader_kind k o0_l (IntKind.i64.wrap (o0_at + 1)) o0_bad).bind fun (x16_1_0, x16_1_1, x16_1_2) =>
    (expr_reader_args k o0_l x16_1_1 x16_1_2).bind fun (x16_4_0, x16_4_1, x16_4_2) =>
    if (room 64 ([x16_1_0].length + x16_4_0.length)) then
    j_j0 (x16_4_1, x16_4_2, (TNode.mk 19 a1.At a1.N a1.Name ([x16_1_0] ++ x16_4_0)))
    else none
    else
    j_j0 (o0_at, true, a1)) fun j_j1 =>
    if (a2 == [116, 114, 117, 101]) then
    j_j1 (a2 == [116, 114, 117, 101])
    else
    j_j1 (a2 == [102, 97, 108, 115, 101])
end
def expr_Args (k : Nat) (a0 : List TToken) (a1 : Int) : Option (List TNode × Int × Int) :=
    (expr_reader_args k a0 a1 false).bind fun (x2_0_0, x2_0_1, x2_0_2) =>
    if x2_0_2 then
    some ([], x2_0_1, 1)
    else
    some (x2_0_0, x2_0_1, 0)
def expr_Expr (k : Nat) (a0 : List TToken) (a1 : Int) : Option (TNode × Int × Int) :=
    (expr_reader_level k 1 a0 a1 false).bind fun (x2_0_0, x2_0_1, x2_0_2) =>
    (expr_reader_end k x2_0_0 a0 x2_0_1 x2_0_2).bind fun (x2_1_0, x2_1_1, x2_1_2) =>
    some (x2_1_0, x2_1_1, x2_1_2)
def stmt_cursor_part_v2 (k : Nat) (o0_l : List TToken) (o0_at : Int) (o0_bad : Bool) : Option (TNode × Int × Bool) :=
    if o0_bad then
    some ((TNode.mk 0 0 0 [] []), o0_at, o0_bad)
    else
    (expr_Expr k o0_l o0_at).bind fun (x3_9_0, x3_9_1, x3_9_2) =>
    some (x3_9_0, x3_9_1, (x3_9_2 != 0))
def stmt_cursor_expr (k : Nat) (o0_l : List TToken) (o0_at : Int) (o0_bad : Bool) : Option (TNode × Int × Bool) :=
    (stmt_cursor_part_v2 k o0_l o0_at o0_bad).bind fun (x1_1_0, x1_1_1, x1_1_2) =>
    some (x1_1_0, x1_1_1, x1_1_2)
def stmt_cursor_place (k : Nat) (o0_l : List TToken) (o0_at : Int) (o0_bad : Bool) : Option (TNode × Int × Bool) :=
    (stmt_cursor_name k o0_l o0_at o0_bad).bind fun (x2_1_0, x2_1_1, x2_1_2, x2_1_3) =>
    joinK (fun ((j0_oext0_1, j0_oext0_2, j0_oloc3) : Int × Bool × TNode) =>
    some (j0_oloc3, j0_oext0_1, j0_oext0_2)) fun j_j0 =>
    loopM k (fun ((l1_oext0_1, l1_oext0_2, l1_oloc3) : Int × Bool × TNode) =>
    if (!l1_oext0_2) then
    (stmt_cursor_look k o0_l l1_oext0_1 l1_oext0_2).bind fun x4_1 =>
    (stmt_cursor_takes k 4 [91] o0_l l1_oext0_1 l1_oext0_2).bind fun (x6_1_0, x6_1_1) =>
    if x6_1_0 then
    (stmt_cursor_expr k o0_l x6_1_1 l1_oext0_2).bind fun (x7_3_0, x7_3_1, x7_3_2) =>
    (stmt_cursor_wants k [[93]] o0_l x7_3_1 x7_3_2).bind fun (x8_2_0, x8_2_1) =>
    some (.inl (x8_2_0, x8_2_1, (TNode.mk 13 x4_1.At 0 [] [l1_oloc3, x7_3_0])))
    else
    (stmt_cursor_takes k 4 [46] o0_l x6_1_1 l1_oext0_2).bind fun (x9_1_0, x9_1_1) =>
    if x9_1_0 then
    (stmt_cursor_name k o0_l x9_1_1 l1_oext0_2).bind fun (x11_1_0, x11_1_1, x11_1_2, x11_1_3) =>
    some (.inl (x11_1_2, x11_1_3, (TNode.mk 14 x4_1.At 0 x11_1_0 [l1_oloc3])))
    else
    some (.inr (l1_oloc3, x9_1_1, l1_oext0_2))
    else
    (j_j0 (l1_oext0_1, l1_oext0_2, l1_oloc3)).map .inr) (x2_1_2, x2_1_3, (TNode.mk 12 x2_1_1 0 x2_1_0 []))
def stmt_cursor_named (k : Nat) (o0_l : List TToken) (o0_at : Int) (o0_bad : Bool) : Option (TNode × Int × Bool) :=
    joinK (fun (g1_25_35 : Bool) =>
    joinK (fun (g1_40_50 : Bool) =>
    if g1_40_50 then
    (stmt_cursor_look k o0_l o0_at o0_bad).bind fun x2_1 =>
    (expr_Args k o0_l (IntKind.i64.wrap (o0_at + 1))).bind fun (x3_9_0, x3_9_1, x3_9_2) =>
    (stmt_cursor_wants k [[59]] o0_l x3_9_1 (x3_9_2 != 0)).bind fun (x5_2_0, x5_2_1) =>
    some ((TNode.mk 38 x2_1.At 0 [] [(TNode.mk 17 x2_1.At 0 x2_1.Text x3_9_0)]), x5_2_0, x5_2_1)
    else
    (stmt_cursor_place k o0_l o0_at o0_bad).bind fun (x7_1_0, x7_1_1, x7_1_2) =>
    (stmt_cursor_look k o0_l x7_1_1 x7_1_2).bind fun x8_1 =>
    (stmt_cursor_wants k [[61]] o0_l x7_1_1 x7_1_2).bind fun (x9_2_0, x9_2_1) =>
    (stmt_cursor_expr k o0_l x9_2_0 x9_2_1).bind fun (x10_1_0, x10_1_1, x10_1_2) =>
    (stmt_cursor_wants k [[59]] o0_l x10_1_1 x10_1_2).bind fun (x11_2_0, x11_2_1) =>
    some ((TNode.mk 32 x8_1.At 0 [] [x7_1_0, x10_1_0]), x11_2_0, x11_2_1)) fun j_g1_40 =>
    if g1_25_35 then
    (ix o0_l (IntKind.i64.wrap (o0_at + 1))).bind fun x1_36 =>
    j_g1_40 (x1_36.Text == [40])
    else
    j_g1_40 false) fun j_g1_25 =>
    if (decide ((IntKind.i64.wrap (o0_at + 1)) < (o0_l.length : Int))) then
    (ix o0_l (IntKind.i64.wrap (o0_at + 1))).bind fun x1_21 =>
    j_g1_25 (x1_21.Kind == 4)
    else
    j_g1_25 false
mutual
def stmt_cursor_block : Nat → List TToken → Int → Bool → Option (TNode × Int × Bool)
  | 0, _, _, _ => none
  | k + 1, o0_l, o0_at, o0_bad =>
    (stmt_cursor_look k o0_l o0_at o0_bad).bind fun x1_1 =>
    (stmt_cursor_wants k [[123]] o0_l o0_at o0_bad).bind fun (x2_2_0, x2_2_1) =>
    joinK (fun ((j0_bclloc34, j0_oext0_1, j0_oext0_2) : List TNode × Int × Bool) =>
    some ((TNode.mk 30 x1_1.At 0 [] j0_bclloc34), j0_oext0_1, j0_oext0_2)) fun j_j0 =>
    loopM k (fun ((l1_bclloc34, l1_oext0_1, l1_oext0_2) : List TNode × Int × Bool) =>
    joinK (fun ((g3_9_20, g3_9_oext0_1) : Bool × Int) =>
    if g3_9_20 then
    (stmt_cursor_stmt k o0_l g3_9_oext0_1 l1_oext0_2).bind fun (x4_3_0, x4_3_1, x4_3_2) =>
    if (room 64 (l1_bclloc34.length + [x4_3_0].length)) then
    some (.inl ((l1_bclloc34 ++ [x4_3_0]), x4_3_1, x4_3_2))
    else none
    else
    (j_j0 (l1_bclloc34, g3_9_oext0_1, l1_oext0_2)).map .inr) fun j_g3_9 =>
    if (!l1_oext0_2) then
    (stmt_cursor_takes k 4 [125] o0_l l1_oext0_1 l1_oext0_2).bind fun (x3_7_0, x3_7_1) =>
    j_g3_9 ((!x3_7_0), x3_7_1)
    else
    j_g3_9 (false, l1_oext0_1)) ([], x2_2_0, x2_2_1)
def stmt_cursor_stmt : Nat → List TToken → Int → Bool → Option (TNode × Int × Bool)
  | 0, _, _, _ => none
  | k + 1, o0_l, o0_at, o0_bad =>
    (stmt_cursor_look k o0_l o0_at o0_bad).bind fun x1_1 =>
    if (x1_1.Kind == 1) then
    (stmt_cursor_named k o0_l o0_at o0_bad).bind fun (x3_1_0, x3_1_1, x3_1_2) =>
    some (x3_1_0, x3_1_1, x3_1_2)
    else
    (stmt_cursor_is k 4 [123] o0_l o0_at o0_bad).bind fun x4_1 =>
    if x4_1 then
    (stmt_cursor_block k o0_l o0_at o0_bad).bind fun (x5_1_0, x5_1_1, x5_1_2) =>
    some (x5_1_0, x5_1_1, x5_1_2)
    else
    if (x1_1.Kind != 3) then
    some ((TNode.mk 0 0 0 [] []), o0_at, true)
    else
    (stmt_cursor_word_v2 k 0 x1_1.At 0 [] [] x1_1.Text o0_l o0_at o0_bad).bind fun (x9_6_0, x9_6_1, x9_6_2) =>
    some (x9_6_0, x9_6_1, x9_6_2)
def stmt_cursor_word_v2 : Nat → Int → Int → Int → List UInt8 → List TNode → List UInt8 → List TToken → Int → Bool → Option (TNode × Int × Bool)
  | 0, _, _, _, _, _, _, _, _, _ => none
  | k + 1, a1_0, a1_1, a1_2, a1_3, a1_4, a2, o0_l, o0_at, o0_bad =>
    joinK (fun ((j0_oext0_1, j0_oext0_2, j0_oloc4_0, j0_oloc4_3, j0_oloc4_4) : Int × Bool × Int × List UInt8 × List TNode) =>
    some ((TNode.mk j0_oloc4_0 a1_1 a1_2 j0_oloc4_3 j0_oloc4_4), j0_oext0_1, j0_oext0_2)) fun j_j0 =>
    if (a2 == [118, 97, 114]) then
    (stmt_cursor_name k o0_l (IntKind.i64.wrap (o0_at + 1)) o0_bad).bind fun (x7_1_0, x7_1_1, x7_1_2, x7_1_3) =>
    (stmt_cursor_wants k [[61]] o0_l x7_1_2 x7_1_3).bind fun (x8_2_0, x8_2_1) =>
    (stmt_cursor_expr k o0_l x8_2_0 x8_2_1).bind fun (x9_1_0, x9_1_1, x9_1_2) =>
    (stmt_cursor_wants k [[59]] o0_l x9_1_1 x9_1_2).bind fun (x10_2_0, x10_2_1) =>
    j_j0 (x10_2_0, x10_2_1, 31, x7_1_0, [x9_1_0])
    else
    if (a2 == [105, 102]) then
    (stmt_cursor_choice_v2 k a1_0 a1_1 a1_2 a1_3 a1_4 o0_l (IntKind.i64.wrap (o0_at + 1)) o0_bad).bind fun (x12_2_0, x12_2_1, x12_2_2) =>
    some (x12_2_0, x12_2_1, x12_2_2)
    else
    if (a2 == [119, 104, 105, 108, 101]) then
    (stmt_cursor_expr k o0_l (IntKind.i64.wrap (o0_at + 1)) o0_bad).bind fun (x15_3_0, x15_3_1, x15_3_2) =>
    if (room 64 (a1_4.length + [x15_3_0].length)) then
    (stmt_cursor_block k o0_l x15_3_1 x15_3_2).bind fun (x16_3_0, x16_3_1, x16_3_2) =>
    if (room 64 ((a1_4 ++ [x15_3_0]).length + [x16_3_0].length)) then
    j_j0 (x16_3_1, x16_3_2, 34, a1_3, ((a1_4 ++ [x15_3_0]) ++ [x16_3_0]))
    else none
    else none
    else
    if (a2 == [114, 101, 116, 117, 114, 110]) then
    (stmt_cursor_takes k 4 [59] o0_l (IntKind.i64.wrap (o0_at + 1)) o0_bad).bind fun (x19_1_0, x19_1_1) =>
    if (!x19_1_0) then
    (stmt_cursor_expr k o0_l x19_1_1 o0_bad).bind fun (x20_1_0, x20_1_1, x20_1_2) =>
    (stmt_cursor_wants k [[59]] o0_l x20_1_1 x20_1_2).bind fun (x21_2_0, x21_2_1) =>
    j_j0 (x21_2_0, x21_2_1, 35, a1_3, [x20_1_0])
    else
    j_j0 (x19_1_1, o0_bad, 35, a1_3, a1_4)
    else
    if (a2 == [106, 111, 105, 110]) then
    (stmt_cursor_name k o0_l (IntKind.i64.wrap (o0_at + 1)) o0_bad).bind fun (x24_1_0, x24_1_1, x24_1_2, x24_1_3) =>
    (stmt_cursor_wants k [[59]] o0_l x24_1_2 x24_1_3).bind fun (x25_2_0, x25_2_1) =>
    j_j0 (x25_2_0, x25_2_1, 36, x24_1_0, a1_4)
    else
    if (a2 == [112, 114, 105, 110, 116]) then
    (stmt_cursor_expr k o0_l (IntKind.i64.wrap (o0_at + 1)) o0_bad).bind fun (x28_1_0, x28_1_1, x28_1_2) =>
    (stmt_cursor_wants k [[59]] o0_l x28_1_1 x28_1_2).bind fun (x29_2_0, x29_2_1) =>
    j_j0 (x29_2_0, x29_2_1, 37, a1_3, [x28_1_0])
    else
    j_j0 ((IntKind.i64.wrap ((IntKind.i64.wrap (o0_at + 1)) - 1)), true, a1_0, a1_3, a1_4)
def stmt_cursor_choice_v2 : Nat → Int → Int → Int → List UInt8 → List TNode → List TToken → Int → Bool → Option (TNode × Int × Bool)
  | 0, _, _, _, _, _, _, _, _ => none
  | k + 1, a1_0, a1_1, a1_2, a1_3, a1_4, o0_l, o0_at, o0_bad =>
    (stmt_cursor_expr k o0_l o0_at o0_bad).bind fun (x2_3_0, x2_3_1, x2_3_2) =>
    if (room 64 (a1_4.length + [x2_3_0].length)) then
    (stmt_cursor_block k o0_l x2_3_1 x2_3_2).bind fun (x3_3_0, x3_3_1, x3_3_2) =>
    if (room 64 ((a1_4 ++ [x2_3_0]).length + [x3_3_0].length)) then
    (stmt_cursor_takes k 3 [101, 108, 115, 101] o0_l x3_3_1 x3_3_2).bind fun (x4_1_0, x4_1_1) =>
    if (!x4_1_0) then
    some ((TNode.mk 33 a1_1 a1_2 a1_3 ((a1_4 ++ [x2_3_0]) ++ [x3_3_0])), x4_1_1, x3_3_2)
    else
    (stmt_cursor_look k o0_l x4_1_1 x3_3_2).bind fun x6_1 =>
    joinK (fun ((j0_bclloc34, j0_oext0_1, j0_oext0_2) : List TNode × Int × Bool) =>
    some ((TNode.mk 33 a1_1 a1_2 a1_3 j0_bclloc34), j0_oext0_1, j0_oext0_2)) fun j_j0 =>
    (stmt_cursor_takes k 3 [105, 102] o0_l x4_1_1 x3_3_2).bind fun (x7_1_0, x7_1_1) =>
    if x7_1_0 then
    (stmt_cursor_choice_v2 k 0 x6_1.At 0 [] [] o0_l x7_1_1 x3_3_2).bind fun (x8_5_0, x8_5_1, x8_5_2) =>
    if (room 64 (((a1_4 ++ [x2_3_0]) ++ [x3_3_0]).length + [x8_5_0].length)) then
    j_j0 ((((a1_4 ++ [x2_3_0]) ++ [x3_3_0]) ++ [x8_5_0]), x8_5_1, x8_5_2)
    else none
    else
    (stmt_cursor_block k o0_l x7_1_1 x3_3_2).bind fun (x9_3_0, x9_3_1, x9_3_2) =>
    if (room 64 (((a1_4 ++ [x2_3_0]) ++ [x3_3_0]).length + [x9_3_0].length)) then
    j_j0 ((((a1_4 ++ [x2_3_0]) ++ [x3_3_0]) ++ [x9_3_0]), x9_3_1, x9_3_2)
    else none
    else none
    else none
end
def stmt_cursor_fun_v2 (k : Nat) (a1_0 : Int) (a1_1 : Int) (a1_2 : Int) (a1_3 : List UInt8) (a1_4 : List TNode) (o0_l : List TToken) (o0_at : Int) (o0_bad : Bool) : Option (TNode × Int × Bool) :=
    (stmt_cursor_wants k [[40]] o0_l o0_at o0_bad).bind fun (x1_2_0, x1_2_1) =>
    joinK (fun ((j0_bclloc34, j0_oext0_1, j0_oext0_2) : List TNode × Int × Bool) =>
    joinK (fun ((j2_bclloc34, j2_oext0_1, j2_oext0_2) : List TNode × Int × Bool) =>
    (stmt_cursor_block k o0_l j2_oext0_1 j2_oext0_2).bind fun (x10_3_0, x10_3_1, x10_3_2) =>
    if (room 64 (j2_bclloc34.length + [x10_3_0].length)) then
    some ((TNode.mk a1_0 a1_1 a1_2 a1_3 (j2_bclloc34 ++ [x10_3_0])), x10_3_1, x10_3_2)
    else none) fun j_j2 =>
    (stmt_cursor_is k 4 [123] o0_l j0_oext0_1 j0_oext0_2).bind fun x7_1 =>
    if x7_1 then
    if (room 64 (j0_bclloc34.length + [(TNode.mk 0 0 0 [] [])].length)) then
    j_j2 ((j0_bclloc34 ++ [(TNode.mk 0 0 0 [] [])]), j0_oext0_1, j0_oext0_2)
    else none
    else
    (stmt_cursor_part k o0_l j0_oext0_1 j0_oext0_2).bind fun (x9_3_0, x9_3_1, x9_3_2) =>
    if (room 64 (j0_bclloc34.length + [x9_3_0].length)) then
    j_j2 ((j0_bclloc34 ++ [x9_3_0]), x9_3_1, x9_3_2)
    else none) fun j_j0 =>
    (stmt_cursor_takes k 4 [41] o0_l x1_2_0 x1_2_1).bind fun (x2_1_0, x2_1_1) =>
    if (!x2_1_0) then
    loopM k (fun ((l1_bclloc34, l1_oext0_1, l1_oext0_2) : List TNode × Int × Bool) =>
    if (!l1_oext0_2) then
    (stmt_cursor_param k o0_l l1_oext0_1 l1_oext0_2).bind fun (x4_3_0, x4_3_1, x4_3_2) =>
    if (room 64 (l1_bclloc34.length + [x4_3_0].length)) then
    (stmt_cursor_takes k 4 [41] o0_l x4_3_1 x4_3_2).bind fun (x5_1_0, x5_1_1) =>
    if x5_1_0 then
    (j_j0 ((l1_bclloc34 ++ [x4_3_0]), x5_1_1, x4_3_2)).map .inr
    else
    (stmt_cursor_wants k [[44]] o0_l x5_1_1 x4_3_2).bind fun (x6_2_0, x6_2_1) =>
    some (.inl ((l1_bclloc34 ++ [x4_3_0]), x6_2_0, x6_2_1))
    else none
    else
    (j_j0 (l1_bclloc34, l1_oext0_1, l1_oext0_2)).map .inr) (a1_4, x2_1_1, x1_2_1)
    else
    j_j0 (a1_4, x2_1_1, x1_2_1)
def stmt_cursor_merge_v2 (k : Nat) (a1_0 : Int) (a1_1 : Int) (a1_2 : Int) (a1_3 : List UInt8) (a1_4 : List TNode) (o0_l : List TToken) (o0_at : Int) (o0_bad : Bool) : Option (TNode × Int × Bool) :=
    joinK (fun ((j0_bclloc34, j0_oext0_1, j0_oext0_2) : List TNode × Int × Bool) =>
    (stmt_cursor_wants k [[41]] o0_l j0_oext0_1 j0_oext0_2).bind fun (x7_2_0, x7_2_1) =>
    (stmt_cursor_block k o0_l x7_2_0 x7_2_1).bind fun (x8_3_0, x8_3_1, x8_3_2) =>
    if (room 64 (j0_bclloc34.length + [x8_3_0].length)) then
    some ((TNode.mk a1_0 a1_1 a1_2 a1_3 (j0_bclloc34 ++ [x8_3_0])), x8_3_1, x8_3_2)
    else none) fun j_j0 =>
    loopM k (fun ((l1_bclloc34, l1_9, l1_oext0_1, l1_oext0_2) : List TNode × Int × Int × Bool) =>
    if (decide (l1_9 < (([[40], [44], [44]] : List (List UInt8)).length : Int))) then
    (ix [[40], [44], [44]] l1_9).bind fun x3_0 =>
    (stmt_cursor_wants k [x3_0] o0_l l1_oext0_1 l1_oext0_2).bind fun (x4_3_0, x4_3_1) =>
    (stmt_cursor_param k o0_l x4_3_0 x4_3_1).bind fun (x5_3_0, x5_3_1, x5_3_2) =>
    if (room 64 (l1_bclloc34.length + [x5_3_0].length)) then
    some (.inl ((l1_bclloc34 ++ [x5_3_0]), (IntKind.i64.wrap (l1_9 + 1)), x5_3_1, x5_3_2))
    else none
    else
    (j_j0 (l1_bclloc34, l1_oext0_1, l1_oext0_2)).map .inr) (a1_4, 0, o0_at, o0_bad)
def stmt_cursor_decl (k : Nat) (o0_l : List TToken) (o0_at : Int) (o0_bad : Bool) : Option (TNode × Int × Bool) :=
    (stmt_cursor_look k o0_l o0_at o0_bad).bind fun x1_1 =>
    joinK (fun (j0_oext0_1 : Int) =>
    some ((TNode.mk 0 x1_1.At 0 [] []), j0_oext0_1, true)) fun j_j0 =>
    loopM k (fun ((l1_14, l1_oext0_1) : Int × Int) =>
    if (decide (l1_14 < (([[114, 101, 99], [105, 115, 111], [102, 117, 110], [109, 101, 114, 103, 101]] : List (List UInt8)).length : Int))) then
    (ix [[114, 101, 99], [105, 115, 111], [102, 117, 110], [109, 101, 114, 103, 101]] l1_14).bind fun x5_1 =>
    (stmt_cursor_takes k 3 x5_1 o0_l l1_oext0_1 o0_bad).bind fun (x6_2_0, x6_2_1) =>
    if (!x6_2_0) then
    some (.inl ((IntKind.i64.wrap (l1_14 + 1)), x6_2_1))
    else
    (stmt_cursor_name k o0_l x6_2_1 o0_bad).bind fun (x8_1_0, x8_1_1, x8_1_2, x8_1_3) =>
    if ((IntKind.i64.wrap (51 + l1_14)) == 51) then
    (stmt_cursor_rec_v2 k (IntKind.i64.wrap (51 + l1_14)) x1_1.At 0 x8_1_0 [] o0_l x8_1_2 x8_1_3).bind fun (x11_2_0, x11_2_1, x11_2_2) =>
    some (.inr (x11_2_0, x11_2_1, x11_2_2))
    else
    if ((IntKind.i64.wrap (51 + l1_14)) == 52) then
    (stmt_cursor_iso_v2 k (IntKind.i64.wrap (51 + l1_14)) x1_1.At 0 x8_1_0 [] o0_l x8_1_2 x8_1_3).bind fun (x13_2_0, x13_2_1, x13_2_2) =>
    some (.inr (x13_2_0, x13_2_1, x13_2_2))
    else
    if ((IntKind.i64.wrap (51 + l1_14)) == 53) then
    (stmt_cursor_fun_v2 k (IntKind.i64.wrap (51 + l1_14)) x1_1.At 0 x8_1_0 [] o0_l x8_1_2 x8_1_3).bind fun (x15_2_0, x15_2_1, x15_2_2) =>
    some (.inr (x15_2_0, x15_2_1, x15_2_2))
    else
    (stmt_cursor_merge_v2 k (IntKind.i64.wrap (51 + l1_14)) x1_1.At 0 x8_1_0 [] o0_l x8_1_2 x8_1_3).bind fun (x16_2_0, x16_2_1, x16_2_2) =>
    some (.inr (x16_2_0, x16_2_1, x16_2_2))
    else
    (j_j0 l1_oext0_1).map .inr) (0, o0_at)
def stmt_cursor_end (k : Nat) (a1 : TNode) (o0_l : List TToken) (o0_at : Int) (o0_bad : Bool) : Option (TNode × Int × Int) :=
    if o0_bad then
    some ((TNode.mk 0 0 0 [] []), o0_at, 1)
    else
    some (a1, o0_at, 0)
def stmt_cursor_look_v2 (k : Nat) (o0_l : Tstmt_cursor) : Option TToken :=
    if ((decide (o0_l.at_ < 0)) || (decide (o0_l.at_ ≥ (o0_l.l.length : Int)))) then
    some (TToken.mk 0 0 0 [])
    else
    (ix o0_l.l o0_l.at_).bind fun x3_8 =>
    some x3_8
def stmt_cursor_is_v2 (k : Nat) (a1 : Int) (a2 : List UInt8) (o0_l : Tstmt_cursor) : Option Bool :=
    (stmt_cursor_look_v2 k o0_l).bind fun x1_1 =>
    some (((!o0_l.bad) && (x1_1.Kind == a1)) && (x1_1.Text == a2))
def stmt_cursor_takes_v2 (k : Nat) (a1 : Int) (a2 : List UInt8) (o0_l : Tstmt_cursor) : Option (Bool × Int) :=
    (stmt_cursor_is_v2 k a1 a2 o0_l).bind fun x1_3 =>
    if (!x1_3) then
    some (false, o0_l.at_)
    else
    some (true, (IntKind.i64.wrap (o0_l.at_ + 1)))
def stmt_cursor_wants_v2 (k : Nat) (a1 : List (List UInt8)) (o0_l : Tstmt_cursor) : Option (Int × Bool) :=
    loopM k (fun ((l0_8, l0_oext0_1, l0_oext0_2) : Int × Int × Bool) =>
    if (decide (l0_8 < (a1.length : Int))) then
    (ix a1 l0_8).bind fun x2_0 =>
    (stmt_cursor_takes k 4 x2_0 o0_l.l l0_oext0_1 l0_oext0_2).bind fun (x3_3_0, x3_3_1) =>
    some (.inl ((IntKind.i64.wrap (l0_8 + 1)), x3_3_1, ((!x3_3_0) || l0_oext0_2)))
    else
    some (.inr (l0_oext0_1, l0_oext0_2))) (0, o0_l.at_, o0_l.bad)
def stmt_cursor_block_v2 (k : Nat) (o0_l : Tstmt_cursor) : Option (TNode × Int × Bool) :=
    (stmt_cursor_look_v2 k o0_l).bind fun x1_1 =>
    (stmt_cursor_wants_v2 k [[123]] o0_l).bind fun (x2_2_0, x2_2_1) =>
    joinK (fun ((j0_bclloc34, j0_oext0_1, j0_oext0_2) : List TNode × Int × Bool) =>
    some ((TNode.mk 30 x1_1.At 0 [] j0_bclloc34), j0_oext0_1, j0_oext0_2)) fun j_j0 =>
    loopM k (fun ((l1_bclloc34, l1_oext0_1, l1_oext0_2) : List TNode × Int × Bool) =>
    joinK (fun ((g3_9_20, g3_9_oext0_1) : Bool × Int) =>
    if g3_9_20 then
    (stmt_cursor_stmt k o0_l.l g3_9_oext0_1 l1_oext0_2).bind fun (x4_3_0, x4_3_1, x4_3_2) =>
    if (room 64 (l1_bclloc34.length + [x4_3_0].length)) then
    some (.inl ((l1_bclloc34 ++ [x4_3_0]), x4_3_1, x4_3_2))
    else none
    else
    (j_j0 (l1_bclloc34, g3_9_oext0_1, l1_oext0_2)).map .inr) fun j_g3_9 =>
    if (!l1_oext0_2) then
    (stmt_cursor_takes k 4 [125] o0_l.l l1_oext0_1 l1_oext0_2).bind fun (x3_7_0, x3_7_1) =>
    j_g3_9 ((!x3_7_0), x3_7_1)
    else
    j_g3_9 (false, l1_oext0_1)) ([], x2_2_0, x2_2_1)
def stmt_Prog (k : Nat) (a0 : List TToken) : Option (TNode × Int × Int) :=
    joinK (fun ((j0_bclloc64, j0_oloc5) : List TNode × Tstmt_cursor) =>
    (stmt_cursor_block_v2 k j0_oloc5).bind fun (x5_2_0, x5_2_1, x5_2_2) =>
    if (room 64 (j0_bclloc64.length + [x5_2_0].length)) then
    joinK (fun (j2_oloc5_2 : Bool) =>
    (stmt_cursor_end k (TNode.mk 55 0 0 [] (j0_bclloc64 ++ [x5_2_0])) j0_oloc5.l x5_2_1 j2_oloc5_2).bind fun (x8_1_0, x8_1_1, x8_1_2) =>
    some (x8_1_0, x8_1_1, x8_1_2)) fun j_j2 =>
    joinK (fun (g6_15_44 : Bool) =>
    if g6_15_44 then
    j_j2 true
    else
    j_j2 x5_2_2) fun j_g6_15 =>
    if (!x5_2_2) then
    joinK (fun (g6_14_43 : Bool) =>
    j_g6_15 g6_14_43) fun j_g6_14 =>
    if (x5_2_1 != (IntKind.i64.wrap ((a0.length : Int) - 1))) then
    j_g6_14 true
    else
    (stmt_cursor_look k j0_oloc5.l x5_2_1 x5_2_2).bind fun x6_11 =>
    j_g6_14 (x6_11.Kind != 0)
    else
    j_g6_15 false
    else none) fun j_j0 =>
    loopM k (fun ((l1_bclloc64, l1_oloc5) : List TNode × Tstmt_cursor) =>
    joinK (fun ((g3_6_16, g3_6_oloc5_1) : Bool × Int) =>
    if g3_6_16 then
    (stmt_cursor_decl k l1_oloc5.l g3_6_oloc5_1 l1_oloc5.bad).bind fun (x4_2_0, x4_2_1, x4_2_2) =>
    if (room 64 (l1_bclloc64.length + [x4_2_0].length)) then
    some (.inl ((l1_bclloc64 ++ [x4_2_0]), (Tstmt_cursor.mk l1_oloc5.l x4_2_1 x4_2_2)))
    else none
    else
    (j_j0 (l1_bclloc64, (Tstmt_cursor.mk l1_oloc5.l g3_6_oloc5_1 l1_oloc5.bad))).map .inr) fun j_g3_6 =>
    if (!l1_oloc5.bad) then
    (stmt_cursor_takes_v2 k 3 [109, 97, 105, 110] l1_oloc5).bind fun (x3_4_0, x3_4_1) =>
    j_g3_6 ((!x3_4_0), x3_4_1)
    else
    j_g3_6 (false, l1_oloc5.at_)) ([], (Tstmt_cursor.mk a0 0 false))
def parse_read (k : Nat) (a0 : List UInt8) : Option (TNode × Tparse_Fault) :=
    (lex_All k a0).bind fun (x1_1_0, x1_1_1, x1_1_2) =>
    if (x1_1_2 != 0) then
    (parse_fault k a0 x1_1_1 x1_1_2).bind fun (x3_3_0, x3_3_1) =>
    some (x3_3_0, x3_3_1)
    else
    (nest_Check k x1_1_0).bind fun (x4_1_0, x4_1_1) =>
    if (x4_1_1 != 0) then
    (parse_fault k a0 x4_1_0 x4_1_1).bind fun (x6_3_0, x6_3_1) =>
    some (x6_3_0, x6_3_1)
    else
    (stmt_Prog k x1_1_0).bind fun (x7_2_0, x7_2_1, x7_2_2) =>
    if (x7_2_2 != 0) then
    (ix x1_1_0 x7_2_1).bind fun x9_3 =>
    (parse_fault k a0 x9_3.At x7_2_2).bind fun (x9_7_0, x9_7_1) =>
    some (x9_7_0, x9_7_1)
    else
    some (x7_2_0, (Tparse_Fault.mk 0 0 0 0))
def parse_Prog (k : Nat) (a0 : List UInt8) : Option (TNode × Tparse_Fault) :=
    (parse_read k a0).bind fun (x1_1_0, x1_1_1) =>
    some (x1_1_0, x1_1_1)
def law15_works (k : Nat) : Option Bool :=
    (parse_Prog k [109, 97, 105, 110, 10, 125]).bind fun (x1_0_0, x1_0_1) =>
    (parse_Prog k [109, 97, 105, 110, 32, 123, 32, 112, 114, 105, 110, 116, 32, 49, 59, 32, 125]).bind fun (x2_0_0, x2_0_1) =>
    some ((((x1_0_1.At == 5) && ((x1_0_1.Line == 2) && ((x1_0_1.Col == 1) && (x1_0_1.Why == 1)))) && ((x2_0_1.At == 0) && ((x2_0_1.Line == 0) && ((x2_0_1.Col == 0) && (x2_0_1.Why == 0))))) && (x2_0_0.Kind == 55))
def parse_Expr_1 (k : Nat) (a0 : List TToken) : Option (TNode × Int × Int) :=
    (expr_Expr k a0 0).bind fun (x1_1_0, x1_1_1, x1_1_2) =>
    joinK (fun (g2_9_23 : Bool) =>
    if g2_9_23 then
    some ((TNode.mk 0 0 0 [] []), x1_1_1, 1)
    else
    some (x1_1_0, x1_1_1, x1_1_2)) fun j_g2_9 =>
    if (x1_1_2 == 0) then
    (ix a0 x1_1_1).bind fun x2_5 =>
    j_g2_9 (x2_5.Kind != 0)
    else
    j_g2_9 false
def parse_read_v2 (k : Nat) (a0 : List UInt8) : Option (TNode × Tparse_Fault) :=
    (lex_All k a0).bind fun (x1_1_0, x1_1_1, x1_1_2) =>
    if (x1_1_2 != 0) then
    (parse_fault k a0 x1_1_1 x1_1_2).bind fun (x3_3_0, x3_3_1) =>
    some (x3_3_0, x3_3_1)
    else
    (nest_Check k x1_1_0).bind fun (x4_1_0, x4_1_1) =>
    if (x4_1_1 != 0) then
    (parse_fault k a0 x4_1_0 x4_1_1).bind fun (x6_3_0, x6_3_1) =>
    some (x6_3_0, x6_3_1)
    else
    (parse_Expr_1 k x1_1_0).bind fun (x7_2_0, x7_2_1, x7_2_2) =>
    if (x7_2_2 != 0) then
    (ix x1_1_0 x7_2_1).bind fun x9_3 =>
    (parse_fault k a0 x9_3.At x7_2_2).bind fun (x9_7_0, x9_7_1) =>
    some (x9_7_0, x9_7_1)
    else
    some (x7_2_0, (Tparse_Fault.mk 0 0 0 0))
def parse_Expr (k : Nat) (a0 : List UInt8) : Option (TNode × Tparse_Fault) :=
    (parse_read_v2 k a0).bind fun (x1_1_0, x1_1_1) =>
    some (x1_1_0, x1_1_1)
def ref10_class (k : Nat) (a0 : Int) : Option Int :=
    if (((a0 == 95) || ((decide (a0 ≥ 97)) && (decide (a0 ≤ 122)))) || ((decide (a0 ≥ 65)) && (decide (a0 ≤ 90)))) then
    some 1
    else
    if ((decide (a0 ≥ 48)) && (decide (a0 ≤ 57))) then
    some 2
    else
    if ((((a0 == 32) || (a0 == 9)) || (a0 == 10)) || (a0 == 13)) then
    some 3
    else
    if (a0 == 35) then
    some 4
    else
    some 0
def ref09_All (k : Nat) : Option (List (List UInt8)) :=
    some [[114, 101, 99], [105, 115, 111], [102, 117, 110], [109, 101, 114, 103, 101], [109, 97, 105, 110], [118, 97, 114], [105, 102], [101, 108, 115, 101], [119, 104, 105, 108, 101], [114, 101, 116, 117, 114, 110], [102, 111, 114, 107], [106, 111, 105, 110], [112, 114, 105, 110, 116], [110, 101, 119], [98, 121], [105, 110, 116], [98, 111, 111, 108], [114, 101, 118], [116, 114, 117, 101], [102, 97, 108, 115, 101]]
def ref09_Is (k : Nat) (a0 : List UInt8) : Option Bool :=
    (ref09_All k).bind fun x1_0 =>
    joinK (fun (_ : Unit) =>
    some false) fun j_j0 =>
    loopM k (fun (l1_4 : Int) =>
    if (decide (l1_4 < (x1_0.length : Int))) then
    (ix x1_0 l1_4).bind fun x5_2 =>
    if (x5_2 == a0) then
    some (.inr true)
    else
    some (.inl (IntKind.i64.wrap (l1_4 + 1)))
    else
    (j_j0 ()).map .inr) 0
def ref01_Read (k : Nat) (a0 : List UInt8) : Option (Int × Int) :=
    if (a0 == []) then
    some (0, 1)
    else
    joinK (fun ((j0_4, j0_5) : Int × Bool) =>
    if (j0_5 || (decide (j0_4 ≥ 9223372036854775808))) then
    some (0, 2)
    else
    some ((IntKind.i64.wrap j0_4), 0)) fun j_j0 =>
    loopM k (fun ((l1_4, l1_5, l1_6) : Int × Bool × Int) =>
    if (decide (l1_6 < (a0.length : Int))) then
    joinK (fun ((j2_4, j2_5) : Int × Bool) =>
    some (.inl (j2_4, j2_5, (IntKind.i64.wrap (l1_6 + 1))))) fun j_j2 =>
    (ix a0 l1_6).bind fun x8_2 =>
    joinK (fun (g8_9_24 : Bool) =>
    if g8_9_24 then
    some (.inr (0, 1))
    else
    joinK (fun (j3_5 : Bool) =>
    if (!j3_5) then
    (ix a0 l1_6).bind fun x13_4 =>
    j_j2 ((IntKind.u64.wrap ((IntKind.u64.wrap (10 * l1_4)) + (IntKind.u64.wrap (IntKind.u8.wrap ((x13_4.toNat : Int) - 48))))), j3_5)
    else
    j_j2 (l1_4, j3_5)) fun j_j3 =>
    if (decide (l1_4 > 1000000000000000000)) then
    j_j3 true
    else
    j_j3 l1_5) fun j_g8_9 =>
    if (decide ((x8_2.toNat : Int) < 48)) then
    j_g8_9 true
    else
    (ix a0 l1_6).bind fun x8_7 =>
    j_g8_9 (decide ((x8_7.toNat : Int) > 57))
    else
    (j_j0 (l1_4, l1_5)).map .inr) (0, false, 0)
def ref09_Spell (k : Nat) (a0 : Int) : Option (List UInt8) :=
    if ((decide (a0 < 1)) || (decide (a0 > 14))) then
    some []
    else
    (ix [[43], [45], [42], [47], [37], [61, 61], [33, 61], [60], [60, 61], [62], [62, 61], [38, 38], [124, 124], [33]] (IntKind.i64.wrap (a0 - 1))).bind fun x4_3 =>
    some x4_3
def ref09_Mark (k : Nat) (a0 : List UInt8) : Option (List UInt8) :=
    joinK (fun (j0_3 : List (List UInt8)) =>
    joinK (fun (j2_5 : List UInt8) =>
    some j2_5) fun j_j2 =>
    loopM k (fun ((l3_5, l3_6) : List UInt8 × Int) =>
    if (decide (l3_6 < (j0_3.length : Int))) then
    joinK (fun (j4_5 : List UInt8) =>
    some (.inl (j4_5, (IntKind.i64.wrap (l3_6 + 1))))) fun j_j4 =>
    (ix j0_3 l3_6).bind fun x10_2 =>
    joinK (fun (g10_21_44 : Bool) =>
    joinK (fun (g10_31_54 : Bool) =>
    if g10_31_54 then
    (ix j0_3 l3_6).bind fun x11_2 =>
    j_j4 x11_2
    else
    j_j4 l3_5) fun j_g10_31 =>
    if g10_21_44 then
    (ix j0_3 l3_6).bind fun x10_25 =>
    j_g10_31 (decide ((x10_25.length : Int) > (l3_5.length : Int)))
    else
    j_g10_31 false) fun j_g10_21 =>
    if (decide ((x10_2.length : Int) ≤ (a0.length : Int))) then
    (ix j0_3 l3_6).bind fun x10_12 =>
    (sub a0 0 (x10_12.length : Int)).bind fun x10_15 =>
    (ix j0_3 l3_6).bind fun x10_18 =>
    j_g10_21 (x10_15 == x10_18)
    else
    j_g10_21 false
    else
    (j_j2 l3_5).map .inr) ([], 0)) fun j_j0 =>
    loopM k (fun ((l1_3, l1_4) : List (List UInt8) × Int) =>
    if (decide (l1_4 ≤ 14)) then
    (ref09_Spell k l1_4).bind fun x5_2 =>
    if (room 16 (l1_3.length + [x5_2].length)) then
    some (.inl ((l1_3 ++ [x5_2]), (IntKind.i64.wrap (l1_4 + 1))))
    else none
    else
    (j_j0 l1_3).map .inr) ([[40], [41], [123], [125], [91], [93], [44], [59], [46], [61]], 1)
def ref10_one (k : Nat) (a0 : List UInt8) (a1 : Int) : Option (TToken × Int) :=
    (ix a0 a1).bind fun x1_2 =>
    (ref10_class k (x1_2.toNat : Int)).bind fun x1_3 =>
    if (x1_3 == 1) then
    joinK (fun (j0_7 : Int) =>
    (sub a0 a1 j0_7).bind fun x6_4 =>
    joinK (fun (j2_oloc8_0 : Int) =>
    if (decide ((x6_4.length : Int) > 32)) then
    some ((TToken.mk j2_oloc8_0 a1 0 x6_4), 3)
    else
    some ((TToken.mk j2_oloc8_0 a1 0 x6_4), 0)) fun j_j2 =>
    (ref09_Is k x6_4).bind fun x7_2 =>
    if x7_2 then
    j_j2 3
    else
    j_j2 1) fun j_j0 =>
    loopM k (fun (l1_7 : Int) =>
    joinK (fun (g4_17_36 : Bool) =>
    if g4_17_36 then
    some (.inl (IntKind.i64.wrap (l1_7 + 1)))
    else
    (j_j0 l1_7).map .inr) fun j_g4_17 =>
    if (decide (l1_7 < (a0.length : Int))) then
    (ix a0 l1_7).bind fun x4_7 =>
    (ref10_class k (x4_7.toNat : Int)).bind fun x4_8 =>
    joinK (fun (g4_16_35 : Bool) =>
    j_g4_17 g4_16_35) fun j_g4_16 =>
    if (x4_8 == 1) then
    j_g4_16 true
    else
    (ix a0 l1_7).bind fun x4_13 =>
    (ref10_class k (x4_13.toNat : Int)).bind fun x4_14 =>
    j_g4_16 (x4_14 == 2)
    else
    j_g4_17 false) a1
    else
    if (x1_3 == 2) then
    joinK (fun (j3_7 : Int) =>
    (sub a0 a1 j3_7).bind fun x15_3 =>
    (ref01_Read k x15_3).bind fun (x15_4_0, x15_4_1) =>
    (sub a0 a1 j3_7).bind fun x16_5 =>
    some ((TToken.mk 2 a1 x15_4_0 x16_5), x15_4_1)) fun j_j3 =>
    loopM k (fun (l4_7 : Int) =>
    joinK (fun (g13_10_67 : Bool) =>
    if g13_10_67 then
    some (.inl (IntKind.i64.wrap (l4_7 + 1)))
    else
    (j_j3 l4_7).map .inr) fun j_g13_10 =>
    if (decide (l4_7 < (a0.length : Int))) then
    (ix a0 l4_7).bind fun x13_7 =>
    (ref10_class k (x13_7.toNat : Int)).bind fun x13_8 =>
    j_g13_10 (x13_8 == 2)
    else
    j_g13_10 false) a1
    else
    (sub a0 a1 (mn (IntKind.i64.wrap (a1 + 2)) (a0.length : Int))).bind fun x17_7 =>
    (ref09_Mark k x17_7).bind fun x17_8 =>
    if (x17_8 == []) then
    some ((TToken.mk 0 a1 0 []), 1)
    else
    some ((TToken.mk 4 a1 0 x17_8), 0)
def ref10_All (k : Nat) (a0 : List UInt8) : Option (List TToken × Int × Int) :=
    if (decide ((a0.length : Int) > 16384)) then
    some ([], 16384, 3)
    else
    joinK (fun (j0_5 : List TToken) =>
    if (room 40 (j0_5.length + [(TToken.mk 0 (a0.length : Int) 0 [])].length)) then
    some ((j0_5 ++ [(TToken.mk 0 (a0.length : Int) 0 [])]), 0, 0)
    else none) fun j_j0 =>
    loopM k (fun ((l1_5, l1_6) : List TToken × Int) =>
    if (decide (l1_6 < (a0.length : Int))) then
    (ix a0 l1_6).bind fun x6_2 =>
    (ref10_class k (x6_2.toNat : Int)).bind fun x6_3 =>
    if (x6_3 == 3) then
    some (.inl (l1_5, (IntKind.i64.wrap (l1_6 + 1))))
    else
    if (x6_3 == 4) then
    joinK (fun (j2_6 : Int) =>
    some (.inl (l1_5, j2_6))) fun j_j2 =>
    loopM k (fun (l3_6 : Int) =>
    joinK (fun (g10_9_36 : Bool) =>
    if g10_9_36 then
    some (.inl (IntKind.i64.wrap (l3_6 + 1)))
    else
    (j_j2 l3_6).map .inr) fun j_g10_9 =>
    if (decide (l3_6 < (a0.length : Int))) then
    (ix a0 l3_6).bind fun x10_7 =>
    j_g10_9 ((x10_7.toNat : Int) != 10)
    else
    j_g10_9 false) l1_6
    else
    (ref10_one k a0 l1_6).bind fun (x12_2_0, x12_2_1) =>
    if (x12_2_1 != 0) then
    some (.inr ([], l1_6, x12_2_1))
    else
    if (room 40 (l1_5.length + [x12_2_0].length)) then
    some (.inl ((l1_5 ++ [x12_2_0]), (IntKind.i64.wrap (l1_6 + (x12_2_0.Text.length : Int)))))
    else none
    else
    (j_j0 l1_5).map .inr) ([], 0)
def ref02_At (k : Nat) (a0 : List UInt8) (a1 : Int) : Option (Int × Int) :=
    joinK (fun (j0_1 : Int) =>
    joinK (fun (j1_1 : Int) =>
    joinK (fun ((j2_6, j2_7) : Int × Int) =>
    some (j2_6, j2_7)) fun j_j2 =>
    loopM k (fun ((l3_6, l3_7, l3_8) : Int × Int × Int) =>
    if (decide (l3_8 < j1_1)) then
    joinK (fun ((j4_6, j4_7) : Int × Int) =>
    some (.inl (j4_6, j4_7, (IntKind.i64.wrap (l3_8 + 1))))) fun j_j4 =>
    (ix a0 l3_8).bind fun x10_2 =>
    if ((x10_2.toNat : Int) == 10) then
    j_j4 ((IntKind.i64.wrap (l3_6 + 1)), 1)
    else
    j_j4 (l3_6, (IntKind.i64.wrap (l3_7 + 1)))
    else
    (j_j2 (l3_6, l3_7)).map .inr) (1, 1, 0)) fun j_j1 =>
    if (decide (j0_1 > (a0.length : Int))) then
    j_j1 (a0.length : Int)
    else
    j_j1 j0_1) fun j_j0 =>
    if (decide (a1 < 0)) then
    j_j0 0
    else
    j_j0 a1
def ref15_at (k : Nat) (a0 : List UInt8) (a1 : Int) (a2 : Int) : Option Tref15_Got :=
    (ref02_At k a0 a1).bind fun (x1_2_0, x1_2_1) =>
    some (Tref15_Got.mk (TNode.mk 0 0 0 [] []) a1 x1_2_0 x1_2_1 a2)
def ref12_mark (k : Nat) (a0 : TToken) : Option Int :=
    if (a0.Kind != 4) then
    some 0
    else
    if (((a0.Text == [40]) || (a0.Text == [91])) || (a0.Text == [123])) then
    some 1
    else
    if (((a0.Text == [41]) || (a0.Text == [93])) || (a0.Text == [125])) then
    some 2
    else
    if ((a0.Text == [45]) || (a0.Text == [33])) then
    some 3
    else
    some 0
def ref12_At (k : Nat) (a0 : List TToken) : Option (List (Int × Int)) :=
    joinK (fun (j0_3 : List (Int × Int)) =>
    some j0_3) fun j_j0 =>
    loopM k (fun ((l1_3, l1_4, l1_5, l1_6) : (List (Int × Int)) × Int × Int × Int) =>
    if (decide (l1_6 < (a0.length : Int))) then
    (ix a0 l1_6).bind fun x6_2 =>
    (ref12_mark k x6_2).bind fun x6_4 =>
    joinK (fun (j2_4 : Int) =>
    joinK (fun (j3_4 : Int) =>
    joinK (fun (j4_5 : Int) =>
    if (room 16 (l1_3.length + [(j3_4, j4_5)].length)) then
    some (.inl ((l1_3 ++ [(j3_4, j4_5)]), j3_4, j4_5, (IntKind.i64.wrap (l1_6 + 1))))
    else none) fun j_j4 =>
    if (x6_4 == 3) then
    j_j4 (IntKind.i64.wrap (l1_5 + 1))
    else
    j_j4 0) fun j_j3 =>
    if ((x6_4 == 2) && (decide (j2_4 > 0))) then
    j_j3 (IntKind.i64.wrap (j2_4 - 1))
    else
    j_j3 j2_4) fun j_j2 =>
    if (x6_4 == 1) then
    j_j2 (IntKind.i64.wrap (l1_4 + 1))
    else
    j_j2 l1_4
    else
    (j_j0 l1_3).map .inr) ([], 0, 0, 0)
def ref12_Check (k : Nat) (a0 : List TToken) : Option (Int × Int) :=
    (ref12_At k a0).bind fun x1_1 =>
    joinK (fun (_ : Unit) =>
    some (0, 0)) fun j_j0 =>
    loopM k (fun (l1_5 : Int) =>
    if (decide (l1_5 < (a0.length : Int))) then
    (ix x1_1 l1_5).bind fun x5_2 =>
    joinK (fun (g5_13_27 : Bool) =>
    if g5_13_27 then
    (ix a0 l1_5).bind fun x6_2 =>
    some (.inr (x6_2.At, 4))
    else
    some (.inl (IntKind.i64.wrap (l1_5 + 1)))) fun j_g5_13 =>
    if (decide (x5_2.1 > 60)) then
    j_g5_13 true
    else
    (ix x1_1 l1_5).bind fun x5_9 =>
    j_g5_13 (decide (x5_9.2 > 60))
    else
    (j_j0 ()).map .inr) 0
def ref13_Tok (k : Nat) (a0 : List TToken) (a1 : Int) : Option TToken :=
    if ((decide (a1 < 0)) || (decide (a1 ≥ (a0.length : Int)))) then
    some (TToken.mk 0 0 0 [])
    else
    (ix a0 a1).bind fun x3_2 =>
    some x3_2
def ref13_Says (k : Nat) (a0 : List TToken) (a1 : Int) (a2 : List UInt8) : Option Bool :=
    (ref13_Tok k a0 a1).bind fun x1_2 =>
    some ((x1_2.Kind == 3) && (x1_2.Text == a2))
def ref14_fail (k : Nat) (a0 : Int) : Option Tref14_Got :=
    some (Tref14_Got.mk (TNode.mk 0 0 0 [] []) a0 false)
def ref13_Is (k : Nat) (a0 : List TToken) (a1 : Int) (a2 : List UInt8) : Option Bool :=
    (ref13_Tok k a0 a1).bind fun x1_2 =>
    some ((x1_2.Kind == 4) && (x1_2.Text == a2))
def ref14_closed (k : Nat) (a0 : List TToken) (a1 : Tref14_Got) (a2 : TNode) (a3 : List UInt8) : Option Tref14_Got :=
    joinK (fun (g1_10_19 : Bool) =>
    if g1_10_19 then
    (ref14_fail k a1.At).bind fun x2_2 =>
    some x2_2
    else
    some (Tref14_Got.mk a2 (IntKind.i64.wrap (a1.At + 1)) true)) fun j_g1_10 =>
    if (!a1.Ok) then
    j_g1_10 true
    else
    (ref13_Is k a0 a1.At a3).bind fun x1_8 =>
    j_g1_10 (!x1_8)
def ref13_Type : Nat → List TToken → Int → Option (TNode × Int × Bool)
  | 0, _, _ => none
  | k + 1, a0, a1 =>
    (ref13_Tok k a0 a1).bind fun x1_2 =>
    if (x1_2.Kind == 1) then
    some ((TNode.mk 4 x1_2.At 0 x1_2.Text []), (IntKind.i64.wrap (a1 + 1)), true)
    else
    (ref13_Says k a0 a1 [105, 110, 116]).bind fun x4_2 =>
    if x4_2 then
    some ((TNode.mk 1 x1_2.At 0 [] []), (IntKind.i64.wrap (a1 + 1)), true)
    else
    (ref13_Says k a0 a1 [98, 111, 111, 108]).bind fun x6_2 =>
    if x6_2 then
    some ((TNode.mk 2 x1_2.At 0 [] []), (IntKind.i64.wrap (a1 + 1)), true)
    else
    (ref13_Says k a0 a1 [114, 101, 118]).bind fun x8_2 =>
    if x8_2 then
    some ((TNode.mk 3 x1_2.At 0 [] []), (IntKind.i64.wrap (a1 + 1)), true)
    else
    (ref13_Is k a0 a1 [91]).bind fun x10_2 =>
    if (!x10_2) then
    some ((TNode.mk 0 0 0 [] []), a1, false)
    else
    (ref13_Is k a0 (IntKind.i64.wrap (a1 + 1)) [93]).bind fun x12_3 =>
    if (!x12_3) then
    some ((TNode.mk 0 0 0 [] []), (IntKind.i64.wrap (a1 + 1)), false)
    else
    (ref13_Type k a0 (IntKind.i64.wrap (a1 + 2))).bind fun (x14_3_0, x14_3_1, x14_3_2) =>
    if (!x14_3_2) then
    some ((TNode.mk 0 0 0 [] []), x14_3_1, false)
    else
    some ((TNode.mk 5 x1_2.At 0 [] [x14_3_0]), x14_3_1, true)
def ref14_iso (k : Nat) (a0 : List TToken) (a1 : Int) (a2 : TNode) : Option Tref14_Got :=
    joinK (fun ((j0_1, j0_oloc5_2) : Int × Int) =>
    (ref13_Type k a0 j0_1).bind fun (x9_2_0, x9_2_1, x9_2_2) =>
    if (!x9_2_2) then
    (ref14_fail k x9_2_1).bind fun x11_1 =>
    some x11_1
    else
    joinK (fun ((j1_9, j1_oloc5_4) : Int × List TNode) =>
    (ref14_closed k a0 (Tref14_Got.mk (TNode.mk a2.Kind a2.At j0_oloc5_2 a2.Name j1_oloc5_4) j1_9 true) (TNode.mk a2.Kind a2.At j0_oloc5_2 a2.Name j1_oloc5_4) [59]).bind fun x19_5 =>
    some x19_5) fun j_j1 =>
    (ref13_Says k a0 x9_2_1 [98, 121]).bind fun x13_2 =>
    if x13_2 then
    (ref13_Tok k a0 (IntKind.i64.wrap (x9_2_1 + 1))).bind fun x14_3 =>
    if (x14_3.Kind != 1) then
    (ref14_fail k (IntKind.i64.wrap (x9_2_1 + 1))).bind fun x16_2 =>
    some x16_2
    else
    if (room 64 ([x9_2_0].length + [(TNode.mk 12 x14_3.At 0 x14_3.Text [])].length)) then
    j_j1 ((IntKind.i64.wrap (x9_2_1 + 2)), ([x9_2_0] ++ [(TNode.mk 12 x14_3.At 0 x14_3.Text [])]))
    else none
    else
    j_j1 (x9_2_1, [x9_2_0])) fun j_j0 =>
    (ref13_Is k a0 a1 [91]).bind fun x1_2 =>
    joinK (fun (g1_9_21 : Bool) =>
    if g1_9_21 then
    (ref13_Tok k a0 (IntKind.i64.wrap (a1 + 1))).bind fun x2_3 =>
    if ((x2_3.Kind != 2) || (x2_3.N == 0)) then
    (ref14_fail k (IntKind.i64.wrap (a1 + 1))).bind fun x4_2 =>
    some x4_2
    else
    (ref13_Is k a0 (IntKind.i64.wrap (a1 + 2)) [93]).bind fun x5_3 =>
    if (!x5_3) then
    (ref14_fail k (IntKind.i64.wrap (a1 + 2))).bind fun x6_2 =>
    some x6_2
    else
    j_j0 ((IntKind.i64.wrap (a1 + 3)), x2_3.N)
    else
    j_j0 (a1, a2.N)) fun j_g1_9 =>
    if x1_2 then
    (ref13_Is k a0 (IntKind.i64.wrap (a1 + 1)) [93]).bind fun x1_7 =>
    j_g1_9 (!x1_7)
    else
    j_g1_9 false
def ref14_param (k : Nat) (a0 : List TToken) (a1 : Int) : Option Tref14_Got :=
    (ref13_Tok k a0 a1).bind fun x1_2 =>
    if (x1_2.Kind != 1) then
    (ref14_fail k a1).bind fun x3_1 =>
    some x3_1
    else
    (ref13_Type k a0 (IntKind.i64.wrap (a1 + 1))).bind fun (x4_3_0, x4_3_1, x4_3_2) =>
    if (!x4_3_2) then
    (ref14_fail k x4_3_1).bind fun x6_1 =>
    some x6_1
    else
    some (Tref14_Got.mk (TNode.mk 50 x1_2.At 0 x1_2.Text [x4_3_0]) x4_3_1 true)
def ref14_rec_v2 (k : Nat) (a0 : List TToken) (a1 : Int) (a2_0 : Int) (a2_1 : Int) (a2_2 : Int) (a2_3 : List UInt8) (a2_4 : List TNode) : Option Tref14_Got :=
    (ref13_Is k a0 a1 [123]).bind fun x1_2 =>
    if (!x1_2) then
    (ref14_fail k a1).bind fun x2_1 =>
    some x2_1
    else
    loopM k (fun ((l0_bclloc54, l0_1) : List TNode × Int) =>
    (ref14_param k a0 l0_1).bind fun x4_2 =>
    (ref14_closed k a0 x4_2 (TNode.mk x4_2.N.Kind x4_2.N.At x4_2.N.N x4_2.N.Name x4_2.N.Kids) [59]).bind fun x5_4 =>
    if (!x5_4.Ok) then
    some (.inr x5_4)
    else
    if (room 64 (l0_bclloc54.length + [(TNode.mk x5_4.N.Kind x5_4.N.At x5_4.N.N x5_4.N.Name x5_4.N.Kids)].length)) then
    (ref13_Is k a0 x5_4.At [125]).bind fun x10_2 =>
    if x10_2 then
    some (.inr (Tref14_Got.mk (TNode.mk a2_0 a2_1 a2_2 a2_3 (l0_bclloc54 ++ [(TNode.mk x5_4.N.Kind x5_4.N.At x5_4.N.N x5_4.N.Name x5_4.N.Kids)])) (IntKind.i64.wrap (x5_4.At + 1)) true))
    else
    some (.inl ((l0_bclloc54 ++ [(TNode.mk x5_4.N.Kind x5_4.N.At x5_4.N.N x5_4.N.Name x5_4.N.Kids)]), x5_4.At))
    else none) (a2_4, (IntKind.i64.wrap (a1 + 1)))
def ref09_Bind (k : Nat) (a0 : Int) : Option Int :=
    if ((decide (a0 ≥ 1)) && (decide (a0 ≤ 2))) then
    some 4
    else
    if ((decide (a0 ≥ 3)) && (decide (a0 ≤ 5))) then
    some 5
    else
    if ((decide (a0 ≥ 6)) && (decide (a0 ≤ 11))) then
    some 3
    else
    if (a0 == 12) then
    some 2
    else
    if (a0 == 13) then
    some 1
    else
    some 0
def ref13_sign (k : Nat) (a0 : List TToken) (a1 : Int) (a2 : Int) : Option Int :=
    (ref13_Tok k a0 a1).bind fun x1_2 =>
    joinK (fun (_ : Unit) =>
    some 0) fun j_j0 =>
    loopM k (fun (l1_8 : Int) =>
    if (decide (l1_8 ≤ 14)) then
    joinK (fun (g5_9_25 : Bool) =>
    joinK (fun (g5_15_31 : Bool) =>
    if g5_15_31 then
    some (.inr l1_8)
    else
    some (.inl (IntKind.i64.wrap (l1_8 + 1)))) fun j_g5_15 =>
    if g5_9_25 then
    (ref09_Bind k l1_8).bind fun x5_12 =>
    j_g5_15 (x5_12 == a2)
    else
    j_g5_15 false) fun j_g5_9 =>
    if (x1_2.Kind == 4) then
    (ref09_Spell k l1_8).bind fun x5_5 =>
    j_g5_9 (x5_5 == x1_2.Text)
    else
    j_g5_9 false
    else
    (j_j0 ()).map .inr) 1
mutual
def ref13_Expr : Nat → List TToken → Int → Option (TNode × Int × Bool)
  | 0, _, _ => none
  | k + 1, a0, a1 =>
    (ref13_level k a0 a1 1).bind fun (x1_2_0, x1_2_1, x1_2_2) =>
    some (x1_2_0, x1_2_1, x1_2_2)
def ref13_level : Nat → List TToken → Int → Int → Option (TNode × Int × Bool)
  | 0, _, _, _ => none
  | k + 1, a0, a1, a2 =>
    if (decide (a2 > 5)) then
    (ref13_factor k a0 a1).bind fun (x2_2_0, x2_2_1, x2_2_2) =>
    some (x2_2_0, x2_2_1, x2_2_2)
    else
    (ref13_level k a0 a1 (IntKind.i64.wrap (a2 + 1))).bind fun (x3_4_0, x3_4_1, x3_4_2) =>
    if (!x3_4_2) then
    some ((TNode.mk 0 0 0 [] []), x3_4_1, false)
    else
    loopM k (fun ((l0_10, l0_oloc9) : Int × TNode) =>
    (ref13_sign k a0 l0_10 a2).bind fun x6_3 =>
    if (x6_3 == 0) then
    some (.inr (l0_oloc9, l0_10, true))
    else
    (ref13_level k a0 (IntKind.i64.wrap (l0_10 + 1)) (IntKind.i64.wrap (a2 + 1))).bind fun (x9_5_0, x9_5_1, x9_5_2) =>
    if (!x9_5_2) then
    some (.inr ((TNode.mk 0 0 0 [] []), x9_5_1, false))
    else
    (ref13_Tok k a0 l0_10).bind fun x12_2 =>
    if (a2 == 3) then
    some (.inr ((TNode.mk 16 x12_2.At x6_3 [] [l0_oloc9, x9_5_0]), x9_5_1, true))
    else
    some (.inl (x9_5_1, (TNode.mk 16 x12_2.At x6_3 [] [l0_oloc9, x9_5_0])))) (x3_4_1, x3_4_0)
def ref13_factor : Nat → List TToken → Int → Option (TNode × Int × Bool)
  | 0, _, _ => none
  | k + 1, a0, a1 =>
    joinK (fun (j0_7 : Int) =>
    joinK (fun (j1_7 : Int) =>
    if (j1_7 == 0) then
    (ref13_part k a0 a1).bind fun (x7_2_0, x7_2_1, x7_2_2) =>
    some (x7_2_0, x7_2_1, x7_2_2)
    else
    (ref13_factor k a0 (IntKind.i64.wrap (a1 + 1))).bind fun (x8_3_0, x8_3_1, x8_3_2) =>
    if (!x8_3_2) then
    some ((TNode.mk 0 0 0 [] []), x8_3_1, false)
    else
    (ref13_Tok k a0 a1).bind fun x11_2 =>
    some ((TNode.mk 15 x11_2.At j1_7 [] [x8_3_0]), x8_3_1, true)) fun j_j1 =>
    (ref13_Is k a0 a1 [33]).bind fun x4_2 =>
    if x4_2 then
    j_j1 14
    else
    j_j1 j0_7) fun j_j0 =>
    (ref13_Is k a0 a1 [45]).bind fun x2_2 =>
    if x2_2 then
    j_j0 2
    else
    j_j0 0
def ref13_part : Nat → List TToken → Int → Option (TNode × Int × Bool)
  | 0, _, _ => none
  | k + 1, a0, a1 =>
    (ref13_first k a0 a1).bind fun (x1_2_0, x1_2_1, x1_2_2) =>
    if (!x1_2_2) then
    some ((TNode.mk 0 0 0 [] []), x1_2_1, false)
    else
    loopM k (fun ((l0_8, l0_oloc7) : Int × TNode) =>
    (ref13_Tok k a0 l0_8).bind fun x4_2 =>
    (ref13_Is k a0 l0_8 [46]).bind fun x5_2 =>
    if x5_2 then
    (ref13_Tok k a0 (IntKind.i64.wrap (l0_8 + 1))).bind fun x6_3 =>
    if (x6_3.Kind != 1) then
    some (.inr ((TNode.mk 0 0 0 [] []), (IntKind.i64.wrap (l0_8 + 1)), false))
    else
    some (.inl ((IntKind.i64.wrap (l0_8 + 2)), (TNode.mk 14 x4_2.At 0 x6_3.Text [l0_oloc7])))
    else
    (ref13_Is k a0 l0_8 [91]).bind fun x11_2 =>
    if (!x11_2) then
    some (.inr (l0_oloc7, l0_8, true))
    else
    (ref13_Expr k a0 (IntKind.i64.wrap (l0_8 + 1))).bind fun (x13_3_0, x13_3_1, x13_3_2) =>
    joinK (fun (g14_7_72 : Bool) =>
    if g14_7_72 then
    some (.inr ((TNode.mk 0 0 0 [] []), x13_3_1, false))
    else
    some (.inl ((IntKind.i64.wrap (x13_3_1 + 1)), (TNode.mk 13 x4_2.At 0 [] [l0_oloc7, x13_3_0])))) fun j_g14_7 =>
    if (!x13_3_2) then
    j_g14_7 true
    else
    (ref13_Is k a0 x13_3_1 [93]).bind fun x14_5 =>
    j_g14_7 (!x14_5)) (x1_2_1, x1_2_0)
def ref13_Args : Nat → List TToken → Int → Option (List TNode × Int × Bool)
  | 0, _, _ => none
  | k + 1, a0, a1 =>
    (ref13_Is k a0 a1 [40]).bind fun x1_2 =>
    if (!x1_2) then
    some ([], a1, false)
    else
    (ref13_Is k a0 (IntKind.i64.wrap (a1 + 1)) [41]).bind fun x4_2 =>
    if x4_2 then
    some ([], (IntKind.i64.wrap ((IntKind.i64.wrap (a1 + 1)) + 1)), true)
    else
    loopM k (fun ((l0_7, l0_1) : List TNode × Int) =>
    (ref13_Expr k a0 l0_1).bind fun (x7_2_0, x7_2_1, x7_2_2) =>
    if (!x7_2_2) then
    some (.inr ([], x7_2_1, false))
    else
    if (room 64 (l0_7.length + [x7_2_0].length)) then
    (ref13_Is k a0 x7_2_1 [41]).bind fun x11_2 =>
    if x11_2 then
    some (.inr ((l0_7 ++ [x7_2_0]), (IntKind.i64.wrap (x7_2_1 + 1)), true))
    else
    (ref13_Is k a0 x7_2_1 [44]).bind fun x13_2 =>
    if (!x13_2) then
    some (.inr ([], x7_2_1, false))
    else
    some (.inl ((l0_7 ++ [x7_2_0]), (IntKind.i64.wrap (x7_2_1 + 1))))
    else none) ([], (IntKind.i64.wrap (a1 + 1)))
def ref13_first : Nat → List TToken → Int → Option (TNode × Int × Bool)
  | 0, _, _ => none
  | k + 1, a0, a1 =>
    (ref13_Tok k a0 a1).bind fun x1_2 =>
    if (x1_2.Kind == 2) then
    some ((TNode.mk 10 x1_2.At x1_2.N [] []), (IntKind.i64.wrap (a1 + 1)), true)
    else
    (ref13_Says k a0 a1 [116, 114, 117, 101]).bind fun x4_2 =>
    if x4_2 then
    some ((TNode.mk 11 x1_2.At 1 [] []), (IntKind.i64.wrap (a1 + 1)), true)
    else
    (ref13_Says k a0 a1 [102, 97, 108, 115, 101]).bind fun x6_2 =>
    if x6_2 then
    some ((TNode.mk 11 x1_2.At 0 [] []), (IntKind.i64.wrap (a1 + 1)), true)
    else
    if (x1_2.Kind == 1) then
    (ref13_Is k a0 (IntKind.i64.wrap (a1 + 1)) [40]).bind fun x9_3 =>
    if x9_3 then
    (ref13_named k a0 a1 17 x1_2.At).bind fun (x10_4_0, x10_4_1, x10_4_2) =>
    some (x10_4_0, x10_4_1, x10_4_2)
    else
    some ((TNode.mk 12 x1_2.At 0 x1_2.Text []), (IntKind.i64.wrap (a1 + 1)), true)
    else
    (ref13_Says k a0 a1 [102, 111, 114, 107]).bind fun x12_2 =>
    if x12_2 then
    (ref13_named k a0 (IntKind.i64.wrap (a1 + 1)) 18 x1_2.At).bind fun (x13_5_0, x13_5_1, x13_5_2) =>
    some (x13_5_0, x13_5_1, x13_5_2)
    else
    (ref13_Says k a0 a1 [110, 101, 119]).bind fun x14_2 =>
    if x14_2 then
    (ref13_Type k a0 (IntKind.i64.wrap (a1 + 1))).bind fun (x15_3_0, x15_3_1, x15_3_2) =>
    if (!x15_3_2) then
    some ((TNode.mk 0 0 0 [] []), x15_3_1, false)
    else
    (ref13_Args k a0 x15_3_1).bind fun (x18_2_0, x18_2_1, x18_2_2) =>
    if (!x18_2_2) then
    some ((TNode.mk 0 0 0 [] []), x18_2_1, false)
    else
    if (room 64 ([x15_3_0].length + x18_2_0.length)) then
    some ((TNode.mk 19 x1_2.At 0 [] ([x15_3_0] ++ x18_2_0)), x18_2_1, true)
    else none
    else
    (ref13_Is k a0 a1 [40]).bind fun x22_2 =>
    if (!x22_2) then
    some ((TNode.mk 0 0 0 [] []), a1, false)
    else
    (ref13_Expr k a0 (IntKind.i64.wrap (a1 + 1))).bind fun (x24_3_0, x24_3_1, x24_3_2) =>
    joinK (fun (g25_7_135 : Bool) =>
    if g25_7_135 then
    some ((TNode.mk 0 0 0 [] []), x24_3_1, false)
    else
    some (x24_3_0, (IntKind.i64.wrap (x24_3_1 + 1)), true)) fun j_g25_7 =>
    if (!x24_3_2) then
    j_g25_7 true
    else
    (ref13_Is k a0 x24_3_1 [41]).bind fun x25_5 =>
    j_g25_7 (!x25_5)
def ref13_named : Nat → List TToken → Int → Int → Int → Option (TNode × Int × Bool)
  | 0, _, _, _, _ => none
  | k + 1, a0, a1, a2, a3 =>
    (ref13_Tok k a0 a1).bind fun x1_2 =>
    if (x1_2.Kind != 1) then
    some ((TNode.mk 0 0 0 [] []), a1, false)
    else
    (ref13_Args k a0 (IntKind.i64.wrap (a1 + 1))).bind fun (x4_3_0, x4_3_1, x4_3_2) =>
    if (!x4_3_2) then
    some ((TNode.mk 0 0 0 [] []), x4_3_1, false)
    else
    some ((TNode.mk a2 a3 0 x1_2.Text x4_3_0), x4_3_1, true)
end
def ref14_expr (k : Nat) (a0 : List TToken) (a1 : Int) : Option Tref14_Got :=
    (ref13_Expr k a0 a1).bind fun (x1_2_0, x1_2_1, x1_2_2) =>
    some (Tref14_Got.mk x1_2_0 x1_2_1 x1_2_2)
def ref14_named (k : Nat) (a0 : List TToken) (a1 : Int) : Option Tref14_Got :=
    (ref13_Tok k a0 a1).bind fun x1_2 =>
    (ref13_Is k a0 (IntKind.i64.wrap (a1 + 1)) [40]).bind fun x2_3 =>
    if x2_3 then
    (ref13_Args k a0 (IntKind.i64.wrap (a1 + 1))).bind fun (x3_3_0, x3_3_1, x3_3_2) =>
    (ref14_closed k a0 (Tref14_Got.mk (TNode.mk 17 x1_2.At 0 x1_2.Text x3_3_0) x3_3_1 x3_3_2) (TNode.mk 38 x1_2.At 0 [] [(TNode.mk 17 x1_2.At 0 x1_2.Text x3_3_0)]) [59]).bind fun x5_10 =>
    some x5_10
    else
    joinK (fun ((j0_1, j0_oloc10) : Int × TNode) =>
    (ref13_Is k a0 j0_1 [61]).bind fun x22_2 =>
    if (!x22_2) then
    (ref14_fail k j0_1).bind fun x23_1 =>
    some x23_1
    else
    (ref14_expr k a0 (IntKind.i64.wrap (j0_1 + 1))).bind fun x24_3 =>
    (ref13_Tok k a0 j0_1).bind fun x25_4 =>
    (ref14_closed k a0 x24_3 (TNode.mk 32 x25_4.At 0 [] [j0_oloc10, (TNode.mk x24_3.N.Kind x24_3.N.At x24_3.N.N x24_3.N.Name x24_3.N.Kids)]) [59]).bind fun x25_11 =>
    some x25_11) fun j_j0 =>
    loopM k (fun ((l1_1, l1_oloc10) : Int × TNode) =>
    (ref13_Is k a0 l1_1 [91]).bind fun x8_2 =>
    joinK (fun (g8_7_62 : Bool) =>
    if g8_7_62 then
    (ref13_Tok k a0 l1_1).bind fun x9_2 =>
    (ref13_Is k a0 l1_1 [46]).bind fun x10_2 =>
    if x10_2 then
    (ref13_Tok k a0 (IntKind.i64.wrap (l1_1 + 1))).bind fun x11_3 =>
    if (x11_3.Kind != 1) then
    (ref14_fail k (IntKind.i64.wrap (l1_1 + 1))).bind fun x13_2 =>
    some (.inr x13_2)
    else
    some (.inl ((IntKind.i64.wrap (l1_1 + 2)), (TNode.mk 14 x9_2.At 0 x11_3.Text [l1_oloc10])))
    else
    (ref14_expr k a0 (IntKind.i64.wrap (l1_1 + 1))).bind fun x16_3 =>
    (ref14_closed k a0 x16_3 (TNode.mk 13 x9_2.At 0 [] [l1_oloc10, (TNode.mk x16_3.N.Kind x16_3.N.At x16_3.N.N x16_3.N.Name x16_3.N.Kids)]) [93]).bind fun x17_8 =>
    if (!x17_8.Ok) then
    some (.inr x17_8)
    else
    some (.inl (x17_8.At, x17_8.N))
    else
    (j_j0 (l1_1, l1_oloc10)).map .inr) fun j_g8_7 =>
    if x8_2 then
    j_g8_7 true
    else
    (ref13_Is k a0 l1_1 [46]).bind fun x8_6 =>
    j_g8_7 x8_6) ((IntKind.i64.wrap (a1 + 1)), (TNode.mk 12 x1_2.At 0 x1_2.Text []))
mutual
def ref14_Block : Nat → List TToken → Int → Option Tref14_Got
  | 0, _, _ => none
  | k + 1, a0, a1 =>
    (ref13_Is k a0 a1 [123]).bind fun x1_2 =>
    if (!x1_2) then
    (ref14_fail k a1).bind fun x2_1 =>
    some x2_1
    else
    (ref13_Tok k a0 a1).bind fun x3_2 =>
    joinK (fun ((j0_bclloc54, j0_1) : List TNode × Int) =>
    some (Tref14_Got.mk (TNode.mk 30 x3_2.At 0 [] j0_bclloc54) (IntKind.i64.wrap (j0_1 + 1)) true)) fun j_j0 =>
    loopM k (fun ((l1_bclloc54, l1_1) : List TNode × Int) =>
    (ref13_Is k a0 l1_1 [125]).bind fun x5_2 =>
    if (!x5_2) then
    (ref14_Stmt k a0 l1_1).bind fun x6_2 =>
    if (!x6_2.Ok) then
    some (.inr x6_2)
    else
    if (room 64 (l1_bclloc54.length + [(TNode.mk x6_2.N.Kind x6_2.N.At x6_2.N.N x6_2.N.Name x6_2.N.Kids)].length)) then
    some (.inl ((l1_bclloc54 ++ [(TNode.mk x6_2.N.Kind x6_2.N.At x6_2.N.N x6_2.N.Name x6_2.N.Kids)]), x6_2.At))
    else none
    else
    (j_j0 (l1_bclloc54, l1_1)).map .inr) ([], (IntKind.i64.wrap (a1 + 1)))
def ref14_Stmt : Nat → List TToken → Int → Option Tref14_Got
  | 0, _, _ => none
  | k + 1, a0, a1 =>
    (ref13_Tok k a0 a1).bind fun x1_2 =>
    (ref13_Is k a0 a1 [123]).bind fun x2_2 =>
    if x2_2 then
    (ref14_Block k a0 a1).bind fun x3_2 =>
    some x3_2
    else
    if (x1_2.Kind == 1) then
    (ref14_named k a0 a1).bind fun x5_2 =>
    some x5_2
    else
    (ref13_Says k a0 a1 [105, 102]).bind fun x6_2 =>
    if x6_2 then
    (ref14_choice k a0 a1).bind fun x7_2 =>
    some x7_2
    else
    (ref13_Says k a0 a1 [119, 104, 105, 108, 101]).bind fun x8_2 =>
    if x8_2 then
    (ref14_headed k a0 a1 34).bind fun (x9_2_0, x9_2_1, x9_2_2, x9_2_3, x9_2_4, x9_2_5, x9_2_6, x9_2_7) =>
    some (Tref14_Got.mk (TNode.mk x9_2_0 x9_2_1 x9_2_2 x9_2_3 x9_2_5) x9_2_6 x9_2_7)
    else
    (ref13_Says k a0 a1 [114, 101, 116, 117, 114, 110]).bind fun x11_2 =>
    if x11_2 then
    (ref13_Is k a0 (IntKind.i64.wrap (a1 + 1)) [59]).bind fun x12_3 =>
    if x12_3 then
    some (Tref14_Got.mk (TNode.mk 35 x1_2.At 0 [] []) (IntKind.i64.wrap (a1 + 2)) true)
    else
    (ref14_expr k a0 (IntKind.i64.wrap (a1 + 1))).bind fun x14_3 =>
    (ref14_closed k a0 x14_3 (TNode.mk 35 x1_2.At 0 [] [(TNode.mk x14_3.N.Kind x14_3.N.At x14_3.N.N x14_3.N.Name x14_3.N.Kids)]) [59]).bind fun x15_8 =>
    some x15_8
    else
    (ref13_Says k a0 a1 [112, 114, 105, 110, 116]).bind fun x16_2 =>
    if x16_2 then
    (ref14_expr k a0 (IntKind.i64.wrap (a1 + 1))).bind fun x17_3 =>
    (ref14_closed k a0 x17_3 (TNode.mk 37 x1_2.At 0 [] [(TNode.mk x17_3.N.Kind x17_3.N.At x17_3.N.N x17_3.N.Name x17_3.N.Kids)]) [59]).bind fun x18_8 =>
    some x18_8
    else
    (ref13_Says k a0 a1 [118, 97, 114]).bind fun x19_2 =>
    joinK (fun (g20_7_92 : Bool) =>
    if g20_7_92 then
    (ref14_fail k a1).bind fun x21_1 =>
    some x21_1
    else
    (ref13_Tok k a0 (IntKind.i64.wrap (a1 + 1))).bind fun x22_3 =>
    if (x22_3.Kind != 1) then
    (ref14_fail k (IntKind.i64.wrap (a1 + 1))).bind fun x24_2 =>
    some x24_2
    else
    if (!x19_2) then
    (ref14_closed k a0 (Tref14_Got.mk (TNode.mk 0 0 0 [] []) (IntKind.i64.wrap (a1 + 2)) true) (TNode.mk 36 x1_2.At 0 x22_3.Text []) [59]).bind fun x26_10 =>
    some x26_10
    else
    (ref13_Is k a0 (IntKind.i64.wrap (a1 + 2)) [61]).bind fun x27_3 =>
    if (!x27_3) then
    (ref14_fail k (IntKind.i64.wrap (a1 + 2))).bind fun x28_2 =>
    some x28_2
    else
    (ref14_expr k a0 (IntKind.i64.wrap (a1 + 3))).bind fun x29_3 =>
    (ref14_closed k a0 x29_3 (TNode.mk 31 x1_2.At 0 x22_3.Text [(TNode.mk x29_3.N.Kind x29_3.N.At x29_3.N.N x29_3.N.Name x29_3.N.Kids)]) [59]).bind fun x30_10 =>
    some x30_10) fun j_g20_7 =>
    if (!x19_2) then
    (ref13_Says k a0 a1 [106, 111, 105, 110]).bind fun x20_5 =>
    j_g20_7 (!x20_5)
    else
    j_g20_7 false
def ref14_choice : Nat → List TToken → Int → Option Tref14_Got
  | 0, _, _ => none
  | k + 1, a0, a1 =>
    (ref14_headed k a0 a1 33).bind fun (x1_2_0, x1_2_1, x1_2_2, x1_2_3, x1_2_4, x1_2_5, x1_2_6, x1_2_7) =>
    joinK (fun (g2_9_19 : Bool) =>
    if g2_9_19 then
    some (Tref14_Got.mk (TNode.mk x1_2_0 x1_2_1 x1_2_2 x1_2_3 x1_2_5) x1_2_6 x1_2_7)
    else
    joinK (fun (j0_oloc6 : Tref14_Got) =>
    if (!j0_oloc6.Ok) then
    some j0_oloc6
    else
    if x1_2_4 then
    if (room 64 (x1_2_5.length + [(TNode.mk j0_oloc6.N.Kind j0_oloc6.N.At j0_oloc6.N.N j0_oloc6.N.Name j0_oloc6.N.Kids)].length)) then
    some (Tref14_Got.mk (TNode.mk x1_2_0 x1_2_1 x1_2_2 x1_2_3 (x1_2_5 ++ [(TNode.mk j0_oloc6.N.Kind j0_oloc6.N.At j0_oloc6.N.N j0_oloc6.N.Name j0_oloc6.N.Kids)])) j0_oloc6.At true)
    else none
    else none) fun j_j0 =>
    (ref13_Says k a0 (IntKind.i64.wrap (x1_2_6 + 1)) [105, 102]).bind fun x5_4 =>
    if x5_4 then
    (ref14_choice k a0 (IntKind.i64.wrap (x1_2_6 + 1))).bind fun x6_4 =>
    j_j0 x6_4
    else
    (ref14_Block k a0 (IntKind.i64.wrap (x1_2_6 + 1))).bind fun x7_4 =>
    j_j0 x7_4) fun j_g2_9 =>
    if (!x1_2_7) then
    j_g2_9 true
    else
    (ref13_Says k a0 x1_2_6 [101, 108, 115, 101]).bind fun x2_7 =>
    j_g2_9 (!x2_7)
def ref14_headed : Nat → List TToken → Int → Int → Option (Int × Int × Int × List UInt8 × Bool × List TNode × Int × Bool)
  | 0, _, _, _ => none
  | k + 1, a0, a1, a2 =>
    (ref14_expr k a0 (IntKind.i64.wrap (a1 + 1))).bind fun x1_3 =>
    if (!x1_3.Ok) then
    some (x1_3.N.Kind, x1_3.N.At, x1_3.N.N, x1_3.N.Name, false, x1_3.N.Kids, x1_3.At, x1_3.Ok)
    else
    (ref14_Block k a0 x1_3.At).bind fun x4_3 =>
    if (!x4_3.Ok) then
    some (x4_3.N.Kind, x4_3.N.At, x4_3.N.N, x4_3.N.Name, false, x4_3.N.Kids, x4_3.At, x4_3.Ok)
    else
    (ref13_Tok k a0 a1).bind fun x7_3 =>
    some (a2, x7_3.At, 0, [], true, [(TNode.mk x1_3.N.Kind x1_3.N.At x1_3.N.N x1_3.N.Name x1_3.N.Kids), (TNode.mk x4_3.N.Kind x4_3.N.At x4_3.N.N x4_3.N.Name x4_3.N.Kids)], x4_3.At, true)
end
def ref14_tail_v2 (k : Nat) (a0 : List TToken) (a1 : Int) (a2_0 : Int) (a2_1 : Int) (a2_2 : Int) (a2_3 : List UInt8) (a2_4 : List TNode) : Option Tref14_Got :=
    joinK (fun ((j0_bclloc54, j0_1) : List TNode × Int) =>
    (ref14_Block k a0 j0_1).bind fun x9_2 =>
    if (!x9_2.Ok) then
    some x9_2
    else
    if (room 64 (j0_bclloc54.length + [(TNode.mk x9_2.N.Kind x9_2.N.At x9_2.N.N x9_2.N.Name x9_2.N.Kids)].length)) then
    some (Tref14_Got.mk (TNode.mk a2_0 a2_1 a2_2 a2_3 (j0_bclloc54 ++ [(TNode.mk x9_2.N.Kind x9_2.N.At x9_2.N.N x9_2.N.Name x9_2.N.Kids)])) x9_2.At true)
    else none) fun j_j0 =>
    joinK (fun (g1_8_19 : Bool) =>
    if g1_8_19 then
    (ref13_Type k a0 a1).bind fun (x2_2_0, x2_2_1, x2_2_2) =>
    if (!x2_2_2) then
    (ref14_fail k x2_2_1).bind fun x4_1 =>
    some x4_1
    else
    if (room 64 (a2_4.length + [x2_2_0].length)) then
    j_j0 ((a2_4 ++ [x2_2_0]), x2_2_1)
    else none
    else
    if (a2_0 == 53) then
    if (room 64 (a2_4.length + [(TNode.mk 0 0 0 [] [])].length)) then
    j_j0 ((a2_4 ++ [(TNode.mk 0 0 0 [] [])]), a1)
    else none
    else
    j_j0 (a2_4, a1)) fun j_g1_8 =>
    if (a2_0 == 53) then
    (ref13_Is k a0 a1 [123]).bind fun x1_6 =>
    j_g1_8 (!x1_6)
    else
    j_g1_8 false
def ref14_tail_v3 (k : Nat) (a0 : List TToken) (a1 : Int) (a2_0 : Int) (a2_1 : Int) (a2_2 : Int) (a2_3 : List UInt8) (o0_0 : Int) (o0_1 : Int) (o0_2 : Int) (o0_3 : List UInt8) (b0 : List TNode) : Option (List TNode × Tref14_Got) :=
    joinK (fun ((j0_bclext04, j0_1) : List TNode × Int) =>
    (ref14_Block k a0 j0_1).bind fun x9_2 =>
    if (!x9_2.Ok) then
    some (j0_bclext04, x9_2)
    else
    if (room 64 (j0_bclext04.length + [(TNode.mk x9_2.N.Kind x9_2.N.At x9_2.N.N x9_2.N.Name x9_2.N.Kids)].length)) then
    some ((j0_bclext04 ++ [(TNode.mk x9_2.N.Kind x9_2.N.At x9_2.N.N x9_2.N.Name x9_2.N.Kids)]), (Tref14_Got.mk (TNode.mk a2_0 a2_1 a2_2 a2_3 (j0_bclext04 ++ [(TNode.mk x9_2.N.Kind x9_2.N.At x9_2.N.N x9_2.N.Name x9_2.N.Kids)])) x9_2.At true))
    else none) fun j_j0 =>
    joinK (fun (g1_8_19 : Bool) =>
    if g1_8_19 then
    (ref13_Type k a0 a1).bind fun (x2_2_0, x2_2_1, x2_2_2) =>
    if (!x2_2_2) then
    (ref14_fail k x2_2_1).bind fun x4_1 =>
    some (b0, x4_1)
    else
    if (room 64 (b0.length + [x2_2_0].length)) then
    j_j0 ((b0 ++ [x2_2_0]), x2_2_1)
    else none
    else
    if (a2_0 == 53) then
    if (room 64 (b0.length + [(TNode.mk 0 0 0 [] [])].length)) then
    j_j0 ((b0 ++ [(TNode.mk 0 0 0 [] [])]), a1)
    else none
    else
    j_j0 (b0, a1)) fun j_g1_8 =>
    if (a2_0 == 53) then
    (ref13_Is k a0 a1 [123]).bind fun x1_6 =>
    j_g1_8 (!x1_6)
    else
    j_g1_8 false
def ref14_fun_v2 (k : Nat) (a0 : List TToken) (a1 : Int) (a2_0 : Int) (a2_1 : Int) (a2_2 : Int) (a2_3 : List UInt8) (a2_4 : List TNode) : Option Tref14_Got :=
    (ref13_Is k a0 a1 [40]).bind fun x1_2 =>
    if (!x1_2) then
    (ref14_fail k a1).bind fun x2_1 =>
    some x2_1
    else
    joinK (fun (g4_7_25 : Bool) =>
    if g4_7_25 then
    (ref14_tail_v2 k a0 (IntKind.i64.wrap ((IntKind.i64.wrap (a1 + 1)) + 1)) a2_0 a2_1 a2_2 a2_3 a2_4).bind fun x5_4 =>
    some x5_4
    else
    loopM k (fun ((l0_bclloc54, l0_1) : List TNode × Int) =>
    (ref14_param k a0 l0_1).bind fun x6_2 =>
    if (!x6_2.Ok) then
    some (.inr x6_2)
    else
    if (room 64 (l0_bclloc54.length + [(TNode.mk x6_2.N.Kind x6_2.N.At x6_2.N.N x6_2.N.Name x6_2.N.Kids)].length)) then
    joinK (fun (g13_5_70 : Bool) =>
    if g13_5_70 then
    (ref14_tail_v3 k a0 (IntKind.i64.wrap (x6_2.At + 1)) a2_0 a2_1 a2_2 a2_3 a2_0 a2_1 a2_2 a2_3 (l0_bclloc54 ++ [(TNode.mk x6_2.N.Kind x6_2.N.At x6_2.N.N x6_2.N.Name x6_2.N.Kids)])).bind fun (x14_4_0, x14_4_1) =>
    some (.inr x14_4_1)
    else
    joinK (fun (g15_7_83 : Bool) =>
    if g15_7_83 then
    (ref14_fail k x6_2.At).bind fun x16_1 =>
    some (.inr x16_1)
    else
    some (.inl ((l0_bclloc54 ++ [(TNode.mk x6_2.N.Kind x6_2.N.At x6_2.N.N x6_2.N.Name x6_2.N.Kids)]), (IntKind.i64.wrap (x6_2.At + 1))))) fun j_g15_7 =>
    if (!((a2_0 == 53) || (decide (((l0_bclloc54 ++ [(TNode.mk x6_2.N.Kind x6_2.N.At x6_2.N.N x6_2.N.Name x6_2.N.Kids)]).length : Int) < 3)))) then
    j_g15_7 true
    else
    (ref13_Is k a0 x6_2.At [44]).bind fun x15_5 =>
    j_g15_7 (!x15_5)) fun j_g13_5 =>
    if ((a2_0 == 53) || (((l0_bclloc54 ++ [(TNode.mk x6_2.N.Kind x6_2.N.At x6_2.N.N x6_2.N.Name x6_2.N.Kids)]).length : Int) == 3)) then
    (ref13_Is k a0 x6_2.At [41]).bind fun x13_4 =>
    j_g13_5 x13_4
    else
    j_g13_5 false
    else none) (a2_4, (IntKind.i64.wrap (a1 + 1)))) fun j_g4_7 =>
    if (a2_0 == 53) then
    (ref13_Is k a0 (IntKind.i64.wrap (a1 + 1)) [41]).bind fun x4_6 =>
    j_g4_7 x4_6
    else
    j_g4_7 false
def ref14_Decl (k : Nat) (a0 : List TToken) (a1 : Int) : Option Tref14_Got :=
    joinK (fun (j0_6 : Int) =>
    if (j0_6 == 4) then
    (ref14_fail k a1).bind fun x6_1 =>
    some x6_1
    else
    (ref13_Tok k a0 (IntKind.i64.wrap (a1 + 1))).bind fun x7_3 =>
    if (x7_3.Kind != 1) then
    (ref14_fail k (IntKind.i64.wrap (a1 + 1))).bind fun x9_2 =>
    some x9_2
    else
    (ref13_Tok k a0 a1).bind fun x10_4 =>
    if (j0_6 == 0) then
    (ref14_rec_v2 k a0 (IntKind.i64.wrap (a1 + 2)) (IntKind.i64.wrap (51 + j0_6)) x10_4.At 0 x7_3.Text []).bind fun x12_4 =>
    some x12_4
    else
    if (j0_6 == 1) then
    (ref14_iso k a0 (IntKind.i64.wrap (a1 + 2)) (TNode.mk (IntKind.i64.wrap (51 + j0_6)) x10_4.At 0 x7_3.Text [])).bind fun x14_4 =>
    some x14_4
    else
    (ref14_fun_v2 k a0 (IntKind.i64.wrap (a1 + 2)) (IntKind.i64.wrap (51 + j0_6)) x10_4.At 0 x7_3.Text []).bind fun x15_4 =>
    some x15_4) fun j_j0 =>
    loopM k (fun (l1_6 : Int) =>
    joinK (fun (g3_11_21 : Bool) =>
    if g3_11_21 then
    some (.inl (IntKind.i64.wrap (l1_6 + 1)))
    else
    (j_j0 l1_6).map .inr) fun j_g3_11 =>
    if (decide (l1_6 < 4)) then
    (ix [[114, 101, 99], [105, 115, 111], [102, 117, 110], [109, 101, 114, 103, 101]] l1_6).bind fun x3_7 =>
    (ref13_Says k a0 a1 x3_7).bind fun x3_9 =>
    j_g3_11 (!x3_9)
    else
    j_g3_11 false) 0
def ref14_Prog (k : Nat) (a0 : List TToken) : Option Tref14_Got :=
    joinK (fun ((j0_bclloc34, j0_4) : List TNode × Int) =>
    (ref14_Block k a0 (IntKind.i64.wrap (j0_4 + 1))).bind fun x9_3 =>
    if (!x9_3.Ok) then
    some x9_3
    else
    if (room 64 (j0_bclloc34.length + [(TNode.mk x9_3.N.Kind x9_3.N.At x9_3.N.N x9_3.N.Name x9_3.N.Kids)].length)) then
    joinK (fun (g13_14_57 : Bool) =>
    if g13_14_57 then
    (ref14_fail k x9_3.At).bind fun x14_2 =>
    some x14_2
    else
    some (Tref14_Got.mk (TNode.mk 55 0 0 [] (j0_bclloc34 ++ [(TNode.mk x9_3.N.Kind x9_3.N.At x9_3.N.N x9_3.N.Name x9_3.N.Kids)])) x9_3.At true)) fun j_g13_14 =>
    if (x9_3.At != (IntKind.i64.wrap ((a0.length : Int) - 1))) then
    j_g13_14 true
    else
    (ix a0 x9_3.At).bind fun x13_10 =>
    j_g13_14 (x13_10.Kind != 0)
    else none) fun j_j0 =>
    loopM k (fun ((l1_bclloc34, l1_4) : List TNode × Int) =>
    (ref13_Says k a0 l1_4 [109, 97, 105, 110]).bind fun x3_2 =>
    if (!x3_2) then
    (ref14_Decl k a0 l1_4).bind fun x4_2 =>
    if (!x4_2.Ok) then
    some (.inr x4_2)
    else
    if (room 64 (l1_bclloc34.length + [(TNode.mk x4_2.N.Kind x4_2.N.At x4_2.N.N x4_2.N.Name x4_2.N.Kids)].length)) then
    some (.inl ((l1_bclloc34 ++ [(TNode.mk x4_2.N.Kind x4_2.N.At x4_2.N.N x4_2.N.Name x4_2.N.Kids)]), x4_2.At))
    else none
    else
    (j_j0 (l1_bclloc34, l1_4)).map .inr) ([], 0)
def ref15_Prog (k : Nat) (a0 : List UInt8) : Option Tref15_Got :=
    (ref10_All k a0).bind fun (x1_1_0, x1_1_1, x1_1_2) =>
    if (x1_1_2 != 0) then
    (ref15_at k a0 x1_1_1 x1_1_2).bind fun x3_3 =>
    some x3_3
    else
    (ref12_Check k x1_1_0).bind fun (x4_1_0, x4_1_1) =>
    if (x4_1_1 != 0) then
    (ref15_at k a0 x4_1_0 x4_1_1).bind fun x6_3 =>
    some x6_3
    else
    (ref14_Prog k x1_1_0).bind fun x7_1 =>
    if (!x7_1.Ok) then
    (ix x1_1_0 x7_1.At).bind fun x9_4 =>
    (ref15_at k a0 x9_4.At 1).bind fun x9_7 =>
    some x9_7
    else
    some (Tref15_Got.mk x7_1.N 0 0 0 0)
def ref13_Placed : Nat → TNode → TNode → Option Bool
  | 0, _, _ => none
  | k + 1, a0, a1 =>
    if (((((a0.Kind != a1.Kind) || (a0.At != a1.At)) || (a0.N != a1.N)) || (!(a0.Name == a1.Name))) || ((a0.Kids.length : Int) != (a1.Kids.length : Int))) then
    some false
    else
    joinK (fun (_ : Unit) =>
    some true) fun j_j0 =>
    loopM k (fun (l1_5 : Int) =>
    if (decide (l1_5 < (a0.Kids.length : Int))) then
    (ix a0.Kids l1_5).bind fun x6_3 =>
    (ix a1.Kids l1_5).bind fun x6_8 =>
    (ref13_Placed k x6_3 x6_8).bind fun x6_10 =>
    if (!x6_10) then
    some (.inr false)
    else
    some (.inl (IntKind.i64.wrap (l1_5 + 1)))
    else
    (j_j0 ()).map .inr) 0
def law15_same (k : Nat) (a0 : TNode) (a1 : Tparse_Fault) (a2 : Tref15_Got) : Option Bool :=
    (ref13_Placed k a0 (TNode.mk a2.N.Kind a2.N.At a2.N.N a2.N.Name a2.N.Kids)).bind fun x1_3 =>
    some ((((x1_3 && (a1.At == a2.At)) && (a1.Line == a2.Line)) && (a1.Col == a2.Col)) && (a1.Why == a2.Why))
def ref15_Expr (k : Nat) (a0 : List UInt8) : Option Tref15_Got :=
    (ref10_All k a0).bind fun (x1_1_0, x1_1_1, x1_1_2) =>
    if (x1_1_2 != 0) then
    (ref15_at k a0 x1_1_1 x1_1_2).bind fun x3_3 =>
    some x3_3
    else
    (ref12_Check k x1_1_0).bind fun (x4_1_0, x4_1_1) =>
    if (x4_1_1 != 0) then
    (ref15_at k a0 x4_1_0 x4_1_1).bind fun x6_3 =>
    some x6_3
    else
    (ref13_Expr k x1_1_0 0).bind fun (x7_1_0, x7_1_1, x7_1_2) =>
    joinK (fun (g8_9_47 : Bool) =>
    if g8_9_47 then
    (ix x1_1_0 x7_1_1).bind fun x9_3 =>
    (ref15_at k a0 x9_3.At 1).bind fun x9_6 =>
    some x9_6
    else
    some (Tref15_Got.mk x7_1_0 0 0 0 0)) fun j_g8_9 =>
    if (!x7_1_2) then
    j_g8_9 true
    else
    (ix x1_1_0 x7_1_1).bind fun x8_5 =>
    j_g8_9 (x8_5.Kind != 0)
def law15_ParseReads (k : Nat) (a0 : List UInt8) : Option Bool :=
    (law15_works k).bind fun x1_0 =>
    if ((!x1_0) || (decide ((a0.length : Int) > 3000))) then
    (law15_works k).bind fun x2_0 =>
    some x2_0
    else
    (parse_Prog k a0).bind fun (x3_1_0, x3_1_1) =>
    (parse_Expr k a0).bind fun (x4_1_0, x4_1_1) =>
    (ref15_Prog k a0).bind fun x5_3 =>
    (law15_same k x3_1_0 x3_1_1 x5_3).bind fun x5_4 =>
    joinK (fun (g5_11_36 : Bool) =>
    some g5_11_36) fun j_g5_11 =>
    if x5_4 then
    (ref15_Expr k a0).bind fun x5_9 =>
    (law15_same k x4_1_0 x4_1_1 x5_9).bind fun x5_10 =>
    j_g5_11 x5_10
    else
    j_g5_11 false
end Go.Proofs.YtjakhfaodfaimaaGreatDoor.F
namespace Go.Proofs.YtjakhfaodfaimaaGreatDoor.F
open Go
def ref11_alone (k : Nat) (a0 : TNode) : Option Bool :=
    some ((a0.N == 0) && (a0.Name == []))
def ref11_Named (k : Nat) (a0 : List UInt8) : Option Bool :=
    (ref10_All k a0).bind fun (x1_1_0, x1_1_1, x1_1_2) =>
    joinK (fun (g2_13_25 : Bool) =>
    joinK (fun (g2_21_33 : Bool) =>
    some g2_21_33) fun j_g2_21 =>
    if g2_13_25 then
    (ix x1_1_0 0).bind fun x2_16 =>
    j_g2_21 (x2_16.Text == a0)
    else
    j_g2_21 false) fun j_g2_13 =>
    if ((x1_1_2 == 0) && ((x1_1_0.length : Int) == 2)) then
    (ix x1_1_0 0).bind fun x2_9 =>
    j_g2_13 (x2_9.Kind == 1)
    else
    j_g2_13 false
def ref11_Type : Nat → TNode → Option Bool
  | 0, _ => none
  | k + 1, a0 =>
    if (a0.N != 0) then
    some false
    else
    if (a0.Kind == 4) then
    (ref11_Named k a0.Name).bind fun x4_2 =>
    some (x4_2 && ((a0.Kids.length : Int) == 0))
    else
    if (!(a0.Name == [])) then
    some false
    else
    if (a0.Kind == 5) then
    joinK (fun (g8_10_34 : Bool) =>
    some g8_10_34) fun j_g8_10 =>
    if ((a0.Kids.length : Int) == 1) then
    (ix a0.Kids 0).bind fun x8_7 =>
    (ref11_Type k x8_7).bind fun x8_9 =>
    j_g8_10 x8_9
    else
    j_g8_10 false
    else
    some (((decide (a0.Kind ≥ 1)) && (decide (a0.Kind ≤ 3))) && ((a0.Kids.length : Int) == 0))
mutual
def ref11_Expr : Nat → TNode → Option Bool
  | 0, _ => none
  | k + 1, a0 =>
    if (a0.Kind == 19) then
    (ref11_alone k a0).bind fun x3_1 =>
    joinK (fun (g3_12_22 : Bool) =>
    joinK (fun (g3_18_28 : Bool) =>
    some g3_18_28) fun j_g3_18 =>
    if g3_12_22 then
    (sub a0.Kids 1 (a0.Kids.length : Int)).bind fun x3_16 =>
    (ref11_exprs k x3_16).bind fun x3_17 =>
    j_g3_18 x3_17
    else
    j_g3_18 false) fun j_g3_12 =>
    if (x3_1 && (decide ((a0.Kids.length : Int) > 0))) then
    (ix a0.Kids 0).bind fun x3_9 =>
    (ref11_Type k x3_9).bind fun x3_11 =>
    j_g3_12 x3_11
    else
    j_g3_12 false
    else
    (ref11_exprs k a0.Kids).bind fun x4_2 =>
    if (!x4_2) then
    some false
    else
    if ((a0.Kind == 10) || (a0.Kind == 11)) then
    some (((((a0.Kids.length : Int) == 0) && (a0.Name == [])) && (decide (a0.N ≥ 0))) && ((a0.Kind == 10) || (decide (a0.N ≤ 1))))
    else
    if ((a0.Kind == 15) || (a0.Kind == 16)) then
    if (a0.Kind == 15) then
    some ((((a0.Kids.length : Int) == 1) && (a0.Name == [])) && ((a0.N == 2) || (a0.N == 14)))
    else
    joinK (fun (g11_12_103 : Bool) =>
    some g11_12_103) fun j_g11_12 =>
    if (((a0.Kids.length : Int) == 2) && (a0.Name == [])) then
    (ref09_Bind k a0.N).bind fun x11_10 =>
    j_g11_12 (decide (x11_10 > 0))
    else
    j_g11_12 false
    else
    if (a0.Kind == 13) then
    joinK (fun (g13_5_112 : Bool) =>
    some g13_5_112) fun j_g13_5 =>
    if ((a0.Kids.length : Int) == 2) then
    (ref11_alone k a0).bind fun x13_4 =>
    j_g13_5 x13_4
    else
    j_g13_5 false
    else
    joinK (fun (g14_8_121 : Bool) =>
    if g14_8_121 then
    some false
    else
    some (((((a0.Kind == 12) && ((a0.Kids.length : Int) == 0)) || ((a0.Kind == 14) && ((a0.Kids.length : Int) == 1))) || (a0.Kind == 17)) || (a0.Kind == 18))) fun j_g14_8 =>
    if (a0.N != 0) then
    j_g14_8 true
    else
    (ref11_Named k a0.Name).bind fun x14_6 =>
    j_g14_8 (!x14_6)
def ref11_exprs : Nat → List TNode → Option Bool
  | 0, _ => none
  | k + 1, a0 =>
    joinK (fun (_ : Unit) =>
    some true) fun j_j0 =>
    loopM k (fun (l1_3 : Int) =>
    if (decide (l1_3 < (a0.length : Int))) then
    (ix a0 l1_3).bind fun x4_2 =>
    (ref11_Expr k x4_2).bind fun x4_4 =>
    if (!x4_4) then
    some (.inr false)
    else
    some (.inl (IntKind.i64.wrap (l1_3 + 1)))
    else
    (j_j0 ()).map .inr) 0
end
def ref11_place : Nat → TNode → Option Bool
  | 0, _ => none
  | k + 1, a0 =>
    (ref11_Expr k a0).bind fun x1_1 =>
    if (!x1_1) then
    some false
    else
    if (a0.Kind == 12) then
    some true
    else
    joinK (fun (g5_14_23 : Bool) =>
    some g5_14_23) fun j_g5_14 =>
    if ((a0.Kind == 13) || (a0.Kind == 14)) then
    (ix a0.Kids 0).bind fun x5_11 =>
    (ref11_place k x5_11).bind fun x5_13 =>
    j_g5_14 x5_13
    else
    j_g5_14 false
mutual
def ref11_kind : Nat → TNode → Int → Option Bool
  | 0, _, _ => none
  | k + 1, a0, a1 =>
    joinK (fun (g1_7_12 : Bool) =>
    some g1_7_12) fun j_g1_7 =>
    if (a0.Kind == a1) then
    (ref11_Stmt k a0).bind fun x1_6 =>
    j_g1_7 x1_6
    else
    j_g1_7 false
def ref11_Stmt : Nat → TNode → Option Bool
  | 0, _ => none
  | k + 1, a0 =>
    if ((a0.Kind == 31) || (a0.Kind == 36)) then
    joinK (fun (g3_8_24 : Bool) =>
    if g3_8_24 then
    some false
    else
    joinK (fun (g5_22_47 : Bool) =>
    some g5_22_47) fun j_g5_22 =>
    if ((a0.Kind == 36) && ((a0.Kids.length : Int) == 0)) then
    j_g5_22 true
    else
    joinK (fun (g5_21_46 : Bool) =>
    j_g5_22 g5_21_46) fun j_g5_21 =>
    if ((a0.Kind == 31) && ((a0.Kids.length : Int) == 1)) then
    (ix a0.Kids 0).bind fun x5_18 =>
    (ref11_Expr k x5_18).bind fun x5_20 =>
    j_g5_21 x5_20
    else
    j_g5_21 false) fun j_g3_8 =>
    if (a0.N != 0) then
    j_g3_8 true
    else
    (ref11_Named k a0.Name).bind fun x3_6 =>
    j_g3_8 (!x3_6)
    else
    (ref11_alone k a0).bind fun x6_1 =>
    if (!x6_1) then
    some false
    else
    if (a0.Kind == 30) then
    joinK (fun (_ : Unit) =>
    some true) fun j_j0 =>
    loopM k (fun (l1_4 : Int) =>
    if (decide (l1_4 < (a0.Kids.length : Int))) then
    (ix a0.Kids l1_4).bind fun x12_3 =>
    (ref11_Stmt k x12_3).bind fun x12_5 =>
    if (!x12_5) then
    some (.inr false)
    else
    some (.inl (IntKind.i64.wrap (l1_4 + 1)))
    else
    (j_j0 ()).map .inr) 0
    else
    if ((a0.Kind == 35) && ((a0.Kids.length : Int) == 0)) then
    some true
    else
    if ((a0.Kind == 35) || (a0.Kind == 37)) then
    joinK (fun (g18_8_89 : Bool) =>
    some g18_8_89) fun j_g18_8 =>
    if ((a0.Kids.length : Int) == 1) then
    (ix a0.Kids 0).bind fun x18_5 =>
    (ref11_Expr k x18_5).bind fun x18_7 =>
    j_g18_8 x18_7
    else
    j_g18_8 false
    else
    if (a0.Kind == 38) then
    joinK (fun (g20_9_102 : Bool) =>
    joinK (fun (g20_16_109 : Bool) =>
    some g20_16_109) fun j_g20_16 =>
    if g20_9_102 then
    (ix a0.Kids 0).bind fun x20_13 =>
    (ref11_Expr k x20_13).bind fun x20_15 =>
    j_g20_16 x20_15
    else
    j_g20_16 false) fun j_g20_9 =>
    if ((a0.Kids.length : Int) == 1) then
    (ix a0.Kids 0).bind fun x20_5 =>
    j_g20_9 (x20_5.Kind == 17)
    else
    j_g20_9 false
    else
    if (a0.Kind == 32) then
    joinK (fun (g22_8_121 : Bool) =>
    joinK (fun (g22_15_128 : Bool) =>
    some g22_15_128) fun j_g22_15 =>
    if g22_8_121 then
    (ix a0.Kids 1).bind fun x22_12 =>
    (ref11_Expr k x22_12).bind fun x22_14 =>
    j_g22_15 x22_14
    else
    j_g22_15 false) fun j_g22_8 =>
    if ((a0.Kids.length : Int) == 2) then
    (ix a0.Kids 0).bind fun x22_5 =>
    (ref11_place k x22_5).bind fun x22_7 =>
    j_g22_8 x22_7
    else
    j_g22_8 false
    else
    joinK (fun (g23_19_148 : Bool) =>
    joinK (fun (g23_27_156 : Bool) =>
    if g23_27_156 then
    some false
    else
    if ((a0.Kids.length : Int) == 2) then
    some true
    else
    joinK (fun (g27_20_179 : Bool) =>
    some g27_20_179) fun j_g27_20 =>
    if ((a0.Kind == 33) && ((a0.Kids.length : Int) == 3)) then
    (ix a0.Kids 2).bind fun x27_10 =>
    (ref11_kind k x27_10 30).bind fun x27_12 =>
    joinK (fun (g27_19_178 : Bool) =>
    j_g27_20 g27_19_178) fun j_g27_19 =>
    if x27_12 then
    j_g27_19 true
    else
    (ix a0.Kids 2).bind fun x27_16 =>
    (ref11_kind k x27_16 33).bind fun x27_18 =>
    j_g27_19 x27_18
    else
    j_g27_20 false) fun j_g23_27 =>
    if g23_19_148 then
    j_g23_27 true
    else
    (ix a0.Kids 1).bind fun x23_23 =>
    (ref11_kind k x23_23 30).bind fun x23_25 =>
    j_g23_27 (!x23_25)) fun j_g23_19 =>
    if (((a0.Kind != 33) && (a0.Kind != 34)) || (decide ((a0.Kids.length : Int) < 2))) then
    j_g23_19 true
    else
    (ix a0.Kids 0).bind fun x23_15 =>
    (ref11_Expr k x23_15).bind fun x23_17 =>
    j_g23_19 (!x23_17)
end
def ref11_param (k : Nat) (a0 : TNode) : Option Bool :=
    joinK (fun (g1_12_15 : Bool) =>
    joinK (fun (g1_25_28 : Bool) =>
    some g1_25_28) fun j_g1_25 =>
    if (g1_12_15 && ((a0.Kids.length : Int) == 1)) then
    (ix a0.Kids 0).bind fun x1_22 =>
    (ref11_Type k x1_22).bind fun x1_24 =>
    j_g1_25 x1_24
    else
    j_g1_25 false) fun j_g1_12 =>
    if ((a0.Kind == 50) && (a0.N == 0)) then
    (ref11_Named k a0.Name).bind fun x1_11 =>
    j_g1_12 x1_11
    else
    j_g1_12 false
def ref11_Decl (k : Nat) (a0 : TNode) : Option Bool :=
    (ref11_Named k a0.Name).bind fun x2_2 =>
    if ((!x2_2) || ((a0.Kids.length : Int) == 0)) then
    some false
    else
    if (a0.Kind == 52) then
    joinK (fun (g5_10_31 : Bool) =>
    if (g5_10_31 || (decide ((a0.Kids.length : Int) > 2))) then
    some false
    else
    joinK (fun (g7_16_52 : Bool) =>
    some g7_16_52) fun j_g7_16 =>
    if ((a0.Kids.length : Int) == 1) then
    j_g7_16 true
    else
    (ix a0.Kids 1).bind fun x7_5 =>
    joinK (fun (g7_15_51 : Bool) =>
    j_g7_16 g7_15_51) fun j_g7_15 =>
    if (x7_5.Kind == 12) then
    (ix a0.Kids 1).bind fun x7_12 =>
    (ref11_Expr k x7_12).bind fun x7_14 =>
    j_g7_15 x7_14
    else
    j_g7_15 false) fun j_g5_10 =>
    if (decide (a0.N < 0)) then
    j_g5_10 true
    else
    (ix a0.Kids 0).bind fun x5_6 =>
    (ref11_Type k x5_6).bind fun x5_8 =>
    j_g5_10 (!x5_8)
    else
    if (a0.N != 0) then
    some false
    else
    joinK (fun (j0_4 : Int) =>
    joinK (fun (j1_4 : Int) =>
    if (decide (j1_4 < 0)) then
    some false
    else
    joinK (fun (_ : Unit) =>
    if (a0.Kind == 51) then
    some true
    else
    (ix a0.Kids (IntKind.i64.wrap ((a0.Kids.length : Int) - 1))).bind fun x24_4 =>
    (ref11_kind k x24_4 30).bind fun x24_6 =>
    if (!x24_6) then
    some false
    else
    if (a0.Kind == 54) then
    some (j1_4 == 3)
    else
    (sub a0.Kids (IntKind.i64.wrap ((a0.Kids.length : Int) - 2)) (a0.Kids.length : Int)).bind fun x28_4 =>
    (ix x28_4 0).bind fun x28_5 =>
    joinK (fun (g29_21_125 : Bool) =>
    some g29_21_125) fun j_g29_21 =>
    if (a0.Kind == 53) then
    (ref11_Type k x28_5).bind fun x29_5 =>
    joinK (fun (g29_20_124 : Bool) =>
    j_g29_21 g29_20_124) fun j_g29_20 =>
    if x29_5 then
    j_g29_20 true
    else
    joinK (fun (g29_13_117 : Bool) =>
    j_g29_20 (g29_13_117 && ((x28_5.Kids.length : Int) == 0))) fun j_g29_13 =>
    if (x28_5.Kind == 0) then
    (ref11_alone k x28_5).bind fun x29_12 =>
    j_g29_13 x29_12
    else
    j_g29_13 false
    else
    j_g29_21 false) fun j_j2 =>
    loopM k (fun (l3_5 : Int) =>
    if (decide (l3_5 < j1_4)) then
    (ix a0.Kids l3_5).bind fun x20_3 =>
    (ref11_param k x20_3).bind fun x20_5 =>
    if (!x20_5) then
    some (.inr false)
    else
    some (.inl (IntKind.i64.wrap (l3_5 + 1)))
    else
    (j_j2 ()).map .inr) 0) fun j_j1 =>
    if (a0.Kind == 54) then
    j_j1 (IntKind.i64.wrap ((a0.Kids.length : Int) - 1))
    else
    j_j1 j0_4) fun j_j0 =>
    if (a0.Kind == 53) then
    j_j0 (IntKind.i64.wrap ((a0.Kids.length : Int) - 2))
    else
    j_j0 (a0.Kids.length : Int)
end Go.Proofs.YtjakhfaodfaimaaGreatDoor.F
