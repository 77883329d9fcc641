/- The functions, printed by a program (wip/dev/gen.py) out of their code. No condition. -/
import Derived.Test.YtbhncegmohnfhaaDoorZAT
set_option linter.unusedVariables false
set_option maxRecDepth 100000
namespace Go.Proofs.YtbhncegmohnfhaaDoor.F
open Go
def ref10_class (k : Nat) (a0 : Int) : Option Int :=
    if (((a0 == 95) || ((decide (a0 ≥ 97)) && (decide (a0 ≤ 122)))) || ((decide (a0 ≥ 65)) && (decide (a0 ≤ 90)))) then
    some 1
    else
    if ((decide (a0 ≥ 48)) && (decide (a0 ≤ 57))) then
    some 2
    else
    if ((((a0 == 32) || (a0 == 9)) || (a0 == 10)) || (a0 == 13)) then
    some 3
    else
    if (a0 == 35) then
    some 4
    else
    some 0
def ref09_All (k : Nat) : Option (List (List UInt8)) :=
    some [[114, 101, 99], [105, 115, 111], [102, 117, 110], [109, 101, 114, 103, 101], [109, 97, 105, 110], [118, 97, 114], [105, 102], [101, 108, 115, 101], [119, 104, 105, 108, 101], [114, 101, 116, 117, 114, 110], [102, 111, 114, 107], [106, 111, 105, 110], [112, 114, 105, 110, 116], [110, 101, 119], [98, 121], [105, 110, 116], [98, 111, 111, 108], [114, 101, 118], [116, 114, 117, 101], [102, 97, 108, 115, 101]]
def ref09_Is (k : Nat) (a0 : List UInt8) : Option Bool :=
    (ref09_All k).bind fun x1_0 =>
    joinK (fun (_ : Unit) =>
    some false) fun j_j0 =>
    loopM k (fun (l1_4 : Int) =>
    if (decide (l1_4 < ((x1_0.length : Int)))) then
    (ix x1_0 l1_4).bind fun x5_2 =>
    if (x5_2 == a0) then
    some (.inr true)
    else
    some (.inl (IntKind.i64.wrap (l1_4 + 1)))
    else
    (j_j0 ()).map .inr) 0
def ref01_Read (k : Nat) (a0 : List UInt8) : Option (Int × Int) :=
    if (a0 == []) then
    some (0, 1)
    else
    joinK (fun ((j0_4, j0_5) : Int × Bool) =>
    if (j0_5 || (decide (j0_4 ≥ 9223372036854775808))) then
    some (0, 2)
    else
    some ((IntKind.i64.wrap j0_4), 0)) fun j_j0 =>
    loopM k (fun ((l1_4, l1_5, l1_6) : Int × Bool × Int) =>
    if (decide (l1_6 < ((a0.length : Int)))) then
    joinK (fun ((j2_4, j2_5) : Int × Bool) =>
    some (.inl (j2_4, j2_5, (IntKind.i64.wrap (l1_6 + 1))))) fun j_j2 =>
    (ix a0 l1_6).bind fun x8_2 =>
    joinK (fun (g8_9_24 : Bool) =>
    if g8_9_24 then
    some (.inr (0, 1))
    else
    joinK (fun (j3_5 : Bool) =>
    if (!j3_5) then
    (ix a0 l1_6).bind fun x13_4 =>
    j_j2 ((IntKind.u64.wrap ((IntKind.u64.wrap (10 * l1_4)) + (IntKind.u64.wrap (IntKind.u8.wrap ((x13_4.toNat : Int) - 48))))), j3_5)
    else
    j_j2 (l1_4, j3_5)) fun j_j3 =>
    if (decide (l1_4 > 1000000000000000000)) then
    j_j3 true
    else
    j_j3 l1_5) fun j_g8_9 =>
    if (decide ((x8_2.toNat : Int) < 48)) then
    j_g8_9 true
    else
    (ix a0 l1_6).bind fun x8_7 =>
    j_g8_9 (decide ((x8_7.toNat : Int) > 57))
    else
    (j_j0 (l1_4, l1_5)).map .inr) (0, false, 0)
def ref09_Spell (k : Nat) (a0 : Int) : Option (List UInt8) :=
    if ((decide (a0 < 1)) || (decide (a0 > 14))) then
    some []
    else
    (ix [[43], [45], [42], [47], [37], [61, 61], [33, 61], [60], [60, 61], [62], [62, 61], [38, 38], [124, 124], [33]] (IntKind.i64.wrap (a0 - 1))).bind fun x4_3 =>
    some x4_3
def ref09_Mark (k : Nat) (a0 : List UInt8) : Option (List UInt8) :=
    joinK (fun (j0_3 : List (List UInt8)) =>
    joinK (fun (j2_5 : List UInt8) =>
    some j2_5) fun j_j2 =>
    loopM k (fun ((l3_5, l3_6) : List UInt8 × Int) =>
    if (decide (l3_6 < ((j0_3.length : Int)))) then
    joinK (fun (j4_5 : List UInt8) =>
    some (.inl (j4_5, (IntKind.i64.wrap (l3_6 + 1))))) fun j_j4 =>
    (ix j0_3 l3_6).bind fun x10_2 =>
    joinK (fun (g10_21_44 : Bool) =>
    joinK (fun (g10_31_54 : Bool) =>
    if g10_31_54 then
    (ix j0_3 l3_6).bind fun x11_2 =>
    j_j4 x11_2
    else
    j_j4 l3_5) fun j_g10_31 =>
    if g10_21_44 then
    (ix j0_3 l3_6).bind fun x10_25 =>
    j_g10_31 (decide (((x10_25.length : Int)) > ((l3_5.length : Int))))
    else
    j_g10_31 false) fun j_g10_21 =>
    if (decide (((x10_2.length : Int)) ≤ ((a0.length : Int)))) then
    (ix j0_3 l3_6).bind fun x10_12 =>
    (sub a0 0 (x10_12.length : Int)).bind fun x10_15 =>
    (ix j0_3 l3_6).bind fun x10_18 =>
    j_g10_21 (x10_15 == x10_18)
    else
    j_g10_21 false
    else
    (j_j2 l3_5).map .inr) ([], 0)) fun j_j0 =>
    loopM k (fun ((l1_3, l1_4) : List (List UInt8) × Int) =>
    if (decide (l1_4 ≤ 14)) then
    (ref09_Spell k l1_4).bind fun x5_2 =>
    if (room 16 (l1_3.length + [x5_2].length)) then
    some (.inl ((l1_3 ++ [x5_2]), (IntKind.i64.wrap (l1_4 + 1))))
    else none
    else
    (j_j0 l1_3).map .inr) ([[40], [41], [123], [125], [91], [93], [44], [59], [46], [61]], 1)
def ref10_one (k : Nat) (a0 : List UInt8) (a1 : Int) : Option (TToken × Int) :=
    (ix a0 a1).bind fun x1_2 =>
    (ref10_class k (x1_2.toNat : Int)).bind fun x1_3 =>
    if (x1_3 == 1) then
    joinK (fun (j0_7 : Int) =>
    (sub a0 a1 j0_7).bind fun x6_4 =>
    joinK (fun (j2_oloc8_0 : Int) =>
    if (decide (((x6_4.length : Int)) > 32)) then
    some ((TToken.mk j2_oloc8_0 a1 0 x6_4), 3)
    else
    some ((TToken.mk j2_oloc8_0 a1 0 x6_4), 0)) fun j_j2 =>
    (ref09_Is k x6_4).bind fun x7_2 =>
    if x7_2 then
    j_j2 3
    else
    j_j2 1) fun j_j0 =>
    loopM k (fun (l1_7 : Int) =>
    joinK (fun (g4_17_36 : Bool) =>
    if g4_17_36 then
    some (.inl (IntKind.i64.wrap (l1_7 + 1)))
    else
    (j_j0 l1_7).map .inr) fun j_g4_17 =>
    if (decide (l1_7 < ((a0.length : Int)))) then
    (ix a0 l1_7).bind fun x4_7 =>
    (ref10_class k (x4_7.toNat : Int)).bind fun x4_8 =>
    joinK (fun (g4_16_35 : Bool) =>
    j_g4_17 g4_16_35) fun j_g4_16 =>
    if (x4_8 == 1) then
    j_g4_16 true
    else
    (ix a0 l1_7).bind fun x4_13 =>
    (ref10_class k (x4_13.toNat : Int)).bind fun x4_14 =>
    j_g4_16 (x4_14 == 2)
    else
    j_g4_17 false) a1
    else
    if (x1_3 == 2) then
    joinK (fun (j3_7 : Int) =>
    (sub a0 a1 j3_7).bind fun x15_3 =>
    (ref01_Read k x15_3).bind fun (x15_4_0, x15_4_1) =>
    (sub a0 a1 j3_7).bind fun x16_5 =>
    some ((TToken.mk 2 a1 x15_4_0 x16_5), x15_4_1)) fun j_j3 =>
    loopM k (fun (l4_7 : Int) =>
    joinK (fun (g13_10_67 : Bool) =>
    if g13_10_67 then
    some (.inl (IntKind.i64.wrap (l4_7 + 1)))
    else
    (j_j3 l4_7).map .inr) fun j_g13_10 =>
    if (decide (l4_7 < ((a0.length : Int)))) then
    (ix a0 l4_7).bind fun x13_7 =>
    (ref10_class k (x13_7.toNat : Int)).bind fun x13_8 =>
    j_g13_10 (x13_8 == 2)
    else
    j_g13_10 false) a1
    else
    (sub a0 a1 (mn (IntKind.i64.wrap (a1 + 2)) ((a0.length : Int)))).bind fun x17_7 =>
    (ref09_Mark k x17_7).bind fun x17_8 =>
    if (x17_8 == []) then
    some ((TToken.mk 0 a1 0 []), 1)
    else
    some ((TToken.mk 4 a1 0 x17_8), 0)
def ref10_All (k : Nat) (a0 : List UInt8) : Option (List TToken × Int × Int) :=
    if (decide (((a0.length : Int)) > 16384)) then
    some ([], 16384, 3)
    else
    joinK (fun (j0_5 : List TToken) =>
    if (room 40 (j0_5.length + [(TToken.mk 0 ((a0.length : Int)) 0 [])].length)) then
    some ((j0_5 ++ [(TToken.mk 0 ((a0.length : Int)) 0 [])]), 0, 0)
    else none) fun j_j0 =>
    loopM k (fun ((l1_5, l1_6) : List TToken × Int) =>
    if (decide (l1_6 < ((a0.length : Int)))) then
    (ix a0 l1_6).bind fun x6_2 =>
    (ref10_class k (x6_2.toNat : Int)).bind fun x6_3 =>
    if (x6_3 == 3) then
    some (.inl (l1_5, (IntKind.i64.wrap (l1_6 + 1))))
    else
    if (x6_3 == 4) then
    joinK (fun (j2_6 : Int) =>
    some (.inl (l1_5, j2_6))) fun j_j2 =>
    loopM k (fun (l3_6 : Int) =>
    joinK (fun (g10_9_36 : Bool) =>
    if g10_9_36 then
    some (.inl (IntKind.i64.wrap (l3_6 + 1)))
    else
    (j_j2 l3_6).map .inr) fun j_g10_9 =>
    if (decide (l3_6 < ((a0.length : Int)))) then
    (ix a0 l3_6).bind fun x10_7 =>
    j_g10_9 ((x10_7.toNat : Int) != 10)
    else
    j_g10_9 false) l1_6
    else
    (ref10_one k a0 l1_6).bind fun (x12_2_0, x12_2_1) =>
    if (x12_2_1 != 0) then
    some (.inr ([], l1_6, x12_2_1))
    else
    if (room 40 (l1_5.length + [x12_2_0].length)) then
    some (.inl ((l1_5 ++ [x12_2_0]), (IntKind.i64.wrap (l1_6 + ((x12_2_0.Text.length : Int))))))
    else none
    else
    (j_j0 l1_5).map .inr) ([], 0)
def expr_reader_end (k : Nat) (a1 : TNode) (o0_l : List TToken) (o0_at : Int) (o0_bad : Bool) : Option (TNode × Int × Int) :=
    if o0_bad then
    some ((TNode.mk 0 0 0 [] []), o0_at, 1)
    else
    some (a1, o0_at, 0)
def expr_reader_look (k : Nat) (o0_l : List TToken) (o0_at : Int) (o0_bad : Bool) : Option TToken :=
    if ((decide (o0_at < 0)) || (decide (o0_at ≥ ((o0_l.length : Int))))) then
    some (TToken.mk 0 0 0 [])
    else
    (ix o0_l o0_at).bind fun x3_8 =>
    some x3_8
def expr_reader_is (k : Nat) (a1 : Int) (a2 : List UInt8) (o0_l : List TToken) (o0_at : Int) (o0_bad : Bool) : Option Bool :=
    (expr_reader_look k o0_l o0_at o0_bad).bind fun x1_1 =>
    some ((x1_1.Kind == a1) && (x1_1.Text == a2))
def expr_reader_takes (k : Nat) (a1 : List UInt8) (o0_l : List TToken) (o0_at : Int) (o0_bad : Bool) : Option (Bool × Int) :=
    joinK (fun (g1_9_14 : Bool) =>
    if g1_9_14 then
    some (false, o0_at)
    else
    some (true, (IntKind.i64.wrap (o0_at + 1)))) fun j_g1_9 =>
    if o0_bad then
    j_g1_9 true
    else
    (expr_reader_is k 4 a1 o0_l o0_at o0_bad).bind fun x1_7 =>
    j_g1_9 (!x1_7)
def word_Spell (k : Nat) (a0 : Int) : Option (List UInt8) :=
    if ((decide (a0 < 0)) || (decide (a0 ≥ 15))) then
    some []
    else
    (ix g_word_spellings a0).bind fun x3_1 =>
    some x3_1
def expr_reader_name (k : Nat) (o0_l : List TToken) (o0_at : Int) (o0_bad : Bool) : Option (List UInt8 × Int × Bool) :=
    (expr_reader_look k o0_l o0_at o0_bad).bind fun x1_1 =>
    if (o0_bad || (x1_1.Kind != 1)) then
    some ([], o0_at, true)
    else
    some (x1_1.Text, (IntKind.i64.wrap (o0_at + 1)), o0_bad)
def expr_reader_wants (k : Nat) (a1 : List UInt8) (o0_l : List TToken) (o0_at : Int) (o0_bad : Bool) : Option (Int × Bool) :=
    (expr_reader_takes k a1 o0_l o0_at o0_bad).bind fun (x0_3_0, x0_3_1) =>
    some (x0_3_1, ((!x0_3_0) || o0_bad))
mutual
def expr_reader_kind : Nat → List TToken → Int → Bool → Option (TNode × Int × Bool)
  | 0, _, _, _ => none
  | k + 1, o0_l, o0_at, o0_bad =>
    (expr_reader_look k o0_l o0_at o0_bad).bind fun x1_1 =>
    joinK (fun ((j0_oext0_1, j0_oloc4_0) : Int × Int) =>
    some ((TNode.mk j0_oloc4_0 x1_1.At 0 [] []), (IntKind.i64.wrap (j0_oext0_1 + 1)), o0_bad)) fun j_j0 =>
    if (x1_1.Kind == 1) then
    (expr_reader_name k o0_l o0_at o0_bad).bind fun (x6_1_0, x6_1_1, x6_1_2) =>
    some ((TNode.mk 4 x1_1.At 0 x6_1_0 []), x6_1_1, x6_1_2)
    else
    (expr_reader_takes k [91] o0_l o0_at o0_bad).bind fun (x8_1_0, x8_1_1) =>
    if x8_1_0 then
    (expr_reader_wants k [93] o0_l x8_1_1 o0_bad).bind fun (x9_1_0, x9_1_1) =>
    if x9_1_1 then
    some ((TNode.mk 0 x1_1.At 0 [] []), x9_1_0, x9_1_1)
    else
    (expr_reader_kind k o0_l x9_1_0 x9_1_1).bind fun (x12_1_0, x12_1_1, x12_1_2) =>
    some ((TNode.mk 5 x1_1.At 0 [] [x12_1_0]), x12_1_1, x12_1_2)
    else
    (expr_reader_is k 3 [105, 110, 116] o0_l x8_1_1 o0_bad).bind fun x14_1 =>
    if x14_1 then
    j_j0 (x8_1_1, 1)
    else
    (expr_reader_is k 3 [98, 111, 111, 108] o0_l x8_1_1 o0_bad).bind fun x16_1 =>
    if x16_1 then
    j_j0 (x8_1_1, 2)
    else
    (expr_reader_is k 3 [114, 101, 118] o0_l x8_1_1 o0_bad).bind fun x18_1 =>
    if x18_1 then
    j_j0 (x8_1_1, 3)
    else
    some ((TNode.mk 0 x1_1.At 0 [] []), x8_1_1, true)
end
def word_Sign (k : Nat) (a0 : List UInt8) : Option (Int × Bool) :=
    joinK (fun (_ : Unit) =>
    some (0, false)) fun j_j0 =>
    loopM k (fun (l1_7 : Int) =>
    if (decide (l1_7 < 15)) then
    (ix g_word_spellings l1_7).bind fun x3_1 =>
    if ((decide (l1_7 > 0)) && (x3_1 == a0)) then
    some (.inr (l1_7, true))
    else
    some (.inl (IntKind.i64.wrap (l1_7 + 1)))
    else
    (j_j0 ()).map .inr) 0
def word_Bind (k : Nat) (a0 : Int) : Option Int :=
    if (a0 == 13) then
    some 1
    else
    if (a0 == 12) then
    some 2
    else
    joinK (fun (j0_8 : Bool) =>
    if j0_8 then
    some 3
    else
    joinK (fun (j1_15 : Bool) =>
    if j1_15 then
    some 4
    else
    joinK (fun (j2_18 : Bool) =>
    if j2_18 then
    some 5
    else
    some 0) fun j_j2 =>
    if (a0 == 3) then
    j_j2 (a0 == 3)
    else
    if (a0 == 4) then
    j_j2 (a0 == 4)
    else
    j_j2 (a0 == 5)) fun j_j1 =>
    if (a0 == 1) then
    j_j1 (a0 == 1)
    else
    j_j1 (a0 == 2)) fun j_j0 =>
    if (a0 == 6) then
    j_j0 (a0 == 6)
    else
    if (a0 == 7) then
    j_j0 (a0 == 7)
    else
    if (a0 == 8) then
    j_j0 (a0 == 8)
    else
    if (a0 == 9) then
    j_j0 (a0 == 9)
    else
    if (a0 == 10) then
    j_j0 (a0 == 10)
    else
    j_j0 (a0 == 11)
def expr_reader_sign (k : Nat) (a1 : Int) (o0_l : List TToken) (o0_at : Int) (o0_bad : Bool) : Option Int :=
    (expr_reader_look k o0_l o0_at o0_bad).bind fun x1_1 =>
    (word_Sign k x1_1.Text).bind fun (x2_2_0, x2_2_1) =>
    joinK (fun (g3_11_27 : Bool) =>
    if g3_11_27 then
    some x2_2_0
    else
    some 0) fun j_g3_11 =>
    if (x2_2_1 && (x1_1.Kind == 4)) then
    (word_Bind k x2_2_0).bind fun x3_8 =>
    j_g3_11 (x3_8 == a1)
    else
    j_g3_11 false
mutual
def expr_reader_args : Nat → List TToken → Int → Bool → Option (List TNode × Int × Bool)
  | 0, _, _, _ => none
  | k + 1, o0_l, o0_at, o0_bad =>
    (expr_reader_wants k [40] o0_l o0_at o0_bad).bind fun (x2_1_0, x2_1_1) =>
    (expr_reader_takes k [41] o0_l x2_1_0 x2_1_1).bind fun (x3_1_0, x3_1_1) =>
    if x3_1_0 then
    some ([], x3_1_1, x2_1_1)
    else
    joinK (fun ((j0_oext0_1, j0_oext0_2) : Int × Bool) =>
    some ([], j0_oext0_1, j0_oext0_2)) fun j_j0 =>
    loopM k (fun ((l1_3, l1_oext0_1, l1_oext0_2) : List TNode × Int × Bool) =>
    if (!l1_oext0_2) then
    (expr_reader_level k 1 o0_l l1_oext0_1 l1_oext0_2).bind fun (x6_2_0, x6_2_1, x6_2_2) =>
    if (room 64 (l1_3.length + [x6_2_0].length)) then
    (expr_reader_takes k [41] o0_l x6_2_1 x6_2_2).bind fun (x7_1_0, x7_1_1) =>
    if x7_1_0 then
    some (.inr ((l1_3 ++ [x6_2_0]), x7_1_1, x6_2_2))
    else
    (expr_reader_wants k [44] o0_l x7_1_1 x6_2_2).bind fun (x9_1_0, x9_1_1) =>
    some (.inl ((l1_3 ++ [x6_2_0]), x9_1_0, x9_1_1))
    else none
    else
    (j_j0 (l1_oext0_1, l1_oext0_2)).map .inr) ([], x3_1_1, x2_1_1)
def expr_reader_word : Nat → TNode → List UInt8 → List TToken → Int → Bool → Option (TNode × Int × Bool)
  | 0, _, _, _, _, _ => none
  | k + 1, a1, a2, o0_l, o0_at, o0_bad =>
    joinK (fun ((j0_oext0_1, j0_oext0_2, j0_oloc4) : Int × Bool × TNode) =>
    some (j0_oloc4, j0_oext0_1, j0_oext0_2)) fun j_j0 =>
    joinK (fun (j1_11 : Bool) =>
    if j1_11 then
    if (a2 == [116, 114, 117, 101]) then
    j_j0 ((IntKind.i64.wrap (o0_at + 1)), o0_bad, (TNode.mk 11 a1.At 1 a1.Name a1.Kids))
    else
    j_j0 ((IntKind.i64.wrap (o0_at + 1)), o0_bad, (TNode.mk 11 a1.At a1.N a1.Name a1.Kids))
    else
    if (a2 == [102, 111, 114, 107]) then
    (expr_reader_name k o0_l (IntKind.i64.wrap (o0_at + 1)) o0_bad).bind fun (x11_1_0, x11_1_1, x11_1_2) =>
    (expr_reader_args k o0_l x11_1_1 x11_1_2).bind fun (x12_1_0, x12_1_1, x12_1_2) =>
    j_j0 (x12_1_1, x12_1_2, (TNode.mk 18 a1.At a1.N x11_1_0 x12_1_0))
    else
    if (a2 == [110, 101, 119]) then
    (expr_reader_kind k o0_l (IntKind.i64.wrap (o0_at + 1)) o0_bad).bind fun (x16_1_0, x16_1_1, x16_1_2) =>
    (expr_reader_args k o0_l x16_1_1 x16_1_2).bind fun (x16_4_0, x16_4_1, x16_4_2) =>
    if (room 64 ([x16_1_0].length + x16_4_0.length)) then
    j_j0 (x16_4_1, x16_4_2, (TNode.mk 19 a1.At a1.N a1.Name ([x16_1_0] ++ x16_4_0)))
    else none
    else
    j_j0 (o0_at, true, a1)) fun j_j1 =>
    if (a2 == [116, 114, 117, 101]) then
    j_j1 (a2 == [116, 114, 117, 101])
    else
    j_j1 (a2 == [102, 97, 108, 115, 101])
def expr_reader_first : Nat → List TToken → Int → Bool → Option (TNode × Int × Bool)
  | 0, _, _, _ => none
  | k + 1, o0_l, o0_at, o0_bad =>
    (expr_reader_look k o0_l o0_at o0_bad).bind fun x1_1 =>
    joinK (fun ((j0_oext0_1, j0_oext0_2, j0_oloc4) : Int × Bool × TNode) =>
    some (j0_oloc4, j0_oext0_1, j0_oext0_2)) fun j_j0 =>
    if (x1_1.Kind == 2) then
    j_j0 ((IntKind.i64.wrap (o0_at + 1)), o0_bad, (TNode.mk 10 x1_1.At x1_1.N [] []))
    else
    if (x1_1.Kind == 1) then
    (expr_reader_name k o0_l o0_at o0_bad).bind fun (x8_1_0, x8_1_1, x8_1_2) =>
    (expr_reader_is k 4 [40] o0_l x8_1_1 x8_1_2).bind fun x9_1 =>
    if x9_1 then
    (expr_reader_args k o0_l x8_1_1 x8_1_2).bind fun (x10_1_0, x10_1_1, x10_1_2) =>
    j_j0 (x10_1_1, x10_1_2, (TNode.mk 17 x1_1.At 0 x8_1_0 x10_1_0))
    else
    j_j0 (x8_1_1, x8_1_2, (TNode.mk 12 x1_1.At 0 x8_1_0 []))
    else
    (expr_reader_takes k [40] o0_l o0_at o0_bad).bind fun (x11_1_0, x11_1_1) =>
    if x11_1_0 then
    (expr_reader_level k 1 o0_l x11_1_1 o0_bad).bind fun (x12_1_0, x12_1_1, x12_1_2) =>
    (expr_reader_wants k [41] o0_l x12_1_1 x12_1_2).bind fun (x13_1_0, x13_1_1) =>
    j_j0 (x13_1_0, x13_1_1, x12_1_0)
    else
    if (x1_1.Kind == 3) then
    (expr_reader_word k (TNode.mk 0 x1_1.At 0 [] []) x1_1.Text o0_l x11_1_1 o0_bad).bind fun (x15_4_0, x15_4_1, x15_4_2) =>
    some (x15_4_0, x15_4_1, x15_4_2)
    else
    j_j0 (x11_1_1, true, (TNode.mk 0 x1_1.At 0 [] []))
def expr_reader_part : Nat → List TToken → Int → Bool → Option (TNode × Int × Bool)
  | 0, _, _, _ => none
  | k + 1, o0_l, o0_at, o0_bad =>
    (expr_reader_first k o0_l o0_at o0_bad).bind fun (x1_1_0, x1_1_1, x1_1_2) =>
    joinK (fun ((j0_oext0_1, j0_oext0_2, j0_oloc3) : Int × Bool × TNode) =>
    some (j0_oloc3, j0_oext0_1, j0_oext0_2)) fun j_j0 =>
    loopM k (fun ((l1_oext0_1, l1_oext0_2, l1_oloc3) : Int × Bool × TNode) =>
    if (!l1_oext0_2) then
    (expr_reader_look k o0_l l1_oext0_1 l1_oext0_2).bind fun x3_1 =>
    (expr_reader_takes k [91] o0_l l1_oext0_1 l1_oext0_2).bind fun (x5_1_0, x5_1_1) =>
    if x5_1_0 then
    (expr_reader_level k 1 o0_l x5_1_1 l1_oext0_2).bind fun (x6_3_0, x6_3_1, x6_3_2) =>
    (expr_reader_wants k [93] o0_l x6_3_1 x6_3_2).bind fun (x7_1_0, x7_1_1) =>
    some (.inl (x7_1_0, x7_1_1, (TNode.mk 13 x3_1.At 0 [] [l1_oloc3, x6_3_0])))
    else
    (expr_reader_takes k [46] o0_l x5_1_1 l1_oext0_2).bind fun (x8_1_0, x8_1_1) =>
    if x8_1_0 then
    (expr_reader_name k o0_l x8_1_1 l1_oext0_2).bind fun (x9_2_0, x9_2_1, x9_2_2) =>
    some (.inl (x9_2_1, x9_2_2, (TNode.mk 14 x3_1.At 0 x9_2_0 [l1_oloc3])))
    else
    some (.inr (l1_oloc3, x8_1_1, l1_oext0_2))
    else
    (j_j0 (l1_oext0_1, l1_oext0_2, l1_oloc3)).map .inr) (x1_1_1, x1_1_2, x1_1_0)
def expr_reader_factor : Nat → List TToken → Int → Bool → Option (TNode × Int × Bool)
  | 0, _, _, _ => none
  | k + 1, o0_l, o0_at, o0_bad =>
    (expr_reader_look k o0_l o0_at o0_bad).bind fun x1_1 =>
    joinK (fun (j0_oext0_1 : Int) =>
    (expr_reader_part k o0_l j0_oext0_1 o0_bad).bind fun (x8_1_0, x8_1_1, x8_1_2) =>
    some (x8_1_0, x8_1_1, x8_1_2)) fun j_j0 =>
    loopM k (fun ((l1_11, l1_oext0_1) : Int × Int) =>
    if (decide (l1_11 < (([2, 14] : List Int).length : Int))) then
    (ix [2, 14] l1_11).bind fun x4_0 =>
    (word_Spell k x4_0).bind fun x5_2 =>
    (expr_reader_takes k x5_2 o0_l l1_oext0_1 o0_bad).bind fun (x5_3_0, x5_3_1) =>
    if x5_3_0 then
    (expr_reader_factor k o0_l x5_3_1 o0_bad).bind fun (x6_3_0, x6_3_1, x6_3_2) =>
    some (.inr ((TNode.mk 15 x1_1.At x4_0 [] [x6_3_0]), x6_3_1, x6_3_2))
    else
    some (.inl ((IntKind.i64.wrap (l1_11 + 1)), x5_3_1))
    else
    (j_j0 l1_oext0_1).map .inr) (0, o0_at)
def expr_reader_level : Nat → Int → List TToken → Int → Bool → Option (TNode × Int × Bool)
  | 0, _, _, _, _ => none
  | k + 1, a1, o0_l, o0_at, o0_bad =>
    if (a1 == 6) then
    (expr_reader_factor k o0_l o0_at o0_bad).bind fun (x2_1_0, x2_1_1, x2_1_2) =>
    some (x2_1_0, x2_1_1, x2_1_2)
    else
    (expr_reader_level k (IntKind.i64.wrap (a1 + 1)) o0_l o0_at o0_bad).bind fun (x3_3_0, x3_3_1, x3_3_2) =>
    joinK (fun ((j0_oext0_1, j0_oext0_2, j0_oloc5) : Int × Bool × TNode) =>
    some (j0_oloc5, j0_oext0_1, j0_oext0_2)) fun j_j0 =>
    loopM k (fun ((l1_oext0_1, l1_oext0_2, l1_oloc5) : Int × Bool × TNode) =>
    if (!l1_oext0_2) then
    (expr_reader_sign k a1 o0_l l1_oext0_1 l1_oext0_2).bind fun x5_2 =>
    if (x5_2 == 0) then
    (j_j0 (l1_oext0_1, l1_oext0_2, l1_oloc5)).map .inr
    else
    (expr_reader_look k o0_l l1_oext0_1 l1_oext0_2).bind fun x7_1 =>
    (expr_reader_level k (IntKind.i64.wrap (a1 + 1)) o0_l (IntKind.i64.wrap (l1_oext0_1 + 1)) l1_oext0_2).bind fun (x9_4_0, x9_4_1, x9_4_2) =>
    if (a1 == 3) then
    (j_j0 (x9_4_1, x9_4_2, (TNode.mk 16 x7_1.At x5_2 [] [l1_oloc5, x9_4_0]))).map .inr
    else
    some (.inl (x9_4_1, x9_4_2, (TNode.mk 16 x7_1.At x5_2 [] [l1_oloc5, x9_4_0])))
    else
    (j_j0 (l1_oext0_1, l1_oext0_2, l1_oloc5)).map .inr) (x3_3_1, x3_3_2, x3_3_0)
end
def expr_Expr (k : Nat) (a0 : List TToken) (a1 : Int) : Option (TNode × Int × Int) :=
    (expr_reader_level k 1 a0 a1 false).bind fun (x2_0_0, x2_0_1, x2_0_2) =>
    (expr_reader_end k x2_0_0 a0 x2_0_1 x2_0_2).bind fun (x2_1_0, x2_1_1, x2_1_2) =>
    some (x2_1_0, x2_1_1, x2_1_2)
def law13_works (k : Nat) : Option Bool :=
    (ref10_All k [97, 32, 43, 32, 98, 32, 42, 32, 99, 32, 60, 32, 100, 32, 60, 32, 101]).bind fun (x1_0_0, x1_0_1, x1_0_2) =>
    (expr_Expr k x1_0_0 0).bind fun (x2_1_0, x2_1_1, x2_1_2) =>
    joinK (fun (g3_34_52 : Bool) =>
    some g3_34_52) fun j_g3_34 =>
    if ((((((x2_1_2 == 0) && (x2_1_1 == 7)) && (x2_1_0.Kind == 16)) && (x2_1_0.N == 8)) && (x2_1_0.At == 10)) && (((x2_1_0.Kids.length : Int)) == 2)) then
    (ix x2_1_0.Kids 0).bind fun x3_30 =>
    j_g3_34 (x3_30.N == 1)
    else
    j_g3_34 false
mutual
def ref13_Placed : Nat → TNode → TNode → Option Bool
  | 0, _, _ => none
  | k + 1, a0, a1 =>
    if (((((a0.Kind != a1.Kind) || (a0.At != a1.At)) || (a0.N != a1.N)) || (!(a0.Name == a1.Name))) || (((a0.Kids.length : Int)) != ((a1.Kids.length : Int)))) then
    some false
    else
    joinK (fun (_ : Unit) =>
    some true) fun j_j0 =>
    loopM k (fun (l1_5 : Int) =>
    if (decide (l1_5 < ((a0.Kids.length : Int)))) then
    (ix a0.Kids l1_5).bind fun x6_3 =>
    (ix a1.Kids l1_5).bind fun x6_8 =>
    (ref13_Placed k x6_3 x6_8).bind fun x6_10 =>
    if (!x6_10) then
    some (.inr false)
    else
    some (.inl (IntKind.i64.wrap (l1_5 + 1)))
    else
    (j_j0 ()).map .inr) 0
end
def ref11_Named (k : Nat) (a0 : List UInt8) : Option Bool :=
    (ref10_All k a0).bind fun (x1_1_0, x1_1_1, x1_1_2) =>
    joinK (fun (g2_13_25 : Bool) =>
    joinK (fun (g2_21_33 : Bool) =>
    some g2_21_33) fun j_g2_21 =>
    if g2_13_25 then
    (ix x1_1_0 0).bind fun x2_16 =>
    j_g2_21 (x2_16.Text == a0)
    else
    j_g2_21 false) fun j_g2_13 =>
    if ((x1_1_2 == 0) && (((x1_1_0.length : Int)) == 2)) then
    (ix x1_1_0 0).bind fun x2_9 =>
    j_g2_13 (x2_9.Kind == 1)
    else
    j_g2_13 false
mutual
def ref11_Type : Nat → TNode → Option Bool
  | 0, _ => none
  | k + 1, a0 =>
    if (a0.N != 0) then
    some false
    else
    if (a0.Kind == 4) then
    (ref11_Named k a0.Name).bind fun x4_2 =>
    some (x4_2 && (((a0.Kids.length : Int)) == 0))
    else
    if (!(a0.Name == [])) then
    some false
    else
    if (a0.Kind == 5) then
    joinK (fun (g8_10_34 : Bool) =>
    some g8_10_34) fun j_g8_10 =>
    if (((a0.Kids.length : Int)) == 1) then
    (ix a0.Kids 0).bind fun x8_7 =>
    (ref11_Type k x8_7).bind fun x8_9 =>
    j_g8_10 x8_9
    else
    j_g8_10 false
    else
    some (((decide (a0.Kind ≥ 1)) && (decide (a0.Kind ≤ 3))) && (((a0.Kids.length : Int)) == 0))
end
def ref11_alone (k : Nat) (a0 : TNode) : Option Bool :=
    some ((a0.N == 0) && (a0.Name == []))
def ref09_Bind (k : Nat) (a0 : Int) : Option Int :=
    if ((decide (a0 ≥ 1)) && (decide (a0 ≤ 2))) then
    some 4
    else
    if ((decide (a0 ≥ 3)) && (decide (a0 ≤ 5))) then
    some 5
    else
    if ((decide (a0 ≥ 6)) && (decide (a0 ≤ 11))) then
    some 3
    else
    if (a0 == 12) then
    some 2
    else
    if (a0 == 13) then
    some 1
    else
    some 0
mutual
def ref11_exprs : Nat → List TNode → Option Bool
  | 0, _ => none
  | k + 1, a0 =>
    joinK (fun (_ : Unit) =>
    some true) fun j_j0 =>
    loopM k (fun (l1_3 : Int) =>
    if (decide (l1_3 < ((a0.length : Int)))) then
    (ix a0 l1_3).bind fun x4_2 =>
    (ref11_Expr k x4_2).bind fun x4_4 =>
    if (!x4_4) then
    some (.inr false)
    else
    some (.inl (IntKind.i64.wrap (l1_3 + 1)))
    else
    (j_j0 ()).map .inr) 0
def ref11_Expr : Nat → TNode → Option Bool
  | 0, _ => none
  | k + 1, a0 =>
    if (a0.Kind == 19) then
    (ref11_alone k a0).bind fun x3_1 =>
    joinK (fun (g3_12_22 : Bool) =>
    joinK (fun (g3_18_28 : Bool) =>
    some g3_18_28) fun j_g3_18 =>
    if g3_12_22 then
    (sub a0.Kids 1 (a0.Kids.length : Int)).bind fun x3_16 =>
    (ref11_exprs k x3_16).bind fun x3_17 =>
    j_g3_18 x3_17
    else
    j_g3_18 false) fun j_g3_12 =>
    if (x3_1 && (decide ((a0.Kids.length : Int) > 0))) then
    (ix a0.Kids 0).bind fun x3_9 =>
    (ref11_Type k x3_9).bind fun x3_11 =>
    j_g3_12 x3_11
    else
    j_g3_12 false
    else
    (ref11_exprs k a0.Kids).bind fun x4_2 =>
    if (!x4_2) then
    some false
    else
    if ((a0.Kind == 10) || (a0.Kind == 11)) then
    some (((((a0.Kids.length : Int) == 0) && (a0.Name == [])) && (decide (a0.N ≥ 0))) && ((a0.Kind == 10) || (decide (a0.N ≤ 1))))
    else
    if ((a0.Kind == 15) || (a0.Kind == 16)) then
    if (a0.Kind == 15) then
    some ((((a0.Kids.length : Int) == 1) && (a0.Name == [])) && ((a0.N == 2) || (a0.N == 14)))
    else
    joinK (fun (g11_12_103 : Bool) =>
    some g11_12_103) fun j_g11_12 =>
    if (((a0.Kids.length : Int) == 2) && (a0.Name == [])) then
    (ref09_Bind k a0.N).bind fun x11_10 =>
    j_g11_12 (decide (x11_10 > 0))
    else
    j_g11_12 false
    else
    if (a0.Kind == 13) then
    joinK (fun (g13_5_112 : Bool) =>
    some g13_5_112) fun j_g13_5 =>
    if ((a0.Kids.length : Int) == 2) then
    (ref11_alone k a0).bind fun x13_4 =>
    j_g13_5 x13_4
    else
    j_g13_5 false
    else
    joinK (fun (g14_8_121 : Bool) =>
    if g14_8_121 then
    some false
    else
    some (((((a0.Kind == 12) && ((a0.Kids.length : Int) == 0)) || ((a0.Kind == 14) && ((a0.Kids.length : Int) == 1))) || (a0.Kind == 17)) || (a0.Kind == 18))) fun j_g14_8 =>
    if (a0.N != 0) then
    j_g14_8 true
    else
    (ref11_Named k a0.Name).bind fun x14_6 =>
    j_g14_8 (!x14_6)
end
def expr_Type (k : Nat) (a0 : List TToken) (a1 : Int) : Option (TNode × Int × Int) :=
    (expr_reader_kind k a0 a1 false).bind fun (x2_0_0, x2_0_1, x2_0_2) =>
    (expr_reader_end k x2_0_0 a0 x2_0_1 x2_0_2).bind fun (x2_1_0, x2_1_1, x2_1_2) =>
    some (x2_1_0, x2_1_1, x2_1_2)
def ref13_Tok (k : Nat) (a0 : List TToken) (a1 : Int) : Option TToken :=
    if ((decide (a1 < 0)) || (decide (a1 ≥ ((a0.length : Int))))) then
    some (TToken.mk 0 0 0 [])
    else
    (ix a0 a1).bind fun x3_2 =>
    some x3_2
def ref13_Says (k : Nat) (a0 : List TToken) (a1 : Int) (a2 : List UInt8) : Option Bool :=
    (ref13_Tok k a0 a1).bind fun x1_2 =>
    some ((x1_2.Kind == 3) && (x1_2.Text == a2))
def ref13_Is (k : Nat) (a0 : List TToken) (a1 : Int) (a2 : List UInt8) : Option Bool :=
    (ref13_Tok k a0 a1).bind fun x1_2 =>
    some ((x1_2.Kind == 4) && (x1_2.Text == a2))
mutual
def ref13_Type : Nat → List TToken → Int → Option (TNode × Int × Bool)
  | 0, _, _ => none
  | k + 1, a0, a1 =>
    (ref13_Tok k a0 a1).bind fun x1_2 =>
    if (x1_2.Kind == 1) then
    some ((TNode.mk 4 x1_2.At 0 x1_2.Text []), (IntKind.i64.wrap (a1 + 1)), true)
    else
    (ref13_Says k a0 a1 [105, 110, 116]).bind fun x4_2 =>
    if x4_2 then
    some ((TNode.mk 1 x1_2.At 0 [] []), (IntKind.i64.wrap (a1 + 1)), true)
    else
    (ref13_Says k a0 a1 [98, 111, 111, 108]).bind fun x6_2 =>
    if x6_2 then
    some ((TNode.mk 2 x1_2.At 0 [] []), (IntKind.i64.wrap (a1 + 1)), true)
    else
    (ref13_Says k a0 a1 [114, 101, 118]).bind fun x8_2 =>
    if x8_2 then
    some ((TNode.mk 3 x1_2.At 0 [] []), (IntKind.i64.wrap (a1 + 1)), true)
    else
    (ref13_Is k a0 a1 [91]).bind fun x10_2 =>
    if (!x10_2) then
    some ((TNode.mk 0 0 0 [] []), a1, false)
    else
    (ref13_Is k a0 (IntKind.i64.wrap (a1 + 1)) [93]).bind fun x12_3 =>
    if (!x12_3) then
    some ((TNode.mk 0 0 0 [] []), (IntKind.i64.wrap (a1 + 1)), false)
    else
    (ref13_Type k a0 (IntKind.i64.wrap (a1 + 2))).bind fun (x14_3_0, x14_3_1, x14_3_2) =>
    if (!x14_3_2) then
    some ((TNode.mk 0 0 0 [] []), x14_3_1, false)
    else
    some ((TNode.mk 5 x1_2.At 0 [] [x14_3_0]), x14_3_1, true)
end
def expr_Args (k : Nat) (a0 : List TToken) (a1 : Int) : Option (List TNode × Int × Int) :=
    (expr_reader_args k a0 a1 false).bind fun (x2_0_0, x2_0_1, x2_0_2) =>
    if x2_0_2 then
    some ([], x2_0_1, 1)
    else
    some (x2_0_0, x2_0_1, 0)
def ref13_sign (k : Nat) (a0 : List TToken) (a1 : Int) (a2 : Int) : Option Int :=
    (ref13_Tok k a0 a1).bind fun x1_2 =>
    joinK (fun (_ : Unit) =>
    some 0) fun j_j0 =>
    loopM k (fun (l1_8 : Int) =>
    if (decide (l1_8 ≤ 14)) then
    joinK (fun (g5_9_25 : Bool) =>
    joinK (fun (g5_15_31 : Bool) =>
    if g5_15_31 then
    some (.inr l1_8)
    else
    some (.inl (IntKind.i64.wrap (l1_8 + 1)))) fun j_g5_15 =>
    if g5_9_25 then
    (ref09_Bind k l1_8).bind fun x5_12 =>
    j_g5_15 (x5_12 == a2)
    else
    j_g5_15 false) fun j_g5_9 =>
    if (x1_2.Kind == 4) then
    (ref09_Spell k l1_8).bind fun x5_5 =>
    j_g5_9 (x5_5 == x1_2.Text)
    else
    j_g5_9 false
    else
    (j_j0 ()).map .inr) 1
mutual
def ref13_named : Nat → List TToken → Int → Int → Int → Option (TNode × Int × Bool)
  | 0, _, _, _, _ => none
  | k + 1, a0, a1, a2, a3 =>
    (ref13_Tok k a0 a1).bind fun x1_2 =>
    if (x1_2.Kind != 1) then
    some ((TNode.mk 0 0 0 [] []), a1, false)
    else
    (ref13_Args k a0 (IntKind.i64.wrap (a1 + 1))).bind fun (x4_3_0, x4_3_1, x4_3_2) =>
    if (!x4_3_2) then
    some ((TNode.mk 0 0 0 [] []), x4_3_1, false)
    else
    some ((TNode.mk a2 a3 0 x1_2.Text x4_3_0), x4_3_1, true)
def ref13_first : Nat → List TToken → Int → Option (TNode × Int × Bool)
  | 0, _, _ => none
  | k + 1, a0, a1 =>
    (ref13_Tok k a0 a1).bind fun x1_2 =>
    if (x1_2.Kind == 2) then
    some ((TNode.mk 10 x1_2.At x1_2.N [] []), (IntKind.i64.wrap (a1 + 1)), true)
    else
    (ref13_Says k a0 a1 [116, 114, 117, 101]).bind fun x4_2 =>
    if x4_2 then
    some ((TNode.mk 11 x1_2.At 1 [] []), (IntKind.i64.wrap (a1 + 1)), true)
    else
    (ref13_Says k a0 a1 [102, 97, 108, 115, 101]).bind fun x6_2 =>
    if x6_2 then
    some ((TNode.mk 11 x1_2.At 0 [] []), (IntKind.i64.wrap (a1 + 1)), true)
    else
    if (x1_2.Kind == 1) then
    (ref13_Is k a0 (IntKind.i64.wrap (a1 + 1)) [40]).bind fun x9_3 =>
    if x9_3 then
    (ref13_named k a0 a1 17 x1_2.At).bind fun (x10_4_0, x10_4_1, x10_4_2) =>
    some (x10_4_0, x10_4_1, x10_4_2)
    else
    some ((TNode.mk 12 x1_2.At 0 x1_2.Text []), (IntKind.i64.wrap (a1 + 1)), true)
    else
    (ref13_Says k a0 a1 [102, 111, 114, 107]).bind fun x12_2 =>
    if x12_2 then
    (ref13_named k a0 (IntKind.i64.wrap (a1 + 1)) 18 x1_2.At).bind fun (x13_5_0, x13_5_1, x13_5_2) =>
    some (x13_5_0, x13_5_1, x13_5_2)
    else
    (ref13_Says k a0 a1 [110, 101, 119]).bind fun x14_2 =>
    if x14_2 then
    (ref13_Type k a0 (IntKind.i64.wrap (a1 + 1))).bind fun (x15_3_0, x15_3_1, x15_3_2) =>
    if (!x15_3_2) then
    some ((TNode.mk 0 0 0 [] []), x15_3_1, false)
    else
    (ref13_Args k a0 x15_3_1).bind fun (x18_2_0, x18_2_1, x18_2_2) =>
    if (!x18_2_2) then
    some ((TNode.mk 0 0 0 [] []), x18_2_1, false)
    else
    if (room 64 ([x15_3_0].length + x18_2_0.length)) then
    some ((TNode.mk 19 x1_2.At 0 [] ([x15_3_0] ++ x18_2_0)), x18_2_1, true)
    else none
    else
    (ref13_Is k a0 a1 [40]).bind fun x22_2 =>
    if (!x22_2) then
    some ((TNode.mk 0 0 0 [] []), a1, false)
    else
    (ref13_Expr k a0 (IntKind.i64.wrap (a1 + 1))).bind fun (x24_3_0, x24_3_1, x24_3_2) =>
    joinK (fun (g25_7_135 : Bool) =>
    if g25_7_135 then
    some ((TNode.mk 0 0 0 [] []), x24_3_1, false)
    else
    some (x24_3_0, (IntKind.i64.wrap (x24_3_1 + 1)), true)) fun j_g25_7 =>
    if (!x24_3_2) then
    j_g25_7 true
    else
    (ref13_Is k a0 x24_3_1 [41]).bind fun x25_5 =>
    j_g25_7 (!x25_5)
def ref13_part : Nat → List TToken → Int → Option (TNode × Int × Bool)
  | 0, _, _ => none
  | k + 1, a0, a1 =>
    (ref13_first k a0 a1).bind fun (x1_2_0, x1_2_1, x1_2_2) =>
    if (!x1_2_2) then
    some ((TNode.mk 0 0 0 [] []), x1_2_1, false)
    else
    loopM k (fun ((l0_8, l0_oloc7) : Int × TNode) =>
    (ref13_Tok k a0 l0_8).bind fun x4_2 =>
    (ref13_Is k a0 l0_8 [46]).bind fun x5_2 =>
    if x5_2 then
    (ref13_Tok k a0 (IntKind.i64.wrap (l0_8 + 1))).bind fun x6_3 =>
    if (x6_3.Kind != 1) then
    some (.inr ((TNode.mk 0 0 0 [] []), (IntKind.i64.wrap (l0_8 + 1)), false))
    else
    some (.inl ((IntKind.i64.wrap (l0_8 + 2)), (TNode.mk 14 x4_2.At 0 x6_3.Text [l0_oloc7])))
    else
    (ref13_Is k a0 l0_8 [91]).bind fun x11_2 =>
    if (!x11_2) then
    some (.inr (l0_oloc7, l0_8, true))
    else
    (ref13_Expr k a0 (IntKind.i64.wrap (l0_8 + 1))).bind fun (x13_3_0, x13_3_1, x13_3_2) =>
    joinK (fun (g14_7_72 : Bool) =>
    if g14_7_72 then
    some (.inr ((TNode.mk 0 0 0 [] []), x13_3_1, false))
    else
    some (.inl ((IntKind.i64.wrap (x13_3_1 + 1)), (TNode.mk 13 x4_2.At 0 [] [l0_oloc7, x13_3_0])))) fun j_g14_7 =>
    if (!x13_3_2) then
    j_g14_7 true
    else
    (ref13_Is k a0 x13_3_1 [93]).bind fun x14_5 =>
    j_g14_7 (!x14_5)) (x1_2_1, x1_2_0)
def ref13_factor : Nat → List TToken → Int → Option (TNode × Int × Bool)
  | 0, _, _ => none
  | k + 1, a0, a1 =>
    joinK (fun (j0_7 : Int) =>
    joinK (fun (j1_7 : Int) =>
    if (j1_7 == 0) then
    (ref13_part k a0 a1).bind fun (x7_2_0, x7_2_1, x7_2_2) =>
    some (x7_2_0, x7_2_1, x7_2_2)
    else
    (ref13_factor k a0 (IntKind.i64.wrap (a1 + 1))).bind fun (x8_3_0, x8_3_1, x8_3_2) =>
    if (!x8_3_2) then
    some ((TNode.mk 0 0 0 [] []), x8_3_1, false)
    else
    (ref13_Tok k a0 a1).bind fun x11_2 =>
    some ((TNode.mk 15 x11_2.At j1_7 [] [x8_3_0]), x8_3_1, true)) fun j_j1 =>
    (ref13_Is k a0 a1 [33]).bind fun x4_2 =>
    if x4_2 then
    j_j1 14
    else
    j_j1 j0_7) fun j_j0 =>
    (ref13_Is k a0 a1 [45]).bind fun x2_2 =>
    if x2_2 then
    j_j0 2
    else
    j_j0 0
def ref13_level : Nat → List TToken → Int → Int → Option (TNode × Int × Bool)
  | 0, _, _, _ => none
  | k + 1, a0, a1, a2 =>
    if (decide (a2 > 5)) then
    (ref13_factor k a0 a1).bind fun (x2_2_0, x2_2_1, x2_2_2) =>
    some (x2_2_0, x2_2_1, x2_2_2)
    else
    (ref13_level k a0 a1 (IntKind.i64.wrap (a2 + 1))).bind fun (x3_4_0, x3_4_1, x3_4_2) =>
    if (!x3_4_2) then
    some ((TNode.mk 0 0 0 [] []), x3_4_1, false)
    else
    loopM k (fun ((l0_10, l0_oloc9) : Int × TNode) =>
    (ref13_sign k a0 l0_10 a2).bind fun x6_3 =>
    if (x6_3 == 0) then
    some (.inr (l0_oloc9, l0_10, true))
    else
    (ref13_level k a0 (IntKind.i64.wrap (l0_10 + 1)) (IntKind.i64.wrap (a2 + 1))).bind fun (x9_5_0, x9_5_1, x9_5_2) =>
    if (!x9_5_2) then
    some (.inr ((TNode.mk 0 0 0 [] []), x9_5_1, false))
    else
    (ref13_Tok k a0 l0_10).bind fun x12_2 =>
    if (a2 == 3) then
    some (.inr ((TNode.mk 16 x12_2.At x6_3 [] [l0_oloc9, x9_5_0]), x9_5_1, true))
    else
    some (.inl (x9_5_1, (TNode.mk 16 x12_2.At x6_3 [] [l0_oloc9, x9_5_0])))) (x3_4_1, x3_4_0)
def ref13_Expr : Nat → List TToken → Int → Option (TNode × Int × Bool)
  | 0, _, _ => none
  | k + 1, a0, a1 =>
    (ref13_level k a0 a1 1).bind fun (x1_2_0, x1_2_1, x1_2_2) =>
    some (x1_2_0, x1_2_1, x1_2_2)
def ref13_Args : Nat → List TToken → Int → Option (List TNode × Int × Bool)
  | 0, _, _ => none
  | k + 1, a0, a1 =>
    (ref13_Is k a0 a1 [40]).bind fun x1_2 =>
    if (!x1_2) then
    some ([], a1, false)
    else
    (ref13_Is k a0 (IntKind.i64.wrap (a1 + 1)) [41]).bind fun x4_2 =>
    if x4_2 then
    some ([], (IntKind.i64.wrap ((IntKind.i64.wrap (a1 + 1)) + 1)), true)
    else
    loopM k (fun ((l0_1, l0_7) : Int × List TNode) =>
    (ref13_Expr k a0 l0_1).bind fun (x7_2_0, x7_2_1, x7_2_2) =>
    if (!x7_2_2) then
    some (.inr ([], x7_2_1, false))
    else
    if (room 64 (l0_7.length + [x7_2_0].length)) then
    (ref13_Is k a0 x7_2_1 [41]).bind fun x11_2 =>
    if x11_2 then
    some (.inr ((l0_7 ++ [x7_2_0]), (IntKind.i64.wrap (x7_2_1 + 1)), true))
    else
    (ref13_Is k a0 x7_2_1 [44]).bind fun x13_2 =>
    if (!x13_2) then
    some (.inr ([], x7_2_1, false))
    else
    some (.inl ((IntKind.i64.wrap (x7_2_1 + 1)), (l0_7 ++ [x7_2_0])))
    else none) ((IntKind.i64.wrap (a1 + 1)), [])
end
def law13_ExprParts (k : Nat) (a0 : List UInt8) (a1 : Int) : Option Bool :=
    (law13_works k).bind fun x1_0 =>
    if ((!x1_0) || (decide (((a0.length : Int)) > 400))) then
    (law13_works k).bind fun x2_0 =>
    some x2_0
    else
    (ref10_All k a0).bind fun (x3_1_0, x3_1_1, x3_1_2) =>
    if (x3_1_2 != 0) then
    some true
    else
    (expr_Type k x3_1_0 a1).bind fun (x6_2_0, x6_2_1, x6_2_2) =>
    (ref13_Type k x3_1_0 a1).bind fun (x7_2_0, x7_2_1, x7_2_2) =>
    (ref13_Placed k x6_2_0 x7_2_0).bind fun x8_2 =>
    joinK (fun (g8_30_81 : Bool) =>
    if g8_30_81 then
    some false
    else
    (expr_Args k x3_1_0 a1).bind fun (x10_2_0, x10_2_1, x10_2_2) =>
    (ref13_Args k x3_1_0 a1).bind fun (x11_2_0, x11_2_1, x11_2_2) =>
    if ((((((x10_2_0.length : Int)) != ((x11_2_0.length : Int))) || (x10_2_1 != x11_2_1)) || (!((x10_2_2 == 0) == x11_2_2))) || ((!x11_2_2) && (x10_2_2 != 1))) then
    some false
    else
    joinK (fun (_ : Unit) =>
    some true) fun j_j0 =>
    loopM k (fun (l1_20 : Int) =>
    if (decide (l1_20 < ((x10_2_0.length : Int)))) then
    (ix x10_2_0 l1_20).bind fun x17_2 =>
    (ix x11_2_0 l1_20).bind fun x17_6 =>
    (ref13_Placed k x17_2 x17_6).bind fun x17_8 =>
    joinK (fun (g17_17_143 : Bool) =>
    if g17_17_143 then
    some (.inr false)
    else
    some (.inl (IntKind.i64.wrap (l1_20 + 1)))) fun j_g17_17 =>
    if (!x17_8) then
    j_g17_17 true
    else
    (ix x10_2_0 l1_20).bind fun x17_13 =>
    (ref11_Expr k x17_13).bind fun x17_15 =>
    j_g17_17 (!x17_15)
    else
    (j_j0 ()).map .inr) 0) fun j_g8_30 =>
    if ((((!x8_2) || (x6_2_1 != x7_2_1)) || (!((x6_2_2 == 0) == x7_2_2))) || ((!x7_2_2) && (x6_2_2 != 1))) then
    j_g8_30 true
    else
    joinK (fun (g8_29_80 : Bool) =>
    j_g8_30 g8_29_80) fun j_g8_29 =>
    if x7_2_2 then
    (ref11_Type k x6_2_0).bind fun x8_27 =>
    j_g8_29 (!x8_27)
    else
    j_g8_29 false
def law13_ExprGoesOn (k : Nat) (a0 : List UInt8) (a1 : List UInt8) : Option Bool :=
    (law13_works k).bind fun x1_0 =>
    if (((!x1_0) || (decide (((a0.length : Int)) > 300))) || (decide (((a1.length : Int)) > 100))) then
    (law13_works k).bind fun x2_0 =>
    some x2_0
    else
    (ref10_All k a0).bind fun (x3_1_0, x3_1_1, x3_1_2) =>
    (ref10_All k a1).bind fun (x4_1_0, x4_1_1, x4_1_2) =>
    if (((x3_1_2 != 0) || (x4_1_2 != 0)) || (((x3_1_0.length : Int)) == 0)) then
    some true
    else
    (expr_Expr k x3_1_0 0).bind fun (x7_1_0, x7_1_1, x7_1_2) =>
    if ((x7_1_2 == 0) || (decide (x7_1_1 ≥ (IntKind.i64.wrap (((x3_1_0.length : Int)) - 1))))) then
    some true
    else
    (sub x3_1_0 0 (IntKind.i64.wrap (((x3_1_0.length : Int)) - 1))).bind fun x10_5 =>
    if (room 40 (([] : List TToken).length + x10_5.length)) then
    if (room 40 (([] ++ x10_5).length + x4_1_0.length)) then
    (expr_Expr k (([] ++ x10_5) ++ x4_1_0) 0).bind fun (x10_9_0, x10_9_1, x10_9_2) =>
    some ((x10_9_2 == 1) && (x10_9_1 == x7_1_1))
    else none
    else none
def law13_ExprReads (k : Nat) (a0 : List UInt8) (a1 : Int) : Option Bool :=
    (law13_works k).bind fun x1_0 =>
    if ((!x1_0) || (decide (((a0.length : Int)) > 400))) then
    (law13_works k).bind fun x2_0 =>
    some x2_0
    else
    (ref10_All k a0).bind fun (x3_1_0, x3_1_1, x3_1_2) =>
    if (x3_1_2 != 0) then
    some true
    else
    (expr_Expr k x3_1_0 a1).bind fun (x6_2_0, x6_2_1, x6_2_2) =>
    (ref13_Expr k x3_1_0 a1).bind fun (x7_2_0, x7_2_1, x7_2_2) =>
    (ref13_Placed k x6_2_0 x7_2_0).bind fun x8_2 =>
    if ((((!x8_2) || (x6_2_1 != x7_2_1)) || (!((x6_2_2 == 0) == x7_2_2))) || ((!x7_2_2) && (x6_2_2 != 1))) then
    some false
    else
    joinK (fun (g10_16_83 : Bool) =>
    some g10_16_83) fun j_g10_16 =>
    if (!x7_2_2) then
    j_g10_16 true
    else
    (ref11_Expr k x6_2_0).bind fun x10_4 =>
    j_g10_16 ((x10_4 && (decide (x6_2_1 > a1))) && (decide (x6_2_1 < ((x3_1_0.length : Int)))))
end Go.Proofs.YtbhncegmohnfhaaDoor.F
