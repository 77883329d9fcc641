/- The functions of the program, in plain Lean. No condition. -/
import Derived.Test.YtjojaiomgdjhfaaGreatDoorZA1
import Derived.Lib.Fields
import Derived.Lib.Bytealg
set_option linter.unusedVariables false
set_option linter.unusedSimpArgs false
set_option maxRecDepth 100000
namespace Go.Proofs.YtjojaiomgdjhfaaGreatDoor.F
open Go
structure TNode where
  Kind:Int
  At:Int
  N:Int
  Name:List UInt8
  Kids:List TNode
structure Tref18_Fault where
  At:Int
  Why:Int
structure Tdecl_kinds where
  list:List TNode
  by_:List (List UInt8 × Int)
structure Tdecl_Table where
  all_:List (Int × Tdecl_kinds)
  prog:TNode
  base:List Int
  locs:Int
structure Tref19_Name where
  Name:List UInt8
  Kind:TNode
  In:Int
structure Tref15_Got where
  N:TNode
  At:Int
  Line:Int
  Col:Int
  Why:Int
structure TToken where
  Kind:Int
  At:Int
  N:Int
  Text:List UInt8
structure Tref14_Got where
  N:TNode
  At:Int
  Ok:Bool
structure TValue where
  Kind:Int
  N:Int
  Kids:List TValue
end Go.Proofs.YtjojaiomgdjhfaaGreatDoor.F
namespace Go.Proofs.YtjojaiomgdjhfaaGreatDoor.F
open Go
def strings_IndexByte (k:Nat) (a0:List UInt8) (a1:Int):Option Int:=some (Lib.indexByte a0 a1.toNat.toUInt8)
def strings_Fields (k:Nat) (a0:List UInt8):Option (List (List UInt8)):=if a0.length < 4294967281∧(a0.all fun b=>decide (b.toNat < 128)) = true then some (Lib.fields a0) else none
end Go.Proofs.YtjojaiomgdjhfaaGreatDoor.F
namespace Go.Proofs.YtjojaiomgdjhfaaGreatDoor.F
open Go
mutual
def ends_Stmt:Nat→TNode→Option Bool
  | 0,_=>none
  | k + 1,a0=>
    if (a0.Kind == 35) then
    some true
    else
    if (a0.Kind == 30) then
    (slices_ContainsFunc_Node k a0.Kids).bind fun x5_2=>
    some x5_2
    else
    if (a0.Kind == 33) then
    joinK (fun (g7_10_24:Bool)=>
    joinK (fun (g7_17_31:Bool)=>
    some g7_17_31) fun j_g7_17=>
    if g7_10_24 then
    (ix a0.Kids 2).bind fun x7_14=>
    (ends_Stmt k x7_14).bind fun x7_16=>
    j_g7_17 x7_16
    else
    j_g7_17 false) fun j_g7_10=>
    if ((a0.Kids.length:Int) == 3) then
    (ix a0.Kids 1).bind fun x7_7=>
    (ends_Stmt k x7_7).bind fun x7_9=>
    j_g7_10 x7_9
    else
    j_g7_10 false
    else
    some false
def slices_ContainsFunc_Node:Nat→List TNode→Option Bool
  | 0,_=>none
  | k + 1,a0=>
    (slices_IndexFunc_Node k a0).bind fun x1_2=>
    some (decide (x1_2 ≥ 0))
def slices_IndexFunc_Node:Nat→List TNode→Option Int
  | 0,_=>none
  | k + 1,a0=>
    joinK (fun (_:Unit)=>
    some (-1)) fun j_j0=>
    loopM k (fun (l1_8:Int)=>
    if (decide (l1_8 < (a0.length:Int))) then
    (ix a0 l1_8).bind fun x4_3=>
    (ends_Stmt k x4_3).bind fun x4_5=>
    if x4_5 then
    some (.inr l1_8)
    else
    some (.inl (IntKind.i64.wrap (l1_8 + 1)))
    else
    (j_j0 ()).map .inr) 0
end
def tree_inner_1 (k:Nat) (a0:Int):Option Bool :=
    (strings_IndexByte k [97,98,99,100,101,102,103,104,105,106,107,108,109,110,111,112,113,114,115,116,117,118,119,120,121,122,65,66,67,68,69,70,71,72,73,74,75,76,77,78,79,80,81,82,83,84,85,86,87,88,89,90,95,48,49,50,51,52,53,54,55,56,57] a0).bind fun x1_1=>
    some (decide (x1_1 < 0))
def slices_IndexFunc_byte (k:Nat) (a0:List Int):Option Int :=
    joinK (fun (_:Unit)=>
    some (-1)) fun j_j0=>
    loopM k (fun (l1_8:Int)=>
    if (decide (l1_8 < (a0.length:Int))) then
    (ix a0 l1_8).bind fun x4_3=>
    (tree_inner_1 k x4_3).bind fun x4_5=>
    if x4_5 then
    some (.inr l1_8)
    else
    some (.inl (IntKind.i64.wrap (l1_8 + 1)))
    else
    (j_j0 ()).map .inr) 0
def slices_ContainsFunc_byte (k:Nat) (a0:List Int):Option Bool :=
    (slices_IndexFunc_byte k a0).bind fun x1_2=>
    some (decide (x1_2 ≥ 0))
def tree_inner (k:Nat) (a0:List UInt8):Option Bool :=
    (slices_ContainsFunc_byte k (a0.map fun b=>(b.toNat:Int))).bind fun x1_2=>
    some (!x1_2)
def word_All (k:Nat):Option (List (List UInt8)) :=
    (strings_Fields k [114,101,99,32,105,115,111,32,102,117,110,32,109,101,114,103,101,32,109,97,105,110,32,118,97,114,32,105,102,32,101,108,115,101,32,119,104,105,108,101,32,114,101,116,117,114,110,32,102,111,114,107,32,106,111,105,110,32,112,114,105,110,116,32,110,101,119,32,98,121,32,105,110,116,32,98,111,111,108,32,114,101,118,32,116,114,117,101,32,102,97,108,115,101]).bind fun x1_0=>
    some x1_0
def slices_Index_string (k:Nat) (a0:List (List UInt8)) (a1:List UInt8):Option Int :=
    joinK (fun (_:Unit)=>
    some (-1)) fun j_j0=>
    loopM k (fun (l1_8:Int)=>
    if (decide (l1_8 < (a0.length:Int))) then
    (ix a0 l1_8).bind fun x4_3=>
    if (a1 == x4_3) then
    some (.inr l1_8)
    else
    some (.inl (IntKind.i64.wrap (l1_8 + 1)))
    else
    (j_j0 ()).map .inr) 0
def slices_Contains_string (k:Nat) (a0:List (List UInt8)) (a1:List UInt8):Option Bool :=
    (slices_Index_string k a0 a1).bind fun x1_2=>
    some (decide (x1_2 ≥ 0))
def word_Is (k:Nat) (a0:List UInt8):Option Bool :=
    (word_All k).bind fun x1_0=>
    (slices_Contains_string k x1_0 a0).bind fun x1_2=>
    some x1_2
def tree_named (k:Nat) (a0:List UInt8):Option Bool :=
    joinK (fun (g1_10_13:Bool)=>
    joinK (fun (g1_16_19:Bool)=>
    joinK (fun (g1_21_24:Bool)=>
    some g1_21_24) fun j_g1_21=>
    if g1_16_19 then
    (word_Is k a0).bind fun x1_19=>
    j_g1_21 (!x1_19)
    else
    j_g1_21 false) fun j_g1_16=>
    if g1_10_13 then
    (ix a0 0).bind fun x1_13=>
    (strings_IndexByte k [97,98,99,100,101,102,103,104,105,106,107,108,109,110,111,112,113,114,115,116,117,118,119,120,121,122,65,66,67,68,69,70,71,72,73,74,75,76,77,78,79,80,81,82,83,84,85,86,87,88,89,90,95] (x1_13.toNat:Int)).bind fun x1_14=>
    j_g1_16 (decide (x1_14 ≥ 0))
    else
    j_g1_16 false) fun j_g1_10=>
    if ((!(a0 == [])) && (decide ((a0.length:Int) ≤ 32))) then
    (tree_inner k a0).bind fun x1_9=>
    j_g1_10 x1_9
    else
    j_g1_10 false
def word_Bind (k:Nat) (a0:Int):Option Int :=
    if (a0 == 13) then
    some 1
    else
    if (a0 == 12) then
    some 2
    else
    joinK (fun (j0_8:Bool)=>
    if j0_8 then
    some 3
    else
    joinK (fun (j1_15:Bool)=>
    if j1_15 then
    some 4
    else
    joinK (fun (j2_18:Bool)=>
    if j2_18 then
    some 5
    else
    some 0) fun j_j2=>
    if (a0 == 3) then
    j_j2 (a0 == 3)
    else
    if (a0 == 4) then
    j_j2 (a0 == 4)
    else
    j_j2 (a0 == 5)) fun j_j1=>
    if (a0 == 1) then
    j_j1 (a0 == 1)
    else
    j_j1 (a0 == 2)) fun j_j0=>
    if (a0 == 6) then
    j_j0 (a0 == 6)
    else
    if (a0 == 7) then
    j_j0 (a0 == 7)
    else
    if (a0 == 8) then
    j_j0 (a0 == 8)
    else
    if (a0 == 9) then
    j_j0 (a0 == 9)
    else
    if (a0 == 10) then
    j_j0 (a0 == 10)
    else
    j_j0 (a0 == 11)
mutual
def tree_block:Nat→TNode→Option Bool
  | 0,_=>none
  | k + 1,a0=>
    joinK (fun (g1_6_9:Bool)=>
    some g1_6_9) fun j_g1_6=>
    if (a0.Kind == 30) then
    (tree_Stmt k a0).bind fun x1_5=>
    j_g1_6 x1_5
    else
    j_g1_6 false
def tree_Stmt:Nat→TNode→Option Bool
  | 0,_=>none
  | k + 1,a0=>
    if (a0.Kind == 30) then
    joinK (fun (g3_12_19:Bool)=>
    some g3_12_19) fun j_g3_12=>
    if ((a0.N == 0) && (a0.Name == [])) then
    (tree_every_v2 k a0.Kids).bind fun x3_11=>
    j_g3_12 x3_11
    else
    j_g3_12 false
    else
    if (a0.Kind == 31) then
    (tree_plain k a0 true [0]).bind fun x5_2=>
    some x5_2
    else
    if (a0.Kind == 32) then
    (tree_plain k a0 false [1,0]).bind fun x7_2=>
    some x7_2
    else
    if (a0.Kind == 33) then
    (tree_plain k a0 false [0,2]).bind fun x9_2=>
    joinK (fun (g9_7_39:Bool)=>
    some g9_7_39) fun j_g9_7=>
    if x9_2 then
    j_g9_7 true
    else
    (tree_plain k a0 false [0,2,3]).bind fun x9_6=>
    j_g9_7 x9_6
    else
    if (a0.Kind == 34) then
    (tree_plain k a0 false [0,2]).bind fun x11_2=>
    some x11_2
    else
    if (a0.Kind == 35) then
    (tree_plain k a0 false []).bind fun x13_1=>
    joinK (fun (g13_6_53:Bool)=>
    some g13_6_53) fun j_g13_6=>
    if x13_1 then
    j_g13_6 true
    else
    (tree_plain k a0 false [0]).bind fun x13_5=>
    j_g13_6 x13_5
    else
    if (a0.Kind == 36) then
    (tree_plain k a0 true []).bind fun x15_1=>
    some x15_1
    else
    if (a0.Kind == 37) then
    (tree_plain k a0 false [0]).bind fun x17_2=>
    some x17_2
    else
    if (a0.Kind == 38) then
    (tree_plain k a0 false [4]).bind fun x19_2=>
    some x19_2
    else
    some false
def tree_every_v2:Nat→List TNode→Option Bool
  | 0,_=>none
  | k + 1,a0=>
    (slices_ContainsFunc_Node_v5 k a0).bind fun x1_2=>
    some (!x1_2)
def tree_plain:Nat→TNode→Bool→List Nat→Option Bool
  | 0,_,_,_=>none
  | k + 1,a0,a1,a2=>
    joinK (fun (g1_8_15:Bool)=>
    some g1_8_15) fun j_g1_8=>
    if (a0.N == 0) then
    (tree_kids k a0 a1 a2).bind fun x1_7=>
    j_g1_8 x1_7
    else
    j_g1_8 false
def slices_ContainsFunc_Node_v5:Nat→List TNode→Option Bool
  | 0,_=>none
  | k + 1,a0=>
    (slices_IndexFunc_Node_v5 k a0).bind fun x1_2=>
    some (decide (x1_2 ≥ 0))
def tree_kids:Nat→TNode→Bool→List Nat→Option Bool
  | 0,_,_,_=>none
  | k + 1,a0,a1,a2=>
    joinK (fun (g1_6_15:Bool)=>
    if ((g1_6_15 || ((!a1) && (!(a0.Name == [])))) || ((a0.Kids.length:Int) != (a2.length:Int))) then
    some false
    else
    joinK (fun (_:Unit)=>
    some true) fun j_j0=>
    loopM k (fun (l1_36:Int)=>
    if (decide (l1_36 < (a0.Kids.length:Int))) then
    (ix a0.Kids l1_36).bind fun x5_1=>
    (ix a2 l1_36).bind fun x6_2=>
    if (x6_2 == 0) then
    (tree_Expr k x5_1).bind fun x6_5=>
    if (!x6_5) then
    some (.inr false)
    else
    some (.inl (IntKind.i64.wrap (l1_36 + 1)))
    else if (x6_2 == 1) then
    (tree_place k x5_1).bind fun x6_5=>
    if (!x6_5) then
    some (.inr false)
    else
    some (.inl (IntKind.i64.wrap (l1_36 + 1)))
    else if (x6_2 == 2) then
    (tree_block k x5_1).bind fun x6_5=>
    if (!x6_5) then
    some (.inr false)
    else
    some (.inl (IntKind.i64.wrap (l1_36 + 1)))
    else if (x6_2 == 3) then
    (tree_branch k x5_1).bind fun x6_5=>
    if (!x6_5) then
    some (.inr false)
    else
    some (.inl (IntKind.i64.wrap (l1_36 + 1)))
    else if (x6_2 == 4) then
    (tree_call k x5_1).bind fun x6_5=>
    if (!x6_5) then
    some (.inr false)
    else
    some (.inl (IntKind.i64.wrap (l1_36 + 1)))
    else if (x6_2 == 5) then
    (tree_Type k x5_1).bind fun x6_5=>
    if (!x6_5) then
    some (.inr false)
    else
    some (.inl (IntKind.i64.wrap (l1_36 + 1)))
    else if (x6_2 == 6) then
    (tree_merger k x5_1).bind fun x6_5=>
    if (!x6_5) then
    some (.inr false)
    else
    some (.inl (IntKind.i64.wrap (l1_36 + 1)))
    else if (x6_2 == 7) then
    (tree_param k x5_1).bind fun x6_5=>
    if (!x6_5) then
    some (.inr false)
    else
    some (.inl (IntKind.i64.wrap (l1_36 + 1)))
    else none
    else
    (j_j0 ()).map .inr) 0) fun j_g1_6=>
    if a1 then
    (tree_named k a0.Name).bind fun x1_4=>
    j_g1_6 (!x1_4)
    else
    j_g1_6 false
def slices_IndexFunc_Node_v5:Nat→List TNode→Option Int
  | 0,_=>none
  | k + 1,a0=>
    joinK (fun (_:Unit)=>
    some (-1)) fun j_j0=>
    loopM k (fun (l1_8:Int)=>
    if (decide (l1_8 < (a0.length:Int))) then
    (ix a0 l1_8).bind fun x4_3=>
    (tree_every_1_v2 k x4_3).bind fun x4_5=>
    if x4_5 then
    some (.inr l1_8)
    else
    some (.inl (IntKind.i64.wrap (l1_8 + 1)))
    else
    (j_j0 ()).map .inr) 0
def tree_Expr:Nat→TNode→Option Bool
  | 0,_=>none
  | k + 1,a0=>
    if (a0.Kind == 10) then
    joinK (fun (g3_6_13:Bool)=>
    some g3_6_13) fun j_g3_6=>
    if (decide (a0.N ≥ 0)) then
    (tree_kids k a0 false []).bind fun x3_5=>
    j_g3_6 x3_5
    else
    j_g3_6 false
    else
    if (a0.Kind == 11) then
    joinK (fun (g5_11_27:Bool)=>
    some g5_11_27) fun j_g5_11=>
    if ((decide (a0.N ≥ 0)) && (decide (a0.N ≤ 1))) then
    (tree_kids k a0 false []).bind fun x5_10=>
    j_g5_11 x5_10
    else
    j_g5_11 false
    else
    if (a0.Kind == 12) then
    (tree_plain k a0 true []).bind fun x7_1=>
    some x7_1
    else
    if (a0.Kind == 13) then
    (tree_plain k a0 false [0,0]).bind fun x9_2=>
    some x9_2
    else
    if (a0.Kind == 14) then
    (tree_plain k a0 true [0]).bind fun x11_2=>
    some x11_2
    else
    if (a0.Kind == 15) then
    joinK (fun (g13_12_56:Bool)=>
    some g13_12_56) fun j_g13_12=>
    if ((a0.N == 2) || (a0.N == 14)) then
    (tree_kids k a0 false [0]).bind fun x13_11=>
    j_g13_12 x13_11
    else
    j_g13_12 false
    else
    if (a0.Kind == 16) then
    (word_Bind k a0.N).bind fun x15_2=>
    joinK (fun (g15_8_67:Bool)=>
    some g15_8_67) fun j_g15_8=>
    if (decide (x15_2 > 0)) then
    (tree_kids k a0 false [0,0]).bind fun x15_7=>
    j_g15_8 x15_7
    else
    j_g15_8 false
    else
    joinK (fun (j0_68:Bool)=>
    if j0_68 then
    joinK (fun (g18_7_78:Bool)=>
    joinK (fun (g18_12_83:Bool)=>
    some g18_12_83) fun j_g18_12=>
    if g18_7_78 then
    (tree_every_v4 k a0.Kids).bind fun x18_11=>
    j_g18_12 x18_11
    else
    j_g18_12 false) fun j_g18_7=>
    if (a0.N == 0) then
    (tree_named k a0.Name).bind fun x18_6=>
    j_g18_7 x18_6
    else
    j_g18_7 false
    else
    if (a0.Kind == 19) then
    joinK (fun (g20_20_106:Bool)=>
    joinK (fun (g20_26_112:Bool)=>
    some g20_26_112) fun j_g20_26=>
    if g20_20_106 then
    (sub a0.Kids 1 (a0.Kids.length:Int)).bind fun x20_24=>
    (tree_every_v4 k x20_24).bind fun x20_25=>
    j_g20_26 x20_25
    else
    j_g20_26 false) fun j_g20_20=>
    if (((a0.N == 0) && (a0.Name == [])) && (decide ((a0.Kids.length:Int) > 0))) then
    (ix a0.Kids 0).bind fun x20_17=>
    (tree_Type k x20_17).bind fun x20_19=>
    j_g20_20 x20_19
    else
    j_g20_20 false
    else
    some false) fun j_j0=>
    if (a0.Kind == 17) then
    j_j0 (a0.Kind == 17)
    else
    j_j0 (a0.Kind == 18)
def tree_place:Nat→TNode→Option Bool
  | 0,_=>none
  | k + 1,a0=>
    if (a0.Kind == 12) then
    (tree_plain k a0 true []).bind fun x3_1=>
    some x3_1
    else
    if (a0.Kind == 13) then
    (tree_plain k a0 false [1,0]).bind fun x5_2=>
    some x5_2
    else
    if (a0.Kind == 14) then
    (tree_plain k a0 true [1]).bind fun x7_2=>
    some x7_2
    else
    some false
def tree_branch:Nat→TNode→Option Bool
  | 0,_=>none
  | k + 1,a0=>
    joinK (fun (g1_11_14:Bool)=>
    some g1_11_14) fun j_g1_11=>
    if ((a0.Kind == 30) || (a0.Kind == 33)) then
    (tree_Stmt k a0).bind fun x1_10=>
    j_g1_11 x1_10
    else
    j_g1_11 false
def tree_call:Nat→TNode→Option Bool
  | 0,_=>none
  | k + 1,a0=>
    joinK (fun (g1_6_9:Bool)=>
    some g1_6_9) fun j_g1_6=>
    if (a0.Kind == 17) then
    (tree_Expr k a0).bind fun x1_5=>
    j_g1_6 x1_5
    else
    j_g1_6 false
def tree_every_1_v2:Nat→TNode→Option Bool
  | 0,_=>none
  | k + 1,a0=>
    (tree_Stmt k a0).bind fun x1_2=>
    some (!x1_2)
def tree_every_v4:Nat→List TNode→Option Bool
  | 0,_=>none
  | k + 1,a0=>
    (slices_ContainsFunc_Node_v7 k a0).bind fun x1_2=>
    some (!x1_2)
def tree_Type:Nat→TNode→Option Bool
  | 0,_=>none
  | k + 1,a0=>
    joinK (fun (j0_5:Bool)=>
    if j0_5 then
    (tree_plain k a0 false []).bind fun x5_1=>
    some x5_1
    else
    if (a0.Kind == 4) then
    (tree_plain k a0 true []).bind fun x7_1=>
    some x7_1
    else
    if (a0.Kind == 5) then
    (tree_plain k a0 false [5]).bind fun x9_2=>
    some x9_2
    else
    some false) fun j_j0=>
    if (a0.Kind == 1) then
    j_j0 (a0.Kind == 1)
    else
    if (a0.Kind == 2) then
    j_j0 (a0.Kind == 2)
    else
    j_j0 (a0.Kind == 3)
def tree_merger:Nat→TNode→Option Bool
  | 0,_=>none
  | k + 1,a0=>
    joinK (fun (g1_6_9:Bool)=>
    some g1_6_9) fun j_g1_6=>
    if (a0.Kind == 12) then
    (tree_Expr k a0).bind fun x1_5=>
    j_g1_6 x1_5
    else
    j_g1_6 false
def tree_param:Nat→TNode→Option Bool
  | 0,_=>none
  | k + 1,a0=>
    joinK (fun (g1_7_10:Bool)=>
    some g1_7_10) fun j_g1_7=>
    if (a0.Kind == 50) then
    (tree_plain k a0 true [5]).bind fun x1_6=>
    j_g1_7 x1_6
    else
    j_g1_7 false
def slices_ContainsFunc_Node_v7:Nat→List TNode→Option Bool
  | 0,_=>none
  | k + 1,a0=>
    (slices_IndexFunc_Node_v8 k a0).bind fun x1_2=>
    some (decide (x1_2 ≥ 0))
def slices_IndexFunc_Node_v8:Nat→List TNode→Option Int
  | 0,_=>none
  | k + 1,a0=>
    joinK (fun (_:Unit)=>
    some (-1)) fun j_j0=>
    loopM k (fun (l1_8:Int)=>
    if (decide (l1_8 < (a0.length:Int))) then
    (ix a0 l1_8).bind fun x4_3=>
    (tree_every_1_v4 k x4_3).bind fun x4_5=>
    if x4_5 then
    some (.inr l1_8)
    else
    some (.inl (IntKind.i64.wrap (l1_8 + 1)))
    else
    (j_j0 ()).map .inr) 0
def tree_every_1_v4:Nat→TNode→Option Bool
  | 0,_=>none
  | k + 1,a0=>
    (tree_Expr k a0).bind fun x1_2=>
    some (!x1_2)
end
def tree_every_1_v3 (k:Nat) (a0:TNode):Option Bool :=
    (tree_param k a0).bind fun x1_2=>
    some (!x1_2)
def slices_IndexFunc_Node_v7 (k:Nat) (a0:List TNode):Option Int :=
    joinK (fun (_:Unit)=>
    some (-1)) fun j_j0=>
    loopM k (fun (l1_8:Int)=>
    if (decide (l1_8 < (a0.length:Int))) then
    (ix a0 l1_8).bind fun x4_3=>
    (tree_every_1_v3 k x4_3).bind fun x4_5=>
    if x4_5 then
    some (.inr l1_8)
    else
    some (.inl (IntKind.i64.wrap (l1_8 + 1)))
    else
    (j_j0 ()).map .inr) 0
def slices_ContainsFunc_Node_v6 (k:Nat) (a0:List TNode):Option Bool :=
    (slices_IndexFunc_Node_v7 k a0).bind fun x1_2=>
    some (decide (x1_2 ≥ 0))
def tree_every_v3 (k:Nat) (a0:List TNode):Option Bool :=
    (slices_ContainsFunc_Node_v6 k a0).bind fun x1_2=>
    some (!x1_2)
def tree_answer (k:Nat) (a0:TNode):Option Bool :=
    (tree_Type k a0).bind fun x1_1=>
    joinK (fun (g1_10_13:Bool)=>
    some g1_10_13) fun j_g1_10=>
    if x1_1 then
    j_g1_10 true
    else
    joinK (fun (g1_9_12:Bool)=>
    j_g1_10 g1_9_12) fun j_g1_9=>
    if (a0.Kind == 0) then
    (tree_plain k a0 false []).bind fun x1_8=>
    j_g1_9 x1_8
    else
    j_g1_9 false
def tree_Decl (k:Nat) (a0:TNode):Option Bool :=
    if (a0.Kind == 51) then
    joinK (fun (g4_7_19:Bool)=>
    joinK (fun (g4_16_28:Bool)=>
    some g4_16_28) fun j_g4_16=>
    if (g4_7_19 && (decide ((IntKind.i64.wrap ((a0.Kids.length:Int) - 1)) ≥ 0))) then
    (tree_every_v3 k a0.Kids).bind fun x4_15=>
    j_g4_16 x4_15
    else
    j_g4_16 false) fun j_g4_7=>
    if (a0.N == 0) then
    (tree_named k a0.Name).bind fun x4_6=>
    j_g4_7 x4_6
    else
    j_g4_7 false
    else
    if (a0.Kind == 52) then
    joinK (fun (g6_12_43:Bool)=>
    some g6_12_43) fun j_g6_12=>
    if (decide (a0.N ≥ 0)) then
    (tree_kids k a0 true [5]).bind fun x6_6=>
    joinK (fun (g6_11_42:Bool)=>
    j_g6_12 g6_11_42) fun j_g6_11=>
    if x6_6 then
    j_g6_11 true
    else
    (tree_kids k a0 true [5,6]).bind fun x6_10=>
    j_g6_11 x6_10
    else
    j_g6_12 false
    else
    if (a0.Kind == 53) then
    joinK (fun (g8_7_53:Bool)=>
    joinK (fun (g8_19_65:Bool)=>
    joinK (fun (g8_28_74:Bool)=>
    joinK (fun (g8_36_82:Bool)=>
    some g8_36_82) fun j_g8_36=>
    if g8_28_74 then
    (ix a0.Kids (IntKind.i64.wrap ((a0.Kids.length:Int) - 1))).bind fun x8_33=>
    (tree_block k x8_33).bind fun x8_35=>
    j_g8_36 x8_35
    else
    j_g8_36 false) fun j_g8_28=>
    if g8_19_65 then
    (ix a0.Kids (IntKind.i64.wrap ((IntKind.i64.wrap ((a0.Kids.length:Int) - 1)) - 1))).bind fun x8_25=>
    (tree_answer k x8_25).bind fun x8_27=>
    j_g8_28 x8_27
    else
    j_g8_28 false) fun j_g8_19=>
    if (g8_7_53 && (decide ((IntKind.i64.wrap ((a0.Kids.length:Int) - 1)) ≥ 1))) then
    (sub a0.Kids 0 (IntKind.i64.wrap ((IntKind.i64.wrap ((a0.Kids.length:Int) - 1)) - 1))).bind fun x8_17=>
    (tree_every_v3 k x8_17).bind fun x8_18=>
    j_g8_19 x8_18
    else
    j_g8_19 false) fun j_g8_7=>
    if (a0.N == 0) then
    (tree_named k a0.Name).bind fun x8_6=>
    j_g8_7 x8_6
    else
    j_g8_7 false
    else
    if (a0.Kind == 54) then
    (tree_plain k a0 true [7,7,7,2]).bind fun x10_2=>
    some x10_2
    else
    some false
def tree_every_1 (k:Nat) (a0:TNode):Option Bool :=
    (tree_Decl k a0).bind fun x1_2=>
    some (!x1_2)
def slices_IndexFunc_Node_v2 (k:Nat) (a0:List TNode):Option Int :=
    joinK (fun (_:Unit)=>
    some (-1)) fun j_j0=>
    loopM k (fun (l1_8:Int)=>
    if (decide (l1_8 < (a0.length:Int))) then
    (ix a0 l1_8).bind fun x4_3=>
    (tree_every_1 k x4_3).bind fun x4_5=>
    if x4_5 then
    some (.inr l1_8)
    else
    some (.inl (IntKind.i64.wrap (l1_8 + 1)))
    else
    (j_j0 ()).map .inr) 0
def slices_ContainsFunc_Node_v2 (k:Nat) (a0:List TNode):Option Bool :=
    (slices_IndexFunc_Node_v2 k a0).bind fun x1_2=>
    some (decide (x1_2 ≥ 0))
def tree_every (k:Nat) (a0:List TNode):Option Bool :=
    (slices_ContainsFunc_Node_v2 k a0).bind fun x1_2=>
    some (!x1_2)
def tree_Prog (k:Nat) (a0:TNode):Option Bool :=
    joinK (fun (g2_23_31:Bool)=>
    joinK (fun (g2_31_39:Bool)=>
    some g2_31_39) fun j_g2_31=>
    if g2_23_31 then
    (ix a0.Kids (IntKind.i64.wrap ((a0.Kids.length:Int) - 1))).bind fun x2_28=>
    (tree_block k x2_28).bind fun x2_30=>
    j_g2_31 x2_30
    else
    j_g2_31 false) fun j_g2_23=>
    if ((((a0.Kind == 55) && (a0.N == 0)) && (a0.Name == [])) && (decide ((IntKind.i64.wrap ((a0.Kids.length:Int) - 1)) ≥ 0))) then
    (sub a0.Kids 0 (IntKind.i64.wrap ((a0.Kids.length:Int) - 1))).bind fun x2_21=>
    (tree_every k x2_21).bind fun x2_22=>
    j_g2_23 x2_22
    else
    j_g2_23 false
def decl_Table_decls (k:Nat) (o0_prog:TNode) (o0_locs:Int) (o2_0:List (List UInt8 × Int)) (o3_0:List (List UInt8 × Int)) (o4_0:List (List UInt8 × Int)) (o5_0:List (List UInt8 × Int)) (b0:List TNode) (b1:List TNode) (b2:List TNode) (b3:List TNode):Option (List TNode) :=
    (sub o0_prog.Kids 0 (IntKind.i64.wrap ((o0_prog.Kids.length:Int) - 1))).bind fun x1_12=>
    some x1_12
def word_Given (k:Nat) (a0:List UInt8):Option (Int × Bool) :=
    joinK (fun (j0_5:Bool)=>
    if j0_5 then
    some (1,true)
    else
    if (a0 == [102,105,108,108]) then
    some (2,true)
    else
    if (a0 == [105,110,112,117,116,115]) then
    some (0,true)
    else
    some (0,false)) fun j_j0=>
    if (a0 == [108,101,110]) then
    j_j0 (a0 == [108,101,110])
    else
    j_j0 (a0 == [105,110,112,117,116])
def decl_kinds_find (k:Nat) (a0_0:List TNode) (a1:List UInt8) (o0_0:List (List UInt8 × Int)):Option (Int × Bool) :=
    some (((mgetS a1 o0_0).getD 0),(mgetS a1 o0_0).isSome)
def decl_Table_number (k:Nat) (a1:Int) (a2:List UInt8) (o0_prog:TNode) (o0_locs:Int) (o2_0:List (List UInt8 × Int)) (o3_0:List (List UInt8 × Int)) (o4_0:List (List UInt8 × Int)) (o5_0:List (List UInt8 × Int)) (b0:List TNode) (b1:List TNode) (b2:List TNode) (b3:List TNode):Option (Int × Bool) :=
    if (51 == a1) then
    (decl_kinds_find k b0 a2 o2_0).bind fun (x3_7_0,x3_7_1)=>
    some (x3_7_0,x3_7_1)
    else if (52 == a1) then
    (decl_kinds_find k b1 a2 o3_0).bind fun (x3_7_0,x3_7_1)=>
    some (x3_7_0,x3_7_1)
    else if (53 == a1) then
    (decl_kinds_find k b2 a2 o4_0).bind fun (x3_7_0,x3_7_1)=>
    some (x3_7_0,x3_7_1)
    else if (54 == a1) then
    (decl_kinds_find k b3 a2 o5_0).bind fun (x3_7_0,x3_7_1)=>
    some (x3_7_0,x3_7_1)
    else none
def decl_Table_Global (k:Nat) (a1:List UInt8) (o0_prog:TNode) (o0_locs:Int) (o2_0:List (List UInt8 × Int)) (o3_0:List (List UInt8 × Int)) (o4_0:List (List UInt8 × Int)) (o5_0:List (List UInt8 × Int)) (b0:List TNode) (b1:List TNode) (b2:List TNode) (b3:List TNode):Option Bool :=
    (word_Given k a1).bind fun (x1_1_0,x1_1_1)=>
    if x1_1_1 then
    some true
    else
    joinK (fun (_:Unit)=>
    some false) fun j_j0=>
    loopM k (fun (l1_19:Int)=>
    if (decide (l1_19 < (([51,52,53,54]:List Int).length:Int))) then
    (ix [51,52,53,54] l1_19).bind fun x6_0=>
    (decl_Table_number k x6_0 a1 o0_prog o0_locs o2_0 o3_0 o4_0 o5_0 b0 b1 b2 b3).bind fun (x7_3_0,x7_3_1)=>
    if x7_3_1 then
    some (.inr true)
    else
    some (.inl (IntKind.i64.wrap (l1_19 + 1)))
    else
    (j_j0 ()).map .inr) 0
def decl_Table_names (k:Nat) (o0_prog:TNode) (o0_locs:Int) (o2_0:List (List UInt8 × Int)) (o3_0:List (List UInt8 × Int)) (o4_0:List (List UInt8 × Int)) (o5_0:List (List UInt8 × Int)) (b0:List TNode) (b1:List TNode) (b2:List TNode) (b3:List TNode):Option (List TNode × List TNode × List TNode × List TNode × Int × Int × (List (List UInt8 × Int)) × (List (List UInt8 × Int)) × (List (List UInt8 × Int)) × (List (List UInt8 × Int))) :=
    joinK (fun ((j0_bclext10,j0_bclext12,j0_bclext14,j0_bclext16,j0_oext2_0,j0_oext3_0,j0_oext4_0,j0_oext5_0):List TNode × List TNode × List TNode × List TNode × (List (List UInt8 × Int)) × (List (List UInt8 × Int)) × (List (List UInt8 × Int)) × (List (List UInt8 × Int)))=>
    some (j0_bclext10,j0_bclext12,j0_bclext14,j0_bclext16,0,0,j0_oext2_0,j0_oext3_0,j0_oext4_0,j0_oext5_0)) fun j_j0=>
    (decl_Table_decls k o0_prog o0_locs o2_0 o3_0 o4_0 o5_0 b0 b1 b2 b3).bind fun x1_1=>
    loopM k (fun ((l1_bclext10,l1_bclext12,l1_bclext14,l1_bclext16,l1_10,l1_oext2_0,l1_oext3_0,l1_oext4_0,l1_oext5_0):List TNode × List TNode × List TNode × List TNode × Int × (List (List UInt8 × Int)) × (List (List UInt8 × Int)) × (List (List UInt8 × Int)) × (List (List UInt8 × Int)))=>
    if (decide (l1_10 < (x1_1.length:Int))) then
    (ix x1_1 l1_10).bind fun x3_0=>
    (decl_Table_Global k x3_0.Name o0_prog o0_locs l1_oext2_0 l1_oext3_0 l1_oext4_0 l1_oext5_0 l1_bclext10 l1_bclext12 l1_bclext14 l1_bclext16).bind fun x4_3=>
    if x4_3 then
    some (.inr (l1_bclext10,l1_bclext12,l1_bclext14,l1_bclext16,x3_0.At,6,l1_oext2_0,l1_oext3_0,l1_oext4_0,l1_oext5_0))
    else
    if (51 == x3_0.Kind) then
    if (room 64 (l1_bclext10.length + [x3_0].length)) then
    if (51 == x3_0.Kind) then
    some (.inl ((l1_bclext10 ++ [x3_0]),l1_bclext12,l1_bclext14,l1_bclext16,(IntKind.i64.wrap (l1_10 + 1)),(msetS x3_0.Name (l1_bclext10.length:Int) l1_oext2_0),l1_oext3_0,l1_oext4_0,l1_oext5_0))
    else if (52 == x3_0.Kind) then
    none
    else if (53 == x3_0.Kind) then
    none
    else if (54 == x3_0.Kind) then
    none
    else none
    else none
    else if (52 == x3_0.Kind) then
    if (room 64 (l1_bclext12.length + [x3_0].length)) then
    if (51 == x3_0.Kind) then
    none
    else if (52 == x3_0.Kind) then
    some (.inl (l1_bclext10,(l1_bclext12 ++ [x3_0]),l1_bclext14,l1_bclext16,(IntKind.i64.wrap (l1_10 + 1)),l1_oext2_0,(msetS x3_0.Name (l1_bclext12.length:Int) l1_oext3_0),l1_oext4_0,l1_oext5_0))
    else if (53 == x3_0.Kind) then
    none
    else if (54 == x3_0.Kind) then
    none
    else none
    else none
    else if (53 == x3_0.Kind) then
    if (room 64 (l1_bclext14.length + [x3_0].length)) then
    if (51 == x3_0.Kind) then
    none
    else if (52 == x3_0.Kind) then
    none
    else if (53 == x3_0.Kind) then
    some (.inl (l1_bclext10,l1_bclext12,(l1_bclext14 ++ [x3_0]),l1_bclext16,(IntKind.i64.wrap (l1_10 + 1)),l1_oext2_0,l1_oext3_0,(msetS x3_0.Name (l1_bclext14.length:Int) l1_oext4_0),l1_oext5_0))
    else if (54 == x3_0.Kind) then
    none
    else none
    else none
    else if (54 == x3_0.Kind) then
    if (room 64 (l1_bclext16.length + [x3_0].length)) then
    if (51 == x3_0.Kind) then
    none
    else if (52 == x3_0.Kind) then
    none
    else if (53 == x3_0.Kind) then
    none
    else if (54 == x3_0.Kind) then
    some (.inl (l1_bclext10,l1_bclext12,l1_bclext14,(l1_bclext16 ++ [x3_0]),(IntKind.i64.wrap (l1_10 + 1)),l1_oext2_0,l1_oext3_0,l1_oext4_0,(msetS x3_0.Name (l1_bclext16.length:Int) l1_oext5_0)))
    else none
    else none
    else none
    else
    (j_j0 (l1_bclext10,l1_bclext12,l1_bclext14,l1_bclext16,l1_oext2_0,l1_oext3_0,l1_oext4_0,l1_oext5_0)).map .inr) (b0,b1,b2,b3,0,o2_0,o3_0,o4_0,o5_0)
def decl_Table_decls_v2 (k:Nat) (o0_all:List (Int × Tdecl_kinds)) (o0_prog:TNode) (o0_locs:Int) (b0:List Int):Option (List TNode) :=
    (sub o0_prog.Kids 0 (IntKind.i64.wrap ((o0_prog.Kids.length:Int) - 1))).bind fun x1_12=>
    some x1_12
def slices_Clone_Node (k:Nat) (a0:List TNode):Option (List TNode) :=
    if (room 64 (([]:List TNode).length + a0.length)) then
    some a0
    else none
def decl_Table_list (k:Nat) (a1:Int) (o0_all:List (Int × Tdecl_kinds)) (o0_prog:TNode) (o0_locs:Int) (b0:List Int):Option (List TNode) :=
    (slices_Clone_Node k (((mgetI a1 o0_all).getD (Tdecl_kinds.mk [] [])).list)).bind fun x3_7=>
    some x3_7
def decl_Table_Recs (k:Nat) (o0_all:List (Int × Tdecl_kinds)) (o0_prog:TNode) (o0_locs:Int) (b0:List Int):Option (List TNode) :=
    (decl_Table_list k 51 o0_all o0_prog o0_locs b0).bind fun x1_1=>
    some x1_1
def decl_typed_1 (k:Nat) (a0:TNode) (o0_0:TNode):Option Bool :=
    some (a0.Name == o0_0.Name)
def slices_IndexFunc_Node_v4 (k:Nat) (a0:List TNode) (o0_0:TNode):Option Int :=
    joinK (fun (_:Unit)=>
    some (-1)) fun j_j0=>
    loopM k (fun (l1_8:Int)=>
    if (decide (l1_8 < (a0.length:Int))) then
    (ix a0 l1_8).bind fun x4_3=>
    (decl_typed_1 k x4_3 o0_0).bind fun x4_5=>
    if x4_5 then
    some (.inr l1_8)
    else
    some (.inl (IntKind.i64.wrap (l1_8 + 1)))
    else
    (j_j0 ()).map .inr) 0
def slices_ContainsFunc_Node_v4 (k:Nat) (a0:List TNode) (o0_0:TNode):Option Bool :=
    (slices_IndexFunc_Node_v4 k a0 o0_0).bind fun x1_2=>
    some (decide (x1_2 ≥ 0))
def decl_typed:Nat→TNode→List TNode→Bool→Option (Int × Int)
  | 0,_,_,_=>none
  | k + 1,a0,a1,a2=>
    joinK (fun (_:Unit)=>
    some (0,0)) fun j_j0=>
    if (a0.Kind == 5) then
    (ix a0.Kids 0).bind fun x3_2=>
    (decl_typed k x3_2 a1 false).bind fun (x3_5_0,x3_5_1)=>
    some (x3_5_0,x3_5_1)
    else
    if (a0.Kind == 3) then
    if (!a2) then
    some (a0.At,7)
    else
    j_j0 ()
    else
    if (a0.Kind == 4) then
    (slices_ContainsFunc_Node_v4 k a1 a0).bind fun x8_2=>
    if (!x8_2) then
    some (a0.At,5)
    else
    j_j0 ()
    else
    j_j0 ()
def decl_Table_params_1 (k:Nat) (a0:TNode) (o0_0:TNode):Option Bool :=
    some (a0.Name == o0_0.Name)
def slices_IndexFunc_Node_v3 (k:Nat) (a0:List TNode) (o0_0:TNode):Option Int :=
    joinK (fun (_:Unit)=>
    some (-1)) fun j_j0=>
    loopM k (fun (l1_8:Int)=>
    if (decide (l1_8 < (a0.length:Int))) then
    (ix a0 l1_8).bind fun x4_3=>
    (decl_Table_params_1 k x4_3 o0_0).bind fun x4_5=>
    if x4_5 then
    some (.inr l1_8)
    else
    some (.inl (IntKind.i64.wrap (l1_8 + 1)))
    else
    (j_j0 ()).map .inr) 0
def slices_ContainsFunc_Node_v3 (k:Nat) (a0:List TNode) (o0_0:TNode):Option Bool :=
    (slices_IndexFunc_Node_v3 k a0 o0_0).bind fun x1_2=>
    some (decide (x1_2 ≥ 0))
def decl_kinds_find_v2 (k:Nat) (a0:Tdecl_kinds) (a1:List UInt8):Option (Int × Bool) :=
    some (((mgetS a1 a0.by_).getD 0),(mgetS a1 a0.by_).isSome)
def decl_Table_number_v2 (k:Nat) (a1:Int) (a2:List UInt8) (o0_all:List (Int × Tdecl_kinds)) (o0_prog:TNode) (o0_locs:Int) (b0:List Int):Option (Int × Bool) :=
    (decl_kinds_find_v2 k ((mgetI a1 o0_all).getD (Tdecl_kinds.mk [] [])) a2).bind fun (x3_7_0,x3_7_1)=>
    some (x3_7_0,x3_7_1)
def decl_Table_Global_v2 (k:Nat) (a1:List UInt8) (o0_all:List (Int × Tdecl_kinds)) (o0_prog:TNode) (o0_locs:Int) (b0:List Int):Option Bool :=
    (word_Given k a1).bind fun (x1_1_0,x1_1_1)=>
    if x1_1_1 then
    some true
    else
    joinK (fun (_:Unit)=>
    some false) fun j_j0=>
    loopM k (fun (l1_19:Int)=>
    if (decide (l1_19 < (([51,52,53,54]:List Int).length:Int))) then
    (ix [51,52,53,54] l1_19).bind fun x6_0=>
    (decl_Table_number_v2 k x6_0 a1 o0_all o0_prog o0_locs b0).bind fun (x7_3_0,x7_3_1)=>
    if x7_3_1 then
    some (.inr true)
    else
    some (.inl (IntKind.i64.wrap (l1_19 + 1)))
    else
    (j_j0 ()).map .inr) 0
mutual
def tree_Same:Nat→TNode→TNode→Option Bool
  | 0,_,_=>none
  | k + 1,a0,a1=>
    joinK (fun (g1_25_30:Bool)=>
    some g1_25_30) fun j_g1_25=>
    if (((a0.Kind == a1.Kind) && (a0.N == a1.N)) && (a0.Name == a1.Name)) then
    (slices_EqualFunc_Node k a0.Kids a1.Kids).bind fun x1_24=>
    j_g1_25 x1_24
    else
    j_g1_25 false
def slices_EqualFunc_Node:Nat→List TNode→List TNode→Option Bool
  | 0,_,_=>none
  | k + 1,a0,a1=>
    if ((a0.length:Int) != (a1.length:Int)) then
    some false
    else
    joinK (fun (_:Unit)=>
    some true) fun j_j0=>
    loopM k (fun (l1_17:Int)=>
    if (decide (l1_17 < (a0.length:Int))) then
    (ix a0 l1_17).bind fun x5_1=>
    (ix a1 l1_17).bind fun x6_2=>
    (tree_Same k x5_1 x6_2).bind fun x7_3=>
    if (!x7_3) then
    some (.inr false)
    else
    some (.inl (IntKind.i64.wrap (l1_17 + 1)))
    else
    (j_j0 ()).map .inr) 0
end
def decl_Table_params (k:Nat) (a1:List TNode) (a2:List TNode) (a3:Int) (o0_all:List (Int × Tdecl_kinds)) (o0_prog:TNode) (o0_locs:Int) (b0:List Int):Option (Int × Int) :=
    joinK (fun (_:Unit)=>
    some (0,0)) fun j_j0=>
    loopM k (fun (l1_17:Int)=>
    if (decide (l1_17 < (a1.length:Int))) then
    (ix a1 l1_17).bind fun x3_1=>
    (sub a1 0 l1_17).bind fun x4_2=>
    (slices_ContainsFunc_Node_v3 k x4_2 x3_1).bind fun x4_4=>
    joinK (fun (g5_10_37:Bool)=>
    if g5_10_37 then
    some (.inr (x3_1.At,6))
    else
    (ix x3_1.Kids 0).bind fun x7_2=>
    (decl_typed k x7_2 a2 (a3 == 53)).bind fun (x7_7_0,x7_7_1)=>
    if (x7_7_1 != 0) then
    some (.inr (x7_7_0,x7_7_1))
    else
    joinK (fun (g10_15_70:Bool)=>
    if g10_15_70 then
    some (.inr (x3_1.At,7))
    else
    some (.inl (IntKind.i64.wrap (l1_17 + 1)))) fun j_g10_15=>
    if (a3 == 54) then
    (ix x3_1.Kids 0).bind fun x10_5=>
    (ix a1 0).bind fun x10_8=>
    (ix x10_8.Kids 0).bind fun x10_11=>
    (tree_Same k x10_5 x10_11).bind fun x10_13=>
    j_g10_15 (!x10_13)
    else
    j_g10_15 false) fun j_g5_10=>
    if x4_4 then
    j_g5_10 true
    else
    joinK (fun (g5_9_36:Bool)=>
    j_g5_10 g5_9_36) fun j_g5_9=>
    if (a3 != 51) then
    (decl_Table_Global_v2 k x3_1.Name o0_all o0_prog o0_locs b0).bind fun x5_8=>
    j_g5_9 x5_8
    else
    j_g5_9 false
    else
    (j_j0 ()).map .inr) 0
def val_Int (k:Nat) (a0:Int):Option TValue :=
    some (TValue.mk 0 a0 [])
def val_Bool (k:Nat) (a0:Bool):Option TValue :=
    if a0 then
    some (TValue.mk 1 1 [])
    else
    some (TValue.mk 1 0 [])
def slices_Clone_Value (k:Nat) (a0:List TValue):Option (List TValue) :=
    if (room 40 (([]:List TValue).length + a0.length)) then
    some a0
    else none
def val_Arr (k:Nat) (a0:List TValue):Option TValue :=
    (slices_Clone_Value k a0).bind fun x1_1=>
    some (TValue.mk 2 0 x1_1)
def kind_params_1 (k:Nat) (a0:TNode) (o0_0:TNode):Option Bool :=
    some (a0.Name == o0_0.Name)
def slices_IndexFunc_Node_v6 (k:Nat) (a0:List TNode) (o0_0:TNode):Option Int :=
    joinK (fun (_:Unit)=>
    some (-1)) fun j_j0=>
    loopM k (fun (l1_8:Int)=>
    if (decide (l1_8 < (a0.length:Int))) then
    (ix a0 l1_8).bind fun x4_3=>
    (kind_params_1 k x4_3 o0_0).bind fun x4_5=>
    if x4_5 then
    some (.inr l1_8)
    else
    some (.inl (IntKind.i64.wrap (l1_8 + 1)))
    else
    (j_j0 ()).map .inr) 0
def kind_params (k:Nat) (a0:TNode) (a1:List TNode):Option (List TNode × Bool) :=
    if (a0.Kind != 4) then
    some ([],false)
    else
    (slices_IndexFunc_Node_v6 k a1 a0).bind fun x3_2=>
    if (decide (x3_2 < 0)) then
    some ([],false)
    else
    (ix a1 x3_2).bind fun x6_2=>
    some (x6_2.Kids,true)
def kind_typed (k:Nat) (a0:TNode):Option TNode :=
    if ((a0.Kids.length:Int) == 0) then
    some (TNode.mk 0 0 0 [] [])
    else
    (ix a0.Kids 0).bind fun x3_2=>
    some x3_2
def kind_Fields (k:Nat) (a0:TNode) (a1:List TNode):Option (List TNode × Bool) :=
    (kind_params k a0 a1).bind fun (x1_2_0,x1_2_1)=>
    joinK (fun (j0_8:List TNode)=>
    some (j0_8,x1_2_1)) fun j_j0=>
    loopM k (fun ((l1_8,l1_19):List TNode × Int)=>
    if (decide (l1_19 < (x1_2_0.length:Int))) then
    (ix x1_2_0 l1_19).bind fun x5_0=>
    (kind_typed k x5_0).bind fun x6_2=>
    if (room 64 (l1_8.length + [x6_2].length)) then
    some (.inl ((l1_8 ++ [x6_2]),(IntKind.i64.wrap (l1_19 + 1))))
    else none
    else
    (j_j0 l1_8).map .inr) ([],0)
def kind_zero_of:Nat→TNode→Int→List TNode→Int→Option (TValue × Bool × Int)
  | 0,_,_,_,_=>none
  | k + 1,a1,a2,o0_recs,o0_room=>
    if ((decide ((IntKind.i64.wrap (o0_room - 1)) < 0)) || (decide (a2 > 100))) then
    some ((TValue.mk 0 0 []),false,(IntKind.i64.wrap (o0_room - 1)))
    else
    if (a1.Kind == 1) then
    (val_Int k 0).bind fun x6_0=>
    some (x6_0,true,(IntKind.i64.wrap (o0_room - 1)))
    else
    if (a1.Kind == 2) then
    (val_Bool k false).bind fun x8_0=>
    some (x8_0,true,(IntKind.i64.wrap (o0_room - 1)))
    else
    if (a1.Kind == 5) then
    (val_Arr k []).bind fun x10_0=>
    some (x10_0,true,(IntKind.i64.wrap (o0_room - 1)))
    else
    (kind_Fields k a1 o0_recs).bind fun (x11_5_0,x11_5_1)=>
    joinK (fun ((j0_bclloc102,j0_oext0_1):List TValue × Int)=>
    if (!x11_5_1) then
    some ((TValue.mk 0 0 []),false,j0_oext0_1)
    else
    some ((TValue.mk 3 0 j0_bclloc102),true,j0_oext0_1)) fun j_j0=>
    loopM k (fun ((l1_bclloc102,l1_55,l1_oext0_1):List TValue × Int × Int)=>
    if (decide (l1_55 < (x11_5_0.length:Int))) then
    (ix x11_5_0 l1_55).bind fun x15_0=>
    (kind_zero_of k x15_0 (IntKind.i64.wrap (a2 + 1)) o0_recs l1_oext0_1).bind fun (x16_4_0,x16_4_1,x16_4_2)=>
    if (!x16_4_1) then
    some (.inr ((TValue.mk 0 0 []),false,x16_4_2))
    else
    if (room 40 (l1_bclloc102.length + [x16_4_0].length)) then
    some (.inl ((l1_bclloc102 ++ [x16_4_0]),(IntKind.i64.wrap (l1_55 + 1)),x16_4_2))
    else none
    else
    (j_j0 (l1_bclloc102,l1_oext0_1)).map .inr) ([],0,(IntKind.i64.wrap (o0_room - 1)))
def kind_Zero (k:Nat) (a0:TNode) (a1:List TNode):Option (TValue × Bool) :=
    (kind_zero_of k a0 0 a1 4096).bind fun (x2_1_0,x2_1_1,x2_1_2)=>
    some (x2_1_0,x2_1_1)
def decl_Table_Merge (k:Nat) (a1:List UInt8) (o0_all:List (Int × Tdecl_kinds)) (o0_prog:TNode) (o0_locs:Int) (b0:List Int):Option (Int × Bool) :=
    (decl_Table_number_v2 k 54 a1 o0_all o0_prog o0_locs b0).bind fun (x1_2_0,x1_2_1)=>
    some (x1_2_0,x1_2_1)
def decl_Table_iso (k:Nat) (a1:TNode) (o0_all:List (Int × Tdecl_kinds)) (o0_prog:TNode) (o0_locs:Int) (b0:List Int):Option (List Int × Int × Int × Int) :=
    (ix a1.Kids 0).bind fun x1_2=>
    (decl_Table_Recs k o0_all o0_prog o0_locs b0).bind fun x1_5=>
    (decl_typed k x1_2 x1_5 false).bind fun (x1_6_0,x1_6_1)=>
    if (x1_6_1 != 0) then
    some (b0,x1_6_0,x1_6_1,o0_locs)
    else
    if (decide (a1.N > 64)) then
    some (b0,a1.At,2,o0_locs)
    else
    if (room 8 (b0.length + [o0_locs].length)) then
    (ix a1.Kids 0).bind fun x8_2=>
    (decl_Table_Recs k o0_all o0_prog (IntKind.i64.wrap (o0_locs + (mx 1 a1.N))) (b0 ++ [o0_locs])).bind fun x8_5=>
    (kind_Zero k x8_2 x8_5).bind fun (x8_6_0,x8_6_1)=>
    if ((!x8_6_1) || (decide ((IntKind.i64.wrap (o0_locs + (mx 1 a1.N))) > 256))) then
    some ((b0 ++ [o0_locs]),a1.At,13,(IntKind.i64.wrap (o0_locs + (mx 1 a1.N))))
    else
    if (decide ((a1.Kids.length:Int) < 2)) then
    some ((b0 ++ [o0_locs]),0,0,(IntKind.i64.wrap (o0_locs + (mx 1 a1.N))))
    else
    (ix a1.Kids 1).bind fun x13_2=>
    (decl_Table_Merge k x13_2.Name o0_all o0_prog (IntKind.i64.wrap (o0_locs + (mx 1 a1.N))) (b0 ++ [o0_locs])).bind fun (x14_3_0,x14_3_1)=>
    if (!x14_3_1) then
    some ((b0 ++ [o0_locs]),x13_2.At,5,(IntKind.i64.wrap (o0_locs + (mx 1 a1.N))))
    else
    (ix (((mgetI 54 o0_all).getD (Tdecl_kinds.mk [] [])).list) x14_3_0).bind fun x17_7=>
    (ix x17_7.Kids 0).bind fun x17_10=>
    (ix x17_10.Kids 0).bind fun x17_13=>
    (ix a1.Kids 0).bind fun x17_17=>
    (tree_Same k x17_13 x17_17).bind fun x17_19=>
    if (!x17_19) then
    some ((b0 ++ [o0_locs]),x13_2.At,7,(IntKind.i64.wrap (o0_locs + (mx 1 a1.N))))
    else
    some ((b0 ++ [o0_locs]),0,0,(IntKind.i64.wrap (o0_locs + (mx 1 a1.N))))
    else none
def decl_Table_stand (k:Nat) (o0_all:List (Int × Tdecl_kinds)) (o0_prog:TNode) (o0_locs:Int) (b0:List Int):Option (List Int × Int × Int × Int) :=
    joinK (fun ((j0_bclext06,j0_oext0_7):List Int × Int)=>
    some (j0_bclext06,0,0,j0_oext0_7)) fun j_j0=>
    (decl_Table_decls_v2 k o0_all o0_prog o0_locs b0).bind fun x2_1=>
    loopM k (fun ((l1_bclext06,l1_4,l1_13,l1_oext0_7):List Int × Int × Int × Int)=>
    if (decide (l1_13 < (x2_1.length:Int))) then
    (ix x2_1 l1_13).bind fun x4_0=>
    joinK (fun ((j2_bclext06,j2_4,j2_7,j2_8,j2_oext0_7):List Int × Int × Int × Int × Int)=>
    if (j2_8 != 0) then
    some (.inr (j2_bclext06,j2_7,j2_8,j2_oext0_7))
    else
    some (.inl (j2_bclext06,j2_4,(IntKind.i64.wrap (l1_13 + 1)),j2_oext0_7))) fun j_j2=>
    if (x4_0.Kind == 51) then
    (decl_Table_Recs k o0_all o0_prog l1_oext0_7 l1_bclext06).bind fun x8_4=>
    (sub x8_4 0 l1_4).bind fun x8_6=>
    (decl_Table_params k x4_0.Kids x8_6 x4_0.Kind o0_all o0_prog l1_oext0_7 l1_bclext06).bind fun (x8_9_0,x8_9_1)=>
    j_j2 (l1_bclext06,(IntKind.i64.wrap (l1_4 + 1)),x8_9_0,x8_9_1,l1_oext0_7)
    else
    if (x4_0.Kind == 52) then
    (decl_Table_iso k x4_0 o0_all o0_prog l1_oext0_7 l1_bclext06).bind fun (x11_2_0,x11_2_1,x11_2_2,x11_2_3)=>
    j_j2 (x11_2_0,l1_4,x11_2_1,x11_2_2,x11_2_3)
    else
    if (x4_0.Kind == 54) then
    (sub x4_0.Kids 0 3).bind fun x13_3=>
    (decl_Table_Recs k o0_all o0_prog l1_oext0_7 l1_bclext06).bind fun x13_5=>
    (decl_Table_params k x13_3 x13_5 x4_0.Kind o0_all o0_prog l1_oext0_7 l1_bclext06).bind fun (x13_8_0,x13_8_1)=>
    j_j2 (l1_bclext06,l1_4,x13_8_0,x13_8_1,l1_oext0_7)
    else
    if (x4_0.Kind == 53) then
    (sub x4_0.Kids 0 (IntKind.i64.wrap ((x4_0.Kids.length:Int) - 2))).bind fun x16_4=>
    (decl_Table_Recs k o0_all o0_prog l1_oext0_7 l1_bclext06).bind fun x16_6=>
    (decl_Table_params k x16_4 x16_6 x4_0.Kind o0_all o0_prog l1_oext0_7 l1_bclext06).bind fun (x16_9_0,x16_9_1)=>
    if (x16_9_1 == 0) then
    (ix x4_0.Kids (IntKind.i64.wrap ((x4_0.Kids.length:Int) - 2))).bind fun x18_3=>
    (decl_Table_Recs k o0_all o0_prog l1_oext0_7 l1_bclext06).bind fun x18_6=>
    (decl_typed k x18_3 x18_6 true).bind fun (x18_7_0,x18_7_1)=>
    j_j2 (l1_bclext06,l1_4,x18_7_0,x18_7_1,l1_oext0_7)
    else
    j_j2 (l1_bclext06,l1_4,x16_9_0,x16_9_1,l1_oext0_7)
    else
    j_j2 (l1_bclext06,l1_4,0,0,l1_oext0_7)
    else
    (j_j0 (l1_bclext06,l1_oext0_7)).map .inr) (b0,0,0,o0_locs)
def decl_Of (k:Nat) (a0:TNode):Option (Option Tdecl_Table × Int × Int) :=
    (tree_Prog k a0).bind fun x1_1=>
    if (!x1_1) then
    some (none,0,1)
    else
    (decl_Table_names k a0 0 [] [] [] [] [] [] [] []).bind fun (x_0,x_1,x_2,x_3,x_4,x_5,x_6,x_7,x_8,x_9)=>
    if (x_5 != 0) then
    some (none,x_4,x_5)
    else
    (decl_Table_stand k [(51,(Tdecl_kinds.mk x_0 x_6)),(52,(Tdecl_kinds.mk x_1 x_7)),(53,(Tdecl_kinds.mk x_2 x_8)),(54,(Tdecl_kinds.mk x_3 x_9))] a0 0 []).bind fun (y_0,y_1,y_2,y_3)=>
    if (y_2 != 0) then
    some (none,y_1,y_2)
    else
    some ((some (Tdecl_Table.mk [(51,(Tdecl_kinds.mk x_0 x_6)),(52,(Tdecl_kinds.mk x_1 x_7)),(53,(Tdecl_kinds.mk x_2 x_8)),(54,(Tdecl_kinds.mk x_3 x_9))] a0 y_0 y_3)),0,0)
def ends_Body (k:Nat) (a0:TNode):Option Bool :=
    if ((a0.Kind == 54) && (decide ((IntKind.i64.wrap ((a0.Kids.length:Int) - 1)) ≥ 0))) then
    (ix a0.Kids (IntKind.i64.wrap ((a0.Kids.length:Int) - 1))).bind fun x3_3=>
    (ends_Stmt k x3_3).bind fun x3_5=>
    some x3_5
    else
    joinK (fun (g4_16_39:Bool)=>
    if g4_16_39 then
    (ix a0.Kids (IntKind.i64.wrap ((a0.Kids.length:Int) - 1))).bind fun x5_3=>
    (ends_Stmt k x5_3).bind fun x5_5=>
    some x5_5
    else
    some true) fun j_g4_16=>
    if ((a0.Kind == 53) && (decide ((IntKind.i64.wrap ((a0.Kids.length:Int) - 1)) ≥ 1))) then
    (ix a0.Kids (IntKind.i64.wrap ((IntKind.i64.wrap ((a0.Kids.length:Int) - 1)) - 1))).bind fun x4_12=>
    j_g4_16 (x4_12.Kind != 0)
    else
    j_g4_16 false
def decl_Table_Bodies (k:Nat) (a0:Option Tdecl_Table):Option (List TNode) :=
    if a0.isNone then
    some []
    else
    joinK (fun (j0_3:List TNode)=>
    some j0_3) fun j_j0=>
    a0.bind fun x4_1=>
    loopM k (fun ((l1_3,l1_14):List TNode × Int)=>
    if (decide (l1_14 < (x4_1.prog.Kids.length:Int))) then
    joinK (fun (j2_3:List TNode)=>
    some (.inl (j2_3,(IntKind.i64.wrap (l1_14 + 1))))) fun j_j2=>
    (ix x4_1.prog.Kids l1_14).bind fun x6_0=>
    if ((x6_0.Kind != 51) && (x6_0.Kind != 52)) then
    if (room 64 (l1_3.length + [x6_0].length)) then
    j_j2 (l1_3 ++ [x6_0])
    else none
    else
    j_j2 l1_3
    else
    (j_j0 l1_3).map .inr) ([],0)
def ends_All (k:Nat) (a0:Option Tdecl_Table):Option (Int × Int) :=
    joinK (fun (_:Unit)=>
    some (0,0)) fun j_j0=>
    (decl_Table_Bodies k a0).bind fun x1_1=>
    loopM k (fun (l1_9:Int)=>
    if (decide (l1_9 < (x1_1.length:Int))) then
    (ix x1_1 l1_9).bind fun x3_0=>
    (ends_Body k x3_0).bind fun x4_1=>
    if (!x4_1) then
    some (.inr (x3_0.At,9))
    else
    some (.inl (IntKind.i64.wrap (l1_9 + 1)))
    else
    (j_j0 ()).map .inr) 0
def ref10_class (k:Nat) (a0:Int):Option Int :=
    if (((a0 == 95) || ((decide (a0 ≥ 97)) && (decide (a0 ≤ 122)))) || ((decide (a0 ≥ 65)) && (decide (a0 ≤ 90)))) then
    some 1
    else
    if ((decide (a0 ≥ 48)) && (decide (a0 ≤ 57))) then
    some 2
    else
    if ((((a0 == 32) || (a0 == 9)) || (a0 == 10)) || (a0 == 13)) then
    some 3
    else
    if (a0 == 35) then
    some 4
    else
    some 0
def ref09_All (k:Nat):Option (List (List UInt8)) :=
    some [[114,101,99],[105,115,111],[102,117,110],[109,101,114,103,101],[109,97,105,110],[118,97,114],[105,102],[101,108,115,101],[119,104,105,108,101],[114,101,116,117,114,110],[102,111,114,107],[106,111,105,110],[112,114,105,110,116],[110,101,119],[98,121],[105,110,116],[98,111,111,108],[114,101,118],[116,114,117,101],[102,97,108,115,101]]
def ref09_Is (k:Nat) (a0:List UInt8):Option Bool :=
    (ref09_All k).bind fun x1_0=>
    joinK (fun (_:Unit)=>
    some false) fun j_j0=>
    loopM k (fun (l1_4:Int)=>
    if (decide (l1_4 < (x1_0.length:Int))) then
    (ix x1_0 l1_4).bind fun x5_2=>
    if (x5_2 == a0) then
    some (.inr true)
    else
    some (.inl (IntKind.i64.wrap (l1_4 + 1)))
    else
    (j_j0 ()).map .inr) 0
def ref01_Read (k:Nat) (a0:List UInt8):Option (Int × Int) :=
    if (a0 == []) then
    some (0,1)
    else
    joinK (fun ((j0_4,j0_5):Int × Bool)=>
    if (j0_5 || (decide (j0_4 ≥ 9223372036854775808))) then
    some (0,2)
    else
    some ((IntKind.i64.wrap j0_4),0)) fun j_j0=>
    loopM k (fun ((l1_4,l1_5,l1_6):Int × Bool × Int)=>
    if (decide (l1_6 < (a0.length:Int))) then
    joinK (fun ((j2_4,j2_5):Int × Bool)=>
    some (.inl (j2_4,j2_5,(IntKind.i64.wrap (l1_6 + 1))))) fun j_j2=>
    (ix a0 l1_6).bind fun x8_2=>
    joinK (fun (g8_9_24:Bool)=>
    if g8_9_24 then
    some (.inr (0,1))
    else
    joinK (fun (j3_5:Bool)=>
    if (!j3_5) then
    (ix a0 l1_6).bind fun x13_4=>
    j_j2 ((IntKind.u64.wrap ((IntKind.u64.wrap (10 * l1_4)) + (IntKind.u64.wrap (IntKind.u8.wrap ((x13_4.toNat:Int) - 48))))),j3_5)
    else
    j_j2 (l1_4,j3_5)) fun j_j3=>
    if (decide (l1_4 > 1000000000000000000)) then
    j_j3 true
    else
    j_j3 l1_5) fun j_g8_9=>
    if (decide ((x8_2.toNat:Int) < 48)) then
    j_g8_9 true
    else
    (ix a0 l1_6).bind fun x8_7=>
    j_g8_9 (decide ((x8_7.toNat:Int) > 57))
    else
    (j_j0 (l1_4,l1_5)).map .inr) (0,false,0)
def ref09_Spell (k:Nat) (a0:Int):Option (List UInt8) :=
    if ((decide (a0 < 1)) || (decide (a0 > 14))) then
    some []
    else
    (ix [[43],[45],[42],[47],[37],[61,61],[33,61],[60],[60,61],[62],[62,61],[38,38],[124,124],[33]] (IntKind.i64.wrap (a0 - 1))).bind fun x4_3=>
    some x4_3
def ref09_Mark (k:Nat) (a0:List UInt8):Option (List UInt8) :=
    joinK (fun (j0_3:List (List UInt8))=>
    joinK (fun (j2_5:List UInt8)=>
    some j2_5) fun j_j2=>
    loopM k (fun ((l3_5,l3_6):List UInt8 × Int)=>
    if (decide (l3_6 < (j0_3.length:Int))) then
    joinK (fun (j4_5:List UInt8)=>
    some (.inl (j4_5,(IntKind.i64.wrap (l3_6 + 1))))) fun j_j4=>
    (ix j0_3 l3_6).bind fun x10_2=>
    joinK (fun (g10_21_44:Bool)=>
    joinK (fun (g10_31_54:Bool)=>
    if g10_31_54 then
    (ix j0_3 l3_6).bind fun x11_2=>
    j_j4 x11_2
    else
    j_j4 l3_5) fun j_g10_31=>
    if g10_21_44 then
    (ix j0_3 l3_6).bind fun x10_25=>
    j_g10_31 (decide ((x10_25.length:Int) > (l3_5.length:Int)))
    else
    j_g10_31 false) fun j_g10_21=>
    if (decide ((x10_2.length:Int) ≤ (a0.length:Int))) then
    (ix j0_3 l3_6).bind fun x10_12=>
    (sub a0 0 (x10_12.length:Int)).bind fun x10_15=>
    (ix j0_3 l3_6).bind fun x10_18=>
    j_g10_21 (x10_15 == x10_18)
    else
    j_g10_21 false
    else
    (j_j2 l3_5).map .inr) ([],0)) fun j_j0=>
    loopM k (fun ((l1_3,l1_4):List (List UInt8) × Int)=>
    if (decide (l1_4 ≤ 14)) then
    (ref09_Spell k l1_4).bind fun x5_2=>
    if (room 16 (l1_3.length + [x5_2].length)) then
    some (.inl ((l1_3 ++ [x5_2]),(IntKind.i64.wrap (l1_4 + 1))))
    else none
    else
    (j_j0 l1_3).map .inr) ([[40],[41],[123],[125],[91],[93],[44],[59],[46],[61]],1)
def ref10_one (k:Nat) (a0:List UInt8) (a1:Int):Option (TToken × Int) :=
    (ix a0 a1).bind fun x1_2=>
    (ref10_class k (x1_2.toNat:Int)).bind fun x1_3=>
    if (x1_3 == 1) then
    joinK (fun (j0_7:Int)=>
    (sub a0 a1 j0_7).bind fun x6_4=>
    joinK (fun (j2_oloc8_0:Int)=>
    if (decide ((x6_4.length:Int) > 32)) then
    some ((TToken.mk j2_oloc8_0 a1 0 x6_4),3)
    else
    some ((TToken.mk j2_oloc8_0 a1 0 x6_4),0)) fun j_j2=>
    (ref09_Is k x6_4).bind fun x7_2=>
    if x7_2 then
    j_j2 3
    else
    j_j2 1) fun j_j0=>
    loopM k (fun (l1_7:Int)=>
    joinK (fun (g4_17_36:Bool)=>
    if g4_17_36 then
    some (.inl (IntKind.i64.wrap (l1_7 + 1)))
    else
    (j_j0 l1_7).map .inr) fun j_g4_17=>
    if (decide (l1_7 < (a0.length:Int))) then
    (ix a0 l1_7).bind fun x4_7=>
    (ref10_class k (x4_7.toNat:Int)).bind fun x4_8=>
    joinK (fun (g4_16_35:Bool)=>
    j_g4_17 g4_16_35) fun j_g4_16=>
    if (x4_8 == 1) then
    j_g4_16 true
    else
    (ix a0 l1_7).bind fun x4_13=>
    (ref10_class k (x4_13.toNat:Int)).bind fun x4_14=>
    j_g4_16 (x4_14 == 2)
    else
    j_g4_17 false) a1
    else
    if (x1_3 == 2) then
    joinK (fun (j3_7:Int)=>
    (sub a0 a1 j3_7).bind fun x15_3=>
    (ref01_Read k x15_3).bind fun (x15_4_0,x15_4_1)=>
    (sub a0 a1 j3_7).bind fun x16_5=>
    some ((TToken.mk 2 a1 x15_4_0 x16_5),x15_4_1)) fun j_j3=>
    loopM k (fun (l4_7:Int)=>
    joinK (fun (g13_10_67:Bool)=>
    if g13_10_67 then
    some (.inl (IntKind.i64.wrap (l4_7 + 1)))
    else
    (j_j3 l4_7).map .inr) fun j_g13_10=>
    if (decide (l4_7 < (a0.length:Int))) then
    (ix a0 l4_7).bind fun x13_7=>
    (ref10_class k (x13_7.toNat:Int)).bind fun x13_8=>
    j_g13_10 (x13_8 == 2)
    else
    j_g13_10 false) a1
    else
    (sub a0 a1 (mn (IntKind.i64.wrap (a1 + 2)) (a0.length:Int))).bind fun x17_7=>
    (ref09_Mark k x17_7).bind fun x17_8=>
    if (x17_8 == []) then
    some ((TToken.mk 0 a1 0 []),1)
    else
    some ((TToken.mk 4 a1 0 x17_8),0)
def ref10_All (k:Nat) (a0:List UInt8):Option (List TToken × Int × Int) :=
    if (decide ((a0.length:Int) > 16384)) then
    some ([],16384,3)
    else
    joinK (fun (j0_5:List TToken)=>
    if (room 40 (j0_5.length + [(TToken.mk 0 (a0.length:Int) 0 [])].length)) then
    some ((j0_5 ++ [(TToken.mk 0 (a0.length:Int) 0 [])]),0,0)
    else none) fun j_j0=>
    loopM k (fun ((l1_5,l1_6):List TToken × Int)=>
    if (decide (l1_6 < (a0.length:Int))) then
    (ix a0 l1_6).bind fun x6_2=>
    (ref10_class k (x6_2.toNat:Int)).bind fun x6_3=>
    if (x6_3 == 3) then
    some (.inl (l1_5,(IntKind.i64.wrap (l1_6 + 1))))
    else
    if (x6_3 == 4) then
    joinK (fun (j2_6:Int)=>
    some (.inl (l1_5,j2_6))) fun j_j2=>
    loopM k (fun (l3_6:Int)=>
    joinK (fun (g10_9_36:Bool)=>
    if g10_9_36 then
    some (.inl (IntKind.i64.wrap (l3_6 + 1)))
    else
    (j_j2 l3_6).map .inr) fun j_g10_9=>
    if (decide (l3_6 < (a0.length:Int))) then
    (ix a0 l3_6).bind fun x10_7=>
    j_g10_9 ((x10_7.toNat:Int) != 10)
    else
    j_g10_9 false) l1_6
    else
    (ref10_one k a0 l1_6).bind fun (x12_2_0,x12_2_1)=>
    if (x12_2_1 != 0) then
    some (.inr ([],l1_6,x12_2_1))
    else
    if (room 40 (l1_5.length + [x12_2_0].length)) then
    some (.inl ((l1_5 ++ [x12_2_0]),(IntKind.i64.wrap (l1_6 + (x12_2_0.Text.length:Int)))))
    else none
    else
    (j_j0 l1_5).map .inr) ([],0)
def ref02_At (k:Nat) (a0:List UInt8) (a1:Int):Option (Int × Int) :=
    joinK (fun (j0_1:Int)=>
    joinK (fun (j1_1:Int)=>
    joinK (fun ((j2_6,j2_7):Int × Int)=>
    some (j2_6,j2_7)) fun j_j2=>
    loopM k (fun ((l3_6,l3_7,l3_8):Int × Int × Int)=>
    if (decide (l3_8 < j1_1)) then
    joinK (fun ((j4_6,j4_7):Int × Int)=>
    some (.inl (j4_6,j4_7,(IntKind.i64.wrap (l3_8 + 1))))) fun j_j4=>
    (ix a0 l3_8).bind fun x10_2=>
    if ((x10_2.toNat:Int) == 10) then
    j_j4 ((IntKind.i64.wrap (l3_6 + 1)),1)
    else
    j_j4 (l3_6,(IntKind.i64.wrap (l3_7 + 1)))
    else
    (j_j2 (l3_6,l3_7)).map .inr) (1,1,0)) fun j_j1=>
    if (decide (j0_1 > (a0.length:Int))) then
    j_j1 (a0.length:Int)
    else
    j_j1 j0_1) fun j_j0=>
    if (decide (a1 < 0)) then
    j_j0 0
    else
    j_j0 a1
def ref15_at (k:Nat) (a0:List UInt8) (a1:Int) (a2:Int):Option Tref15_Got :=
    (ref02_At k a0 a1).bind fun (x1_2_0,x1_2_1)=>
    some (Tref15_Got.mk (TNode.mk 0 0 0 [] []) a1 x1_2_0 x1_2_1 a2)
def ref12_mark (k:Nat) (a0:TToken):Option Int :=
    if (a0.Kind != 4) then
    some 0
    else
    if (((a0.Text == [40]) || (a0.Text == [91])) || (a0.Text == [123])) then
    some 1
    else
    if (((a0.Text == [41]) || (a0.Text == [93])) || (a0.Text == [125])) then
    some 2
    else
    if ((a0.Text == [45]) || (a0.Text == [33])) then
    some 3
    else
    some 0
def ref12_At (k:Nat) (a0:List TToken):Option (List (Int × Int)) :=
    joinK (fun (j0_3:List (Int × Int))=>
    some j0_3) fun j_j0=>
    loopM k (fun ((l1_3,l1_4,l1_5,l1_6):(List (Int × Int)) × Int × Int × Int)=>
    if (decide (l1_6 < (a0.length:Int))) then
    (ix a0 l1_6).bind fun x6_2=>
    (ref12_mark k x6_2).bind fun x6_4=>
    joinK (fun (j2_4:Int)=>
    joinK (fun (j3_4:Int)=>
    joinK (fun (j4_5:Int)=>
    if (room 16 (l1_3.length + [(j3_4,j4_5)].length)) then
    some (.inl ((l1_3 ++ [(j3_4,j4_5)]),j3_4,j4_5,(IntKind.i64.wrap (l1_6 + 1))))
    else none) fun j_j4=>
    if (x6_4 == 3) then
    j_j4 (IntKind.i64.wrap (l1_5 + 1))
    else
    j_j4 0) fun j_j3=>
    if ((x6_4 == 2) && (decide (j2_4 > 0))) then
    j_j3 (IntKind.i64.wrap (j2_4 - 1))
    else
    j_j3 j2_4) fun j_j2=>
    if (x6_4 == 1) then
    j_j2 (IntKind.i64.wrap (l1_4 + 1))
    else
    j_j2 l1_4
    else
    (j_j0 l1_3).map .inr) ([],0,0,0)
def ref12_Check (k:Nat) (a0:List TToken):Option (Int × Int) :=
    (ref12_At k a0).bind fun x1_1=>
    joinK (fun (_:Unit)=>
    some (0,0)) fun j_j0=>
    loopM k (fun (l1_5:Int)=>
    if (decide (l1_5 < (a0.length:Int))) then
    (ix x1_1 l1_5).bind fun x5_2=>
    joinK (fun (g5_13_27:Bool)=>
    if g5_13_27 then
    (ix a0 l1_5).bind fun x6_2=>
    some (.inr (x6_2.At,4))
    else
    some (.inl (IntKind.i64.wrap (l1_5 + 1)))) fun j_g5_13=>
    if (decide (x5_2.1 > 60)) then
    j_g5_13 true
    else
    (ix x1_1 l1_5).bind fun x5_9=>
    j_g5_13 (decide (x5_9.2 > 60))
    else
    (j_j0 ()).map .inr) 0
def ref13_Tok (k:Nat) (a0:List TToken) (a1:Int):Option TToken :=
    if ((decide (a1 < 0)) || (decide (a1 ≥ (a0.length:Int)))) then
    some (TToken.mk 0 0 0 [])
    else
    (ix a0 a1).bind fun x3_2=>
    some x3_2
def ref13_Says (k:Nat) (a0:List TToken) (a1:Int) (a2:List UInt8):Option Bool :=
    (ref13_Tok k a0 a1).bind fun x1_2=>
    some ((x1_2.Kind == 3) && (x1_2.Text == a2))
def ref14_fail (k:Nat) (a0:Int):Option Tref14_Got :=
    some (Tref14_Got.mk (TNode.mk 0 0 0 [] []) a0 false)
def ref13_Is (k:Nat) (a0:List TToken) (a1:Int) (a2:List UInt8):Option Bool :=
    (ref13_Tok k a0 a1).bind fun x1_2=>
    some ((x1_2.Kind == 4) && (x1_2.Text == a2))
def ref14_closed (k:Nat) (a0:List TToken) (a1:Tref14_Got) (a2:TNode) (a3:List UInt8):Option Tref14_Got :=
    joinK (fun (g1_10_19:Bool)=>
    if g1_10_19 then
    (ref14_fail k a1.At).bind fun x2_2=>
    some x2_2
    else
    some (Tref14_Got.mk a2 (IntKind.i64.wrap (a1.At + 1)) true)) fun j_g1_10=>
    if (!a1.Ok) then
    j_g1_10 true
    else
    (ref13_Is k a0 a1.At a3).bind fun x1_8=>
    j_g1_10 (!x1_8)
def ref13_Type:Nat→List TToken→Int→Option (TNode × Int × Bool)
  | 0,_,_=>none
  | k + 1,a0,a1=>
    (ref13_Tok k a0 a1).bind fun x1_2=>
    if (x1_2.Kind == 1) then
    some ((TNode.mk 4 x1_2.At 0 x1_2.Text []),(IntKind.i64.wrap (a1 + 1)),true)
    else
    (ref13_Says k a0 a1 [105,110,116]).bind fun x4_2=>
    if x4_2 then
    some ((TNode.mk 1 x1_2.At 0 [] []),(IntKind.i64.wrap (a1 + 1)),true)
    else
    (ref13_Says k a0 a1 [98,111,111,108]).bind fun x6_2=>
    if x6_2 then
    some ((TNode.mk 2 x1_2.At 0 [] []),(IntKind.i64.wrap (a1 + 1)),true)
    else
    (ref13_Says k a0 a1 [114,101,118]).bind fun x8_2=>
    if x8_2 then
    some ((TNode.mk 3 x1_2.At 0 [] []),(IntKind.i64.wrap (a1 + 1)),true)
    else
    (ref13_Is k a0 a1 [91]).bind fun x10_2=>
    if (!x10_2) then
    some ((TNode.mk 0 0 0 [] []),a1,false)
    else
    (ref13_Is k a0 (IntKind.i64.wrap (a1 + 1)) [93]).bind fun x12_3=>
    if (!x12_3) then
    some ((TNode.mk 0 0 0 [] []),(IntKind.i64.wrap (a1 + 1)),false)
    else
    (ref13_Type k a0 (IntKind.i64.wrap (a1 + 2))).bind fun (x14_3_0,x14_3_1,x14_3_2)=>
    if (!x14_3_2) then
    some ((TNode.mk 0 0 0 [] []),x14_3_1,false)
    else
    some ((TNode.mk 5 x1_2.At 0 [] [x14_3_0]),x14_3_1,true)
def ref14_iso (k:Nat) (a0:List TToken) (a1:Int) (a2:TNode):Option Tref14_Got :=
    joinK (fun ((j0_1,j0_oloc5_2):Int × Int)=>
    (ref13_Type k a0 j0_1).bind fun (x9_2_0,x9_2_1,x9_2_2)=>
    if (!x9_2_2) then
    (ref14_fail k x9_2_1).bind fun x11_1=>
    some x11_1
    else
    joinK (fun ((j1_9,j1_oloc5_4):Int × List TNode)=>
    (ref14_closed k a0 (Tref14_Got.mk (TNode.mk a2.Kind a2.At j0_oloc5_2 a2.Name j1_oloc5_4) j1_9 true) (TNode.mk a2.Kind a2.At j0_oloc5_2 a2.Name j1_oloc5_4) [59]).bind fun x19_5=>
    some x19_5) fun j_j1=>
    (ref13_Says k a0 x9_2_1 [98,121]).bind fun x13_2=>
    if x13_2 then
    (ref13_Tok k a0 (IntKind.i64.wrap (x9_2_1 + 1))).bind fun x14_3=>
    if (x14_3.Kind != 1) then
    (ref14_fail k (IntKind.i64.wrap (x9_2_1 + 1))).bind fun x16_2=>
    some x16_2
    else
    if (room 64 ([x9_2_0].length + [(TNode.mk 12 x14_3.At 0 x14_3.Text [])].length)) then
    j_j1 ((IntKind.i64.wrap (x9_2_1 + 2)),([x9_2_0] ++ [(TNode.mk 12 x14_3.At 0 x14_3.Text [])]))
    else none
    else
    j_j1 (x9_2_1,[x9_2_0])) fun j_j0=>
    (ref13_Is k a0 a1 [91]).bind fun x1_2=>
    joinK (fun (g1_9_21:Bool)=>
    if g1_9_21 then
    (ref13_Tok k a0 (IntKind.i64.wrap (a1 + 1))).bind fun x2_3=>
    if ((x2_3.Kind != 2) || (x2_3.N == 0)) then
    (ref14_fail k (IntKind.i64.wrap (a1 + 1))).bind fun x4_2=>
    some x4_2
    else
    (ref13_Is k a0 (IntKind.i64.wrap (a1 + 2)) [93]).bind fun x5_3=>
    if (!x5_3) then
    (ref14_fail k (IntKind.i64.wrap (a1 + 2))).bind fun x6_2=>
    some x6_2
    else
    j_j0 ((IntKind.i64.wrap (a1 + 3)),x2_3.N)
    else
    j_j0 (a1,a2.N)) fun j_g1_9=>
    if x1_2 then
    (ref13_Is k a0 (IntKind.i64.wrap (a1 + 1)) [93]).bind fun x1_7=>
    j_g1_9 (!x1_7)
    else
    j_g1_9 false
def ref14_param (k:Nat) (a0:List TToken) (a1:Int):Option Tref14_Got :=
    (ref13_Tok k a0 a1).bind fun x1_2=>
    if (x1_2.Kind != 1) then
    (ref14_fail k a1).bind fun x3_1=>
    some x3_1
    else
    (ref13_Type k a0 (IntKind.i64.wrap (a1 + 1))).bind fun (x4_3_0,x4_3_1,x4_3_2)=>
    if (!x4_3_2) then
    (ref14_fail k x4_3_1).bind fun x6_1=>
    some x6_1
    else
    some (Tref14_Got.mk (TNode.mk 50 x1_2.At 0 x1_2.Text [x4_3_0]) x4_3_1 true)
def ref14_rec_v2 (k:Nat) (a0:List TToken) (a1:Int) (a2_0:Int) (a2_1:Int) (a2_2:Int) (a2_3:List UInt8) (a2_4:List TNode):Option Tref14_Got :=
    (ref13_Is k a0 a1 [123]).bind fun x1_2=>
    if (!x1_2) then
    (ref14_fail k a1).bind fun x2_1=>
    some x2_1
    else
    loopM k (fun ((l0_bclloc54,l0_1):List TNode × Int)=>
    (ref14_param k a0 l0_1).bind fun x4_2=>
    (ref14_closed k a0 x4_2 (TNode.mk x4_2.N.Kind x4_2.N.At x4_2.N.N x4_2.N.Name x4_2.N.Kids) [59]).bind fun x5_4=>
    if (!x5_4.Ok) then
    some (.inr x5_4)
    else
    if (room 64 (l0_bclloc54.length + [(TNode.mk x5_4.N.Kind x5_4.N.At x5_4.N.N x5_4.N.Name x5_4.N.Kids)].length)) then
    (ref13_Is k a0 x5_4.At [125]).bind fun x10_2=>
    if x10_2 then
    some (.inr (Tref14_Got.mk (TNode.mk a2_0 a2_1 a2_2 a2_3 (l0_bclloc54 ++ [(TNode.mk x5_4.N.Kind x5_4.N.At x5_4.N.N x5_4.N.Name x5_4.N.Kids)])) (IntKind.i64.wrap (x5_4.At + 1)) true))
    else
    some (.inl ((l0_bclloc54 ++ [(TNode.mk x5_4.N.Kind x5_4.N.At x5_4.N.N x5_4.N.Name x5_4.N.Kids)]),x5_4.At))
    else none) (a2_4,(IntKind.i64.wrap (a1 + 1)))
def ref09_Bind (k:Nat) (a0:Int):Option Int :=
    if ((decide (a0 ≥ 1)) && (decide (a0 ≤ 2))) then
    some 4
    else
    if ((decide (a0 ≥ 3)) && (decide (a0 ≤ 5))) then
    some 5
    else
    if ((decide (a0 ≥ 6)) && (decide (a0 ≤ 11))) then
    some 3
    else
    if (a0 == 12) then
    some 2
    else
    if (a0 == 13) then
    some 1
    else
    some 0
def ref13_sign (k:Nat) (a0:List TToken) (a1:Int) (a2:Int):Option Int :=
    (ref13_Tok k a0 a1).bind fun x1_2=>
    joinK (fun (_:Unit)=>
    some 0) fun j_j0=>
    loopM k (fun (l1_8:Int)=>
    if (decide (l1_8 ≤ 14)) then
    joinK (fun (g5_9_25:Bool)=>
    joinK (fun (g5_15_31:Bool)=>
    if g5_15_31 then
    some (.inr l1_8)
    else
    some (.inl (IntKind.i64.wrap (l1_8 + 1)))) fun j_g5_15=>
    if g5_9_25 then
    (ref09_Bind k l1_8).bind fun x5_12=>
    j_g5_15 (x5_12 == a2)
    else
    j_g5_15 false) fun j_g5_9=>
    if (x1_2.Kind == 4) then
    (ref09_Spell k l1_8).bind fun x5_5=>
    j_g5_9 (x5_5 == x1_2.Text)
    else
    j_g5_9 false
    else
    (j_j0 ()).map .inr) 1
mutual
def ref13_Args:Nat→List TToken→Int→Option (List TNode × Int × Bool)
  | 0,_,_=>none
  | k + 1,a0,a1=>
    (ref13_Is k a0 a1 [40]).bind fun x1_2=>
    if (!x1_2) then
    some ([],a1,false)
    else
    (ref13_Is k a0 (IntKind.i64.wrap (a1 + 1)) [41]).bind fun x4_2=>
    if x4_2 then
    some ([],(IntKind.i64.wrap ((IntKind.i64.wrap (a1 + 1)) + 1)),true)
    else
    loopM k (fun ((l0_7,l0_1):List TNode × Int)=>
    (ref13_Expr k a0 l0_1).bind fun (x7_2_0,x7_2_1,x7_2_2)=>
    if (!x7_2_2) then
    some (.inr ([],x7_2_1,false))
    else
    if (room 64 (l0_7.length + [x7_2_0].length)) then
    (ref13_Is k a0 x7_2_1 [41]).bind fun x11_2=>
    if x11_2 then
    some (.inr ((l0_7 ++ [x7_2_0]),(IntKind.i64.wrap (x7_2_1 + 1)),true))
    else
    (ref13_Is k a0 x7_2_1 [44]).bind fun x13_2=>
    if (!x13_2) then
    some (.inr ([],x7_2_1,false))
    else
    some (.inl ((l0_7 ++ [x7_2_0]),(IntKind.i64.wrap (x7_2_1 + 1))))
    else none) ([],(IntKind.i64.wrap (a1 + 1)))
def ref13_Expr:Nat→List TToken→Int→Option (TNode × Int × Bool)
  | 0,_,_=>none
  | k + 1,a0,a1=>
    (ref13_level k a0 a1 1).bind fun (x1_2_0,x1_2_1,x1_2_2)=>
    some (x1_2_0,x1_2_1,x1_2_2)
def ref13_level:Nat→List TToken→Int→Int→Option (TNode × Int × Bool)
  | 0,_,_,_=>none
  | k + 1,a0,a1,a2=>
    if (decide (a2 > 5)) then
    (ref13_factor k a0 a1).bind fun (x2_2_0,x2_2_1,x2_2_2)=>
    some (x2_2_0,x2_2_1,x2_2_2)
    else
    (ref13_level k a0 a1 (IntKind.i64.wrap (a2 + 1))).bind fun (x3_4_0,x3_4_1,x3_4_2)=>
    if (!x3_4_2) then
    some ((TNode.mk 0 0 0 [] []),x3_4_1,false)
    else
    loopM k (fun ((l0_10,l0_oloc9):Int × TNode)=>
    (ref13_sign k a0 l0_10 a2).bind fun x6_3=>
    if (x6_3 == 0) then
    some (.inr (l0_oloc9,l0_10,true))
    else
    (ref13_level k a0 (IntKind.i64.wrap (l0_10 + 1)) (IntKind.i64.wrap (a2 + 1))).bind fun (x9_5_0,x9_5_1,x9_5_2)=>
    if (!x9_5_2) then
    some (.inr ((TNode.mk 0 0 0 [] []),x9_5_1,false))
    else
    (ref13_Tok k a0 l0_10).bind fun x12_2=>
    if (a2 == 3) then
    some (.inr ((TNode.mk 16 x12_2.At x6_3 [] [l0_oloc9,x9_5_0]),x9_5_1,true))
    else
    some (.inl (x9_5_1,(TNode.mk 16 x12_2.At x6_3 [] [l0_oloc9,x9_5_0])))) (x3_4_1,x3_4_0)
def ref13_factor:Nat→List TToken→Int→Option (TNode × Int × Bool)
  | 0,_,_=>none
  | k + 1,a0,a1=>
    joinK (fun (j0_7:Int)=>
    joinK (fun (j1_7:Int)=>
    if (j1_7 == 0) then
    (ref13_part k a0 a1).bind fun (x7_2_0,x7_2_1,x7_2_2)=>
    some (x7_2_0,x7_2_1,x7_2_2)
    else
    (ref13_factor k a0 (IntKind.i64.wrap (a1 + 1))).bind fun (x8_3_0,x8_3_1,x8_3_2)=>
    if (!x8_3_2) then
    some ((TNode.mk 0 0 0 [] []),x8_3_1,false)
    else
    (ref13_Tok k a0 a1).bind fun x11_2=>
    some ((TNode.mk 15 x11_2.At j1_7 [] [x8_3_0]),x8_3_1,true)) fun j_j1=>
    (ref13_Is k a0 a1 [33]).bind fun x4_2=>
    if x4_2 then
    j_j1 14
    else
    j_j1 j0_7) fun j_j0=>
    (ref13_Is k a0 a1 [45]).bind fun x2_2=>
    if x2_2 then
    j_j0 2
    else
    j_j0 0
def ref13_part:Nat→List TToken→Int→Option (TNode × Int × Bool)
  | 0,_,_=>none
  | k + 1,a0,a1=>
    (ref13_first k a0 a1).bind fun (x1_2_0,x1_2_1,x1_2_2)=>
    if (!x1_2_2) then
    some ((TNode.mk 0 0 0 [] []),x1_2_1,false)
    else
    loopM k (fun ((l0_8,l0_oloc7):Int × TNode)=>
    (ref13_Tok k a0 l0_8).bind fun x4_2=>
    (ref13_Is k a0 l0_8 [46]).bind fun x5_2=>
    if x5_2 then
    (ref13_Tok k a0 (IntKind.i64.wrap (l0_8 + 1))).bind fun x6_3=>
    if (x6_3.Kind != 1) then
    some (.inr ((TNode.mk 0 0 0 [] []),(IntKind.i64.wrap (l0_8 + 1)),false))
    else
    some (.inl ((IntKind.i64.wrap (l0_8 + 2)),(TNode.mk 14 x4_2.At 0 x6_3.Text [l0_oloc7])))
    else
    (ref13_Is k a0 l0_8 [91]).bind fun x11_2=>
    if (!x11_2) then
    some (.inr (l0_oloc7,l0_8,true))
    else
    (ref13_Expr k a0 (IntKind.i64.wrap (l0_8 + 1))).bind fun (x13_3_0,x13_3_1,x13_3_2)=>
    joinK (fun (g14_7_72:Bool)=>
    if g14_7_72 then
    some (.inr ((TNode.mk 0 0 0 [] []),x13_3_1,false))
    else
    some (.inl ((IntKind.i64.wrap (x13_3_1 + 1)),(TNode.mk 13 x4_2.At 0 [] [l0_oloc7,x13_3_0])))) fun j_g14_7=>
    if (!x13_3_2) then
    j_g14_7 true
    else
    (ref13_Is k a0 x13_3_1 [93]).bind fun x14_5=>
    j_g14_7 (!x14_5)) (x1_2_1,x1_2_0)
def ref13_first:Nat→List TToken→Int→Option (TNode × Int × Bool)
  | 0,_,_=>none
  | k + 1,a0,a1=>
    (ref13_Tok k a0 a1).bind fun x1_2=>
    if (x1_2.Kind == 2) then
    some ((TNode.mk 10 x1_2.At x1_2.N [] []),(IntKind.i64.wrap (a1 + 1)),true)
    else
    (ref13_Says k a0 a1 [116,114,117,101]).bind fun x4_2=>
    if x4_2 then
    some ((TNode.mk 11 x1_2.At 1 [] []),(IntKind.i64.wrap (a1 + 1)),true)
    else
    (ref13_Says k a0 a1 [102,97,108,115,101]).bind fun x6_2=>
    if x6_2 then
    some ((TNode.mk 11 x1_2.At 0 [] []),(IntKind.i64.wrap (a1 + 1)),true)
    else
    if (x1_2.Kind == 1) then
    (ref13_Is k a0 (IntKind.i64.wrap (a1 + 1)) [40]).bind fun x9_3=>
    if x9_3 then
    (ref13_named k a0 a1 17 x1_2.At).bind fun (x10_4_0,x10_4_1,x10_4_2)=>
    some (x10_4_0,x10_4_1,x10_4_2)
    else
    some ((TNode.mk 12 x1_2.At 0 x1_2.Text []),(IntKind.i64.wrap (a1 + 1)),true)
    else
    (ref13_Says k a0 a1 [102,111,114,107]).bind fun x12_2=>
    if x12_2 then
    (ref13_named k a0 (IntKind.i64.wrap (a1 + 1)) 18 x1_2.At).bind fun (x13_5_0,x13_5_1,x13_5_2)=>
    some (x13_5_0,x13_5_1,x13_5_2)
    else
    (ref13_Says k a0 a1 [110,101,119]).bind fun x14_2=>
    if x14_2 then
    (ref13_Type k a0 (IntKind.i64.wrap (a1 + 1))).bind fun (x15_3_0,x15_3_1,x15_3_2)=>
    if (!x15_3_2) then
    some ((TNode.mk 0 0 0 [] []),x15_3_1,false)
    else
    (ref13_Args k a0 x15_3_1).bind fun (x18_2_0,x18_2_1,x18_2_2)=>
    if (!x18_2_2) then
    some ((TNode.mk 0 0 0 [] []),x18_2_1,false)
    else
    if (room 64 ([x15_3_0].length + x18_2_0.length)) then
    some ((TNode.mk 19 x1_2.At 0 [] ([x15_3_0] ++ x18_2_0)),x18_2_1,true)
    else none
    else
    (ref13_Is k a0 a1 [40]).bind fun x22_2=>
    if (!x22_2) then
    some ((TNode.mk 0 0 0 [] []),a1,false)
    else
    (ref13_Expr k a0 (IntKind.i64.wrap (a1 + 1))).bind fun (x24_3_0,x24_3_1,x24_3_2)=>
    joinK (fun (g25_7_135:Bool)=>
    if g25_7_135 then
    some ((TNode.mk 0 0 0 [] []),x24_3_1,false)
    else
    some (x24_3_0,(IntKind.i64.wrap (x24_3_1 + 1)),true)) fun j_g25_7=>
    if (!x24_3_2) then
    j_g25_7 true
    else
    (ref13_Is k a0 x24_3_1 [41]).bind fun x25_5=>
    j_g25_7 (!x25_5)
def ref13_named:Nat→List TToken→Int→Int→Int→Option (TNode × Int × Bool)
  | 0,_,_,_,_=>none
  | k + 1,a0,a1,a2,a3=>
    (ref13_Tok k a0 a1).bind fun x1_2=>
    if (x1_2.Kind != 1) then
    some ((TNode.mk 0 0 0 [] []),a1,false)
    else
    (ref13_Args k a0 (IntKind.i64.wrap (a1 + 1))).bind fun (x4_3_0,x4_3_1,x4_3_2)=>
    if (!x4_3_2) then
    some ((TNode.mk 0 0 0 [] []),x4_3_1,false)
    else
    some ((TNode.mk a2 a3 0 x1_2.Text x4_3_0),x4_3_1,true)
end
def ref14_expr (k:Nat) (a0:List TToken) (a1:Int):Option Tref14_Got :=
    (ref13_Expr k a0 a1).bind fun (x1_2_0,x1_2_1,x1_2_2)=>
    some (Tref14_Got.mk x1_2_0 x1_2_1 x1_2_2)
def ref14_named (k:Nat) (a0:List TToken) (a1:Int):Option Tref14_Got :=
    (ref13_Tok k a0 a1).bind fun x1_2=>
    (ref13_Is k a0 (IntKind.i64.wrap (a1 + 1)) [40]).bind fun x2_3=>
    if x2_3 then
    (ref13_Args k a0 (IntKind.i64.wrap (a1 + 1))).bind fun (x3_3_0,x3_3_1,x3_3_2)=>
    (ref14_closed k a0 (Tref14_Got.mk (TNode.mk 17 x1_2.At 0 x1_2.Text x3_3_0) x3_3_1 x3_3_2) (TNode.mk 38 x1_2.At 0 [] [(TNode.mk 17 x1_2.At 0 x1_2.Text x3_3_0)]) [59]).bind fun x5_10=>
    some x5_10
    else
    joinK (fun ((j0_1,j0_oloc10):Int × TNode)=>
    (ref13_Is k a0 j0_1 [61]).bind fun x22_2=>
    if (!x22_2) then
    (ref14_fail k j0_1).bind fun x23_1=>
    some x23_1
    else
    (ref14_expr k a0 (IntKind.i64.wrap (j0_1 + 1))).bind fun x24_3=>
    (ref13_Tok k a0 j0_1).bind fun x25_4=>
    (ref14_closed k a0 x24_3 (TNode.mk 32 x25_4.At 0 [] [j0_oloc10,(TNode.mk x24_3.N.Kind x24_3.N.At x24_3.N.N x24_3.N.Name x24_3.N.Kids)]) [59]).bind fun x25_11=>
    some x25_11) fun j_j0=>
    loopM k (fun ((l1_1,l1_oloc10):Int × TNode)=>
    (ref13_Is k a0 l1_1 [91]).bind fun x8_2=>
    joinK (fun (g8_7_62:Bool)=>
    if g8_7_62 then
    (ref13_Tok k a0 l1_1).bind fun x9_2=>
    (ref13_Is k a0 l1_1 [46]).bind fun x10_2=>
    if x10_2 then
    (ref13_Tok k a0 (IntKind.i64.wrap (l1_1 + 1))).bind fun x11_3=>
    if (x11_3.Kind != 1) then
    (ref14_fail k (IntKind.i64.wrap (l1_1 + 1))).bind fun x13_2=>
    some (.inr x13_2)
    else
    some (.inl ((IntKind.i64.wrap (l1_1 + 2)),(TNode.mk 14 x9_2.At 0 x11_3.Text [l1_oloc10])))
    else
    (ref14_expr k a0 (IntKind.i64.wrap (l1_1 + 1))).bind fun x16_3=>
    (ref14_closed k a0 x16_3 (TNode.mk 13 x9_2.At 0 [] [l1_oloc10,(TNode.mk x16_3.N.Kind x16_3.N.At x16_3.N.N x16_3.N.Name x16_3.N.Kids)]) [93]).bind fun x17_8=>
    if (!x17_8.Ok) then
    some (.inr x17_8)
    else
    some (.inl (x17_8.At,x17_8.N))
    else
    (j_j0 (l1_1,l1_oloc10)).map .inr) fun j_g8_7=>
    if x8_2 then
    j_g8_7 true
    else
    (ref13_Is k a0 l1_1 [46]).bind fun x8_6=>
    j_g8_7 x8_6) ((IntKind.i64.wrap (a1 + 1)),(TNode.mk 12 x1_2.At 0 x1_2.Text []))
mutual
def ref14_Block:Nat→List TToken→Int→Option Tref14_Got
  | 0,_,_=>none
  | k + 1,a0,a1=>
    (ref13_Is k a0 a1 [123]).bind fun x1_2=>
    if (!x1_2) then
    (ref14_fail k a1).bind fun x2_1=>
    some x2_1
    else
    (ref13_Tok k a0 a1).bind fun x3_2=>
    joinK (fun ((j0_bclloc54,j0_1):List TNode × Int)=>
    some (Tref14_Got.mk (TNode.mk 30 x3_2.At 0 [] j0_bclloc54) (IntKind.i64.wrap (j0_1 + 1)) true)) fun j_j0=>
    loopM k (fun ((l1_bclloc54,l1_1):List TNode × Int)=>
    (ref13_Is k a0 l1_1 [125]).bind fun x5_2=>
    if (!x5_2) then
    (ref14_Stmt k a0 l1_1).bind fun x6_2=>
    if (!x6_2.Ok) then
    some (.inr x6_2)
    else
    if (room 64 (l1_bclloc54.length + [(TNode.mk x6_2.N.Kind x6_2.N.At x6_2.N.N x6_2.N.Name x6_2.N.Kids)].length)) then
    some (.inl ((l1_bclloc54 ++ [(TNode.mk x6_2.N.Kind x6_2.N.At x6_2.N.N x6_2.N.Name x6_2.N.Kids)]),x6_2.At))
    else none
    else
    (j_j0 (l1_bclloc54,l1_1)).map .inr) ([],(IntKind.i64.wrap (a1 + 1)))
def ref14_Stmt:Nat→List TToken→Int→Option Tref14_Got
  | 0,_,_=>none
  | k + 1,a0,a1=>
    (ref13_Tok k a0 a1).bind fun x1_2=>
    (ref13_Is k a0 a1 [123]).bind fun x2_2=>
    if x2_2 then
    (ref14_Block k a0 a1).bind fun x3_2=>
    some x3_2
    else
    if (x1_2.Kind == 1) then
    (ref14_named k a0 a1).bind fun x5_2=>
    some x5_2
    else
    (ref13_Says k a0 a1 [105,102]).bind fun x6_2=>
    if x6_2 then
    (ref14_choice k a0 a1).bind fun x7_2=>
    some x7_2
    else
    (ref13_Says k a0 a1 [119,104,105,108,101]).bind fun x8_2=>
    if x8_2 then
    (ref14_headed k a0 a1 34).bind fun (x9_2_0,x9_2_1,x9_2_2,x9_2_3,x9_2_4,x9_2_5,x9_2_6,x9_2_7)=>
    some (Tref14_Got.mk (TNode.mk x9_2_0 x9_2_1 x9_2_2 x9_2_3 x9_2_5) x9_2_6 x9_2_7)
    else
    (ref13_Says k a0 a1 [114,101,116,117,114,110]).bind fun x11_2=>
    if x11_2 then
    (ref13_Is k a0 (IntKind.i64.wrap (a1 + 1)) [59]).bind fun x12_3=>
    if x12_3 then
    some (Tref14_Got.mk (TNode.mk 35 x1_2.At 0 [] []) (IntKind.i64.wrap (a1 + 2)) true)
    else
    (ref14_expr k a0 (IntKind.i64.wrap (a1 + 1))).bind fun x14_3=>
    (ref14_closed k a0 x14_3 (TNode.mk 35 x1_2.At 0 [] [(TNode.mk x14_3.N.Kind x14_3.N.At x14_3.N.N x14_3.N.Name x14_3.N.Kids)]) [59]).bind fun x15_8=>
    some x15_8
    else
    (ref13_Says k a0 a1 [112,114,105,110,116]).bind fun x16_2=>
    if x16_2 then
    (ref14_expr k a0 (IntKind.i64.wrap (a1 + 1))).bind fun x17_3=>
    (ref14_closed k a0 x17_3 (TNode.mk 37 x1_2.At 0 [] [(TNode.mk x17_3.N.Kind x17_3.N.At x17_3.N.N x17_3.N.Name x17_3.N.Kids)]) [59]).bind fun x18_8=>
    some x18_8
    else
    (ref13_Says k a0 a1 [118,97,114]).bind fun x19_2=>
    joinK (fun (g20_7_92:Bool)=>
    if g20_7_92 then
    (ref14_fail k a1).bind fun x21_1=>
    some x21_1
    else
    (ref13_Tok k a0 (IntKind.i64.wrap (a1 + 1))).bind fun x22_3=>
    if (x22_3.Kind != 1) then
    (ref14_fail k (IntKind.i64.wrap (a1 + 1))).bind fun x24_2=>
    some x24_2
    else
    if (!x19_2) then
    (ref14_closed k a0 (Tref14_Got.mk (TNode.mk 0 0 0 [] []) (IntKind.i64.wrap (a1 + 2)) true) (TNode.mk 36 x1_2.At 0 x22_3.Text []) [59]).bind fun x26_10=>
    some x26_10
    else
    (ref13_Is k a0 (IntKind.i64.wrap (a1 + 2)) [61]).bind fun x27_3=>
    if (!x27_3) then
    (ref14_fail k (IntKind.i64.wrap (a1 + 2))).bind fun x28_2=>
    some x28_2
    else
    (ref14_expr k a0 (IntKind.i64.wrap (a1 + 3))).bind fun x29_3=>
    (ref14_closed k a0 x29_3 (TNode.mk 31 x1_2.At 0 x22_3.Text [(TNode.mk x29_3.N.Kind x29_3.N.At x29_3.N.N x29_3.N.Name x29_3.N.Kids)]) [59]).bind fun x30_10=>
    some x30_10) fun j_g20_7=>
    if (!x19_2) then
    (ref13_Says k a0 a1 [106,111,105,110]).bind fun x20_5=>
    j_g20_7 (!x20_5)
    else
    j_g20_7 false
def ref14_choice:Nat→List TToken→Int→Option Tref14_Got
  | 0,_,_=>none
  | k + 1,a0,a1=>
    (ref14_headed k a0 a1 33).bind fun (x1_2_0,x1_2_1,x1_2_2,x1_2_3,x1_2_4,x1_2_5,x1_2_6,x1_2_7)=>
    joinK (fun (g2_9_19:Bool)=>
    if g2_9_19 then
    some (Tref14_Got.mk (TNode.mk x1_2_0 x1_2_1 x1_2_2 x1_2_3 x1_2_5) x1_2_6 x1_2_7)
    else
    joinK (fun (j0_oloc6:Tref14_Got)=>
    if (!j0_oloc6.Ok) then
    some j0_oloc6
    else
    if x1_2_4 then
    if (room 64 (x1_2_5.length + [(TNode.mk j0_oloc6.N.Kind j0_oloc6.N.At j0_oloc6.N.N j0_oloc6.N.Name j0_oloc6.N.Kids)].length)) then
    some (Tref14_Got.mk (TNode.mk x1_2_0 x1_2_1 x1_2_2 x1_2_3 (x1_2_5 ++ [(TNode.mk j0_oloc6.N.Kind j0_oloc6.N.At j0_oloc6.N.N j0_oloc6.N.Name j0_oloc6.N.Kids)])) j0_oloc6.At true)
    else none
    else none) fun j_j0=>
    (ref13_Says k a0 (IntKind.i64.wrap (x1_2_6 + 1)) [105,102]).bind fun x5_4=>
    if x5_4 then
    (ref14_choice k a0 (IntKind.i64.wrap (x1_2_6 + 1))).bind fun x6_4=>
    j_j0 x6_4
    else
    (ref14_Block k a0 (IntKind.i64.wrap (x1_2_6 + 1))).bind fun x7_4=>
    j_j0 x7_4) fun j_g2_9=>
    if (!x1_2_7) then
    j_g2_9 true
    else
    (ref13_Says k a0 x1_2_6 [101,108,115,101]).bind fun x2_7=>
    j_g2_9 (!x2_7)
def ref14_headed:Nat→List TToken→Int→Int→Option (Int × Int × Int × List UInt8 × Bool × List TNode × Int × Bool)
  | 0,_,_,_=>none
  | k + 1,a0,a1,a2=>
    (ref14_expr k a0 (IntKind.i64.wrap (a1 + 1))).bind fun x1_3=>
    if (!x1_3.Ok) then
    some (x1_3.N.Kind,x1_3.N.At,x1_3.N.N,x1_3.N.Name,false,x1_3.N.Kids,x1_3.At,x1_3.Ok)
    else
    (ref14_Block k a0 x1_3.At).bind fun x4_3=>
    if (!x4_3.Ok) then
    some (x4_3.N.Kind,x4_3.N.At,x4_3.N.N,x4_3.N.Name,false,x4_3.N.Kids,x4_3.At,x4_3.Ok)
    else
    (ref13_Tok k a0 a1).bind fun x7_3=>
    some (a2,x7_3.At,0,[],true,[(TNode.mk x1_3.N.Kind x1_3.N.At x1_3.N.N x1_3.N.Name x1_3.N.Kids),(TNode.mk x4_3.N.Kind x4_3.N.At x4_3.N.N x4_3.N.Name x4_3.N.Kids)],x4_3.At,true)
end
def ref14_tail_v2 (k:Nat) (a0:List TToken) (a1:Int) (a2_0:Int) (a2_1:Int) (a2_2:Int) (a2_3:List UInt8) (a2_4:List TNode):Option Tref14_Got :=
    joinK (fun ((j0_bclloc54,j0_1):List TNode × Int)=>
    (ref14_Block k a0 j0_1).bind fun x9_2=>
    if (!x9_2.Ok) then
    some x9_2
    else
    if (room 64 (j0_bclloc54.length + [(TNode.mk x9_2.N.Kind x9_2.N.At x9_2.N.N x9_2.N.Name x9_2.N.Kids)].length)) then
    some (Tref14_Got.mk (TNode.mk a2_0 a2_1 a2_2 a2_3 (j0_bclloc54 ++ [(TNode.mk x9_2.N.Kind x9_2.N.At x9_2.N.N x9_2.N.Name x9_2.N.Kids)])) x9_2.At true)
    else none) fun j_j0=>
    joinK (fun (g1_8_19:Bool)=>
    if g1_8_19 then
    (ref13_Type k a0 a1).bind fun (x2_2_0,x2_2_1,x2_2_2)=>
    if (!x2_2_2) then
    (ref14_fail k x2_2_1).bind fun x4_1=>
    some x4_1
    else
    if (room 64 (a2_4.length + [x2_2_0].length)) then
    j_j0 ((a2_4 ++ [x2_2_0]),x2_2_1)
    else none
    else
    if (a2_0 == 53) then
    if (room 64 (a2_4.length + [(TNode.mk 0 0 0 [] [])].length)) then
    j_j0 ((a2_4 ++ [(TNode.mk 0 0 0 [] [])]),a1)
    else none
    else
    j_j0 (a2_4,a1)) fun j_g1_8=>
    if (a2_0 == 53) then
    (ref13_Is k a0 a1 [123]).bind fun x1_6=>
    j_g1_8 (!x1_6)
    else
    j_g1_8 false
def ref14_tail_v3 (k:Nat) (a0:List TToken) (a1:Int) (a2_0:Int) (a2_1:Int) (a2_2:Int) (a2_3:List UInt8) (o0_0:Int) (o0_1:Int) (o0_2:Int) (o0_3:List UInt8) (b0:List TNode):Option (List TNode × Tref14_Got) :=
    joinK (fun ((j0_bclext04,j0_1):List TNode × Int)=>
    (ref14_Block k a0 j0_1).bind fun x9_2=>
    if (!x9_2.Ok) then
    some (j0_bclext04,x9_2)
    else
    if (room 64 (j0_bclext04.length + [(TNode.mk x9_2.N.Kind x9_2.N.At x9_2.N.N x9_2.N.Name x9_2.N.Kids)].length)) then
    some ((j0_bclext04 ++ [(TNode.mk x9_2.N.Kind x9_2.N.At x9_2.N.N x9_2.N.Name x9_2.N.Kids)]),(Tref14_Got.mk (TNode.mk a2_0 a2_1 a2_2 a2_3 (j0_bclext04 ++ [(TNode.mk x9_2.N.Kind x9_2.N.At x9_2.N.N x9_2.N.Name x9_2.N.Kids)])) x9_2.At true))
    else none) fun j_j0=>
    joinK (fun (g1_8_19:Bool)=>
    if g1_8_19 then
    (ref13_Type k a0 a1).bind fun (x2_2_0,x2_2_1,x2_2_2)=>
    if (!x2_2_2) then
    (ref14_fail k x2_2_1).bind fun x4_1=>
    some (b0,x4_1)
    else
    if (room 64 (b0.length + [x2_2_0].length)) then
    j_j0 ((b0 ++ [x2_2_0]),x2_2_1)
    else none
    else
    if (a2_0 == 53) then
    if (room 64 (b0.length + [(TNode.mk 0 0 0 [] [])].length)) then
    j_j0 ((b0 ++ [(TNode.mk 0 0 0 [] [])]),a1)
    else none
    else
    j_j0 (b0,a1)) fun j_g1_8=>
    if (a2_0 == 53) then
    (ref13_Is k a0 a1 [123]).bind fun x1_6=>
    j_g1_8 (!x1_6)
    else
    j_g1_8 false
def ref14_fun_v2 (k:Nat) (a0:List TToken) (a1:Int) (a2_0:Int) (a2_1:Int) (a2_2:Int) (a2_3:List UInt8) (a2_4:List TNode):Option Tref14_Got :=
    (ref13_Is k a0 a1 [40]).bind fun x1_2=>
    if (!x1_2) then
    (ref14_fail k a1).bind fun x2_1=>
    some x2_1
    else
    joinK (fun (g4_7_25:Bool)=>
    if g4_7_25 then
    (ref14_tail_v2 k a0 (IntKind.i64.wrap ((IntKind.i64.wrap (a1 + 1)) + 1)) a2_0 a2_1 a2_2 a2_3 a2_4).bind fun x5_4=>
    some x5_4
    else
    loopM k (fun ((l0_bclloc54,l0_1):List TNode × Int)=>
    (ref14_param k a0 l0_1).bind fun x6_2=>
    if (!x6_2.Ok) then
    some (.inr x6_2)
    else
    if (room 64 (l0_bclloc54.length + [(TNode.mk x6_2.N.Kind x6_2.N.At x6_2.N.N x6_2.N.Name x6_2.N.Kids)].length)) then
    joinK (fun (g13_5_70:Bool)=>
    if g13_5_70 then
    (ref14_tail_v3 k a0 (IntKind.i64.wrap (x6_2.At + 1)) a2_0 a2_1 a2_2 a2_3 a2_0 a2_1 a2_2 a2_3 (l0_bclloc54 ++ [(TNode.mk x6_2.N.Kind x6_2.N.At x6_2.N.N x6_2.N.Name x6_2.N.Kids)])).bind fun (x14_4_0,x14_4_1)=>
    some (.inr x14_4_1)
    else
    joinK (fun (g15_7_83:Bool)=>
    if g15_7_83 then
    (ref14_fail k x6_2.At).bind fun x16_1=>
    some (.inr x16_1)
    else
    some (.inl ((l0_bclloc54 ++ [(TNode.mk x6_2.N.Kind x6_2.N.At x6_2.N.N x6_2.N.Name x6_2.N.Kids)]),(IntKind.i64.wrap (x6_2.At + 1))))) fun j_g15_7=>
    if (!((a2_0 == 53) || (decide (((l0_bclloc54 ++ [(TNode.mk x6_2.N.Kind x6_2.N.At x6_2.N.N x6_2.N.Name x6_2.N.Kids)]).length:Int) < 3)))) then
    j_g15_7 true
    else
    (ref13_Is k a0 x6_2.At [44]).bind fun x15_5=>
    j_g15_7 (!x15_5)) fun j_g13_5=>
    if ((a2_0 == 53) || (((l0_bclloc54 ++ [(TNode.mk x6_2.N.Kind x6_2.N.At x6_2.N.N x6_2.N.Name x6_2.N.Kids)]).length:Int) == 3)) then
    (ref13_Is k a0 x6_2.At [41]).bind fun x13_4=>
    j_g13_5 x13_4
    else
    j_g13_5 false
    else none) (a2_4,(IntKind.i64.wrap (a1 + 1)))) fun j_g4_7=>
    if (a2_0 == 53) then
    (ref13_Is k a0 (IntKind.i64.wrap (a1 + 1)) [41]).bind fun x4_6=>
    j_g4_7 x4_6
    else
    j_g4_7 false
def ref14_Decl (k:Nat) (a0:List TToken) (a1:Int):Option Tref14_Got :=
    joinK (fun (j0_6:Int)=>
    if (j0_6 == 4) then
    (ref14_fail k a1).bind fun x6_1=>
    some x6_1
    else
    (ref13_Tok k a0 (IntKind.i64.wrap (a1 + 1))).bind fun x7_3=>
    if (x7_3.Kind != 1) then
    (ref14_fail k (IntKind.i64.wrap (a1 + 1))).bind fun x9_2=>
    some x9_2
    else
    (ref13_Tok k a0 a1).bind fun x10_4=>
    if (j0_6 == 0) then
    (ref14_rec_v2 k a0 (IntKind.i64.wrap (a1 + 2)) (IntKind.i64.wrap (51 + j0_6)) x10_4.At 0 x7_3.Text []).bind fun x12_4=>
    some x12_4
    else
    if (j0_6 == 1) then
    (ref14_iso k a0 (IntKind.i64.wrap (a1 + 2)) (TNode.mk (IntKind.i64.wrap (51 + j0_6)) x10_4.At 0 x7_3.Text [])).bind fun x14_4=>
    some x14_4
    else
    (ref14_fun_v2 k a0 (IntKind.i64.wrap (a1 + 2)) (IntKind.i64.wrap (51 + j0_6)) x10_4.At 0 x7_3.Text []).bind fun x15_4=>
    some x15_4) fun j_j0=>
    loopM k (fun (l1_6:Int)=>
    joinK (fun (g3_11_21:Bool)=>
    if g3_11_21 then
    some (.inl (IntKind.i64.wrap (l1_6 + 1)))
    else
    (j_j0 l1_6).map .inr) fun j_g3_11=>
    if (decide (l1_6 < 4)) then
    (ix [[114,101,99],[105,115,111],[102,117,110],[109,101,114,103,101]] l1_6).bind fun x3_7=>
    (ref13_Says k a0 a1 x3_7).bind fun x3_9=>
    j_g3_11 (!x3_9)
    else
    j_g3_11 false) 0
def ref14_Prog (k:Nat) (a0:List TToken):Option Tref14_Got :=
    joinK (fun ((j0_bclloc34,j0_4):List TNode × Int)=>
    (ref14_Block k a0 (IntKind.i64.wrap (j0_4 + 1))).bind fun x9_3=>
    if (!x9_3.Ok) then
    some x9_3
    else
    if (room 64 (j0_bclloc34.length + [(TNode.mk x9_3.N.Kind x9_3.N.At x9_3.N.N x9_3.N.Name x9_3.N.Kids)].length)) then
    joinK (fun (g13_14_57:Bool)=>
    if g13_14_57 then
    (ref14_fail k x9_3.At).bind fun x14_2=>
    some x14_2
    else
    some (Tref14_Got.mk (TNode.mk 55 0 0 [] (j0_bclloc34 ++ [(TNode.mk x9_3.N.Kind x9_3.N.At x9_3.N.N x9_3.N.Name x9_3.N.Kids)])) x9_3.At true)) fun j_g13_14=>
    if (x9_3.At != (IntKind.i64.wrap ((a0.length:Int) - 1))) then
    j_g13_14 true
    else
    (ix a0 x9_3.At).bind fun x13_10=>
    j_g13_14 (x13_10.Kind != 0)
    else none) fun j_j0=>
    loopM k (fun ((l1_bclloc34,l1_4):List TNode × Int)=>
    (ref13_Says k a0 l1_4 [109,97,105,110]).bind fun x3_2=>
    if (!x3_2) then
    (ref14_Decl k a0 l1_4).bind fun x4_2=>
    if (!x4_2.Ok) then
    some (.inr x4_2)
    else
    if (room 64 (l1_bclloc34.length + [(TNode.mk x4_2.N.Kind x4_2.N.At x4_2.N.N x4_2.N.Name x4_2.N.Kids)].length)) then
    some (.inl ((l1_bclloc34 ++ [(TNode.mk x4_2.N.Kind x4_2.N.At x4_2.N.N x4_2.N.Name x4_2.N.Kids)]),x4_2.At))
    else none
    else
    (j_j0 (l1_bclloc34,l1_4)).map .inr) ([],0)
def ref15_Prog (k:Nat) (a0:List UInt8):Option Tref15_Got :=
    (ref10_All k a0).bind fun (x1_1_0,x1_1_1,x1_1_2)=>
    if (x1_1_2 != 0) then
    (ref15_at k a0 x1_1_1 x1_1_2).bind fun x3_3=>
    some x3_3
    else
    (ref12_Check k x1_1_0).bind fun (x4_1_0,x4_1_1)=>
    if (x4_1_1 != 0) then
    (ref15_at k a0 x4_1_0 x4_1_1).bind fun x6_3=>
    some x6_3
    else
    (ref14_Prog k x1_1_0).bind fun x7_1=>
    if (!x7_1.Ok) then
    (ix x1_1_0 x7_1.At).bind fun x9_4=>
    (ref15_at k a0 x9_4.At 1).bind fun x9_7=>
    some x9_7
    else
    some (Tref15_Got.mk x7_1.N 0 0 0 0)
def law21_works (k:Nat):Option Bool :=
    (ref15_Prog k [102,117,110,32,103,40,41,32,123,32,125,32,102,117,110,32,102,40,41,32,105,110,116,32,123,32,119,104,105,108,101,32,116,114,117,101,32,123,32,114,101,116,117,114,110,32,49,59,32,125,32,125,32,109,97,105,110,32,123,32,125]).bind fun x1_0=>
    (decl_Of k (TNode.mk x1_0.N.Kind x1_0.N.At x1_0.N.N x1_0.N.Name x1_0.N.Kids)).bind fun (x2_2_0,x2_2_1,x2_2_2)=>
    (ends_All k x2_2_0).bind fun (x3_1_0,x3_1_1)=>
    joinK (fun (g4_9_29:Bool)=>
    joinK (fun (g4_14_34:Bool)=>
    some g4_14_34) fun j_g4_14=>
    if g4_9_29 then
    (ends_Stmt k (TNode.mk 30 0 0 [] [])).bind fun x4_12=>
    j_g4_14 (!x4_12)
    else
    j_g4_14 false) fun j_g4_9=>
    if ((x3_1_0 == 12) && (x3_1_1 == 9)) then
    (ends_Stmt k (TNode.mk 35 0 0 [] [])).bind fun x4_8=>
    j_g4_9 x4_8
    else
    j_g4_9 false
def ref11_Walk:Nat→TNode→Option (List TNode)
  | 0,_=>none
  | k + 1,a0=>
    joinK (fun (j0_3:List TNode)=>
    some j0_3) fun j_j0=>
    loopM k (fun ((l1_3,l1_4):List TNode × Int)=>
    if (decide (l1_4 < (a0.Kids.length:Int))) then
    (ix a0.Kids l1_4).bind fun x5_4=>
    (ref11_Walk k x5_4).bind fun x5_6=>
    if (room 64 (l1_3.length + x5_6.length)) then
    some (.inl ((l1_3 ++ x5_6),(IntKind.i64.wrap (l1_4 + 1))))
    else none
    else
    (j_j0 l1_3).map .inr) ([a0],0)
def law20_Fits (k:Nat) (a0:TNode):Option Int :=
    (ref11_Walk k a0).bind fun x1_1=>
    if (decide ((x1_1.length:Int) > 2500)) then
    some 0
    else
    some 1
def ref11_alone (k:Nat) (a0:TNode):Option Bool :=
    some ((a0.N == 0) && (a0.Name == []))
def ref11_Named (k:Nat) (a0:List UInt8):Option Bool :=
    (ref10_All k a0).bind fun (x1_1_0,x1_1_1,x1_1_2)=>
    joinK (fun (g2_13_25:Bool)=>
    joinK (fun (g2_21_33:Bool)=>
    some g2_21_33) fun j_g2_21=>
    if g2_13_25 then
    (ix x1_1_0 0).bind fun x2_16=>
    j_g2_21 (x2_16.Text == a0)
    else
    j_g2_21 false) fun j_g2_13=>
    if ((x1_1_2 == 0) && ((x1_1_0.length:Int) == 2)) then
    (ix x1_1_0 0).bind fun x2_9=>
    j_g2_13 (x2_9.Kind == 1)
    else
    j_g2_13 false
def ref11_Type:Nat→TNode→Option Bool
  | 0,_=>none
  | k + 1,a0=>
    if (a0.N != 0) then
    some false
    else
    if (a0.Kind == 4) then
    (ref11_Named k a0.Name).bind fun x4_2=>
    some (x4_2 && ((a0.Kids.length:Int) == 0))
    else
    if (!(a0.Name == [])) then
    some false
    else
    if (a0.Kind == 5) then
    joinK (fun (g8_10_34:Bool)=>
    some g8_10_34) fun j_g8_10=>
    if ((a0.Kids.length:Int) == 1) then
    (ix a0.Kids 0).bind fun x8_7=>
    (ref11_Type k x8_7).bind fun x8_9=>
    j_g8_10 x8_9
    else
    j_g8_10 false
    else
    some (((decide (a0.Kind ≥ 1)) && (decide (a0.Kind ≤ 3))) && ((a0.Kids.length:Int) == 0))
mutual
def ref11_Expr:Nat→TNode→Option Bool
  | 0,_=>none
  | k + 1,a0=>
    if (a0.Kind == 19) then
    (ref11_alone k a0).bind fun x3_1=>
    joinK (fun (g3_12_22:Bool)=>
    joinK (fun (g3_18_28:Bool)=>
    some g3_18_28) fun j_g3_18=>
    if g3_12_22 then
    (sub a0.Kids 1 (a0.Kids.length:Int)).bind fun x3_16=>
    (ref11_exprs k x3_16).bind fun x3_17=>
    j_g3_18 x3_17
    else
    j_g3_18 false) fun j_g3_12=>
    if (x3_1 && (decide ((a0.Kids.length:Int) > 0))) then
    (ix a0.Kids 0).bind fun x3_9=>
    (ref11_Type k x3_9).bind fun x3_11=>
    j_g3_12 x3_11
    else
    j_g3_12 false
    else
    (ref11_exprs k a0.Kids).bind fun x4_2=>
    if (!x4_2) then
    some false
    else
    if ((a0.Kind == 10) || (a0.Kind == 11)) then
    some (((((a0.Kids.length:Int) == 0) && (a0.Name == [])) && (decide (a0.N ≥ 0))) && ((a0.Kind == 10) || (decide (a0.N ≤ 1))))
    else
    if ((a0.Kind == 15) || (a0.Kind == 16)) then
    if (a0.Kind == 15) then
    some ((((a0.Kids.length:Int) == 1) && (a0.Name == [])) && ((a0.N == 2) || (a0.N == 14)))
    else
    joinK (fun (g11_12_103:Bool)=>
    some g11_12_103) fun j_g11_12=>
    if (((a0.Kids.length:Int) == 2) && (a0.Name == [])) then
    (ref09_Bind k a0.N).bind fun x11_10=>
    j_g11_12 (decide (x11_10 > 0))
    else
    j_g11_12 false
    else
    if (a0.Kind == 13) then
    joinK (fun (g13_5_112:Bool)=>
    some g13_5_112) fun j_g13_5=>
    if ((a0.Kids.length:Int) == 2) then
    (ref11_alone k a0).bind fun x13_4=>
    j_g13_5 x13_4
    else
    j_g13_5 false
    else
    joinK (fun (g14_8_121:Bool)=>
    if g14_8_121 then
    some false
    else
    some (((((a0.Kind == 12) && ((a0.Kids.length:Int) == 0)) || ((a0.Kind == 14) && ((a0.Kids.length:Int) == 1))) || (a0.Kind == 17)) || (a0.Kind == 18))) fun j_g14_8=>
    if (a0.N != 0) then
    j_g14_8 true
    else
    (ref11_Named k a0.Name).bind fun x14_6=>
    j_g14_8 (!x14_6)
def ref11_exprs:Nat→List TNode→Option Bool
  | 0,_=>none
  | k + 1,a0=>
    joinK (fun (_:Unit)=>
    some true) fun j_j0=>
    loopM k (fun (l1_3:Int)=>
    if (decide (l1_3 < (a0.length:Int))) then
    (ix a0 l1_3).bind fun x4_2=>
    (ref11_Expr k x4_2).bind fun x4_4=>
    if (!x4_4) then
    some (.inr false)
    else
    some (.inl (IntKind.i64.wrap (l1_3 + 1)))
    else
    (j_j0 ()).map .inr) 0
end
def ref11_place:Nat→TNode→Option Bool
  | 0,_=>none
  | k + 1,a0=>
    (ref11_Expr k a0).bind fun x1_1=>
    if (!x1_1) then
    some false
    else
    if (a0.Kind == 12) then
    some true
    else
    joinK (fun (g5_14_23:Bool)=>
    some g5_14_23) fun j_g5_14=>
    if ((a0.Kind == 13) || (a0.Kind == 14)) then
    (ix a0.Kids 0).bind fun x5_11=>
    (ref11_place k x5_11).bind fun x5_13=>
    j_g5_14 x5_13
    else
    j_g5_14 false
mutual
def ref11_Stmt:Nat→TNode→Option Bool
  | 0,_=>none
  | k + 1,a0=>
    if ((a0.Kind == 31) || (a0.Kind == 36)) then
    joinK (fun (g3_8_24:Bool)=>
    if g3_8_24 then
    some false
    else
    joinK (fun (g5_22_47:Bool)=>
    some g5_22_47) fun j_g5_22=>
    if ((a0.Kind == 36) && ((a0.Kids.length:Int) == 0)) then
    j_g5_22 true
    else
    joinK (fun (g5_21_46:Bool)=>
    j_g5_22 g5_21_46) fun j_g5_21=>
    if ((a0.Kind == 31) && ((a0.Kids.length:Int) == 1)) then
    (ix a0.Kids 0).bind fun x5_18=>
    (ref11_Expr k x5_18).bind fun x5_20=>
    j_g5_21 x5_20
    else
    j_g5_21 false) fun j_g3_8=>
    if (a0.N != 0) then
    j_g3_8 true
    else
    (ref11_Named k a0.Name).bind fun x3_6=>
    j_g3_8 (!x3_6)
    else
    (ref11_alone k a0).bind fun x6_1=>
    if (!x6_1) then
    some false
    else
    if (a0.Kind == 30) then
    joinK (fun (_:Unit)=>
    some true) fun j_j0=>
    loopM k (fun (l1_4:Int)=>
    if (decide (l1_4 < (a0.Kids.length:Int))) then
    (ix a0.Kids l1_4).bind fun x12_3=>
    (ref11_Stmt k x12_3).bind fun x12_5=>
    if (!x12_5) then
    some (.inr false)
    else
    some (.inl (IntKind.i64.wrap (l1_4 + 1)))
    else
    (j_j0 ()).map .inr) 0
    else
    if ((a0.Kind == 35) && ((a0.Kids.length:Int) == 0)) then
    some true
    else
    if ((a0.Kind == 35) || (a0.Kind == 37)) then
    joinK (fun (g18_8_89:Bool)=>
    some g18_8_89) fun j_g18_8=>
    if ((a0.Kids.length:Int) == 1) then
    (ix a0.Kids 0).bind fun x18_5=>
    (ref11_Expr k x18_5).bind fun x18_7=>
    j_g18_8 x18_7
    else
    j_g18_8 false
    else
    if (a0.Kind == 38) then
    joinK (fun (g20_9_102:Bool)=>
    joinK (fun (g20_16_109:Bool)=>
    some g20_16_109) fun j_g20_16=>
    if g20_9_102 then
    (ix a0.Kids 0).bind fun x20_13=>
    (ref11_Expr k x20_13).bind fun x20_15=>
    j_g20_16 x20_15
    else
    j_g20_16 false) fun j_g20_9=>
    if ((a0.Kids.length:Int) == 1) then
    (ix a0.Kids 0).bind fun x20_5=>
    j_g20_9 (x20_5.Kind == 17)
    else
    j_g20_9 false
    else
    if (a0.Kind == 32) then
    joinK (fun (g22_8_121:Bool)=>
    joinK (fun (g22_15_128:Bool)=>
    some g22_15_128) fun j_g22_15=>
    if g22_8_121 then
    (ix a0.Kids 1).bind fun x22_12=>
    (ref11_Expr k x22_12).bind fun x22_14=>
    j_g22_15 x22_14
    else
    j_g22_15 false) fun j_g22_8=>
    if ((a0.Kids.length:Int) == 2) then
    (ix a0.Kids 0).bind fun x22_5=>
    (ref11_place k x22_5).bind fun x22_7=>
    j_g22_8 x22_7
    else
    j_g22_8 false
    else
    joinK (fun (g23_19_148:Bool)=>
    joinK (fun (g23_27_156:Bool)=>
    if g23_27_156 then
    some false
    else
    if ((a0.Kids.length:Int) == 2) then
    some true
    else
    joinK (fun (g27_20_179:Bool)=>
    some g27_20_179) fun j_g27_20=>
    if ((a0.Kind == 33) && ((a0.Kids.length:Int) == 3)) then
    (ix a0.Kids 2).bind fun x27_10=>
    (ref11_kind k x27_10 30).bind fun x27_12=>
    joinK (fun (g27_19_178:Bool)=>
    j_g27_20 g27_19_178) fun j_g27_19=>
    if x27_12 then
    j_g27_19 true
    else
    (ix a0.Kids 2).bind fun x27_16=>
    (ref11_kind k x27_16 33).bind fun x27_18=>
    j_g27_19 x27_18
    else
    j_g27_20 false) fun j_g23_27=>
    if g23_19_148 then
    j_g23_27 true
    else
    (ix a0.Kids 1).bind fun x23_23=>
    (ref11_kind k x23_23 30).bind fun x23_25=>
    j_g23_27 (!x23_25)) fun j_g23_19=>
    if (((a0.Kind != 33) && (a0.Kind != 34)) || (decide ((a0.Kids.length:Int) < 2))) then
    j_g23_19 true
    else
    (ix a0.Kids 0).bind fun x23_15=>
    (ref11_Expr k x23_15).bind fun x23_17=>
    j_g23_19 (!x23_17)
def ref11_kind:Nat→TNode→Int→Option Bool
  | 0,_,_=>none
  | k + 1,a0,a1=>
    joinK (fun (g1_7_12:Bool)=>
    some g1_7_12) fun j_g1_7=>
    if (a0.Kind == a1) then
    (ref11_Stmt k a0).bind fun x1_6=>
    j_g1_7 x1_6
    else
    j_g1_7 false
end
def ref11_param (k:Nat) (a0:TNode):Option Bool :=
    joinK (fun (g1_12_15:Bool)=>
    joinK (fun (g1_25_28:Bool)=>
    some g1_25_28) fun j_g1_25=>
    if (g1_12_15 && ((a0.Kids.length:Int) == 1)) then
    (ix a0.Kids 0).bind fun x1_22=>
    (ref11_Type k x1_22).bind fun x1_24=>
    j_g1_25 x1_24
    else
    j_g1_25 false) fun j_g1_12=>
    if ((a0.Kind == 50) && (a0.N == 0)) then
    (ref11_Named k a0.Name).bind fun x1_11=>
    j_g1_12 x1_11
    else
    j_g1_12 false
def ref11_Decl (k:Nat) (a0:TNode):Option Bool :=
    (ref11_Named k a0.Name).bind fun x2_2=>
    if ((!x2_2) || ((a0.Kids.length:Int) == 0)) then
    some false
    else
    if (a0.Kind == 52) then
    joinK (fun (g5_10_31:Bool)=>
    if (g5_10_31 || (decide ((a0.Kids.length:Int) > 2))) then
    some false
    else
    joinK (fun (g7_16_52:Bool)=>
    some g7_16_52) fun j_g7_16=>
    if ((a0.Kids.length:Int) == 1) then
    j_g7_16 true
    else
    (ix a0.Kids 1).bind fun x7_5=>
    joinK (fun (g7_15_51:Bool)=>
    j_g7_16 g7_15_51) fun j_g7_15=>
    if (x7_5.Kind == 12) then
    (ix a0.Kids 1).bind fun x7_12=>
    (ref11_Expr k x7_12).bind fun x7_14=>
    j_g7_15 x7_14
    else
    j_g7_15 false) fun j_g5_10=>
    if (decide (a0.N < 0)) then
    j_g5_10 true
    else
    (ix a0.Kids 0).bind fun x5_6=>
    (ref11_Type k x5_6).bind fun x5_8=>
    j_g5_10 (!x5_8)
    else
    if (a0.N != 0) then
    some false
    else
    joinK (fun (j0_4:Int)=>
    joinK (fun (j1_4:Int)=>
    if (decide (j1_4 < 0)) then
    some false
    else
    joinK (fun (_:Unit)=>
    if (a0.Kind == 51) then
    some true
    else
    (ix a0.Kids (IntKind.i64.wrap ((a0.Kids.length:Int) - 1))).bind fun x24_4=>
    (ref11_kind k x24_4 30).bind fun x24_6=>
    if (!x24_6) then
    some false
    else
    if (a0.Kind == 54) then
    some (j1_4 == 3)
    else
    (sub a0.Kids (IntKind.i64.wrap ((a0.Kids.length:Int) - 2)) (a0.Kids.length:Int)).bind fun x28_4=>
    (ix x28_4 0).bind fun x28_5=>
    joinK (fun (g29_21_125:Bool)=>
    some g29_21_125) fun j_g29_21=>
    if (a0.Kind == 53) then
    (ref11_Type k x28_5).bind fun x29_5=>
    joinK (fun (g29_20_124:Bool)=>
    j_g29_21 g29_20_124) fun j_g29_20=>
    if x29_5 then
    j_g29_20 true
    else
    joinK (fun (g29_13_117:Bool)=>
    j_g29_20 (g29_13_117 && ((x28_5.Kids.length:Int) == 0))) fun j_g29_13=>
    if (x28_5.Kind == 0) then
    (ref11_alone k x28_5).bind fun x29_12=>
    j_g29_13 x29_12
    else
    j_g29_13 false
    else
    j_g29_21 false) fun j_j2=>
    loopM k (fun (l3_5:Int)=>
    if (decide (l3_5 < j1_4)) then
    (ix a0.Kids l3_5).bind fun x20_3=>
    (ref11_param k x20_3).bind fun x20_5=>
    if (!x20_5) then
    some (.inr false)
    else
    some (.inl (IntKind.i64.wrap (l3_5 + 1)))
    else
    (j_j2 ()).map .inr) 0) fun j_j1=>
    if (a0.Kind == 54) then
    j_j1 (IntKind.i64.wrap ((a0.Kids.length:Int) - 1))
    else
    j_j1 j0_4) fun j_j0=>
    if (a0.Kind == 53) then
    j_j0 (IntKind.i64.wrap ((a0.Kids.length:Int) - 2))
    else
    j_j0 (a0.Kids.length:Int)
def ref11_Prog (k:Nat) (a0:TNode):Option Bool :=
    joinK (fun (g2_7_15:Bool)=>
    joinK (fun (g2_21_29:Bool)=>
    if g2_21_29 then
    some false
    else
    joinK (fun (_:Unit)=>
    some true) fun j_j0=>
    loopM k (fun (l1_4:Int)=>
    if (decide ((IntKind.i64.wrap (l1_4 + 1)) < (a0.Kids.length:Int))) then
    (ix a0.Kids l1_4).bind fun x7_3=>
    (ref11_Decl k x7_3).bind fun x7_5=>
    if (!x7_5) then
    some (.inr false)
    else
    some (.inl (IntKind.i64.wrap (l1_4 + 1)))
    else
    (j_j0 ()).map .inr) 0) fun j_g2_21=>
    if (g2_7_15 || ((a0.Kids.length:Int) == 0)) then
    j_g2_21 true
    else
    (ix a0.Kids (IntKind.i64.wrap ((a0.Kids.length:Int) - 1))).bind fun x2_17=>
    (ref11_kind k x2_17 30).bind fun x2_19=>
    j_g2_21 (!x2_19)) fun j_g2_7=>
    if (a0.Kind != 55) then
    j_g2_7 true
    else
    (ref11_alone k a0).bind fun x2_5=>
    j_g2_7 (!x2_5)
def ref21_Stmt:Nat→TNode→Option Bool
  | 0,_=>none
  | k + 1,a0=>
    if (a0.Kind == 35) then
    some true
    else
    if (a0.Kind == 33) then
    joinK (fun (g4_10_20:Bool)=>
    joinK (fun (g4_17_27:Bool)=>
    some g4_17_27) fun j_g4_17=>
    if g4_10_20 then
    (ix a0.Kids 2).bind fun x4_14=>
    (ref21_Stmt k x4_14).bind fun x4_16=>
    j_g4_17 x4_16
    else
    j_g4_17 false) fun j_g4_10=>
    if ((a0.Kids.length:Int) == 3) then
    (ix a0.Kids 1).bind fun x4_7=>
    (ref21_Stmt k x4_7).bind fun x4_9=>
    j_g4_10 x4_9
    else
    j_g4_10 false
    else
    if (a0.Kind != 30) then
    some false
    else
    joinK (fun (_:Unit)=>
    some false) fun j_j0=>
    loopM k (fun (l1_3:Int)=>
    if (decide (l1_3 < (a0.Kids.length:Int))) then
    (ix a0.Kids l1_3).bind fun x10_3=>
    (ref21_Stmt k x10_3).bind fun x10_5=>
    if x10_5 then
    some (.inr true)
    else
    some (.inl (IntKind.i64.wrap (l1_3 + 1)))
    else
    (j_j0 ()).map .inr) 0
def ref18_Decls (k:Nat) (a0:TNode) (a1:Int):Option (List TNode) :=
    joinK (fun (j0_5:List TNode)=>
    some j0_5) fun j_j0=>
    loopM k (fun ((l1_5,l1_6):List TNode × Int)=>
    if (decide ((IntKind.i64.wrap (l1_6 + 1)) < (a0.Kids.length:Int))) then
    joinK (fun (j2_5:List TNode)=>
    some (.inl (j2_5,(IntKind.i64.wrap (l1_6 + 1))))) fun j_j2=>
    joinK (fun (g5_11_26:Bool)=>
    if g5_11_26 then
    (ix a0.Kids l1_6).bind fun x6_4=>
    if (room 64 (l1_5.length + [x6_4].length)) then
    j_j2 (l1_5 ++ [x6_4])
    else none
    else
    j_j2 l1_5) fun j_g5_11=>
    if (a1 == 0) then
    j_g5_11 true
    else
    (ix a0.Kids l1_6).bind fun x5_6=>
    j_g5_11 (x5_6.Kind == a1)
    else
    (j_j0 l1_5).map .inr) ([],0)
def ref18_Given (k:Nat) (a0:List UInt8):Option Int :=
    if ((a0 == [108,101,110]) || (a0 == [105,110,112,117,116])) then
    some 1
    else
    if (a0 == [102,105,108,108]) then
    some 2
    else
    if (a0 == [105,110,112,117,116,115]) then
    some 0
    else
    some (-1)
def ref18_Find (k:Nat) (a0:TNode) (a1:Int) (a2:List UInt8):Option Int :=
    (ref18_Decls k a0 a1).bind fun x1_2=>
    joinK (fun (_:Unit)=>
    some (-1)) fun j_j0=>
    loopM k (fun (l1_8:Int)=>
    if (decide (l1_8 < (x1_2.length:Int))) then
    (ix x1_2 l1_8).bind fun x5_2=>
    if (x5_2.Name == a2) then
    some (.inr l1_8)
    else
    some (.inl (IntKind.i64.wrap (l1_8 + 1)))
    else
    (j_j0 ()).map .inr) 0
def ref17_Rec (k:Nat) (a0:List TNode) (a1:List UInt8):Option (TNode × Bool) :=
    joinK (fun (_:Unit)=>
    some ((TNode.mk 0 0 0 [] []),false)) fun j_j0=>
    loopM k (fun (l1_6:Int)=>
    if (decide (l1_6 < (a0.length:Int))) then
    (ix a0 l1_6).bind fun x4_2=>
    if (x4_2.Name == a1) then
    (ix a0 l1_6).bind fun x5_2=>
    some (.inr (x5_2,true))
    else
    some (.inl (IntKind.i64.wrap (l1_6 + 1)))
    else
    (j_j0 ()).map .inr) 0
def ref18_Typed:Nat→TNode→List TNode→Bool→Option Tref18_Fault
  | 0,_,_,_=>none
  | k + 1,a0,a1,a2=>
    if (a0.Kind == 5) then
    (ix a0.Kids 0).bind fun x2_2=>
    (ref18_Typed k x2_2 a1 false).bind fun x2_5=>
    some x2_5
    else
    if ((a0.Kind == 3) && (!a2)) then
    some (Tref18_Fault.mk a0.At 7)
    else
    (ref17_Rec k a1 a0.Name).bind fun (x5_3_0,x5_3_1)=>
    if ((a0.Kind == 4) && (!x5_3_1)) then
    some (Tref18_Fault.mk a0.At 5)
    else
    some (Tref18_Fault.mk 0 0)
def ref18_Global (k:Nat) (a0:TNode) (a1:List UInt8):Option Bool :=
    (ref18_Given k a1).bind fun x1_1=>
    joinK (fun (g1_8_13:Bool)=>
    some g1_8_13) fun j_g1_8=>
    if (decide (x1_1 ≥ 0)) then
    j_g1_8 true
    else
    (ref18_Find k a0 0 a1).bind fun x1_6=>
    j_g1_8 (decide (x1_6 ≥ 0))
def ref11_Same:Nat→TNode→TNode→Option Bool
  | 0,_,_=>none
  | k + 1,a0,a1=>
    if ((((a0.Kind != a1.Kind) || (a0.N != a1.N)) || (!(a0.Name == a1.Name))) || ((a0.Kids.length:Int) != (a1.Kids.length:Int))) then
    some false
    else
    joinK (fun (_:Unit)=>
    some true) fun j_j0=>
    loopM k (fun (l1_5:Int)=>
    if (decide (l1_5 < (a0.Kids.length:Int))) then
    (ix a0.Kids l1_5).bind fun x6_3=>
    (ix a1.Kids l1_5).bind fun x6_8=>
    (ref11_Same k x6_3 x6_8).bind fun x6_10=>
    if (!x6_10) then
    some (.inr false)
    else
    some (.inl (IntKind.i64.wrap (l1_5 + 1)))
    else
    (j_j0 ()).map .inr) 0
def ref18_params (k:Nat) (a0:TNode) (a1:List TNode) (a2:List TNode) (a3:Int):Option Tref18_Fault :=
    joinK (fun (_:Unit)=>
    some (Tref18_Fault.mk 0 0)) fun j_j0=>
    loopM k (fun (l1_9:Int)=>
    if (decide (l1_9 < (a1.length:Int))) then
    joinK (fun (_:Unit)=>
    joinK (fun (g9_10_50:Bool)=>
    if g9_10_50 then
    (ix a1 l1_9).bind fun x10_2=>
    some (.inr (Tref18_Fault.mk x10_2.At 6))
    else
    (ix a1 l1_9).bind fun x11_2=>
    (ix x11_2.Kids 0).bind fun x11_5=>
    (ref18_Typed k x11_5 a2 (a3 == 53)).bind fun x11_10=>
    if (x11_10.Why != 0) then
    some (.inr x11_10)
    else
    joinK (fun (g14_18_90:Bool)=>
    if g14_18_90 then
    (ix a1 l1_9).bind fun x15_2=>
    some (.inr (Tref18_Fault.mk x15_2.At 7))
    else
    some (.inl (IntKind.i64.wrap (l1_9 + 1)))) fun j_g14_18=>
    if (a3 == 54) then
    (ix a1 l1_9).bind fun x14_5=>
    (ix x14_5.Kids 0).bind fun x14_8=>
    (ix a1 0).bind fun x14_11=>
    (ix x14_11.Kids 0).bind fun x14_14=>
    (ref11_Same k x14_8 x14_14).bind fun x14_16=>
    j_g14_18 (!x14_16)
    else
    j_g14_18 false) fun j_g9_10=>
    if (a3 != 51) then
    (ix a1 l1_9).bind fun x9_6=>
    (ref18_Global k a0 x9_6.Name).bind fun x9_9=>
    j_g9_10 x9_9
    else
    j_g9_10 false) fun j_j2=>
    loopM k (fun (l3_10:Int)=>
    if (decide (l3_10 < l1_9)) then
    (ix a1 l3_10).bind fun x7_2=>
    (ix a1 l1_9).bind fun x7_7=>
    if (x7_2.Name == x7_7.Name) then
    (ix a1 l1_9).bind fun x8_2=>
    some (.inr (.inr (Tref18_Fault.mk x8_2.At 6)))
    else
    some (.inl (IntKind.i64.wrap (l3_10 + 1)))
    else
    (j_j2 ()).map .inr) 0
    else
    (j_j0 ()).map .inr) 0
def ref17_size:Nat→TNode→List TNode→Int→Option Int
  | 0,_,_,_=>none
  | k + 1,a0,a1,a2=>
    if (((a0.Kind == 1) || (a0.Kind == 2)) || (a0.Kind == 5)) then
    some 1
    else
    (ref17_Rec k a1 a0.Name).bind fun (x3_3_0,x3_3_1)=>
    if (((a0.Kind != 4) || (!x3_3_1)) || (decide (a2 > 99))) then
    some 5000
    else
    joinK (fun (j0_9:Int)=>
    some j0_9) fun j_j0=>
    loopM k (fun ((l1_9,l1_10):Int × Int)=>
    if ((decide (l1_10 < (x3_3_0.Kids.length:Int))) && (decide (l1_9 ≤ 4096))) then
    (ix x3_3_0.Kids l1_10).bind fun x10_4=>
    (ix x10_4.Kids 0).bind fun x10_7=>
    (ref17_size k x10_7 a1 (IntKind.i64.wrap (a2 + 1))).bind fun x10_12=>
    some (.inl ((IntKind.i64.wrap (l1_9 + x10_12)),(IntKind.i64.wrap (l1_10 + 1))))
    else
    (j_j0 l1_9).map .inr) (1,0)
def ref17_first:Nat→TNode→List TNode→Option TValue
  | 0,_,_=>none
  | k + 1,a0,a1=>
    if (a0.Kind == 1) then
    some (TValue.mk 0 0 [])
    else
    if (a0.Kind == 2) then
    some (TValue.mk 1 0 [])
    else
    if (a0.Kind == 5) then
    some (TValue.mk 2 0 [])
    else
    (ref17_Rec k a1 a0.Name).bind fun (x7_3_0,x7_3_1)=>
    joinK (fun (j0_bclloc72:List TValue)=>
    some (TValue.mk 3 0 j0_bclloc72)) fun j_j0=>
    loopM k (fun ((l1_bclloc72,l1_8):List TValue × Int)=>
    if (decide (l1_8 < (x7_3_0.Kids.length:Int))) then
    (ix x7_3_0.Kids l1_8).bind fun x12_5=>
    (ix x12_5.Kids 0).bind fun x12_8=>
    (ref17_first k x12_8 a1).bind fun x12_11=>
    if (room 40 (l1_bclloc72.length + [x12_11].length)) then
    some (.inl ((l1_bclloc72 ++ [x12_11]),(IntKind.i64.wrap (l1_8 + 1))))
    else none
    else
    (j_j0 l1_bclloc72).map .inr) ([],0)
def ref17_Zero (k:Nat) (a0:TNode) (a1:List TNode):Option (TValue × Bool) :=
    (ref17_size k a0 a1 0).bind fun x1_2=>
    if (decide (x1_2 > 4096)) then
    some ((TValue.mk 0 0 []),false)
    else
    (ref17_first k a0 a1).bind fun x3_2=>
    some (x3_2,true)
def ref18_Locs (k:Nat) (a0:TNode) (a1:Int):Option Int :=
    (ref18_Decls k a0 52).bind fun x2_1=>
    joinK (fun (j0_5:Int)=>
    some j0_5) fun j_j0=>
    loopM k (fun ((l1_5,l1_7):Int × Int)=>
    if ((decide (l1_7 < a1)) && (decide (l1_7 < (x2_1.length:Int)))) then
    (ix x2_1 l1_7).bind fun x6_3=>
    some (.inl ((IntKind.i64.wrap (l1_5 + (mx 1 (mn x6_3.N 1000000)))),(IntKind.i64.wrap (l1_7 + 1))))
    else
    (j_j0 l1_5).map .inr) (0,0)
def ref18_iso (k:Nat) (a0:TNode) (a1:TNode) (a2:Int):Option Tref18_Fault :=
    (ref18_Decls k a0 51).bind fun x1_1=>
    (ix a1.Kids 0).bind fun x2_2=>
    (ref18_Typed k x2_2 x1_1 false).bind fun x2_5=>
    if (x2_5.Why != 0) then
    some x2_5
    else
    if (decide (a1.N > 64)) then
    some (Tref18_Fault.mk a1.At 2)
    else
    (ix a1.Kids 0).bind fun x7_2=>
    (ref17_Zero k x7_2 x1_1).bind fun (x7_5_0,x7_5_1)=>
    joinK (fun (g8_8_47:Bool)=>
    if g8_8_47 then
    some (Tref18_Fault.mk a1.At 13)
    else
    if (decide ((a1.Kids.length:Int) < 2)) then
    some (Tref18_Fault.mk 0 0)
    else
    (ix a1.Kids 1).bind fun x12_3=>
    (ref18_Find k a0 54 x12_3.Name).bind fun x12_6=>
    if (decide (x12_6 < 0)) then
    (ix a1.Kids 1).bind fun x14_2=>
    some (Tref18_Fault.mk x14_2.At 5)
    else
    (ref18_Decls k a0 54).bind fun x15_1=>
    (ix x15_1 x12_6).bind fun x15_3=>
    (ix x15_3.Kids 0).bind fun x15_6=>
    (ix x15_6.Kids 0).bind fun x15_9=>
    (ix a1.Kids 0).bind fun x15_13=>
    (ref11_Same k x15_9 x15_13).bind fun x15_15=>
    if (!x15_15) then
    (ix a1.Kids 1).bind fun x16_2=>
    some (Tref18_Fault.mk x16_2.At 7)
    else
    some (Tref18_Fault.mk 0 0)) fun j_g8_8=>
    if (!x7_5_1) then
    j_g8_8 true
    else
    (ref18_Locs k a0 (IntKind.i64.wrap (a2 + 1))).bind fun x8_6=>
    j_g8_8 (decide (x8_6 > 256))
def ref18_one (k:Nat) (a0:TNode) (a1:TNode) (a2:Int):Option Tref18_Fault :=
    (ref18_Decls k a0 51).bind fun x1_1=>
    if (a1.Kind == 51) then
    (sub x1_1 0 a2).bind fun x3_5=>
    (ref18_params k a0 a1.Kids x3_5 51).bind fun x3_6=>
    some x3_6
    else
    if (a1.Kind == 52) then
    (ref18_iso k a0 a1 a2).bind fun x5_3=>
    some x5_3
    else
    if (a1.Kind == 54) then
    (sub a1.Kids 0 3).bind fun x7_3=>
    (ref18_params k a0 x7_3 x1_1 54).bind fun x7_5=>
    some x7_5
    else
    (sub a1.Kids 0 (IntKind.i64.wrap ((a1.Kids.length:Int) - 2))).bind fun x8_7=>
    (ref18_params k a0 x8_7 x1_1 53).bind fun x8_9=>
    if (x8_9.Why != 0) then
    some x8_9
    else
    (ix a1.Kids (IntKind.i64.wrap ((a1.Kids.length:Int) - 2))).bind fun x11_6=>
    (ref18_Typed k x11_6 x1_1 true).bind fun x11_9=>
    some x11_9
def ref18_Check (k:Nat) (a0:TNode):Option Tref18_Fault :=
    (ref18_Decls k a0 0).bind fun x1_1=>
    joinK (fun (_:Unit)=>
    joinK (fun (_:Unit)=>
    some (Tref18_Fault.mk 0 0)) fun j_j4=>
    loopM k (fun (l5_7:Int)=>
    if (decide (l5_7 < (x1_1.length:Int))) then
    (ix x1_1 l5_7).bind fun x15_3=>
    (ix x1_1 l5_7).bind fun x15_8=>
    (ix x1_1 l5_7).bind fun x15_13=>
    (ref18_Find k a0 x15_8.Kind x15_13.Name).bind fun x15_16=>
    (ref18_one k a0 x15_3 x15_16).bind fun x15_17=>
    if (x15_17.Why != 0) then
    some (.inr x15_17)
    else
    some (.inl (IntKind.i64.wrap (l5_7 + 1)))
    else
    (j_j4 ()).map .inr) 0) fun j_j0=>
    loopM k (fun (l1_4:Int)=>
    if (decide (l1_4 < (x1_1.length:Int))) then
    (ix x1_1 l1_4).bind fun x5_2=>
    (ref18_Given k x5_2.Name).bind fun x5_5=>
    joinK (fun (j2_5:Bool)=>
    if j2_5 then
    (ix x1_1 l1_4).bind fun x11_2=>
    some (.inr (Tref18_Fault.mk x11_2.At 6))
    else
    some (.inl (IntKind.i64.wrap (l1_4 + 1)))) fun j_j2=>
    loopM k (fun ((l3_5,l3_6):Bool × Int)=>
    if (decide (l3_6 < l1_4)) then
    joinK (fun (g9_13_42:Bool)=>
    some (.inl (g9_13_42,(IntKind.i64.wrap (l3_6 + 1))))) fun j_g9_13=>
    if l3_5 then
    j_g9_13 true
    else
    (ix x1_1 l3_6).bind fun x9_4=>
    (ix x1_1 l1_4).bind fun x9_9=>
    j_g9_13 (x9_4.Name == x9_9.Name)
    else
    (j_j2 l3_5).map .inr) ((decide (x5_5 ≥ 0)),0)
    else
    (j_j0 ()).map .inr) 0
def ref18_Bodies (k:Nat) (a0:TNode):Option (List TNode) :=
    joinK (fun (j0_3:List TNode)=>
    some j0_3) fun j_j0=>
    loopM k (fun ((l1_3,l1_4):List TNode × Int)=>
    if (decide (l1_4 < (a0.Kids.length:Int))) then
    joinK (fun (j2_3:List TNode)=>
    some (.inl (j2_3,(IntKind.i64.wrap (l1_4 + 1))))) fun j_j2=>
    (ix a0.Kids l1_4).bind fun x5_3=>
    joinK (fun (g5_15_27:Bool)=>
    if g5_15_27 then
    (ix a0.Kids l1_4).bind fun x6_4=>
    if (room 64 (l1_3.length + [x6_4].length)) then
    j_j2 (l1_3 ++ [x6_4])
    else none
    else
    j_j2 l1_3) fun j_g5_15=>
    if (x5_3.Kind != 51) then
    (ix a0.Kids l1_4).bind fun x5_11=>
    j_g5_15 (x5_11.Kind != 52)
    else
    j_g5_15 false
    else
    (j_j0 l1_3).map .inr) ([],0)
def ref19_Get (k:Nat) (a0:List Tref19_Name) (a1:List UInt8):Option Int :=
    joinK (fun (_:Unit)=>
    some (-1)) fun j_j0=>
    loopM k (fun (l1_5:Int)=>
    if (decide (l1_5 < (a0.length:Int))) then
    (ix a0 l1_5).bind fun x4_2=>
    if (x4_2.Name == a1) then
    some (.inr l1_5)
    else
    some (.inl (IntKind.i64.wrap (l1_5 + 1)))
    else
    (j_j0 ()).map .inr) 0
def ref20_Params (k:Nat) (a0:TNode):Option (List Tref19_Name × TNode) :=
    joinK (fun ((j0_5,j0_oloc6):Int × TNode)=>
    joinK (fun ((j1_5,j1_oloc6):Int × TNode)=>
    joinK (fun (j2_4:List Tref19_Name)=>
    some (j2_4,j1_oloc6)) fun j_j2=>
    loopM k (fun ((l3_4,l3_7):List Tref19_Name × Int)=>
    if (decide (l3_7 < j1_5)) then
    joinK (fun (j4_4:List Tref19_Name)=>
    some (.inl (j4_4,(IntKind.i64.wrap (l3_7 + 1))))) fun j_j4=>
    (ix a0.Kids l3_7).bind fun x13_4=>
    (ref19_Get k l3_4 x13_4.Name).bind fun x13_7=>
    if (decide (x13_7 < 0)) then
    (ix a0.Kids l3_7).bind fun x14_4=>
    (ix a0.Kids l3_7).bind fun x14_10=>
    (ix x14_10.Kids 0).bind fun x14_13=>
    if (room 88 (l3_4.length + [(Tref19_Name.mk x14_4.Name x14_13 1)].length)) then
    j_j4 (l3_4 ++ [(Tref19_Name.mk x14_4.Name x14_13 1)])
    else none
    else
    j_j4 l3_4
    else
    (j_j2 l3_4).map .inr) ([],0)) fun j_j1=>
    if (a0.Kind == 54) then
    (ix a0.Kids 0).bind fun x9_2=>
    (ix x9_2.Kids 0).bind fun x9_5=>
    j_j1 (3,x9_5)
    else
    j_j1 (j0_5,j0_oloc6)) fun j_j0=>
    if (a0.Kind == 53) then
    (ix a0.Kids (IntKind.i64.wrap ((a0.Kids.length:Int) - 2))).bind fun x6_3=>
    j_j0 ((IntKind.i64.wrap ((a0.Kids.length:Int) - 2)),x6_3)
    else
    j_j0 (0,(TNode.mk 0 0 0 [] []))
def ref20_Block (k:Nat) (a0:TNode):Option TNode :=
    if (a0.Kind == 30) then
    some a0
    else
    (ix a0.Kids (IntKind.i64.wrap ((a0.Kids.length:Int) - 1))).bind fun x3_6=>
    some x3_6
def ref21_All (k:Nat) (a0:TNode):Option Tref18_Fault :=
    (ref18_Bodies k a0).bind fun x1_1=>
    joinK (fun (_:Unit)=>
    some (Tref18_Fault.mk 0 0)) fun j_j0=>
    loopM k (fun (l1_4:Int)=>
    if (decide (l1_4 < (x1_1.length:Int))) then
    (ix x1_1 l1_4).bind fun x5_2=>
    (ref20_Params k x5_2).bind fun (x5_4_0,x5_4_1)=>
    joinK (fun (g6_11_34:Bool)=>
    if g6_11_34 then
    (ix x1_1 l1_4).bind fun x7_2=>
    some (.inr (Tref18_Fault.mk x7_2.At 9))
    else
    some (.inl (IntKind.i64.wrap (l1_4 + 1)))) fun j_g6_11=>
    if (x5_4_1.Kind != 0) then
    (ix x1_1 l1_4).bind fun x6_6=>
    (ref20_Block k x6_6).bind fun x6_8=>
    (ref21_Stmt k x6_8).bind fun x6_9=>
    j_g6_11 (!x6_9)
    else
    j_g6_11 false
    else
    (j_j0 ()).map .inr) 0
def law21_EndsTell (k:Nat) (a0:TNode):Option Bool :=
    (law21_works k).bind fun x1_0=>
    joinK (fun (g1_6_21:Bool)=>
    joinK (fun (g1_11_26:Bool)=>
    if g1_11_26 then
    (law21_works k).bind fun x2_0=>
    some x2_0
    else
    (ref11_Walk k a0).bind fun x3_1=>
    joinK (fun (_:Unit)=>
    (ref18_Check k a0).bind fun x9_1=>
    if (x9_1.Why != 0) then
    some true
    else
    (decl_Of k a0).bind fun (x11_1_0,x11_1_1,x11_1_2)=>
    (ends_All k x11_1_0).bind fun (x12_1_0,x12_1_1)=>
    (ref21_All k a0).bind fun x13_1=>
    (ref18_Bodies k a0).bind fun x14_1=>
    joinK (fun (_:Unit)=>
    some ((x12_1_0 == x13_1.At) && (x12_1_1 == x13_1.Why))) fun j_j2=>
    loopM k (fun (l3_12:Int)=>
    if (decide (l3_12 < (x14_1.length:Int))) then
    (ix x14_1 l3_12).bind fun x18_2=>
    (ref20_Params k x18_2).bind fun (x18_4_0,x18_4_1)=>
    (ix x14_1 l3_12).bind fun x19_2=>
    (ends_Body k x19_2).bind fun x19_4=>
    joinK (fun (g19_15_102:Bool)=>
    if (!(x19_4 == g19_15_102)) then
    some (.inr false)
    else
    some (.inl (IntKind.i64.wrap (l3_12 + 1)))) fun j_g19_15=>
    if (x18_4_1.Kind == 0) then
    j_g19_15 true
    else
    (ix x14_1 l3_12).bind fun x19_11=>
    (ref20_Block k x19_11).bind fun x19_13=>
    (ref21_Stmt k x19_13).bind fun x19_14=>
    j_g19_15 x19_14
    else
    (j_j2 ()).map .inr) 0) fun j_j0=>
    loopM k (fun (l1_4:Int)=>
    if (decide (l1_4 < (x3_1.length:Int))) then
    (ix x3_1 l1_4).bind fun x7_2=>
    (ref11_Stmt k x7_2).bind fun x7_4=>
    joinK (fun (g7_17_53:Bool)=>
    if g7_17_53 then
    some (.inr false)
    else
    some (.inl (IntKind.i64.wrap (l1_4 + 1)))) fun j_g7_17=>
    if x7_4 then
    (ix x3_1 l1_4).bind fun x7_8=>
    (ends_Stmt k x7_8).bind fun x7_10=>
    (ix x3_1 l1_4).bind fun x7_13=>
    (ref21_Stmt k x7_13).bind fun x7_15=>
    j_g7_17 (!(x7_10 == x7_15))
    else
    j_g7_17 false
    else
    (j_j0 ()).map .inr) 0) fun j_g1_11=>
    if g1_6_21 then
    j_g1_11 true
    else
    (ref11_Prog k a0).bind fun x1_9=>
    j_g1_11 (!x1_9)) fun j_g1_6=>
    if (!x1_0) then
    j_g1_6 true
    else
    (law20_Fits k a0).bind fun x1_4=>
    j_g1_6 (x1_4 == 0)
end Go.Proofs.YtjojaiomgdjhfaaGreatDoor.F
