/- The functions, printed by a program (wip/dev/gen.py) out of their code. No condition. -/
import Derived.Test.YtbckfbohbjhffaaZST
set_option linter.unusedVariables false
set_option maxRecDepth 100000
namespace Go.Proofs.Ytbckfbohbjhffaa.F
open Go
def slices_Clone_Pick (k : Nat) (a0 : List TPick) : Option (List TPick) :=
    if (room 24 (([] : List TPick).length + a0.length)) then
        some a0
        else none
def sweep_longer (k : Nat) (a0 : List (List TPick)) (a1 : Int) (a2 : Int) : Option (List (List TPick)) :=
    joinK (fun (j0_7 : List (List TPick)) =>
    some j0_7) fun j_j0 =>
    loopM k (fun ((l1_7, l1_13) : List (List TPick) × Int) =>
    if (decide (l1_13 < (a0.length : Int))) then
    joinK (fun (j2_7 : List (List TPick)) =>
    some (.inl (j2_7, (IntKind.i64.wrap (l1_13 + 1))))) fun j_j2 =>
    (ix a0 l1_13).bind fun x4_0 =>
    loopM k (fun ((l3_7, l3_18) : List (List TPick) × Int) =>
    if (decide (l3_18 < a2)) then
    (slices_Clone_Pick k x4_0).bind fun x8_2 =>
    if (room 24 (x8_2.length + [(TPick.mk l3_18 1 ((Int.tmod a1 2) == 1))].length)) then
    if (room 24 (l3_7.length + [(x8_2 ++ [(TPick.mk l3_18 1 ((Int.tmod a1 2) == 1))])].length)) then
    some (.inl ((l3_7 ++ [(x8_2 ++ [(TPick.mk l3_18 1 ((Int.tmod a1 2) == 1))])]), (IntKind.i64.wrap (l3_18 + 1))))
    else none
    else none
    else
    (j_j2 l3_7).map .inr) (l1_7, 0)
    else
    (j_j0 l1_7).map .inr) ([], 0)
def sweep_All (k : Nat) (a0 : Int) (a1 : Int) : Option (List (List TPick)) :=
    if ((((decide (a0 < 1)) || (decide (a0 > 64))) || (decide (a1 < 1))) || (decide (a1 > 4096))) then
    some []
    else
    joinK (fun (j0_5 : List (List TPick)) =>
    some j0_5) fun j_j0 =>
    loopM k (fun ((l1_5, l1_6) : List (List TPick) × Int) =>
    if (decide (l1_6 < a0)) then
    if (decide ((IntKind.i64.wrap (((l1_5.length : Int)) * a1)) > 4096)) then
    some (.inr [])
    else
    (sweep_longer k l1_5 l1_6 a1).bind fun x9_3 =>
    some (.inl (x9_3, (IntKind.i64.wrap (l1_6 + 1))))
    else
    (j_j0 l1_5).map .inr) ([[]], 0)
mutual
def val_Same : Nat → TValue → TValue → Option Bool
  | 0, _, _ => none
  | k + 1, a0, a1 =>
    joinK (fun (g1_18_23 : Bool) =>
    some g1_18_23) fun j_g1_18 =>
    if ((a0.Kind == a1.Kind) && (a0.N == a1.N)) then
    (slices_EqualFunc_Value_val_Same k a0.Kids a1.Kids).bind fun x1_17 =>
    j_g1_18 x1_17
    else
    j_g1_18 false
def slices_EqualFunc_Value_val_Same : Nat → List TValue → List TValue → Option Bool
  | 0, _, _ => none
  | k + 1, a0, a1 =>
    if (((a0.length : Int)) != ((a1.length : Int))) then
    some false
    else
    joinK (fun (_ : Unit) =>
    some true) fun j_j0 =>
    loopM k (fun (l1_17 : Int) =>
    if (decide (l1_17 < (a0.length : Int))) then
    (ix a0 l1_17).bind fun x5_1 =>
    (ix a1 l1_17).bind fun x6_2 =>
    (val_Same k x5_1 x6_2).bind fun x7_3 =>
    if (!x7_3) then
    some (.inr false)
    else
    some (.inl (IntKind.i64.wrap (l1_17 + 1)))
    else
    (j_j0 ()).map .inr) 0
end
def sweep_same (k : Nat) (a0 : TOutcome) (a1 : TOutcome) : Option Bool :=
    joinK (fun (g1_25_30 : Bool) =>
    joinK (fun (g1_32_37 : Bool) =>
    some g1_32_37) fun j_g1_32 =>
    if g1_25_30 then
    (slices_EqualFunc_Value_val_Same k a0.State a1.State).bind fun x1_31 =>
    j_g1_32 x1_31
    else
    j_g1_32 false) fun j_g1_25 =>
    if (((a0.Kind == a1.Kind) && (a0.Trap == a1.Trap)) && (a0.At == a1.At)) then
    (slices_EqualFunc_Value_val_Same k a0.Log a1.Log).bind fun x1_24 =>
    j_g1_25 x1_24
    else
    j_g1_25 false
def sweep_Settled (k : Nat) (a0 : List Tsweep_Count) : Option Bool :=
    joinK (fun (_ : Unit) =>
    some true) fun j_j0 =>
    loopM k (fun ((l1_3, l1_8) : Option TOutcome × Int) =>
    if (decide (l1_8 < (a0.length : Int))) then
    joinK (fun (j2_3 : Option TOutcome) =>
    some (.inl (j2_3, (IntKind.i64.wrap (l1_8 + 1))))) fun j_j2 =>
    (ix a0 l1_8).bind fun x5_2 =>
    if (x5_2.Out.Kind == 4) then
    some (.inr false)
    else
    if ((decide (x5_2.Out.Kind > 1)) || (decide (x5_2.Out.Kind < 0))) then
    j_j2 l1_3
    else
    (match l1_3 with
        | none => (j_j2 (some x5_2.Out))
        | some p9_l1_3 => ((sweep_same k p9_l1_3 x5_2.Out).bind fun x11_6 =>
    if (!x11_6) then
    some (.inr false)
    else
    j_j2 (some p9_l1_3)))
    else
    (j_j0 ()).map .inr) (none, 0)
def law47_works (k : Nat) : Option Bool :=
    (sweep_All k 2 2).bind fun x1_0 =>
    joinK (fun (g2_9_12 : Bool) =>
    joinK (fun (g2_18_21 : Bool) =>
    joinK (fun (g2_27_30 : Bool) =>
    joinK (fun (g2_30_33 : Bool) =>
    joinK (fun (g2_37_40 : Bool) =>
    some g2_37_40) fun j_g2_37 =>
    if g2_30_33 then
    (sweep_Settled k [(Tsweep_Count.mk (TOutcome.mk 4 0 0 [] []) 0)]).bind fun x2_35 =>
    j_g2_37 (!x2_35)
    else
    j_g2_37 false) fun j_g2_30 =>
    if g2_27_30 then
    (sweep_Settled k []).bind fun x2_29 =>
    j_g2_30 x2_29
    else
    j_g2_30 false) fun j_g2_27 =>
    if g2_18_21 then
    (ix x1_0 2).bind fun x2_21 =>
    (ix x2_21 1).bind fun x2_23 =>
    j_g2_27 ((x2_23.Pick == 0) && ((x2_23.Slice == 1) && ((x2_23.Gc == true) && true)))
    else
    j_g2_27 false) fun j_g2_18 =>
    if g2_9_12 then
    (ix x1_0 2).bind fun x2_12 =>
    (ix x2_12 0).bind fun x2_14 =>
    j_g2_18 ((x2_14.Pick == 1) && ((x2_14.Slice == 1) && ((x2_14.Gc == false) && true)))
    else
    j_g2_18 false) fun j_g2_9 =>
    if (((x1_0.length : Int)) == 4) then
    (ix x1_0 2).bind fun x2_5 =>
    j_g2_9 (((x2_5.length : Int)) == 2)
    else
    j_g2_9 false
mutual
def ref06_Size : Nat → TValue → Option Int
  | 0, _ => none
  | k + 1, a0 =>
    joinK (fun (j0_3 : Int) =>
    some j0_3) fun j_j0 =>
    loopM k (fun ((l1_3, l1_4) : Int × Int) =>
    if (decide (l1_4 < ((a0.Kids.length : Int)))) then
    (ix a0.Kids l1_4).bind fun x5_4 =>
    (ref06_Size k x5_4).bind fun x5_6 =>
    some (.inl ((IntKind.i64.wrap (l1_3 + x5_6)), (IntKind.i64.wrap (l1_4 + 1))))
    else
    (j_j0 l1_3).map .inr) (1, 0)
end
def law06_Small (k : Nat) (a0 : TValue) : Option Int :=
    (ref06_Size k a0).bind fun x1_1 =>
    if (decide (x1_1 > 300)) then
    some 0
    else
    some 1
mutual
def ref06_Same : Nat → TValue → TValue → Option Bool
  | 0, _, _ => none
  | k + 1, a0, a1 =>
    if ((a0.Kind != a1.Kind) || (a0.N != a1.N)) then
    some false
    else
    (ref06_SameAll k a0.Kids a1.Kids).bind fun x3_4 =>
    some x3_4
def ref06_SameAll : Nat → List TValue → List TValue → Option Bool
  | 0, _, _ => none
  | k + 1, a0, a1 =>
    if (((a0.length : Int)) != ((a1.length : Int))) then
    some false
    else
    joinK (fun (_ : Unit) =>
    some true) fun j_j0 =>
    loopM k (fun (l1_5 : Int) =>
    if (decide (l1_5 < ((a0.length : Int)))) then
    (ix a0 l1_5).bind fun x6_2 =>
    (ix a1 l1_5).bind fun x6_6 =>
    (ref06_Same k x6_2 x6_6).bind fun x6_8 =>
    if (!x6_8) then
    some (.inr false)
    else
    some (.inl (IntKind.i64.wrap (l1_5 + 1)))
    else
    (j_j0 ()).map .inr) 0
end
def ref25_Same (k : Nat) (a0 : TOutcome) (a1 : TOutcome) : Option Bool :=
    joinK (fun (g1_25_30 : Bool) =>
    joinK (fun (g1_32_37 : Bool) =>
    some g1_32_37) fun j_g1_32 =>
    if g1_25_30 then
    (ref06_SameAll k a0.State a1.State).bind fun x1_31 =>
    j_g1_32 x1_31
    else
    j_g1_32 false) fun j_g1_25 =>
    if (((a0.Kind == a1.Kind) && (a0.Trap == a1.Trap)) && (a0.At == a1.At)) then
    (ref06_SameAll k a0.Log a1.Log).bind fun x1_24 =>
    j_g1_25 x1_24
    else
    j_g1_25 false
def law47_SweepSettles (k : Nat) (a0 : List Tsweep_Count) : Option Bool :=
    (law47_works k).bind fun x1_0 =>
    if ((!x1_0) || (decide (((a0.length : Int)) > 30))) then
    (law47_works k).bind fun x2_0 =>
    some x2_0
    else
    joinK (fun (j0_3 : Bool) =>
    (sweep_Settled k a0).bind fun x27_1 =>
    some (x27_1 == j0_3)) fun j_j0 =>
    loopM k (fun ((l1_3, l1_4) : Bool × Int) =>
    if (decide (l1_4 < ((a0.length : Int)))) then
    joinK (fun (j2_3 : Bool) =>
    some (.inl (j2_3, (IntKind.i64.wrap (l1_4 + 1))))) fun j_j2 =>
    (ix a0 l1_4).bind fun x7_2 =>
    if (decide ((IntKind.i64.wrap (((x7_2.Out.Log.length : Int)) + ((x7_2.Out.State.length : Int)))) > 50)) then
    some (.inr true)
    else
    joinK (fun (_ : Unit) =>
    joinK (fun (_ : Unit) =>
    loopM k (fun ((l7_3, l7_8) : Bool × Int) =>
    if (decide (l7_8 < l1_4)) then
    joinK (fun (j8_3 : Bool) =>
    some (.inl (j8_3, (IntKind.i64.wrap (l7_8 + 1))))) fun j_j8 =>
    (ix a0 l7_8).bind fun x24_2 =>
    if (((x7_2.Out.Kind == 0) || (x7_2.Out.Kind == 1)) && ((x24_2.Out.Kind == 0) || (x24_2.Out.Kind == 1))) then
    joinK (fun (g26_5_104 : Bool) =>
    j_j8 g26_5_104) fun j_g26_5 =>
    if l7_3 then
    (ref25_Same k x7_2.Out x24_2.Out).bind fun x26_4 =>
    j_g26_5 x26_4
    else
    j_g26_5 false
    else
    j_j8 l7_3
    else
    (j_j2 l7_3).map .inr) ((l1_3 && (x7_2.Out.Kind != 4)), 0)) fun j_j5 =>
    loopM k (fun (l6_7 : Int) =>
    if (decide (l6_7 < ((x7_2.Out.State.length : Int)))) then
    (ix x7_2.Out.State l6_7).bind fun x18_3 =>
    (law06_Small k x18_3).bind fun x18_5 =>
    if (x18_5 == 0) then
    some (.inr (.inr true))
    else
    some (.inl (IntKind.i64.wrap (l6_7 + 1)))
    else
    (j_j5 ()).map .inr) 0) fun j_j3 =>
    loopM k (fun (l4_6 : Int) =>
    if (decide (l4_6 < ((x7_2.Out.Log.length : Int)))) then
    (ix x7_2.Out.Log l4_6).bind fun x13_3 =>
    (law06_Small k x13_3).bind fun x13_5 =>
    if (x13_5 == 0) then
    some (.inr (.inr true))
    else
    some (.inl (IntKind.i64.wrap (l4_6 + 1)))
    else
    (j_j3 ()).map .inr) 0
    else
    (j_j0 l1_3).map .inr) (true, 0)
def law47_SweepAll (k : Nat) (a0 : Int) (a1 : Int) : Option Bool :=
    (law47_works k).bind fun x1_0 =>
    if (!x1_0) then
    some false
    else
    (sweep_All k a0 a1).bind fun x3_2 =>
    joinK (fun (j0_6 : Int) =>
    if ((((decide (a0 < 1)) || (decide (a0 > 64))) || (decide (a1 < 1))) || (decide (j0_6 > 4096))) then
    some (((x3_2.length : Int)) == 0)
    else
    if (((x3_2.length : Int)) != j0_6) then
    some false
    else
    joinK (fun (_ : Unit) =>
    some true) fun j_j2 =>
    loopM k (fun (l3_8 : Int) =>
    if (decide (l3_8 < ((x3_2.length : Int)))) then
    joinK (fun (_ : Unit) =>
    some (.inl (IntKind.i64.wrap (l3_8 + 1)))) fun j_j4 =>
    (ix x3_2 l3_8).bind fun x16_2 =>
    if (((x16_2.length : Int)) != a0) then
    some (.inr false)
    else
    loopM k (fun ((l5_9, l5_10) : Int × Int) =>
    if (decide (l5_10 ≥ 0)) then
    (ix x3_2 l3_8).bind fun x22_2 =>
    (ix x22_2 l5_10).bind fun x22_5 =>
    if (a1 == 0) then none else
    if (!((x22_5.Pick == (Int.tmod l5_9 a1)) && ((x22_5.Slice == 1) && ((x22_5.Gc == ((Int.tmod l5_10 2) == 1)) && true)))) then
    some (.inr (.inr false))
    else
    if (a1 == 0) then none else
    some (.inl ((IntKind.i64.wrap (Int.tdiv l5_9 a1)), (IntKind.i64.wrap (l5_10 - 1))))
    else
    (j_j4 ()).map .inr) (l3_8, (IntKind.i64.wrap (a0 - 1)))
    else
    (j_j2 ()).map .inr) 0) fun j_j0 =>
    loopM k (fun ((l1_6, l1_7) : Int × Int) =>
    if (((decide (l1_7 < a0)) && (decide (l1_7 < 64))) && (decide (l1_6 ≤ 4096))) then
    some (.inl ((IntKind.i64.wrap (l1_6 * (mx 0 (mn a1 5000)))), (IntKind.i64.wrap (l1_7 + 1))))
    else
    (j_j0 l1_6).map .inr) (1, 0)
end Go.Proofs.Ytbckfbohbjhffaa.F
