/- How plain values are told. No condition. -/
import Derived.Test.YtbckfbohbjhffaaZTabR
import Derived.Test.YtbckfbohbjhffaaZSem4
import Derived.Test.YtbckfbohbjhffaaZST
set_option linter.unusedVariables false
set_option maxRecDepth 100000
namespace Go.Proofs.Ytbckfbohbjhffaa.AE
open Go F
mutual
def fTValue : TValue → AV
  | ⟨v0, v1, v2⟩ => .agg [.int .i64 v0, .int .i64 v1, .slice .none 3 (FTValue v2)]
def FTValue : List TValue → List AV
  | [] => []
  | x :: r => fTValue x :: FTValue r
end
theorem FTValue_map : ∀ l, FTValue l = l.map fTValue
  | [] => rfl
  | x :: r => by simp only [FTValue, List.map_cons, FTValue_map r]
def eTValue : LE TValue := ⟨fTValue, FTValue, FTValue_map⟩
def cTValue (x : TValue) : List AV := [.int .i64 x.Kind, .int .i64 x.N, .slice .none 3 (eTValue.F x.Kids)]
theorem fTValue_eq (x : TValue) : fTValue x = .agg (cTValue x) := by cases x; rfl
theorem xTValue (x : TValue) : cellsOf (eTValue.f x) = cTValue x := by show cellsOf (fTValue x) = _; rw [fTValue_eq]; rfl
theorem eTValue_F (l : List TValue) : eTValue.F l = FTValue l := rfl
def cTOutcome (x : TOutcome) : List AV := [.int .i64 x.Kind, .int .i64 x.Trap, .int .i64 x.At, .slice .none 3 (eTValue.F x.Log), .slice .none 3 (eTValue.F x.State)]
def eTOutcome : LE TOutcome := LE.of fun x => .agg (cTOutcome x)
theorem xTOutcome (x : TOutcome) : cellsOf (eTOutcome.f x) = cTOutcome x := rfl
def cTsweep_Count (x : Tsweep_Count) : List AV := [.int .i64 x.Out.Kind, .int .i64 x.Out.Trap, .int .i64 x.Out.At, .slice .none 3 (eTValue.F x.Out.Log), .slice .none 3 (eTValue.F x.Out.State), .int .i64 x.Times]
def eTsweep_Count : LE Tsweep_Count := LE.of fun x => .agg (cTsweep_Count x)
theorem xTsweep_Count (x : Tsweep_Count) : cellsOf (eTsweep_Count.f x) = cTsweep_Count x := rfl
def cTPick (x : TPick) : List AV := [.int .i64 x.Pick, .int .i64 x.Slice, .bool x.Gc]
def eTPick : LE TPick := LE.of fun x => .agg (cTPick x)
theorem xTPick (x : TPick) : cellsOf (eTPick.f x) = cTPick x := rfl
def eL_eTPick : LE (List TPick) := LE.of fun x => .slice .none 3 (eTPick.F x)
noncomputable def Z : Seat := ⟨tab, Try.prog, [], tb_ok, by kernel_rfl⟩
end Go.Proofs.Ytbckfbohbjhffaa.AE
