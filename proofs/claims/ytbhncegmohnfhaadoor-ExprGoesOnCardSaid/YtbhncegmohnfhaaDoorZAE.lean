/- How plain values are told. No condition. -/
import Derived.Test.YtbhncegmohnfhaaDoorZTabD
import Derived.Test.YtbhncegmohnfhaaDoorZAT
set_option linter.unusedVariables false
set_option maxRecDepth 100000
namespace Go.Proofs.YtbhncegmohnfhaaDoor.AE
open Go F
def cTToken (x : TToken) : List AV := [.int .i64 x.Kind, .int .i64 x.At, .int .i64 x.N, .str x.Text]
def eTToken : LE TToken := LE.of fun x => .agg (cTToken x)
theorem xTToken (x : TToken) : cellsOf (eTToken.f x) = cTToken x := rfl
mutual
def fTNode : TNode → AV
  | ⟨v0, v1, v2, v3, v4⟩ => .agg [.int .i64 v0, .int .i64 v1, .int .i64 v2, .str v3, .slice .none 5 (FTNode v4)]
def FTNode : List TNode → List AV
  | [] => []
  | x :: r => fTNode x :: FTNode r
end
theorem FTNode_map : ∀ l, FTNode l = l.map fTNode
  | [] => rfl
  | x :: r => by simp only [FTNode, List.map_cons, FTNode_map r]
def eTNode : LE TNode := ⟨fTNode, FTNode, FTNode_map⟩
def cTNode (x : TNode) : List AV := [.int .i64 x.Kind, .int .i64 x.At, .int .i64 x.N, .str x.Name, .slice .none 5 (eTNode.F x.Kids)]
theorem fTNode_eq (x : TNode) : fTNode x = .agg (cTNode x) := by cases x; rfl
theorem xTNode (x : TNode) : cellsOf (eTNode.f x) = cTNode x := by show cellsOf (fTNode x) = _; rw [fTNode_eq]; rfl
theorem eTNode_F (l : List TNode) : eTNode.F l = FTNode l := rfl
def cTexpr_reader (x : Texpr_reader) : List AV := [.slice .none 4 (eTToken.F x.l), .int .i64 x.at_, .bool x.bad]
def eTexpr_reader : LE Texpr_reader := LE.of fun x => .agg (cTexpr_reader x)
theorem xTexpr_reader (x : Texpr_reader) : cellsOf (eTexpr_reader.f x) = cTexpr_reader x := rfl
noncomputable def Z : Seat := ⟨tab, Tryd.prog, [(0, eStr.F g_word_spellings)], tb_ok, by kernel_rfl⟩
end Go.Proofs.YtbhncegmohnfhaaDoor.AE
