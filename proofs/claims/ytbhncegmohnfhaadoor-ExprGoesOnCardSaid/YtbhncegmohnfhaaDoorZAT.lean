/- The plain types of the functions that are printed. No condition. -/
import Derived.Test.YtbhncegmohnfhaaDoorZWords
set_option linter.unusedVariables false
set_option maxRecDepth 100000
namespace Go.Proofs.YtbhncegmohnfhaaDoor.F
open Go
structure TToken where
  Kind : Int
  At : Int
  N : Int
  Text : List UInt8
structure TNode where
  Kind : Int
  At : Int
  N : Int
  Name : List UInt8
  Kids : List TNode
structure Texpr_reader where
  l : List TToken
  at_ : Int
  bad : Bool
def g_word_spellings : List (List UInt8) := [[], [43], [45], [42], [47], [37], [61, 61], [33, 61], [60], [60, 61], [62], [62, 61], [38, 38], [124, 124], [33]]
end Go.Proofs.YtbhncegmohnfhaaDoor.F
