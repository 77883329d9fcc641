/- The plain types of the functions that are printed. No condition. -/
import Derived.Test.YtbckfbohbjhffaaZWords
set_option linter.unusedVariables false
set_option maxRecDepth 100000
namespace Go.Proofs.Ytbckfbohbjhffaa.F
open Go
structure TValue where
  Kind : Int
  N : Int
  Kids : List TValue
structure TOutcome where
  Kind : Int
  Trap : Int
  At : Int
  Log : List TValue
  State : List TValue
structure Tsweep_Count where
  Out : TOutcome
  Times : Int
structure TPick where
  Pick : Int
  Slice : Int
  Gc : Bool
end Go.Proofs.Ytbckfbohbjhffaa.F
