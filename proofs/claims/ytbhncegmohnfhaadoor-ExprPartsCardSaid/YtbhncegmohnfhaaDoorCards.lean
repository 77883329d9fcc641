/-
  DERIVED. GIVEN WITH THE SEED: THE CARDS: each row of YtbhncegmohnfhaaDoorRows.lean that lists a variable, with what it lists TIED to the program's text (the seventh form; the later family's looks); each row that meets fmt, with fmt's text TOLD by the authors' own Lean function (tested against real Go, not proved from fmt's source: count such statements apart). THE CARD IS WHAT COUNTS. Prove the row's statement (the work); the ties are given (YtbhncegmohnfhaaDoorTie.lean); close each card by the builder's one call (the guide's Derived/Test/ToyasCard.lean, 'card_holds'). Laid BY PROGRAM, IN A SANDBOX (cutbox-door.mjs). By AI agents, Wed Nov 11 2026. No macro, syntax, notation, axiom, sorry.
-/
import Derived.Test.YtbhncegmohnfhaaDoorRows
import GoSem.ClaimSeven
namespace Go.Proofs.YtbhncegmohnfhaaDoor
namespace Rows

/-- THE TIED CARD OF 'marlinelaw13.ExprReads'. -/
def exprReadsCard : Claim7 := { stood := { row := exprReadsRow, standIns := [], harness := (true, "e8f2daafa77b10109f115c3b2394d778e5de9cfc51c3106e457f6d9c3305cb9e"), looks := false }, kinds := [], alts := [], laidByText := true, laidKinds := [.data], laidTests := true, laidLooks := .later }
def ExprReadsCardSaid : Prop := Claim7.holds Tryd.pinned (.plain (OpenSpec.ofChange exprReadsSpec)) exprReadsCard

/-- THE TIED CARD OF 'marlinelaw13.ExprGoesOn'. -/
def exprGoesOnCard : Claim7 := { stood := { row := exprGoesOnRow, standIns := [], harness := (true, "e8f2daafa77b10109f115c3b2394d778e5de9cfc51c3106e457f6d9c3305cb9e"), looks := false }, kinds := [], alts := [], laidByText := true, laidKinds := [.data], laidTests := true, laidLooks := .later }
def ExprGoesOnCardSaid : Prop := Claim7.holds Tryd.pinned (.plain (OpenSpec.ofChange exprGoesOnSpec)) exprGoesOnCard

/-- THE TIED CARD OF 'marlinelaw13.ExprParts'. -/
def exprPartsCard : Claim7 := { stood := { row := exprPartsRow, standIns := [], harness := (true, "e8f2daafa77b10109f115c3b2394d778e5de9cfc51c3106e457f6d9c3305cb9e"), looks := false }, kinds := [], alts := [], laidByText := true, laidKinds := [.data], laidTests := true, laidLooks := .later }
def ExprPartsCardSaid : Prop := Claim7.holds Tryd.pinned (.plain (OpenSpec.ofChange exprPartsSpec)) exprPartsCard

/-- THE TIED CARD OF 'marlinelaw14.StmtFirst'. -/
def stmtFirstCard : Claim7 := { stood := { row := stmtFirstRow, standIns := [], harness := (true, "e8f2daafa77b10109f115c3b2394d778e5de9cfc51c3106e457f6d9c3305cb9e"), looks := false }, kinds := [], alts := [], laidByText := true, laidKinds := [.data], laidTests := true, laidLooks := .later }
def StmtFirstCardSaid : Prop := Claim7.holds Tryd.pinned (.plain (OpenSpec.ofChange stmtFirstSpec)) stmtFirstCard

/-- THE TIED CARD OF 'marlinelaw14.StmtReads'. -/
def stmtReadsCard : Claim7 := { stood := { row := stmtReadsRow, standIns := [], harness := (true, "e8f2daafa77b10109f115c3b2394d778e5de9cfc51c3106e457f6d9c3305cb9e"), looks := false }, kinds := [], alts := [], laidByText := true, laidKinds := [.data], laidTests := true, laidLooks := .later }
def StmtReadsCardSaid : Prop := Claim7.holds Tryd.pinned (.plain (OpenSpec.ofChange stmtReadsSpec)) stmtReadsCard

/-- THE TIED CARD OF 'marlinelaw15.ParseFaults'. -/
def parseFaultsCard : Claim7 := { stood := { row := parseFaultsRow, standIns := [], harness := (true, "e8f2daafa77b10109f115c3b2394d778e5de9cfc51c3106e457f6d9c3305cb9e"), looks := false }, kinds := [], alts := [], laidByText := true, laidKinds := [.listed, .data, .data], laidTests := true, laidLooks := .later }
def ParseFaultsCardSaid : Prop := Claim7.holds Tryd.pinned (.plain (OpenSpec.ofChange parseFaultsSpec)) parseFaultsCard

/-- THE TIED CARD OF 'marlinelaw15.ParseDeep'. -/
def parseDeepCard : Claim7 := { stood := { row := parseDeepRow, standIns := [], harness := (true, "e8f2daafa77b10109f115c3b2394d778e5de9cfc51c3106e457f6d9c3305cb9e"), looks := false }, kinds := [], alts := [], laidByText := true, laidKinds := [.listed, .data, .data], laidTests := true, laidLooks := .later }
def ParseDeepCardSaid : Prop := Claim7.holds Tryd.pinned (.plain (OpenSpec.ofChange parseDeepSpec)) parseDeepCard

/-- THE SECOND FORM's CARD OF 'marlinelaw13.ExprReads'. -/
def exprReadsUptoCard : Claim7 := { stood := { row := exprReadsUptoRow, standIns := [], harness := (true, "e8f2daafa77b10109f115c3b2394d778e5de9cfc51c3106e457f6d9c3305cb9e"), looks := false }, kinds := [], alts := [], laidByText := true, laidKinds := [.data], laidTests := true, laidLooks := .later }
def ExprReadsUptoCardSaid : Prop := Claim7.holds Tryd.pinned (.plain (OpenSpec.upto exprReadsSpec)) exprReadsUptoCard

/-- THE SECOND FORM's CARD OF 'marlinelaw13.ExprGoesOn'. -/
def exprGoesOnUptoCard : Claim7 := { stood := { row := exprGoesOnUptoRow, standIns := [], harness := (true, "e8f2daafa77b10109f115c3b2394d778e5de9cfc51c3106e457f6d9c3305cb9e"), looks := false }, kinds := [], alts := [], laidByText := true, laidKinds := [.data], laidTests := true, laidLooks := .later }
def ExprGoesOnUptoCardSaid : Prop := Claim7.holds Tryd.pinned (.plain (OpenSpec.upto exprGoesOnSpec)) exprGoesOnUptoCard

/-- THE SECOND FORM's CARD OF 'marlinelaw13.ExprParts'. -/
def exprPartsUptoCard : Claim7 := { stood := { row := exprPartsUptoRow, standIns := [], harness := (true, "e8f2daafa77b10109f115c3b2394d778e5de9cfc51c3106e457f6d9c3305cb9e"), looks := false }, kinds := [], alts := [], laidByText := true, laidKinds := [.data], laidTests := true, laidLooks := .later }
def ExprPartsUptoCardSaid : Prop := Claim7.holds Tryd.pinned (.plain (OpenSpec.upto exprPartsSpec)) exprPartsUptoCard

/-- THE SECOND FORM's CARD OF 'marlinelaw14.StmtFirst'. -/
def stmtFirstUptoCard : Claim7 := { stood := { row := stmtFirstUptoRow, standIns := [], harness := (true, "e8f2daafa77b10109f115c3b2394d778e5de9cfc51c3106e457f6d9c3305cb9e"), looks := false }, kinds := [], alts := [], laidByText := true, laidKinds := [.data], laidTests := true, laidLooks := .later }
def StmtFirstUptoCardSaid : Prop := Claim7.holds Tryd.pinned (.plain (OpenSpec.upto stmtFirstSpec)) stmtFirstUptoCard

/-- THE SECOND FORM's CARD OF 'marlinelaw14.StmtReads'. -/
def stmtReadsUptoCard : Claim7 := { stood := { row := stmtReadsUptoRow, standIns := [], harness := (true, "e8f2daafa77b10109f115c3b2394d778e5de9cfc51c3106e457f6d9c3305cb9e"), looks := false }, kinds := [], alts := [], laidByText := true, laidKinds := [.data], laidTests := true, laidLooks := .later }
def StmtReadsUptoCardSaid : Prop := Claim7.holds Tryd.pinned (.plain (OpenSpec.upto stmtReadsSpec)) stmtReadsUptoCard

/-- THE SECOND FORM's CARD OF 'marlinelaw15.ParseFaults'. -/
def parseFaultsUptoCard : Claim7 := { stood := { row := parseFaultsUptoRow, standIns := [], harness := (true, "e8f2daafa77b10109f115c3b2394d778e5de9cfc51c3106e457f6d9c3305cb9e"), looks := false }, kinds := [], alts := [], laidByText := true, laidKinds := [.listed, .data, .data], laidTests := true, laidLooks := .later }
def ParseFaultsUptoCardSaid : Prop := Claim7.holds Tryd.pinned (.plain (OpenSpec.upto parseFaultsSpec)) parseFaultsUptoCard

/-- THE SECOND FORM's CARD OF 'marlinelaw15.ParseDeep'. -/
def parseDeepUptoCard : Claim7 := { stood := { row := parseDeepUptoRow, standIns := [], harness := (true, "e8f2daafa77b10109f115c3b2394d778e5de9cfc51c3106e457f6d9c3305cb9e"), looks := false }, kinds := [], alts := [], laidByText := true, laidKinds := [.listed, .data, .data], laidTests := true, laidLooks := .later }
def ParseDeepUptoCardSaid : Prop := Claim7.holds Tryd.pinned (.plain (OpenSpec.upto parseDeepSpec)) parseDeepUptoCard
end Rows
end Go.Proofs.YtbhncegmohnfhaaDoor
