/-
  DERIVED. GIVEN WITH THE SEED: THE CARDS: each row of YtakkikkcbdcpfaaDoorRows.lean that lists a variable, with what it lists TIED to the program's text (the seventh form; the later family's looks); each row that meets fmt, with fmt's text TOLD by the authors' own Lean function (tested against real Go, not proved from fmt's source: count such statements apart). THE CARD IS WHAT COUNTS. Prove the row's statement (the work); the ties are given (YtakkikkcbdcpfaaDoorTie.lean); close each card by the builder's one call (the guide's Derived/Test/ToyasCard.lean, 'card_holds'). Laid BY PROGRAM, IN A SANDBOX (cutbox-door.mjs). By AI agents, Wed Nov 11 2026. No macro, syntax, notation, axiom, sorry.
-/
import Derived.Test.YtakkikkcbdcpfaaDoorRows
import GoSem.ClaimSeven
namespace Go.Proofs.YtakkikkcbdcpfaaDoor
namespace Rows

/-- THE TIED CARD OF 'marlinelaw14.StmtFirst'. -/
def stmtFirstCard : Claim7 := { stood := { row := stmtFirstRow, standIns := [], harness := (true, "95177195db7472f4bc1152ff988f08a625672447dbb4c8748f25d0fa5f5ae387"), looks := false }, kinds := [], alts := [], laidByText := true, laidKinds := [.data], laidTests := true, laidLooks := .later }
def StmtFirstCardSaid : Prop := Claim7.holds Tryd.pinned (.plain (OpenSpec.ofChange stmtFirstSpec)) stmtFirstCard

/-- THE TIED CARD OF 'marlinelaw14.StmtReads'. -/
def stmtReadsCard : Claim7 := { stood := { row := stmtReadsRow, standIns := [], harness := (true, "95177195db7472f4bc1152ff988f08a625672447dbb4c8748f25d0fa5f5ae387"), looks := false }, kinds := [], alts := [], laidByText := true, laidKinds := [.data], laidTests := true, laidLooks := .later }
def StmtReadsCardSaid : Prop := Claim7.holds Tryd.pinned (.plain (OpenSpec.ofChange stmtReadsSpec)) stmtReadsCard

/-- THE SECOND FORM's CARD OF 'marlinelaw14.StmtFirst'. -/
def stmtFirstUptoCard : Claim7 := { stood := { row := stmtFirstUptoRow, standIns := [], harness := (true, "95177195db7472f4bc1152ff988f08a625672447dbb4c8748f25d0fa5f5ae387"), looks := false }, kinds := [], alts := [], laidByText := true, laidKinds := [.data], laidTests := true, laidLooks := .later }
def StmtFirstUptoCardSaid : Prop := Claim7.holds Tryd.pinned (.plain (OpenSpec.upto stmtFirstSpec)) stmtFirstUptoCard

/-- THE SECOND FORM's CARD OF 'marlinelaw14.StmtReads'. -/
def stmtReadsUptoCard : Claim7 := { stood := { row := stmtReadsUptoRow, standIns := [], harness := (true, "95177195db7472f4bc1152ff988f08a625672447dbb4c8748f25d0fa5f5ae387"), looks := false }, kinds := [], alts := [], laidByText := true, laidKinds := [.data], laidTests := true, laidLooks := .later }
def StmtReadsUptoCardSaid : Prop := Claim7.holds Tryd.pinned (.plain (OpenSpec.upto stmtReadsSpec)) stmtReadsUptoCard
end Rows
end Go.Proofs.YtakkikkcbdcpfaaDoor
