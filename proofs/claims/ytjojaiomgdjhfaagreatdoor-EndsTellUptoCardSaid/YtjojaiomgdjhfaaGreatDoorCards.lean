/-
  DERIVED. GIVEN WITH THE SEED: THE CARDS: each row of YtjojaiomgdjhfaaGreatDoorRows.lean that lists a variable, with what it lists TIED to the program's text (the seventh form; the later family's looks); each row that meets fmt, with fmt's text TOLD by the authors' own Lean function (tested against real Go, not proved from fmt's source: count such statements apart). THE CARD IS WHAT COUNTS. Prove the row's statement (the work); the ties are given (YtjojaiomgdjhfaaGreatDoorTie.lean); close each card by the builder's one call (the guide's Derived/Test/ToyasCard.lean, 'card_holds'). Laid BY PROGRAM, IN A SANDBOX (cutbox-door.mjs). By AI agents, Wed Nov 11 2026. No macro, syntax, notation, axiom, sorry.
-/
import Derived.Test.YtjojaiomgdjhfaaGreatDoorRows
import GoSem.ClaimSeven
namespace Go.Proofs.YtjojaiomgdjhfaaGreatDoor
namespace Rows

/-- THE TIED CARD OF 'marlinelaw18.DeclLocates'. -/
def declLocatesCard : Claim7 := { stood := { row := declLocatesRow, standIns := [], harness := (true, "d8d133e4d57339e7699da322682cbe56d2bf86421b2b490d26759560196b3a8c"), looks := false }, kinds := [], alts := [], laidByText := true, laidKinds := [.listed, .data], laidTests := true, laidLooks := .later }
def DeclLocatesCardSaid : Prop := Claim7.holds Tryz.pinned (.plain (OpenSpec.ofChange declLocatesSpec)) declLocatesCard

/-- THE TIED CARD OF 'marlinelaw21.EndsTell'. -/
def endsTellCard : Claim7 := { stood := { row := endsTellRow, standIns := [], harness := (true, "d8d133e4d57339e7699da322682cbe56d2bf86421b2b490d26759560196b3a8c"), looks := false }, kinds := [], alts := [], laidByText := true, laidKinds := [.listed, .data], laidTests := true, laidLooks := .later }
def EndsTellCardSaid : Prop := Claim7.holds Tryz.pinned (.plain (OpenSpec.ofChange endsTellSpec)) endsTellCard

/-- THE TIED CARD OF 'marlinelaw21.EndsBehind'. -/
def endsBehindCard : Claim7 := { stood := { row := endsBehindRow, standIns := [], harness := (true, "d8d133e4d57339e7699da322682cbe56d2bf86421b2b490d26759560196b3a8c"), looks := false }, kinds := [], alts := [], laidByText := true, laidKinds := [.listed, .data], laidTests := true, laidLooks := .later }
def EndsBehindCardSaid : Prop := Claim7.holds Tryz.pinned (.plain (OpenSpec.ofChange endsBehindSpec)) endsBehindCard

/-- THE TIED CARD OF 'marlinelaw18.DeclNil'. -/
def declNilCard : Claim7 := { stood := { row := declNilRow, standIns := [], harness := (true, "d8d133e4d57339e7699da322682cbe56d2bf86421b2b490d26759560196b3a8c"), looks := false }, kinds := [], alts := [], laidByText := true, laidKinds := [.listed, .data], laidTests := true, laidLooks := .later }
def DeclNilCardSaid : Prop := Claim7.holds Tryz.pinned (.plain (OpenSpec.ofChange declNilSpec)) declNilCard

/-- THE SECOND FORM's CARD OF 'marlinelaw18.DeclLocates'. -/
def declLocatesUptoCard : Claim7 := { stood := { row := declLocatesUptoRow, standIns := [], harness := (true, "d8d133e4d57339e7699da322682cbe56d2bf86421b2b490d26759560196b3a8c"), looks := false }, kinds := [], alts := [], laidByText := true, laidKinds := [.listed, .data], laidTests := true, laidLooks := .later }
def DeclLocatesUptoCardSaid : Prop := Claim7.holds Tryz.pinned (.plain (OpenSpec.upto declLocatesSpec)) declLocatesUptoCard

/-- THE SECOND FORM's CARD OF 'marlinelaw21.EndsTell'. -/
def endsTellUptoCard : Claim7 := { stood := { row := endsTellUptoRow, standIns := [], harness := (true, "d8d133e4d57339e7699da322682cbe56d2bf86421b2b490d26759560196b3a8c"), looks := false }, kinds := [], alts := [], laidByText := true, laidKinds := [.listed, .data], laidTests := true, laidLooks := .later }
def EndsTellUptoCardSaid : Prop := Claim7.holds Tryz.pinned (.plain (OpenSpec.upto endsTellSpec)) endsTellUptoCard

/-- THE SECOND FORM's CARD OF 'marlinelaw21.EndsBehind'. -/
def endsBehindUptoCard : Claim7 := { stood := { row := endsBehindUptoRow, standIns := [], harness := (true, "d8d133e4d57339e7699da322682cbe56d2bf86421b2b490d26759560196b3a8c"), looks := false }, kinds := [], alts := [], laidByText := true, laidKinds := [.listed, .data], laidTests := true, laidLooks := .later }
def EndsBehindUptoCardSaid : Prop := Claim7.holds Tryz.pinned (.plain (OpenSpec.upto endsBehindSpec)) endsBehindUptoCard

/-- THE SECOND FORM's CARD OF 'marlinelaw18.DeclNil'. -/
def declNilUptoCard : Claim7 := { stood := { row := declNilUptoRow, standIns := [], harness := (true, "d8d133e4d57339e7699da322682cbe56d2bf86421b2b490d26759560196b3a8c"), looks := false }, kinds := [], alts := [], laidByText := true, laidKinds := [.listed, .data], laidTests := true, laidLooks := .later }
def DeclNilUptoCardSaid : Prop := Claim7.holds Tryz.pinned (.plain (OpenSpec.upto declNilSpec)) declNilUptoCard
end Rows
end Go.Proofs.YtjojaiomgdjhfaaGreatDoor
