/-
  DERIVED. GIVEN WITH THE SEED: THE CARDS: each row of YthjcmcgmalnfpaaGreatDoorRows.lean that lists a variable, with what it lists TIED to the program's text (the seventh form; the later family's looks); each row that meets fmt, with fmt's text TOLD by the authors' own Lean function (tested against real Go, not proved from fmt's source: count such statements apart). THE CARD IS WHAT COUNTS. Prove the row's statement (the work); the ties are given (YthjcmcgmalnfpaaGreatDoorTie.lean); close each card by the builder's one call (the guide's Derived/Test/ToyasCard.lean, 'card_holds'). Laid BY PROGRAM, IN A SANDBOX (cutbox-door.mjs). By AI agents, Wed Nov 11 2026. No macro, syntax, notation, axiom, sorry.
-/
import Derived.Test.YthjcmcgmalnfpaaGreatDoorRows
import GoSem.ClaimSeven
namespace Go.Proofs.YthjcmcgmalnfpaaGreatDoor
namespace Rows

/-- THE TIED CARD OF 'dulcimerlaw43.ReportSheets'. -/
def reportSheetsCard : Claim7 := { stood := { row := reportSheetsRow, standIns := [], harness := (true, "9a242b34dec6a08753a3450bf3b252f3e10a93ddf88bade8587ef722cb4b7ff3"), looks := true }, kinds := [], alts := [], laidByText := true, laidKinds := [.data, .data, .data, .data, .data, .pinned], laidTests := true, laidLooks := .later }
def ReportSheetsCardSaid : Prop := Claim7.holds Tryz.pinned (.plain (OpenSpec.ofChange reportSheetsSpec)) reportSheetsCard

/-- THE SECOND FORM's CARD OF 'dulcimerlaw43.ReportSheets'. -/
def reportSheetsUptoCard : Claim7 := { stood := { row := reportSheetsUptoRow, standIns := [], harness := (true, "9a242b34dec6a08753a3450bf3b252f3e10a93ddf88bade8587ef722cb4b7ff3"), looks := true }, kinds := [], alts := [], laidByText := true, laidKinds := [.data, .data, .data, .data, .data, .pinned], laidTests := true, laidLooks := .later }
def ReportSheetsUptoCardSaid : Prop := Claim7.holds Tryz.pinned (.plain (OpenSpec.upto reportSheetsSpec)) reportSheetsUptoCard
end Rows
end Go.Proofs.YthjcmcgmalnfpaaGreatDoor
