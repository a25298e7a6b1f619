/-
  DERIVED. GIVEN WITH THE SEED: THE CARDS: each row of YtpjdcooflheoeaaDoorRows.lean that lists a variable, with what it lists TIED to the program's text (the seventh form; the later family's looks); each row that meets fmt, with fmt's text TOLD by the authors' own Lean function (tested against real Go, not proved from fmt's source: count such statements apart). THE CARD IS WHAT COUNTS. Prove the row's statement (the work); the ties are given (YtpjdcooflheoeaaDoorTie.lean); close each card by the builder's one call (the guide's Derived/Test/ToyasCard.lean, 'card_holds'). Laid BY PROGRAM, IN A SANDBOX (cutbox-door.mjs). By AI agents, Wed Nov 11 2026. No macro, syntax, notation, axiom, sorry.
-/
import Derived.Test.YtpjdcooflheoeaaDoorRows
import GoSem.ClaimSeven
namespace Go.Proofs.YtpjdcooflheoeaaDoor
namespace Rows

/-- THE TIED CARD OF 'dulcimerlaw47.ConsoleLines'. -/
def consoleLinesCard : Claim7 := { stood := { row := consoleLinesRow, standIns := [], harness := (true, "bf2434e86b7256c5cbd68150448ee26f6561d7a7b3c058b2eab82d62f2e81c8c"), looks := false }, kinds := [], alts := [], laidByText := true, laidKinds := [.data, .data, .data, .data], laidTests := true, laidLooks := .later }
def ConsoleLinesCardSaid : Prop := Claim7.holds Tryd.pinned (.plain (OpenSpec.ofChange consoleLinesSpec)) consoleLinesCard

/-- THE SECOND FORM's CARD OF 'dulcimerlaw47.ConsoleLines'. -/
def consoleLinesUptoCard : Claim7 := { stood := { row := consoleLinesUptoRow, standIns := [], harness := (true, "bf2434e86b7256c5cbd68150448ee26f6561d7a7b3c058b2eab82d62f2e81c8c"), looks := false }, kinds := [], alts := [], laidByText := true, laidKinds := [.data, .data, .data, .data], laidTests := true, laidLooks := .later }
def ConsoleLinesUptoCardSaid : Prop := Claim7.holds Tryd.pinned (.plain (OpenSpec.upto consoleLinesSpec)) consoleLinesUptoCard
end Rows
end Go.Proofs.YtpjdcooflheoeaaDoor
