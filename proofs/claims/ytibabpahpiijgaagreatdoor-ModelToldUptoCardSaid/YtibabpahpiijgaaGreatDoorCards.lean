/-
  DERIVED. GIVEN WITH THE SEED: THE CARDS: each row of YtibabpahpiijgaaGreatDoorRows.lean that lists a variable, with what it lists TIED to the program's text (the seventh form; the later family's looks); each row that meets fmt, with fmt's text TOLD by the authors' own Lean function (tested against real Go, not proved from fmt's source: count such statements apart). THE CARD IS WHAT COUNTS. Prove the row's statement (the work); the ties are given (YtibabpahpiijgaaGreatDoorTie.lean); close each card by the builder's one call (the guide's Derived/Test/ToyasCard.lean, 'card_holds'). Laid BY PROGRAM, IN A SANDBOX (cutbox-door.mjs). By AI agents, Wed Nov 11 2026. No macro, syntax, notation, axiom, sorry.
-/
import Derived.Test.YtibabpahpiijgaaGreatDoorRows
import GoSem.ClaimSeven
namespace Go.Proofs.YtibabpahpiijgaaGreatDoor
namespace Rows

/-- THE TIED CARD OF 'dulcimerlaw36.ModelTold'. -/
def modelToldCard : Claim7 := { stood := { row := modelToldRow, standIns := [], harness := (true, "ef5b846a68e19e093560e404fecfa85a4cb092a5ee96affcefdb59886e18523f"), looks := true }, kinds := [], alts := [], laidByText := true, laidKinds := [.data, .data, .data, .data, .sentinel, .sentinel, .pinned], laidTests := true, laidLooks := .later }
def ModelToldCardSaid : Prop := Claim7.holds Tryz.pinned (.plain (OpenSpec.ofChange modelToldSpec)) modelToldCard

/-- THE SECOND FORM's CARD OF 'dulcimerlaw36.ModelTold'. -/
def modelToldUptoCard : Claim7 := { stood := { row := modelToldUptoRow, standIns := [], harness := (true, "ef5b846a68e19e093560e404fecfa85a4cb092a5ee96affcefdb59886e18523f"), looks := true }, kinds := [], alts := [], laidByText := true, laidKinds := [.data, .data, .data, .data, .sentinel, .sentinel, .pinned], laidTests := true, laidLooks := .later }
def ModelToldUptoCardSaid : Prop := Claim7.holds Tryz.pinned (.plain (OpenSpec.upto modelToldSpec)) modelToldUptoCard
end Rows
end Go.Proofs.YtibabpahpiijgaaGreatDoor
