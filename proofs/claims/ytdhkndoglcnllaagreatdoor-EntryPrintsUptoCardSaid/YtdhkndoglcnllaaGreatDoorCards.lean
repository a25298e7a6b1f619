/-
  DERIVED. GIVEN WITH THE SEED: THE CARDS: each row of YtdhkndoglcnllaaGreatDoorRows.lean that lists a variable, with what it lists TIED to the program's text (the seventh form; the later family's looks); each row that meets fmt, with fmt's text TOLD by the authors' own Lean function (tested against real Go, not proved from fmt's source: count such statements apart). THE CARD IS WHAT COUNTS. Prove the row's statement (the work); the ties are given (YtdhkndoglcnllaaGreatDoorTie.lean); close each card by the builder's one call (the guide's Derived/Test/ToyasCard.lean, 'card_holds'). Laid BY PROGRAM, IN A SANDBOX (cutbox-door.mjs). By AI agents, Wed Nov 11 2026. No macro, syntax, notation, axiom, sorry.
-/
import Derived.Test.YtdhkndoglcnllaaGreatDoorRows
import GoSem.ClaimSeven
namespace Go.Proofs.YtdhkndoglcnllaaGreatDoor
namespace Rows

/-- THE TIED CARD OF 'dulcimerlaw24.EntryReads'. -/
def entryReadsCard : Claim7 := { stood := { row := entryReadsRow, standIns := [], harness := (true, "e2f7b928e675531116af142c8516a90e218e26d666352f8cb06786ea2e3fd469"), looks := true }, kinds := [], alts := [], laidByText := true, laidKinds := [.data, .data, .data, .data, .sentinel, .sentinel, .pinned], laidTests := true, laidLooks := .later }
def EntryReadsCardSaid : Prop := Claim7.holds Tryz.pinned (.plain (OpenSpec.ofChange entryReadsSpec)) entryReadsCard

/-- THE TIED CARD OF 'dulcimerlaw24.EntryPrints'. -/
def entryPrintsCard : Claim7 := { stood := { row := entryPrintsRow, standIns := [], harness := (true, "e2f7b928e675531116af142c8516a90e218e26d666352f8cb06786ea2e3fd469"), looks := true }, kinds := [], alts := [], laidByText := true, laidKinds := [.data, .data, .data, .data, .sentinel, .sentinel, .pinned], laidTests := true, laidLooks := .later }
def EntryPrintsCardSaid : Prop := Claim7.holds Tryz.pinned (.plain (OpenSpec.ofChange entryPrintsSpec)) entryPrintsCard

/-- THE SECOND FORM's CARD OF 'dulcimerlaw24.EntryReads'. -/
def entryReadsUptoCard : Claim7 := { stood := { row := entryReadsUptoRow, standIns := [], harness := (true, "e2f7b928e675531116af142c8516a90e218e26d666352f8cb06786ea2e3fd469"), looks := true }, kinds := [], alts := [], laidByText := true, laidKinds := [.data, .data, .data, .data, .sentinel, .sentinel, .pinned], laidTests := true, laidLooks := .later }
def EntryReadsUptoCardSaid : Prop := Claim7.holds Tryz.pinned (.plain (OpenSpec.upto entryReadsSpec)) entryReadsUptoCard

/-- THE SECOND FORM's CARD OF 'dulcimerlaw24.EntryPrints'. -/
def entryPrintsUptoCard : Claim7 := { stood := { row := entryPrintsUptoRow, standIns := [], harness := (true, "e2f7b928e675531116af142c8516a90e218e26d666352f8cb06786ea2e3fd469"), looks := true }, kinds := [], alts := [], laidByText := true, laidKinds := [.data, .data, .data, .data, .sentinel, .sentinel, .pinned], laidTests := true, laidLooks := .later }
def EntryPrintsUptoCardSaid : Prop := Claim7.holds Tryz.pinned (.plain (OpenSpec.upto entryPrintsSpec)) entryPrintsUptoCard
end Rows
end Go.Proofs.YtdhkndoglcnllaaGreatDoor
