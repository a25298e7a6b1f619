/-
  DERIVED. GIVEN WITH THE SEED: THE CARDS: each row of YtoiclfcgcgdfhaaDoorRows.lean that lists a variable, with what it lists TIED to the program's text (the seventh form; the later family's looks); each row that meets fmt, with fmt's text TOLD by the authors' own Lean function (tested against real Go, not proved from fmt's source: count such statements apart). THE CARD IS WHAT COUNTS. Prove the row's statement (the work); the ties are given (YtoiclfcgcgdfhaaDoorTie.lean); close each card by the builder's one call (the guide's Derived/Test/ToyasCard.lean, 'card_holds'). Laid BY PROGRAM, IN A SANDBOX (cutbox-door.mjs). By AI agents, Wed Nov 11 2026. No macro, syntax, notation, axiom, sorry.
-/
import Derived.Test.YtoiclfcgcgdfhaaDoorRows
import GoSem.ClaimSeven
namespace Go.Proofs.YtoiclfcgcgdfhaaDoor
namespace Rows

/-- THE TIED CARD OF 'dulcimerlaw23.DtextPrints'. -/
def dtextPrintsCard : Claim7 := { stood := { row := dtextPrintsRow, standIns := [], harness := (true, "bbbd851cb1aa40f41d25e7cfe37f90e0201261a7c902f1ecccb48a1be84355e2"), looks := true }, kinds := [], alts := [], laidByText := true, laidKinds := [.data, .data, .data, .data, .sentinel, .sentinel, .pinned], laidTests := true, laidLooks := .later }
def DtextPrintsCardSaid : Prop := Claim7.holds Tryd.pinned (.plain (OpenSpec.ofChange dtextPrintsSpec)) dtextPrintsCard

/-- THE TIED CARD OF 'dulcimerlaw23.DtextReads'. -/
def dtextReadsCard : Claim7 := { stood := { row := dtextReadsRow, standIns := [], harness := (true, "bbbd851cb1aa40f41d25e7cfe37f90e0201261a7c902f1ecccb48a1be84355e2"), looks := true }, kinds := [], alts := [], laidByText := true, laidKinds := [.data, .data, .data, .data, .sentinel, .sentinel, .pinned], laidTests := true, laidLooks := .later }
def DtextReadsCardSaid : Prop := Claim7.holds Tryd.pinned (.plain (OpenSpec.ofChange dtextReadsSpec)) dtextReadsCard

/-- THE SECOND FORM's CARD OF 'dulcimerlaw23.DtextPrints'. -/
def dtextPrintsUptoCard : Claim7 := { stood := { row := dtextPrintsUptoRow, standIns := [], harness := (true, "bbbd851cb1aa40f41d25e7cfe37f90e0201261a7c902f1ecccb48a1be84355e2"), looks := true }, kinds := [], alts := [], laidByText := true, laidKinds := [.data, .data, .data, .data, .sentinel, .sentinel, .pinned], laidTests := true, laidLooks := .later }
def DtextPrintsUptoCardSaid : Prop := Claim7.holds Tryd.pinned (.plain (OpenSpec.upto dtextPrintsSpec)) dtextPrintsUptoCard

/-- THE SECOND FORM's CARD OF 'dulcimerlaw23.DtextReads'. -/
def dtextReadsUptoCard : Claim7 := { stood := { row := dtextReadsUptoRow, standIns := [], harness := (true, "bbbd851cb1aa40f41d25e7cfe37f90e0201261a7c902f1ecccb48a1be84355e2"), looks := true }, kinds := [], alts := [], laidByText := true, laidKinds := [.data, .data, .data, .data, .sentinel, .sentinel, .pinned], laidTests := true, laidLooks := .later }
def DtextReadsUptoCardSaid : Prop := Claim7.holds Tryd.pinned (.plain (OpenSpec.upto dtextReadsSpec)) dtextReadsUptoCard
end Rows
end Go.Proofs.YtoiclfcgcgdfhaaDoor
