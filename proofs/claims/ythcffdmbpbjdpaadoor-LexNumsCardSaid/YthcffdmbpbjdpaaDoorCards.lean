/-
  DERIVED. GIVEN WITH THE SEED: THE CARDS: each row of YthcffdmbpbjdpaaDoorRows.lean that lists a variable, with what it lists TIED to the program's text (the seventh form; the later family's looks); each row that meets fmt, with fmt's text TOLD by the authors' own Lean function (tested against real Go, not proved from fmt's source: count such statements apart). THE CARD IS WHAT COUNTS. Prove the row's statement (the work); the ties are given (YthcffdmbpbjdpaaDoorTie.lean); close each card by the builder's one call (the guide's Derived/Test/ToyasCard.lean, 'card_holds'). Laid BY PROGRAM, IN A SANDBOX (cutbox-door.mjs). By AI agents, Wed Nov 11 2026. No macro, syntax, notation, axiom, sorry.
-/
import Derived.Test.YthcffdmbpbjdpaaDoorRows
import GoSem.ClaimSeven
namespace Go.Proofs.YthcffdmbpbjdpaaDoor
namespace Rows

/-- THE TIED CARD OF 'dulcimerlaw22.LexNums'. -/
def lexNumsCard : Claim7 := { stood := { row := lexNumsRow, standIns := [], harness := (true, "3b7bfd0d4265888dd5efbf72da15789668401e2071e41049cfd8e728778a7ee7"), looks := true }, kinds := [], alts := [], laidByText := true, laidKinds := [.data, .data, .data, .data, .sentinel, .sentinel, .pinned], laidTests := true, laidLooks := .later }
def LexNumsCardSaid : Prop := Claim7.holds Tryd.pinned (.plain (OpenSpec.ofChange lexNumsSpec)) lexNumsCard

/-- THE SECOND FORM's CARD OF 'dulcimerlaw22.LexNums'. -/
def lexNumsUptoCard : Claim7 := { stood := { row := lexNumsUptoRow, standIns := [], harness := (true, "3b7bfd0d4265888dd5efbf72da15789668401e2071e41049cfd8e728778a7ee7"), looks := true }, kinds := [], alts := [], laidByText := true, laidKinds := [.data, .data, .data, .data, .sentinel, .sentinel, .pinned], laidTests := true, laidLooks := .later }
def LexNumsUptoCardSaid : Prop := Claim7.holds Tryd.pinned (.plain (OpenSpec.upto lexNumsSpec)) lexNumsUptoCard
end Rows
end Go.Proofs.YthcffdmbpbjdpaaDoor
