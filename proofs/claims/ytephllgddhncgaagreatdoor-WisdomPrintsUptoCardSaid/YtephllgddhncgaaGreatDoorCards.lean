/-
  DERIVED. GIVEN WITH THE SEED: THE CARDS: each row of YtephllgddhncgaaGreatDoorRows.lean that lists a variable, with what it lists TIED to the program's text (the seventh form; the later family's looks); each row that meets fmt, with fmt's text TOLD by the authors' own Lean function (tested against real Go, not proved from fmt's source: count such statements apart). THE CARD IS WHAT COUNTS. Prove the row's statement (the work); the ties are given (YtephllgddhncgaaGreatDoorTie.lean); close each card by the builder's one call (the guide's Derived/Test/ToyasCard.lean, 'card_holds'). Laid BY PROGRAM, IN A SANDBOX (cutbox-door.mjs). By AI agents, Wed Nov 11 2026. No macro, syntax, notation, axiom, sorry.
-/
import Derived.Test.YtephllgddhncgaaGreatDoorRows
import GoSem.ClaimSeven
namespace Go.Proofs.YtephllgddhncgaaGreatDoor
namespace Rows

/-- THE TIED CARD OF 'dulcimerlaw25.WisdomPrints'. -/
def wisdomPrintsCard : Claim7 := { stood := { row := wisdomPrintsRow, standIns := [], harness := (true, "9c6ce3257b4f26e0079380f1c1f2f0226b60251d314b650c2e83350dd22938d8"), looks := true }, kinds := [], alts := [], laidByText := true, laidKinds := [.data, .data, .data, .data, .sentinel, .sentinel, .pinned], laidTests := true, laidLooks := .later }
def WisdomPrintsCardSaid : Prop := Claim7.holds Tryz.pinned (.plain (OpenSpec.ofChange wisdomPrintsSpec)) wisdomPrintsCard

/-- THE TIED CARD OF 'dulcimerlaw25.WisdomReads'. -/
def wisdomReadsCard : Claim7 := { stood := { row := wisdomReadsRow, standIns := [], harness := (true, "9c6ce3257b4f26e0079380f1c1f2f0226b60251d314b650c2e83350dd22938d8"), looks := true }, kinds := [], alts := [], laidByText := true, laidKinds := [.data, .data, .data, .data, .sentinel, .sentinel, .pinned], laidTests := true, laidLooks := .later }
def WisdomReadsCardSaid : Prop := Claim7.holds Tryz.pinned (.plain (OpenSpec.ofChange wisdomReadsSpec)) wisdomReadsCard

/-- THE TIED CARD OF 'dulcimerlaw25.WisdomOrder'. -/
def wisdomOrderCard : Claim7 := { stood := { row := wisdomOrderRow, standIns := [], harness := (true, "9c6ce3257b4f26e0079380f1c1f2f0226b60251d314b650c2e83350dd22938d8"), looks := true }, kinds := [], alts := [], laidByText := true, laidKinds := [.data, .data, .data, .data, .sentinel, .sentinel, .pinned], laidTests := true, laidLooks := .later }
def WisdomOrderCardSaid : Prop := Claim7.holds Tryz.pinned (.plain (OpenSpec.ofChange wisdomOrderSpec)) wisdomOrderCard

/-- THE SECOND FORM's CARD OF 'dulcimerlaw25.WisdomPrints'. -/
def wisdomPrintsUptoCard : Claim7 := { stood := { row := wisdomPrintsUptoRow, standIns := [], harness := (true, "9c6ce3257b4f26e0079380f1c1f2f0226b60251d314b650c2e83350dd22938d8"), looks := true }, kinds := [], alts := [], laidByText := true, laidKinds := [.data, .data, .data, .data, .sentinel, .sentinel, .pinned], laidTests := true, laidLooks := .later }
def WisdomPrintsUptoCardSaid : Prop := Claim7.holds Tryz.pinned (.plain (OpenSpec.upto wisdomPrintsSpec)) wisdomPrintsUptoCard

/-- THE SECOND FORM's CARD OF 'dulcimerlaw25.WisdomReads'. -/
def wisdomReadsUptoCard : Claim7 := { stood := { row := wisdomReadsUptoRow, standIns := [], harness := (true, "9c6ce3257b4f26e0079380f1c1f2f0226b60251d314b650c2e83350dd22938d8"), looks := true }, kinds := [], alts := [], laidByText := true, laidKinds := [.data, .data, .data, .data, .sentinel, .sentinel, .pinned], laidTests := true, laidLooks := .later }
def WisdomReadsUptoCardSaid : Prop := Claim7.holds Tryz.pinned (.plain (OpenSpec.upto wisdomReadsSpec)) wisdomReadsUptoCard

/-- THE SECOND FORM's CARD OF 'dulcimerlaw25.WisdomOrder'. -/
def wisdomOrderUptoCard : Claim7 := { stood := { row := wisdomOrderUptoRow, standIns := [], harness := (true, "9c6ce3257b4f26e0079380f1c1f2f0226b60251d314b650c2e83350dd22938d8"), looks := true }, kinds := [], alts := [], laidByText := true, laidKinds := [.data, .data, .data, .data, .sentinel, .sentinel, .pinned], laidTests := true, laidLooks := .later }
def WisdomOrderUptoCardSaid : Prop := Claim7.holds Tryz.pinned (.plain (OpenSpec.upto wisdomOrderSpec)) wisdomOrderUptoCard
end Rows
end Go.Proofs.YtephllgddhncgaaGreatDoor
