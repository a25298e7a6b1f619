/-
  DERIVED. GIVEN WITH THE SEED: THE CARDS: each row of YtjacaagoioecpaaDoorRows.lean that lists a variable, with what it lists TIED to the program's text (the seventh form; the later family's looks); each row that meets fmt, with fmt's text TOLD by the authors' own Lean function (tested against real Go, not proved from fmt's source: count such statements apart). THE CARD IS WHAT COUNTS. Prove the row's statement (the work); the ties are given (YtjacaagoioecpaaDoorTie.lean); close each card by the builder's one call (the guide's Derived/Test/ToyasCard.lean, 'card_holds'). Laid BY PROGRAM, IN A SANDBOX (cutbox-door.mjs). By AI agents, Wed Nov 11 2026. No macro, syntax, notation, axiom, sorry.
-/
import Derived.Test.YtjacaagoioecpaaDoorRows
import GoSem.ClaimSeven
namespace Go.Proofs.YtjacaagoioecpaaDoor
namespace Rows

/-- THE TIED CARD OF 'dulcimerlaw47.ConsoleLines'. -/
def consoleLinesCard : Claim7 := { stood := { row := consoleLinesRow, standIns := [], harness := (true, "5e6544b2a7f1ff439498f8fc06ca409b8306fec36cba0c464ae044f5b62a1977"), looks := true }, kinds := [], alts := [], laidByText := true, laidKinds := [.data, .data, .data, .data], laidTests := true, laidLooks := .later }
def ConsoleLinesCardSaid : Prop := Claim7.holds Tryd.pinned (.plain (OpenSpec.ofChange consoleLinesSpec)) consoleLinesCard

/-- THE TIED CARD OF 'dulcimerlaw42.ScriptOwns'. -/
def scriptOwnsCard : Claim7 := { stood := { row := scriptOwnsRow, standIns := [], harness := (true, "5e6544b2a7f1ff439498f8fc06ca409b8306fec36cba0c464ae044f5b62a1977"), looks := true }, kinds := [], alts := [], laidByText := true, laidKinds := [.data, .data, .data, .data, .pinned], laidTests := true, laidLooks := .later }
def ScriptOwnsCardSaid : Prop := Claim7.holds Tryd.pinned (.plain (OpenSpec.ofChange scriptOwnsSpec)) scriptOwnsCard

/-- THE TIED CARD OF 'dulcimerlaw43.ReportTells'. -/
def reportTellsCard : Claim7 := { stood := { row := reportTellsRow, standIns := [], harness := (true, "5e6544b2a7f1ff439498f8fc06ca409b8306fec36cba0c464ae044f5b62a1977"), looks := true }, kinds := [], alts := [], laidByText := true, laidKinds := [.data, .data, .data, .data, .data, .pinned], laidTests := true, laidLooks := .later }
def ReportTellsCardSaid : Prop := Claim7.holds Tryd.pinned (.plain (OpenSpec.ofChange reportTellsSpec)) reportTellsCard

/-- THE TIED CARD OF 'dulcimerlaw22.LexNums'. -/
def lexNumsCard : Claim7 := { stood := { row := lexNumsRow, standIns := [], harness := (true, "5e6544b2a7f1ff439498f8fc06ca409b8306fec36cba0c464ae044f5b62a1977"), looks := true }, kinds := [], alts := [], laidByText := true, laidKinds := [.data, .data, .data, .data, .sentinel, .sentinel, .pinned], laidTests := true, laidLooks := .later }
def LexNumsCardSaid : Prop := Claim7.holds Tryd.pinned (.plain (OpenSpec.ofChange lexNumsSpec)) lexNumsCard

/-- THE TIED CARD OF 'dulcimerlaw24.EntrySorts'. -/
def entrySortsCard : Claim7 := { stood := { row := entrySortsRow, standIns := [], harness := (true, "5e6544b2a7f1ff439498f8fc06ca409b8306fec36cba0c464ae044f5b62a1977"), looks := true }, kinds := [], alts := [], laidByText := true, laidKinds := [.data, .data, .data, .data, .pinned], laidTests := true, laidLooks := .later }
def EntrySortsCardSaid : Prop := Claim7.holds Tryd.pinned (.plain (OpenSpec.ofChange entrySortsSpec)) entrySortsCard

/-- THE TIED CARD OF 'dulcimerlaw23.DtextPrints'. -/
def dtextPrintsCard : Claim7 := { stood := { row := dtextPrintsRow, standIns := [], harness := (true, "5e6544b2a7f1ff439498f8fc06ca409b8306fec36cba0c464ae044f5b62a1977"), looks := true }, kinds := [], alts := [], laidByText := true, laidKinds := [.data, .data, .data, .data, .sentinel, .sentinel, .pinned], laidTests := true, laidLooks := .later }
def DtextPrintsCardSaid : Prop := Claim7.holds Tryd.pinned (.plain (OpenSpec.ofChange dtextPrintsSpec)) dtextPrintsCard

/-- THE TIED CARD OF 'dulcimerlaw23.DtextReads'. -/
def dtextReadsCard : Claim7 := { stood := { row := dtextReadsRow, standIns := [], harness := (true, "5e6544b2a7f1ff439498f8fc06ca409b8306fec36cba0c464ae044f5b62a1977"), looks := true }, kinds := [], alts := [], laidByText := true, laidKinds := [.data, .data, .data, .data, .sentinel, .sentinel, .pinned], laidTests := true, laidLooks := .later }
def DtextReadsCardSaid : Prop := Claim7.holds Tryd.pinned (.plain (OpenSpec.ofChange dtextReadsSpec)) dtextReadsCard

/-- THE TIED CARD OF 'dulcimerlaw42.ScriptPrints'. -/
def scriptPrintsCard : Claim7 := { stood := { row := scriptPrintsRow, standIns := [], harness := (true, "5e6544b2a7f1ff439498f8fc06ca409b8306fec36cba0c464ae044f5b62a1977"), looks := true }, kinds := [], alts := [], laidByText := true, laidKinds := [.data, .data, .data, .data, .sentinel, .sentinel, .pinned], laidTests := true, laidLooks := .later }
def ScriptPrintsCardSaid : Prop := Claim7.holds Tryd.pinned (.plain (OpenSpec.ofChange scriptPrintsSpec)) scriptPrintsCard

/-- THE TIED CARD OF 'dulcimerlaw42.ScriptReads'. -/
def scriptReadsCard : Claim7 := { stood := { row := scriptReadsRow, standIns := [], harness := (true, "5e6544b2a7f1ff439498f8fc06ca409b8306fec36cba0c464ae044f5b62a1977"), looks := true }, kinds := [], alts := [], laidByText := true, laidKinds := [.data, .data, .data, .data, .sentinel, .sentinel, .pinned], laidTests := true, laidLooks := .later }
def ScriptReadsCardSaid : Prop := Claim7.holds Tryd.pinned (.plain (OpenSpec.ofChange scriptReadsSpec)) scriptReadsCard

/-- THE TIED CARD OF 'dulcimerlaw42.ScriptBig'. -/
def scriptBigCard : Claim7 := { stood := { row := scriptBigRow, standIns := [], harness := (true, "5e6544b2a7f1ff439498f8fc06ca409b8306fec36cba0c464ae044f5b62a1977"), looks := true }, kinds := [], alts := [], laidByText := true, laidKinds := [.data, .data, .data, .data, .sentinel, .sentinel, .pinned], laidTests := true, laidLooks := .later }
def ScriptBigCardSaid : Prop := Claim7.holds Tryd.pinned (.plain (OpenSpec.ofChange scriptBigSpec)) scriptBigCard

/-- THE SECOND FORM's CARD OF 'dulcimerlaw47.ConsoleLines'. -/
def consoleLinesUptoCard : Claim7 := { stood := { row := consoleLinesUptoRow, standIns := [], harness := (true, "5e6544b2a7f1ff439498f8fc06ca409b8306fec36cba0c464ae044f5b62a1977"), looks := true }, kinds := [], alts := [], laidByText := true, laidKinds := [.data, .data, .data, .data], laidTests := true, laidLooks := .later }
def ConsoleLinesUptoCardSaid : Prop := Claim7.holds Tryd.pinned (.plain (OpenSpec.upto consoleLinesSpec)) consoleLinesUptoCard

/-- THE SECOND FORM's CARD OF 'dulcimerlaw42.ScriptOwns'. -/
def scriptOwnsUptoCard : Claim7 := { stood := { row := scriptOwnsUptoRow, standIns := [], harness := (true, "5e6544b2a7f1ff439498f8fc06ca409b8306fec36cba0c464ae044f5b62a1977"), looks := true }, kinds := [], alts := [], laidByText := true, laidKinds := [.data, .data, .data, .data, .pinned], laidTests := true, laidLooks := .later }
def ScriptOwnsUptoCardSaid : Prop := Claim7.holds Tryd.pinned (.plain (OpenSpec.upto scriptOwnsSpec)) scriptOwnsUptoCard

/-- THE SECOND FORM's CARD OF 'dulcimerlaw43.ReportTells'. -/
def reportTellsUptoCard : Claim7 := { stood := { row := reportTellsUptoRow, standIns := [], harness := (true, "5e6544b2a7f1ff439498f8fc06ca409b8306fec36cba0c464ae044f5b62a1977"), looks := true }, kinds := [], alts := [], laidByText := true, laidKinds := [.data, .data, .data, .data, .data, .pinned], laidTests := true, laidLooks := .later }
def ReportTellsUptoCardSaid : Prop := Claim7.holds Tryd.pinned (.plain (OpenSpec.upto reportTellsSpec)) reportTellsUptoCard

/-- THE SECOND FORM's CARD OF 'dulcimerlaw22.LexNums'. -/
def lexNumsUptoCard : Claim7 := { stood := { row := lexNumsUptoRow, standIns := [], harness := (true, "5e6544b2a7f1ff439498f8fc06ca409b8306fec36cba0c464ae044f5b62a1977"), looks := true }, kinds := [], alts := [], laidByText := true, laidKinds := [.data, .data, .data, .data, .sentinel, .sentinel, .pinned], laidTests := true, laidLooks := .later }
def LexNumsUptoCardSaid : Prop := Claim7.holds Tryd.pinned (.plain (OpenSpec.upto lexNumsSpec)) lexNumsUptoCard

/-- THE SECOND FORM's CARD OF 'dulcimerlaw24.EntrySorts'. -/
def entrySortsUptoCard : Claim7 := { stood := { row := entrySortsUptoRow, standIns := [], harness := (true, "5e6544b2a7f1ff439498f8fc06ca409b8306fec36cba0c464ae044f5b62a1977"), looks := true }, kinds := [], alts := [], laidByText := true, laidKinds := [.data, .data, .data, .data, .pinned], laidTests := true, laidLooks := .later }
def EntrySortsUptoCardSaid : Prop := Claim7.holds Tryd.pinned (.plain (OpenSpec.upto entrySortsSpec)) entrySortsUptoCard

/-- THE SECOND FORM's CARD OF 'dulcimerlaw23.DtextPrints'. -/
def dtextPrintsUptoCard : Claim7 := { stood := { row := dtextPrintsUptoRow, standIns := [], harness := (true, "5e6544b2a7f1ff439498f8fc06ca409b8306fec36cba0c464ae044f5b62a1977"), looks := true }, kinds := [], alts := [], laidByText := true, laidKinds := [.data, .data, .data, .data, .sentinel, .sentinel, .pinned], laidTests := true, laidLooks := .later }
def DtextPrintsUptoCardSaid : Prop := Claim7.holds Tryd.pinned (.plain (OpenSpec.upto dtextPrintsSpec)) dtextPrintsUptoCard

/-- THE SECOND FORM's CARD OF 'dulcimerlaw23.DtextReads'. -/
def dtextReadsUptoCard : Claim7 := { stood := { row := dtextReadsUptoRow, standIns := [], harness := (true, "5e6544b2a7f1ff439498f8fc06ca409b8306fec36cba0c464ae044f5b62a1977"), looks := true }, kinds := [], alts := [], laidByText := true, laidKinds := [.data, .data, .data, .data, .sentinel, .sentinel, .pinned], laidTests := true, laidLooks := .later }
def DtextReadsUptoCardSaid : Prop := Claim7.holds Tryd.pinned (.plain (OpenSpec.upto dtextReadsSpec)) dtextReadsUptoCard

/-- THE SECOND FORM's CARD OF 'dulcimerlaw42.ScriptPrints'. -/
def scriptPrintsUptoCard : Claim7 := { stood := { row := scriptPrintsUptoRow, standIns := [], harness := (true, "5e6544b2a7f1ff439498f8fc06ca409b8306fec36cba0c464ae044f5b62a1977"), looks := true }, kinds := [], alts := [], laidByText := true, laidKinds := [.data, .data, .data, .data, .sentinel, .sentinel, .pinned], laidTests := true, laidLooks := .later }
def ScriptPrintsUptoCardSaid : Prop := Claim7.holds Tryd.pinned (.plain (OpenSpec.upto scriptPrintsSpec)) scriptPrintsUptoCard

/-- THE SECOND FORM's CARD OF 'dulcimerlaw42.ScriptReads'. -/
def scriptReadsUptoCard : Claim7 := { stood := { row := scriptReadsUptoRow, standIns := [], harness := (true, "5e6544b2a7f1ff439498f8fc06ca409b8306fec36cba0c464ae044f5b62a1977"), looks := true }, kinds := [], alts := [], laidByText := true, laidKinds := [.data, .data, .data, .data, .sentinel, .sentinel, .pinned], laidTests := true, laidLooks := .later }
def ScriptReadsUptoCardSaid : Prop := Claim7.holds Tryd.pinned (.plain (OpenSpec.upto scriptReadsSpec)) scriptReadsUptoCard

/-- THE SECOND FORM's CARD OF 'dulcimerlaw42.ScriptBig'. -/
def scriptBigUptoCard : Claim7 := { stood := { row := scriptBigUptoRow, standIns := [], harness := (true, "5e6544b2a7f1ff439498f8fc06ca409b8306fec36cba0c464ae044f5b62a1977"), looks := true }, kinds := [], alts := [], laidByText := true, laidKinds := [.data, .data, .data, .data, .sentinel, .sentinel, .pinned], laidTests := true, laidLooks := .later }
def ScriptBigUptoCardSaid : Prop := Claim7.holds Tryd.pinned (.plain (OpenSpec.upto scriptBigSpec)) scriptBigUptoCard
end Rows
end Go.Proofs.YtjacaagoioecpaaDoor
