/-
  NARROWER THAN 'FOR EVERY INPUT', by the rows' own cells (each row's printed sentence says how): SlimDiffs: loops.
  DERIVED. THE GIVEN ROWS OF THIS SEAT. 10 by the template 'for every input the law returns true; each argument reads behind the call as it read before'; 0 by the template 'total and deterministic' (their statements: YtjlpafpedoancaaTotals.lean).
  GIVEN WITH THE SEED: the statements are not yours to turn. If you find one false, say at which input.
  Laid BY PROGRAM, IN A SANDBOX (cutbox-rows.mjs): the forced cells as the released guide's own fill.sh prints them over the translation 16844a78eac65933… (all of the seat's roots in one cut). By AI agents, Wed Nov 11 2026. No macro, syntax, notation, axiom, sorry.
-/
import Derived.Test.YtjlpafpedoancaaChecked
import GoSem.Claim
import GoSem.ClaimJoined
import GoSem.ClaimMapViews
import Derived.JoinedTies
import Derived.KernelRfl
namespace Go.Proofs.Ytjlpafpedoancaa
/- THE CELL 'sum', in the pinned program and in every row, IS THE sha256 OF THE DUMP (.gsa) THAT YtjlpafpedoancaaProg.lean LOADS. Nothing in Lean hashes anything: it is a label: what it is worth is what the hold of that sum in a sandbox is worth. -/
noncomputable def Try.pinned : Pinned := { name := "ytjlpafpedoancaa", sum := "16844a78eac659339e974d3889f39fa16a361778fda316f81ea3eb4b8a99f8ef", checked := Try.checked }
namespace Rows
def none {H : Type} : Left H := { results := [], args := [] }

/-- 'dulcimerlaw41.BoundTells': WHATEVER THE INPUT: true; the input reads as it did. -/
def boundTellsSpec : ChangeSpec := { name := "boundTells", fn := fun _ => fun
  | [d1, d2, d3] => { results := [.lit (.bool true)], args := [d1, d2, d3] }
  | _ => none }
def boundTellsRow : OpenClaim := { program := "ytjlpafpedoancaa", sum := "16844a78eac659339e974d3889f39fa16a361778fda316f81ea3eb4b8a99f8ef", func := "dulcimer/dulcimerlaw41.BoundTells", spec := "boundTells", apart := false }
def BoundTellsSaid : Prop := boundTellsRow.holds Try.pinned (OpenSpec.ofChange boundTellsSpec)

/-- ITS FALSE NEIGHBOUR: 'it returns false'. Refute it at one input. -/
def boundTellsWrong : ChangeSpec := { name := "boundTells", fn := fun _ => fun
  | [d1, d2, d3] => { results := [.lit (.bool false)], args := [d1, d2, d3] }
  | _ => none }
def BoundTellsWrongFalsely : Prop := boundTellsRow.holds Try.pinned (OpenSpec.ofChange boundTellsWrong)

/-- 'dulcimerlaw20.TickGoes': WHATEVER THE INPUT: true; the input reads as it did. -/
def tickGoesSpec : ChangeSpec := { name := "tickGoes", fn := fun _ => fun
  | [d1, d2] => { results := [.lit (.bool true)], args := [d1, d2] }
  | _ => none }
def tickGoesRow : OpenClaim := { program := "ytjlpafpedoancaa", sum := "16844a78eac659339e974d3889f39fa16a361778fda316f81ea3eb4b8a99f8ef", func := "dulcimer/dulcimerlaw20.TickGoes", spec := "tickGoes", apart := false }
def TickGoesSaid : Prop := tickGoesRow.holds Try.pinned (OpenSpec.ofChange tickGoesSpec)

/-- ITS FALSE NEIGHBOUR: 'it returns false'. Refute it at one input. -/
def tickGoesWrong : ChangeSpec := { name := "tickGoes", fn := fun _ => fun
  | [d1, d2] => { results := [.lit (.bool false)], args := [d1, d2] }
  | _ => none }
def TickGoesWrongFalsely : Prop := tickGoesRow.holds Try.pinned (OpenSpec.ofChange tickGoesWrong)

/-- 'dulcimerlaw20.TickLaps': WHATEVER THE INPUT: true; the input reads as it did. -/
def tickLapsSpec : ChangeSpec := { name := "tickLaps", fn := fun _ => fun
  | [d1, d2, d3] => { results := [.lit (.bool true)], args := [d1, d2, d3] }
  | _ => none }
def tickLapsRow : OpenClaim := { program := "ytjlpafpedoancaa", sum := "16844a78eac659339e974d3889f39fa16a361778fda316f81ea3eb4b8a99f8ef", func := "dulcimer/dulcimerlaw20.TickLaps", spec := "tickLaps", unfollowed := true, recurses := true, apart := false }
def TickLapsSaid : Prop := tickLapsRow.holds Try.pinned (OpenSpec.ofChange tickLapsSpec)

/-- ITS FALSE NEIGHBOUR: 'it returns false'. Refute it at one input. -/
def tickLapsWrong : ChangeSpec := { name := "tickLaps", fn := fun _ => fun
  | [d1, d2, d3] => { results := [.lit (.bool false)], args := [d1, d2, d3] }
  | _ => none }
def TickLapsWrongFalsely : Prop := tickLapsRow.holds Try.pinned (OpenSpec.ofChange tickLapsWrong)

/-- 'dulcimerlaw20.TickSums': WHATEVER THE INPUT: true; the input reads as it did. -/
def tickSumsSpec : ChangeSpec := { name := "tickSums", fn := fun _ => fun
  | [d1, d2] => { results := [.lit (.bool true)], args := [d1, d2] }
  | _ => none }
def tickSumsRow : OpenClaim := { program := "ytjlpafpedoancaa", sum := "16844a78eac659339e974d3889f39fa16a361778fda316f81ea3eb4b8a99f8ef", func := "dulcimer/dulcimerlaw20.TickSums", spec := "tickSums", unfollowed := true, recurses := true, apart := false }
def TickSumsSaid : Prop := tickSumsRow.holds Try.pinned (OpenSpec.ofChange tickSumsSpec)

/-- ITS FALSE NEIGHBOUR: 'it returns false'. Refute it at one input. -/
def tickSumsWrong : ChangeSpec := { name := "tickSums", fn := fun _ => fun
  | [d1, d2] => { results := [.lit (.bool false)], args := [d1, d2] }
  | _ => none }
def TickSumsWrongFalsely : Prop := tickSumsRow.holds Try.pinned (OpenSpec.ofChange tickSumsWrong)

/-- 'dulcimerlaw41.BoundCounts': WHATEVER THE INPUT: true; the input reads as it did. -/
def boundCountsSpec : ChangeSpec := { name := "boundCounts", fn := fun _ => fun
  | [d1, d2] => { results := [.lit (.bool true)], args := [d1, d2] }
  | _ => none }
def boundCountsRow : OpenClaim := { program := "ytjlpafpedoancaa", sum := "16844a78eac659339e974d3889f39fa16a361778fda316f81ea3eb4b8a99f8ef", func := "dulcimer/dulcimerlaw41.BoundCounts", spec := "boundCounts", unfollowed := true, recurses := true, apart := false }
def BoundCountsSaid : Prop := boundCountsRow.holds Try.pinned (OpenSpec.ofChange boundCountsSpec)

/-- ITS FALSE NEIGHBOUR: 'it returns false'. Refute it at one input. -/
def boundCountsWrong : ChangeSpec := { name := "boundCounts", fn := fun _ => fun
  | [d1, d2] => { results := [.lit (.bool false)], args := [d1, d2] }
  | _ => none }
def BoundCountsWrongFalsely : Prop := boundCountsRow.holds Try.pinned (OpenSpec.ofChange boundCountsWrong)

/-- 'dulcimerlaw32.LruFront': WHATEVER THE INPUT: true; the input reads as it did. -/
def lruFrontSpec : ChangeSpec := { name := "lruFront", fn := fun _ => fun
  | [d1, d2] => { results := [.lit (.bool true)], args := [d1, d2] }
  | _ => none }
def lruFrontRow : OpenClaim := { program := "ytjlpafpedoancaa", sum := "16844a78eac659339e974d3889f39fa16a361778fda316f81ea3eb4b8a99f8ef", func := "dulcimer/dulcimerlaw32.LruFront", spec := "lruFront", apart := false }
def LruFrontSaid : Prop := lruFrontRow.holds Try.pinned (OpenSpec.ofChange lruFrontSpec)

/-- ITS FALSE NEIGHBOUR: 'it returns false'. Refute it at one input. -/
def lruFrontWrong : ChangeSpec := { name := "lruFront", fn := fun _ => fun
  | [d1, d2] => { results := [.lit (.bool false)], args := [d1, d2] }
  | _ => none }
def LruFrontWrongFalsely : Prop := lruFrontRow.holds Try.pinned (OpenSpec.ofChange lruFrontWrong)

/-- 'dulcimerlaw32.LruPlays': WHATEVER THE INPUT: true; the input reads as it did. -/
def lruPlaysSpec : ChangeSpec := { name := "lruPlays", fn := fun _ => fun
  | [d1, d2] => { results := [.lit (.bool true)], args := [d1, d2] }
  | _ => none }
def lruPlaysRow : OpenClaim := { program := "ytjlpafpedoancaa", sum := "16844a78eac659339e974d3889f39fa16a361778fda316f81ea3eb4b8a99f8ef", func := "dulcimer/dulcimerlaw32.LruPlays", spec := "lruPlays", apart := false }
def LruPlaysSaid : Prop := lruPlaysRow.holds Try.pinned (OpenSpec.ofChange lruPlaysSpec)

/-- ITS FALSE NEIGHBOUR: 'it returns false'. Refute it at one input. -/
def lruPlaysWrong : ChangeSpec := { name := "lruPlays", fn := fun _ => fun
  | [d1, d2] => { results := [.lit (.bool false)], args := [d1, d2] }
  | _ => none }
def LruPlaysWrongFalsely : Prop := lruPlaysRow.holds Try.pinned (OpenSpec.ofChange lruPlaysWrong)

/-- 'dulcimerlaw32.LruNils': WHATEVER THE INPUT: true; the input reads as it did. -/
def lruNilsSpec : ChangeSpec := { name := "lruNils", fn := fun _ => fun
  | [d1, d2] => { results := [.lit (.bool true)], args := [d1, d2] }
  | _ => none }
def lruNilsRow : OpenClaim := { program := "ytjlpafpedoancaa", sum := "16844a78eac659339e974d3889f39fa16a361778fda316f81ea3eb4b8a99f8ef", func := "dulcimer/dulcimerlaw32.LruNils", spec := "lruNils", apart := false }
def LruNilsSaid : Prop := lruNilsRow.holds Try.pinned (OpenSpec.ofChange lruNilsSpec)

/-- ITS FALSE NEIGHBOUR: 'it returns false'. Refute it at one input. -/
def lruNilsWrong : ChangeSpec := { name := "lruNils", fn := fun _ => fun
  | [d1, d2] => { results := [.lit (.bool false)], args := [d1, d2] }
  | _ => none }
def LruNilsWrongFalsely : Prop := lruNilsRow.holds Try.pinned (OpenSpec.ofChange lruNilsWrong)

/-- 'dulcimerlaw46.SlimPicks': WHATEVER THE INPUT: true; the input reads as it did. -/
def slimPicksSpec : ChangeSpec := { name := "slimPicks", fn := fun _ => fun
  | [d1, d2, d3] => { results := [.lit (.bool true)], args := [d1, d2, d3] }
  | _ => none }
def slimPicksRow : OpenClaim := { program := "ytjlpafpedoancaa", sum := "16844a78eac659339e974d3889f39fa16a361778fda316f81ea3eb4b8a99f8ef", func := "dulcimer/dulcimerlaw46.SlimPicks", spec := "slimPicks", unfollowed := true, recurses := true, apart := false }
def SlimPicksSaid : Prop := slimPicksRow.holds Try.pinned (OpenSpec.ofChange slimPicksSpec)

/-- ITS FALSE NEIGHBOUR: 'it returns false'. Refute it at one input. -/
def slimPicksWrong : ChangeSpec := { name := "slimPicks", fn := fun _ => fun
  | [d1, d2, d3] => { results := [.lit (.bool false)], args := [d1, d2, d3] }
  | _ => none }
def SlimPicksWrongFalsely : Prop := slimPicksRow.holds Try.pinned (OpenSpec.ofChange slimPicksWrong)

/-- 'dulcimerlaw46.SlimDiffs': WHATEVER THE INPUT: true; the input reads as it did. -/
def slimDiffsSpec : ChangeSpec := { name := "slimDiffs", fn := fun _ => fun
  | [d1, d2, d3] => { results := [.lit (.bool true)], args := [d1, d2, d3] }
  | _ => none }
def slimDiffsRow : OpenClaim := { program := "ytjlpafpedoancaa", sum := "16844a78eac659339e974d3889f39fa16a361778fda316f81ea3eb4b8a99f8ef", func := "dulcimer/dulcimerlaw46.SlimDiffs", spec := "slimDiffs", unfollowed := true, recurses := true, loops := true, apart := false }
def SlimDiffsSaid : Prop := slimDiffsRow.holds Try.pinned (OpenSpec.ofChange slimDiffsSpec)

/-- ITS FALSE NEIGHBOUR: 'it returns false'. Refute it at one input. -/
def slimDiffsWrong : ChangeSpec := { name := "slimDiffs", fn := fun _ => fun
  | [d1, d2, d3] => { results := [.lit (.bool false)], args := [d1, d2, d3] }
  | _ => none }
def SlimDiffsWrongFalsely : Prop := slimDiffsRow.holds Try.pinned (OpenSpec.ofChange slimDiffsWrong)

/- THE SECOND FORM. 'bulk': how many values and letters a reading holds, each counted each time it is reached (what is shared counts as often as it is met; a slice's spare places count too). A statement '..UptoSaid' is the law's where the arguments, and the package variables that the reading takes, are together of bulk at most 1048576: NARROWER than '..Said'. Prove '..Said' where nothing that the law and all that it calls make is longer than what came in: it says more and counts as full. Else prove '..UptoSaid'. A law counts once. -/
mutual
def uptoBulk {H : Type} : DataW H → Nat
  | .lit (.string bytes) => bytes.length + 1
  | .lit _ => 1
  | .nil => 1
  | .ptr d => uptoBulk d + 1
  | .slice elems spare => uptoBulkAll elems + uptoBulkAll spare + 1
  | .agg parts => uptoBulkAll parts + 1
  | .iface _ d => uptoBulk d + 1
  | .map entries => uptoBulkEntries entries + 1
  | .held _ => 1
def uptoBulkAll {H : Type} : List (DataW H) → Nat
  | [] => 0
  | d :: r => uptoBulk d + uptoBulkAll r
def uptoBulkEntries {H : Type} : List (Lit × DataW H) → Nat
  | [] => 0
  | x :: r => uptoBulkEntry x + uptoBulkEntries r
def uptoBulkEntry {H : Type} : Lit × DataW H → Nat
  | (.string bytes, d) => bytes.length + uptoBulk d + 1
  | (_, d) => uptoBulk d + 1
 end
def uptoSmall : (H : Type) → List (DataW H) → Bool := fun _ ds => decide (uptoBulkAll ds ≤ 1048576)
def OpenSpec.upto (s : _root_.Go.ChangeSpec) : _root_.Go.OpenSpec := { _root_.Go.OpenSpec.ofChange s with cond := some uptoSmall }

/-- 'dulcimerlaw41.BoundTells', WHERE WHAT IT READS IS OF BULK AT MOST 1048576: true; the input reads as it did. -/
def boundTellsUptoRow : OpenClaim := { program := "ytjlpafpedoancaa", sum := "16844a78eac659339e974d3889f39fa16a361778fda316f81ea3eb4b8a99f8ef", func := "dulcimer/dulcimerlaw41.BoundTells", spec := "boundTells", apart := false, narrowed := true }
def BoundTellsUptoSaid : Prop := boundTellsUptoRow.holds Try.pinned (OpenSpec.upto boundTellsSpec)

/-- 'dulcimerlaw20.TickGoes', WHERE WHAT IT READS IS OF BULK AT MOST 1048576: true; the input reads as it did. -/
def tickGoesUptoRow : OpenClaim := { program := "ytjlpafpedoancaa", sum := "16844a78eac659339e974d3889f39fa16a361778fda316f81ea3eb4b8a99f8ef", func := "dulcimer/dulcimerlaw20.TickGoes", spec := "tickGoes", apart := false, narrowed := true }
def TickGoesUptoSaid : Prop := tickGoesUptoRow.holds Try.pinned (OpenSpec.upto tickGoesSpec)

/-- 'dulcimerlaw20.TickLaps', WHERE WHAT IT READS IS OF BULK AT MOST 1048576: true; the input reads as it did. -/
def tickLapsUptoRow : OpenClaim := { program := "ytjlpafpedoancaa", sum := "16844a78eac659339e974d3889f39fa16a361778fda316f81ea3eb4b8a99f8ef", func := "dulcimer/dulcimerlaw20.TickLaps", spec := "tickLaps", unfollowed := true, recurses := true, apart := false, narrowed := true }
def TickLapsUptoSaid : Prop := tickLapsUptoRow.holds Try.pinned (OpenSpec.upto tickLapsSpec)

/-- 'dulcimerlaw20.TickSums', WHERE WHAT IT READS IS OF BULK AT MOST 1048576: true; the input reads as it did. -/
def tickSumsUptoRow : OpenClaim := { program := "ytjlpafpedoancaa", sum := "16844a78eac659339e974d3889f39fa16a361778fda316f81ea3eb4b8a99f8ef", func := "dulcimer/dulcimerlaw20.TickSums", spec := "tickSums", unfollowed := true, recurses := true, apart := false, narrowed := true }
def TickSumsUptoSaid : Prop := tickSumsUptoRow.holds Try.pinned (OpenSpec.upto tickSumsSpec)

/-- 'dulcimerlaw41.BoundCounts', WHERE WHAT IT READS IS OF BULK AT MOST 1048576: true; the input reads as it did. -/
def boundCountsUptoRow : OpenClaim := { program := "ytjlpafpedoancaa", sum := "16844a78eac659339e974d3889f39fa16a361778fda316f81ea3eb4b8a99f8ef", func := "dulcimer/dulcimerlaw41.BoundCounts", spec := "boundCounts", unfollowed := true, recurses := true, apart := false, narrowed := true }
def BoundCountsUptoSaid : Prop := boundCountsUptoRow.holds Try.pinned (OpenSpec.upto boundCountsSpec)

/-- 'dulcimerlaw32.LruFront', WHERE WHAT IT READS IS OF BULK AT MOST 1048576: true; the input reads as it did. -/
def lruFrontUptoRow : OpenClaim := { program := "ytjlpafpedoancaa", sum := "16844a78eac659339e974d3889f39fa16a361778fda316f81ea3eb4b8a99f8ef", func := "dulcimer/dulcimerlaw32.LruFront", spec := "lruFront", apart := false, narrowed := true }
def LruFrontUptoSaid : Prop := lruFrontUptoRow.holds Try.pinned (OpenSpec.upto lruFrontSpec)

/-- 'dulcimerlaw32.LruPlays', WHERE WHAT IT READS IS OF BULK AT MOST 1048576: true; the input reads as it did. -/
def lruPlaysUptoRow : OpenClaim := { program := "ytjlpafpedoancaa", sum := "16844a78eac659339e974d3889f39fa16a361778fda316f81ea3eb4b8a99f8ef", func := "dulcimer/dulcimerlaw32.LruPlays", spec := "lruPlays", apart := false, narrowed := true }
def LruPlaysUptoSaid : Prop := lruPlaysUptoRow.holds Try.pinned (OpenSpec.upto lruPlaysSpec)

/-- 'dulcimerlaw32.LruNils', WHERE WHAT IT READS IS OF BULK AT MOST 1048576: true; the input reads as it did. -/
def lruNilsUptoRow : OpenClaim := { program := "ytjlpafpedoancaa", sum := "16844a78eac659339e974d3889f39fa16a361778fda316f81ea3eb4b8a99f8ef", func := "dulcimer/dulcimerlaw32.LruNils", spec := "lruNils", apart := false, narrowed := true }
def LruNilsUptoSaid : Prop := lruNilsUptoRow.holds Try.pinned (OpenSpec.upto lruNilsSpec)

/-- 'dulcimerlaw46.SlimPicks', WHERE WHAT IT READS IS OF BULK AT MOST 1048576: true; the input reads as it did. -/
def slimPicksUptoRow : OpenClaim := { program := "ytjlpafpedoancaa", sum := "16844a78eac659339e974d3889f39fa16a361778fda316f81ea3eb4b8a99f8ef", func := "dulcimer/dulcimerlaw46.SlimPicks", spec := "slimPicks", unfollowed := true, recurses := true, apart := false, narrowed := true }
def SlimPicksUptoSaid : Prop := slimPicksUptoRow.holds Try.pinned (OpenSpec.upto slimPicksSpec)

/-- 'dulcimerlaw46.SlimDiffs', WHERE WHAT IT READS IS OF BULK AT MOST 1048576: true; the input reads as it did. -/
def slimDiffsUptoRow : OpenClaim := { program := "ytjlpafpedoancaa", sum := "16844a78eac659339e974d3889f39fa16a361778fda316f81ea3eb4b8a99f8ef", func := "dulcimer/dulcimerlaw46.SlimDiffs", spec := "slimDiffs", unfollowed := true, recurses := true, loops := true, apart := false, narrowed := true }
def SlimDiffsUptoSaid : Prop := slimDiffsUptoRow.holds Try.pinned (OpenSpec.upto slimDiffsSpec)

end Rows
end Go.Proofs.Ytjlpafpedoancaa
