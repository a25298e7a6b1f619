/-
  NARROWER THAN 'FOR EVERY INPUT', by the rows' own cells (each row's printed sentence says how): SlimDiffs: loops.
  DERIVED. THE GIVEN ROWS OF THIS SEAT. 2 by the template 'for every input the law returns true; each argument reads behind the call as it read before'; 0 by the template 'total and deterministic' (their statements: YtbijacoiblbnfaaTotals.lean).
  GIVEN WITH THE SEED: the statements are not yours to turn. If you find one false, say at which input.
  Laid BY PROGRAM, IN A SANDBOX (cutbox-rows.mjs): the forced cells as the released guide's own fill.sh prints them over the translation 6a00f1d7331f107b… (all of the seat's roots in one cut). By AI agents, Wed Nov 11 2026. No macro, syntax, notation, axiom, sorry.
-/
import Derived.Test.YtbijacoiblbnfaaChecked
import GoSem.Claim
import GoSem.ClaimJoined
import GoSem.ClaimMapViews
import Derived.JoinedTies
import Derived.KernelRfl
namespace Go.Proofs.Ytbijacoiblbnfaa
/- THE CELL 'sum', in the pinned program and in every row, IS THE sha256 OF THE DUMP (.gsa) THAT YtbijacoiblbnfaaProg.lean LOADS. Nothing in Lean hashes anything: it is a label: what it is worth is what the hold of that sum in a sandbox is worth. -/
noncomputable def Try.pinned : Pinned := { name := "ytbijacoiblbnfaa", sum := "6a00f1d7331f107b60e028e7bfb280338a4c01c925cbb23b9a8742b8a3149af2", checked := Try.checked }
namespace Rows
def none {H : Type} : Left H := { results := [], args := [] }

/-- 'dulcimerlaw46.SlimPicks': WHATEVER THE INPUT: true; the input reads as it did. -/
def slimPicksSpec : ChangeSpec := { name := "slimPicks", fn := fun _ => fun
  | [d1, d2, d3] => { results := [.lit (.bool true)], args := [d1, d2, d3] }
  | _ => none }
def slimPicksRow : OpenClaim := { program := "ytbijacoiblbnfaa", sum := "6a00f1d7331f107b60e028e7bfb280338a4c01c925cbb23b9a8742b8a3149af2", func := "dulcimer/dulcimerlaw46.SlimPicks", spec := "slimPicks", unfollowed := true, recurses := true, apart := false }
def SlimPicksSaid : Prop := slimPicksRow.holds Try.pinned (OpenSpec.ofChange slimPicksSpec)

/-- ITS FALSE NEIGHBOUR: 'it returns false'. Refute it at one input. -/
def slimPicksWrong : ChangeSpec := { name := "slimPicks", fn := fun _ => fun
  | [d1, d2, d3] => { results := [.lit (.bool false)], args := [d1, d2, d3] }
  | _ => none }
def SlimPicksWrongFalsely : Prop := slimPicksRow.holds Try.pinned (OpenSpec.ofChange slimPicksWrong)

/-- 'dulcimerlaw46.SlimDiffs': WHATEVER THE INPUT: true; the input reads as it did. -/
def slimDiffsSpec : ChangeSpec := { name := "slimDiffs", fn := fun _ => fun
  | [d1, d2, d3] => { results := [.lit (.bool true)], args := [d1, d2, d3] }
  | _ => none }
def slimDiffsRow : OpenClaim := { program := "ytbijacoiblbnfaa", sum := "6a00f1d7331f107b60e028e7bfb280338a4c01c925cbb23b9a8742b8a3149af2", func := "dulcimer/dulcimerlaw46.SlimDiffs", spec := "slimDiffs", unfollowed := true, recurses := true, loops := true, apart := false }
def SlimDiffsSaid : Prop := slimDiffsRow.holds Try.pinned (OpenSpec.ofChange slimDiffsSpec)

/-- ITS FALSE NEIGHBOUR: 'it returns false'. Refute it at one input. -/
def slimDiffsWrong : ChangeSpec := { name := "slimDiffs", fn := fun _ => fun
  | [d1, d2, d3] => { results := [.lit (.bool false)], args := [d1, d2, d3] }
  | _ => none }
def SlimDiffsWrongFalsely : Prop := slimDiffsRow.holds Try.pinned (OpenSpec.ofChange slimDiffsWrong)

/- THE SECOND FORM. 'bulk': how many values and letters a reading holds, each counted each time it is reached (what is shared counts as often as it is met; a slice's spare places count too). A statement '..UptoSaid' is the law's where the arguments, and the package variables that the reading takes, are together of bulk at most 1048576: NARROWER than '..Said'. Prove '..Said' where nothing that the law and all that it calls make is longer than what came in: it says more and counts as full. Else prove '..UptoSaid'. A law counts once. -/
mutual
def uptoBulk {H : Type} : DataW H → Nat
  | .lit (.string bytes) => bytes.length + 1
  | .lit _ => 1
  | .nil => 1
  | .ptr d => uptoBulk d + 1
  | .slice elems spare => uptoBulkAll elems + uptoBulkAll spare + 1
  | .agg parts => uptoBulkAll parts + 1
  | .iface _ d => uptoBulk d + 1
  | .map entries => uptoBulkEntries entries + 1
  | .held _ => 1
def uptoBulkAll {H : Type} : List (DataW H) → Nat
  | [] => 0
  | d :: r => uptoBulk d + uptoBulkAll r
def uptoBulkEntries {H : Type} : List (Lit × DataW H) → Nat
  | [] => 0
  | x :: r => uptoBulkEntry x + uptoBulkEntries r
def uptoBulkEntry {H : Type} : Lit × DataW H → Nat
  | (.string bytes, d) => bytes.length + uptoBulk d + 1
  | (_, d) => uptoBulk d + 1
 end
def uptoSmall : (H : Type) → List (DataW H) → Bool := fun _ ds => decide (uptoBulkAll ds ≤ 1048576)
def OpenSpec.upto (s : _root_.Go.ChangeSpec) : _root_.Go.OpenSpec := { _root_.Go.OpenSpec.ofChange s with cond := some uptoSmall }

/-- 'dulcimerlaw46.SlimPicks', WHERE WHAT IT READS IS OF BULK AT MOST 1048576: true; the input reads as it did. -/
def slimPicksUptoRow : OpenClaim := { program := "ytbijacoiblbnfaa", sum := "6a00f1d7331f107b60e028e7bfb280338a4c01c925cbb23b9a8742b8a3149af2", func := "dulcimer/dulcimerlaw46.SlimPicks", spec := "slimPicks", unfollowed := true, recurses := true, apart := false, narrowed := true }
def SlimPicksUptoSaid : Prop := slimPicksUptoRow.holds Try.pinned (OpenSpec.upto slimPicksSpec)

/-- 'dulcimerlaw46.SlimDiffs', WHERE WHAT IT READS IS OF BULK AT MOST 1048576: true; the input reads as it did. -/
def slimDiffsUptoRow : OpenClaim := { program := "ytbijacoiblbnfaa", sum := "6a00f1d7331f107b60e028e7bfb280338a4c01c925cbb23b9a8742b8a3149af2", func := "dulcimer/dulcimerlaw46.SlimDiffs", spec := "slimDiffs", unfollowed := true, recurses := true, loops := true, apart := false, narrowed := true }
def SlimDiffsUptoSaid : Prop := slimDiffsUptoRow.holds Try.pinned (OpenSpec.upto slimDiffsSpec)

end Rows
end Go.Proofs.Ytbijacoiblbnfaa
