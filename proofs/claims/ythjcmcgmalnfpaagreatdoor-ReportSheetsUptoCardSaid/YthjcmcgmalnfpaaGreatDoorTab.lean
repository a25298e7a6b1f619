/- The table of powers of ten, off what a row lists. -/
import Derived.Test.YthjcmcgmalnfpaaGreatDoorNum
import Derived.Test.YthjcmcgmalnfpaaGreatDoorCard
import Derived.Lib.LaidU8
namespace Go.Proofs.YthjcmcgmalnfpaaGreatDoor.Lex
open Go.RowKit
theorem hasTab_of_laid {l : List (String × DataW Unit)} {W : World} (h : laidMetH Tryz.prog l W) (hp : (l.all fun x => x.2.handleName?.isNone) = true)
    (hm : ("internal/strconv.uint64pow10", Lib.tabData .u64 Lib.pow10Tab) ∈ l) : HasTab W := by
  rw [MakeChecks.laidMetH_plain _ _ _ hp] at h
  obtain ⟨g, t, cs, fuel, p, h1, h2, h3, h4⟩ := Lib.laidMet.reads h hm
  obtain rfl : 1 = g := Option.some.inj ((show Tryz.prog.globalNamed "internal/strconv.uint64pow10" = some 1 by kernel_rfl).symm.trans h1)
  obtain rfl : 136 = t := Option.some.inj ((show (Tryz.prog.globals[1]?).map (·.type) = some 136 by kernel_rfl).symm.trans h2)
  have h5 := Lib.cells_of_tab (e := 77) (n := 20) (k := .u64) Tryz.underlying136 Tryz.underlying77 (by kernel_rfl) (by kernel_rfl) h4
  unfold HasTab Lib.TabIs
  rw [h3, ← h5]
end Go.Proofs.YthjcmcgmalnfpaaGreatDoor.Lex
