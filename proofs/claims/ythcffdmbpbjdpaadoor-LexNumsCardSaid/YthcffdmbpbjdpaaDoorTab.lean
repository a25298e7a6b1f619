/- The table of powers of ten, off what a row lists. -/
import Derived.Test.YthcffdmbpbjdpaaDoorNum
import Derived.Test.YthcffdmbpbjdpaaDoorCard
import Derived.Lib.LaidU8
namespace Go.Proofs.YthcffdmbpbjdpaaDoor.Lex
open Go.RowKit
theorem hasTab_of_laid {l : List (String × DataW Unit)} {W : World} (h : laidMetH Tryd.prog l W) (hp : (l.all fun x => x.2.handleName?.isNone) = true)
    (hm : ("internal/strconv.uint64pow10", Lib.tabData .u64 Lib.pow10Tab) ∈ l) : HasTab W := by
  rw [MakeChecks.laidMetH_plain _ _ _ hp] at h
  obtain ⟨g, t, cs, fuel, p, h1, h2, h3, h4⟩ := Lib.laidMet.reads h hm
  obtain rfl : 2 = g := Option.some.inj ((show Tryd.prog.globalNamed "internal/strconv.uint64pow10" = some 2 by kernel_rfl).symm.trans h1)
  obtain rfl : 82 = t := Option.some.inj ((show (Tryd.prog.globals[2]?).map (·.type) = some 82 by kernel_rfl).symm.trans h2)
  have h5 := Lib.cells_of_tab (e := 58) (n := 20) (k := .u64) Tryd.underlying82 Tryd.underlying58 (by kernel_rfl) (by kernel_rfl) h4
  unfold HasTab Lib.TabIs
  rw [h3, ← h5]
end Go.Proofs.YthcffdmbpbjdpaaDoor.Lex
