/- The table of kinds' names, off what a row lists. -/
import Derived.Test.YtpjdcooflheoeaaDoorIter47
import Derived.Test.YtpjdcooflheoeaaDoorCard
import Derived.Lib.LaidU8
namespace Go.Proofs.YtpjdcooflheoeaaDoor.Lex
open Go.RowKit
theorem cells_of_strs {H : Type} {enc : TypeId × Value → H} {P : Program} {w : World} {base : Nat} {sp : Nat → Bool} {held : Bool} {fuel : Nat} {t e : TypeId} {n : Nat} {cs : List Value} {ss : List (List UInt8)} {p : List MemPlace}
    (ht : P.underlying t = some (.array n e)) (he : P.underlying e = some .string) (hce : P.cellsOf e = 1) (hct : P.cellsOf t = n)
    (h : DataW.trod enc P w base sp held fuel t cs = some (.agg (ss.map fun s => .lit (.string s)), p)) : cs = ss.map fun s => Value.string ⟨s.toArray⟩ := by
  obtain ⟨xs, m, _, hx, hl, hxs, hi⟩ := DataW.trod_array ht h
  rw [hct] at hl
  simp only [Prod.mk.injEq, DataW.agg.injEq] at hx
  obtain ⟨hx, _⟩ := hx
  have hxl : ss.length = n := by
    have := congrArg List.length hx
    simp at this
    omega
  apply List.ext_getElem?
  intro i
  by_cases h' : i < n
  · have e1 := hi i h'
    rw [hce, Nat.mul_one] at e1
    have e2 : (xs.map (·.1))[i]? = (ss.map fun s => (DataW.lit (.string s) : DataW H))[i]? := by rw [hx]
    rw [List.getElem?_map, List.getElem?_map, List.getElem?_eq_getElem (by omega : i < ss.length), List.getElem?_eq_getElem (by omega : i < xs.length)] at e2
    rw [List.getElem?_eq_getElem (by omega : i < xs.length)] at e1
    obtain ⟨s, h1, h2, _⟩ := DataW.trod_string he e1
    rw [h2] at e2
    simp only [Option.map_some, Option.some.injEq, DataW.lit.injEq, Lit.string.injEq] at e2
    have h3 : cs[i]? = some (.string s) := by
      have := congrArg (·[0]?) h1
      simpa [List.getElem?_take, List.getElem?_drop] using this
    rw [h3, List.getElem?_map, List.getElem?_eq_getElem (by omega : i < ss.length), ← e2]
    simp
  · rw [List.getElem?_eq_none (by omega), List.getElem?_eq_none (by simp; omega)]
theorem hasNames_of_laid {l : List (String × DataW Unit)} {W : World} (h : laidMetH Tryd.prog l W) (hp : (l.all fun x => x.2.handleName?.isNone) = true)
    (hm : ("dulcimer/console.names", (.agg ([[], [103, 101, 116], [108, 111, 111, 107, 117, 112], [101, 118, 105, 99, 116], [105, 109, 112, 111, 114, 116], [101, 120, 112, 111, 114, 116], [101, 120, 101, 99, 117, 116, 101], [114, 101, 108, 101, 97, 115, 101]].map fun s => .lit (.string s)) : DataW Unit)) ∈ l) : HasNames W := by
  rw [MakeChecks.laidMetH_plain _ _ _ hp] at h
  obtain ⟨g, t, cs, fuel, p, h1, h2, h3, h4⟩ := Lib.laidMet.reads h hm
  obtain rfl : 0 = g := Option.some.inj ((show Tryd.prog.globalNamed "dulcimer/console.names" = some 0 by kernel_rfl).symm.trans h1)
  obtain rfl : 57 = t := Option.some.inj ((show (Tryd.prog.globals[0]?).map (·.type) = some 57 by kernel_rfl).symm.trans h2)
  have h5 := cells_of_strs Tryd.underlying57 Tryd.underlying9 (by kernel_rfl) (by kernel_rfl) h4
  unfold HasNames
  rw [h3]
  exact congrArg some (Array.toList_inj.1 h5)
end Go.Proofs.YtpjdcooflheoeaaDoor.Lex
