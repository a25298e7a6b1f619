/- The page's example, by dtext.Print. -/
import Derived.Test.YtoiclfcgcgdfhaaDoorPrint23
import Derived.Test.YtoiclfcgcgdfhaaDoorTok23
namespace Go.Proofs.YtoiclfcgcgdfhaaDoor.Lex
open Go.RowKit
set_option linter.unusedSimpArgs false
set_option linter.unusedVariables false
def exD : DescV := .mk 4 6 [.mk 2 2 [], .mk 1 3 []]
def exS : List UInt8 := [115, 112, 108, 105, 116, 54, 40, 115, 109, 97, 108, 108, 50, 44, 110, 97, 105, 118, 101, 51, 41]
theorem exD_text : textD exD = some exS := by
  refine textD_iff.2 ⟨by decide, ?_⟩
  simp only [exD, tokD, tokR, tokK]
  rw [show ((6 : Int).toNat) = 6 from rfl, show ((2 : Int).toNat) = 2 from rfl, show ((3 : Int).toNat) = 3 from rfl, decDigits_small (by omega : 6 < 10), decDigits_small (by omega : 2 < 10), decDigits_small (by omega : 3 < 10)]
  decide
theorem exD_print : printD exD = .tuple #[.string (bs exS), .int .i64 0] := by
  rw [printD, if_neg (by decide), exD_text]
theorem live_row (w : World) : RowOf (descRd 1) 3 40 All (w.alloc (.cells #[.int .i64 2, .int .i64 2, .slice none 0 0, .int .i64 1, .int .i64 3, .slice none 0 0] 24)) (some ⟨w.heap.size, 0, none⟩) 2 2 [.mk 2 2 [], .mk 1 3 []] := by
  have g := heap_alloc_new w (.cells #[.int .i64 2, .int .i64 2, .slice none 0 0, .int .i64 1, .int .i64 3, .slice none 0 0] 24)
  have hz : w.heap.size < (w.alloc (.cells #[.int .i64 2, .int .i64 2, .slice none 0 0, .int .i64 1, .int .i64 3, .slice none 0 0] 24)).heap.size := by simp
  refine ⟨rfl, Nat.le_refl _, by unfold maxLen; omega, by omega, by simp, fun i x hx => ?_⟩
  match i, hx with
  | 0, hx =>
    obtain rfl : DescV.mk 2 2 [] = x := by simpa using hx
    refine ⟨_, 0, [.int .i64 2, .int .i64 2, .slice none 0 0], rfl, hz, trivial, rfl, fun j u hu => ?_, none, 0, 0, rfl, by decide, by decide, RowOf.empty _ _ _ _ _⟩
    match j, hu with
    | 0, hu => obtain rfl : _ = u := by simpa using hu
               exact cell_at g rfl
    | 1, hu => obtain rfl : _ = u := by simpa using hu
               exact cell_at g rfl
    | 2, hu => obtain rfl : _ = u := by simpa using hu
               exact cell_at g rfl
    | j + 3, hu => simp at hu
  | 1, hx =>
    obtain rfl : DescV.mk 1 3 [] = x := by simpa using hx
    refine ⟨_, 0, [.int .i64 1, .int .i64 3, .slice none 0 0], rfl, hz, trivial, rfl, fun j u hu => ?_, none, 0, 0, rfl, by decide, by decide, RowOf.empty _ _ _ _ _⟩
    match j, hu with
    | 0, hu => obtain rfl : _ = u := by simpa using hu
               exact cell_at g rfl
    | 1, hu => obtain rfl : _ = u := by simpa using hu
               exact cell_at g rfl
    | 2, hu => obtain rfl : _ = u := by simpa using hu
               exact cell_at g rfl
    | j + 3, hu => simp at hu
  | i + 2, hx => simp at hx
set_option maxRecDepth 100000 in
set_option maxHeartbeats 1000000 in
theorem live23 (w : World) (hm : HasMax w) (ht : HasTab w) : Calls Tryd.prog 6 #[] w fun e w' => e = .returned (.bool true) ∧ Below w.heap.size w w' := by
  obtain ⟨W0, hW0⟩ : ∃ W0, W0 = w.alloc (.cells #[.int .i64 2, .int .i64 2, .slice none 0 0, .int .i64 1, .int .i64 3, .slice none 0 0] 24) := ⟨_, rfl⟩
  have hb0 : Below w.heap.size w W0 := by rw [hW0]; exact (Below.refl _ _).alloc (Nat.le_refl _) _
  have hp := print_any 1 All 4 6 [.mk 2 2 [], .mk 1 3 []] (some ⟨w.heap.size, 0, none⟩) 2 2 W0 (by rw [hW0]; exact live_row w) (by decide) (hm.below hb0) (ht.below hb0)
  rw [show DescV.mk 4 6 [.mk 2 2 [], .mk 1 3 []] = exD from rfl, exD_print] at hp
  have HP := Lib.hid hp
  have HB0 := Lib.hid hb0
  have hex : bs exS = ⟨#[115, 112, 108, 105, 116, 54, 40, 115, 109, 97, 108, 108, 50, 44, 110, 97, 105, 118, 101, 51, 41]⟩ := rfl
  clear hp hb0 hm ht
  rw [hex] at HP
  clear hex
  go_enter Tryd.func6, Tryd.ntmps6
  go_wp2_with (rw [← hW0]; (go_at_call 7; (with_reducible refine HP.out.mono ?_); rintro e w1 ⟨rfl, hb1⟩; have HB1 := Lib.hid (HB0.out.trans (hb1.mono HB0.out.size)); clear hb1))
  go_ret
  exact ⟨rfl, HB1.out⟩
end Go.Proofs.YtoiclfcgcgdfhaaDoor.Lex
