/- The kinds' words. -/
import Derived.Test.YthjcmcgmalnfpaaGreatDoorSplit
import Derived.Test.YthjcmcgmalnfpaaGreatDoorStr
import Derived.Test.YthjcmcgmalnfpaaGreatDoorNum
import Derived.Test.YthjcmcgmalnfpaaGreatDoorGTree
namespace Go.Proofs.YthjcmcgmalnfpaaGreatDoor.Lex
open Go.RowKit
set_option linter.unusedSimpArgs false
set_option linter.unusedVariables false
def names23 : List (List UInt8) := [[110, 97, 105, 118, 101], [115, 109, 97, 108, 108], [115, 116, 111, 99, 107], [115, 112, 108, 105, 116], [103, 111, 111, 100], [114, 97, 100, 101, 114], [98, 108, 117, 101]]
/-- A kind's word; none: the empty one. -/
def wordD (k : Int) : List UInt8 := if 1 ≤ k ∧ k ≤ 7 then names23.getD (k - 1).toNat [] else []
theorem wordD_len (k : Int) : (wordD k).length ≤ 5 := by
  unfold wordD
  split
  · rename_i h
    rcases (by omega : k = 1 ∨ k = 2 ∨ k = 3 ∨ k = 4 ∨ k = 5 ∨ k = 6 ∨ k = 7) with rfl | rfl | rfl | rfl | rfl | rfl | rfl <;> decide
  · simp
theorem wordD_ne {k : Int} (h : 1 ≤ k ∧ k ≤ 7) : wordD k ≠ [] := by
  rcases (by omega : k = 1 ∨ k = 2 ∨ k = 3 ∨ k = 4 ∨ k = 5 ∨ k = 6 ∨ k = 7) with rfl | rfl | rfl | rfl | rfl | rfl | rfl <;> decide
def wordsS : ByteArray := ⟨#[110, 97, 105, 118, 101, 32, 115, 109, 97, 108, 108, 32, 115, 116, 111, 99, 107, 32, 115, 112, 108, 105, 116, 32, 103, 111, 111, 100, 32, 114, 97, 100, 101, 114, 32, 98, 108, 117, 101]⟩
theorem pieces_words : pieces wordsS.data.toList = names23 := by decide +kernel
theorem split23 (w : World) (hm : HasMax w) : Calls Tryz.prog 38 #[.string ⟨#[110, 97, 105, 118, 101, 32, 115, 109, 97, 108, 108, 32, 115, 116, 111, 99, 107, 32, 115, 112, 108, 105, 116, 32, 103, 111, 111, 100, 32, 114, 97, 100, 101, 114, 32, 98, 108, 117, 101]⟩, .string ⟨#[32]⟩] w fun e w' =>
    e = .returned (.slice (some ⟨w.heap.size, 0, none⟩) 7 7) ∧ (∀ j x, names23[j]? = some x → w'.cell? ⟨w.heap.size, j, none⟩ = some (.string (bs x))) ∧ Below w.heap.size w w' := by
  refine (split_any wordsS w hm (by decide)).mono ?_
  rw [pieces_words]
  rintro e w' ⟨rfl, ho, hb⟩
  refine ⟨rfl, fun j x hx => ?_, hb⟩
  exact (own_cell ho (i := j) (u := .string (bs x)) (by rw [List.getElem?_map, hx]; rfl)).1
set_option maxRecDepth 100000 in
theorem word_any (k : Int) (w : World) (hm : HasMax w) : Calls Tryz.prog 77 #[.int .i64 k] w fun e w' => e = .returned (.string (bs (wordD k))) ∧ Below w.heap.size w w' := by
  have HM := Lib.hid hm
  clear hm
  by_cases h1 : k < 1
  · have HW : Hid (bs (wordD k) = ⟨#[]⟩) := Lib.hid (by unfold wordD; rw [if_neg (by omega)]; rfl)
    go_enter Tryz.func77, Tryz.ntmps77
    go_wp2_with (go_at_call 38; (with_reducible refine (split23 _ HM.out).mono ?_); rintro e w1 ⟨rfl, hc, hb⟩; have HB := Lib.hid hb; clear hc hb)
    go_ret
    exact ⟨by rw [HW.out]; rfl, HB.out⟩
  · by_cases h7 : 7 < k
    · have HW : Hid (bs (wordD k) = ⟨#[]⟩) := Lib.hid (by unfold wordD; rw [if_neg (by omega)]; rfl)
      go_enter Tryz.func77, Tryz.ntmps77
      go_wp2_with (go_at_call 38; (with_reducible refine (split23 _ HM.out).mono ?_); rintro e w1 ⟨rfl, hc, hb⟩; have HB := Lib.hid hb; clear hc hb)
      go_ret
      exact ⟨by rw [HW.out]; rfl, HB.out⟩
    · rcases (by omega : k = 1 ∨ k = 2 ∨ k = 3 ∨ k = 4 ∨ k = 5 ∨ k = 6 ∨ k = 7) with rfl | rfl | rfl | rfl | rfl | rfl | rfl
      all_goals
        clear h1 h7
        go_enter Tryz.func77, Tryz.ntmps77
        go_wp2_with (go_at_call 38; (with_reducible refine (split23 _ HM.out).mono ?_); rintro e w1 ⟨rfl, hc, hb⟩; have HB := Lib.hid hb; have c0 := hc 0 _ rfl; have c1 := hc 1 _ rfl; have c2 := hc 2 _ rfl; have c3 := hc 3 _ rfl; have c4 := hc 4 _ rfl; have c5 := hc 5 _ rfl; have c6 := hc 6 _ rfl; clear hc hb)
        go_ret
        exact ⟨rfl, HB.out⟩
set_option maxRecDepth 100000 in
theorem rword23 (k : Int) (w : World) (h0 : 0 ≤ k) (h7 : k ≤ 7) : Calls Tryz.prog 70 #[.int .i64 k] w fun e w' => e = .returned (.string (bs (wordD k))) ∧ Below w.heap.size w w' := by
  have HB : Hid (Below w.heap.size w (w.alloc (.cells #[.string ⟨#[]⟩, .string ⟨#[110, 97, 105, 118, 101]⟩, .string ⟨#[115, 109, 97, 108, 108]⟩, .string ⟨#[115, 116, 111, 99, 107]⟩, .string ⟨#[115, 112, 108, 105, 116]⟩, .string ⟨#[103, 111, 111, 100]⟩, .string ⟨#[114, 97, 100, 101, 114]⟩, .string ⟨#[98, 108, 117, 101]⟩] 9))) := Lib.hid ((Below.refl _ _).alloc (Nat.le_refl _) _)
  rcases (by omega : k = 0 ∨ k = 1 ∨ k = 2 ∨ k = 3 ∨ k = 4 ∨ k = 5 ∨ k = 6 ∨ k = 7) with rfl | rfl | rfl | rfl | rfl | rfl | rfl | rfl
  all_goals
    clear h0 h7
    go_enter Tryz.func70, Tryz.ntmps70
    go_wp2_with fail
    go_ret
    exact ⟨rfl, HB.out⟩
end Go.Proofs.YthjcmcgmalnfpaaGreatDoor.Lex
