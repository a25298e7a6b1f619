/- An error's word. -/
import Derived.Test.YthjcmcgmalnfpaaGreatDoorPut
import Derived.Test.YthjcmcgmalnfpaaGreatDoorCard
import Derived.Lib.LaidU8
namespace Go.Proofs.YthjcmcgmalnfpaaGreatDoor.Lex
open Go.RowKit
set_option linter.unusedSimpArgs false
set_option linter.unusedVariables false
def wordsE : List (List UInt8) := [[111, 107], [110, 105, 108], [97, 114, 103], [114, 97, 110, 103, 101], [115, 105, 122, 101], [108, 101, 110], [114, 101, 108, 101, 97, 115, 101, 100], [110, 111, 110, 101], [100, 101, 115, 99], [118, 101, 114, 115, 105, 111, 110], [115, 121, 110, 116, 97, 120], [116, 119, 105, 99, 101], [98, 105, 103], [115, 116, 97, 116, 101], [115, 116, 117, 99, 107]]
def errW (e : Int) : List UInt8 := if 0 ≤ e ∧ e < 15 then wordsE.getD e.toNat [] else [63]
/-- The table of words stands. -/
def HasWords (w : World) : Prop := ∀ i x, wordsE[i]? = some x → w.cell? ⟨0, i, none⟩ = some (.string (bs x))
theorem HasWords.below {w w' : World} (h : HasWords w) (hb : Below w.heap.size w w') : HasWords w' := fun i x hx =>
  (hb.cell (p := ⟨0, i, none⟩) (World.block_lt_of_cell? _ _ (h i x hx))).trans (h i x hx)
theorem errW_out {e : Int} (h : e < 0 ∨ 15 ≤ e) : errW e = [63] := by unfold errW; rw [if_neg (by omega)]
theorem errW_len (e : Int) : (errW e).length ≤ 8 := by
  unfold errW
  split
  · rename_i h
    rcases (by omega : e = 0 ∨ e = 1 ∨ e = 2 ∨ e = 3 ∨ e = 4 ∨ e = 5 ∨ e = 6 ∨ e = 7 ∨ e = 8 ∨ e = 9 ∨ e = 10 ∨ e = 11 ∨ e = 12 ∨ e = 13 ∨ e = 14) with rfl | rfl | rfl | rfl | rfl | rfl | rfl | rfl | rfl | rfl | rfl | rfl | rfl | rfl | rfl <;> decide
  · simp
set_option maxRecDepth 100000 in
theorem wordE_any (e : Int) (w : World) (hw : HasWords w) : Calls Tryz.prog 34 #[.int .i64 e] w fun e' w' => e' = .returned (.string (bs (errW e))) ∧ w = w' := by
  by_cases h : e < 0 ∨ 15 ≤ e
  · have HE : Hid (bs (errW e) = ⟨#[63]⟩) := Lib.hid (by rw [errW_out h]; rfl)
    by_cases h0 : e < 0
    · clear h
      go_enter Tryz.func34, Tryz.ntmps34
      go_wp2_with fail
      go_ret
      exact ⟨by rw [HE.out]; rfl, rfl⟩
    · have h1 : (15 : Int) ≤ e := by omega
      clear h
      go_enter Tryz.func34, Tryz.ntmps34
      go_wp2_with fail
      go_ret
      exact ⟨by rw [HE.out]; rfl, rfl⟩
  · rcases (by omega : e = 0 ∨ e = 1 ∨ e = 2 ∨ e = 3 ∨ e = 4 ∨ e = 5 ∨ e = 6 ∨ e = 7 ∨ e = 8 ∨ e = 9 ∨ e = 10 ∨ e = 11 ∨ e = 12 ∨ e = 13 ∨ e = 14) with rfl | rfl | rfl | rfl | rfl | rfl | rfl | rfl | rfl | rfl | rfl | rfl | rfl | rfl | rfl
    all_goals
      have c0 := hw 0 _ rfl; have c1 := hw 1 _ rfl; have c2 := hw 2 _ rfl; have c3 := hw 3 _ rfl; have c4 := hw 4 _ rfl; have c5 := hw 5 _ rfl; have c6 := hw 6 _ rfl; have c7 := hw 7 _ rfl; have c8 := hw 8 _ rfl; have c9 := hw 9 _ rfl; have c10 := hw 10 _ rfl; have c11 := hw 11 _ rfl; have c12 := hw 12 _ rfl; have c13 := hw 13 _ rfl; have c14 := hw 14 _ rfl
      clear hw h
      go_enter Tryz.func34, Tryz.ntmps34
      go_wp2_with fail
      go_ret
      exact ⟨rfl, rfl⟩
set_option maxRecDepth 100000 in
set_option maxHeartbeats 8000000 in
theorem rword_any' (e : Int) (w : World) : Calls Tryz.prog 47 #[.int .i64 e] w fun e' w' => e' = .returned (.string (bs (errW e))) ∧ Below w.heap.size w w' := by
  have HB : ∀ o : Obj, Below w.heap.size w (w.alloc o) := fun o => (Below.refl _ _).alloc (Nat.le_refl _) _
  have HB := Lib.hid HB
  by_cases h : e < 0 ∨ 15 ≤ e
  · have HE : Hid (bs (errW e) = ⟨#[63]⟩) := Lib.hid (by rw [errW_out h]; rfl)
    by_cases h0 : e < 0
    · clear h
      go_enter Tryz.func47, Tryz.ntmps47
      go_wp2_with fail
      go_ret
      exact ⟨by rw [HE.out]; rfl, HB.out _⟩
    · have h1 : (14 : Int) < e := by omega
      clear h
      go_enter Tryz.func47, Tryz.ntmps47
      go_wp2_with fail
      go_ret
      exact ⟨by rw [HE.out]; rfl, HB.out _⟩
  · rcases (by omega : e = 0 ∨ e = 1 ∨ e = 2 ∨ e = 3 ∨ e = 4 ∨ e = 5 ∨ e = 6 ∨ e = 7 ∨ e = 8 ∨ e = 9 ∨ e = 10 ∨ e = 11 ∨ e = 12 ∨ e = 13 ∨ e = 14) with rfl | rfl | rfl | rfl | rfl | rfl | rfl | rfl | rfl | rfl | rfl | rfl | rfl | rfl | rfl
    all_goals
      clear h
      go_enter Tryz.func47, Tryz.ntmps47
      go_wp2_with fail
      go_ret
      exact ⟨rfl, HB.out _⟩
end Go.Proofs.YthjcmcgmalnfpaaGreatDoor.Lex
