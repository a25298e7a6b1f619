/- strings.Split at a blank. -/
import Derived.Test.YthjcmcgmalnfpaaGreatDoorWordS
import Derived.Test.YthjcmcgmalnfpaaGreatDoorMem2
import Derived.Test.YthjcmcgmalnfpaaGreatDoorChecked
import Derived.Test.YthjcmcgmalnfpaaGreatDoorShelf
namespace Go.Proofs.YthjcmcgmalnfpaaGreatDoor.Lex
open Go.RowKit
/-- internal/bytealg.MaxLen holds some number. -/
def HasMax (w : World) : Prop := ∃ m, w.cell? ⟨2, 0, none⟩ = some (.int .i64 m)
theorem HasMax.below {w w' : World} (h : HasMax w) (hb : Below w.heap.size w w') : HasMax w' := by
  obtain ⟨m, hm⟩ := h
  exact ⟨m, (hb.cell (p := ⟨2, 0, none⟩) (World.block_lt_of_cell? _ _ hm)).trans hm⟩
theorem hasMax_of_shape {w : World} (h : w.ShapedOpen Tryz.prog) : HasMax w := Tryz.laysM146.s1_3 w h
theorem split_any (s : ByteArray) (w : World) (hm : HasMax w) (hs : s.size < 4294967281) :
    Calls Tryz.prog 38 #[.string s, .string ⟨#[32]⟩] w fun e w' => e = .returned (.slice (some ⟨w.heap.size, 0, none⟩) (pieces s.data.toList).length (pieces s.data.toList).length) ∧
      w'.ownsRow w.heap.size 9 1 (.slice (some ⟨w.heap.size, 0, none⟩) (pieces s.data.toList).length (pieces s.data.toList).length) (pieces s.data.toList).length ((pieces s.data.toList).map fun l => .string (bs l)) ∧ Below w.heap.size w w' := by
  obtain ⟨m, hm⟩ := hm
  refine (Tryz.strings_Split s ⟨#[32]⟩ m w hs hm (by decide)).mono ?_
  rintro e w' ⟨rfl, rfl⟩
  rw [pieces_length, splitB_pieces]
  have hl : ((pieces s.data.toList).map fun l => Value.string (bs l)).length = (pieces s.data.toList).length := by simp
  have hle : (pieces s.data.toList).length ≤ s.size + 1 := by
    rw [← pieces_length]
    have := Lib.countB_le ⟨#[32]⟩ (by decide) s.size s (Nat.le_refl _)
    omega
  refine ⟨rfl, ⟨by rw [hl]; omega, .inr ⟨w.heap.size, _, ((pieces s.data.toList).map fun l => Value.string (bs l)).toArray, rfl, Nat.le_refl _, ?_, Nat.le_refl _, by unfold maxLen; omega, by simp, ?_⟩⟩, (Below.refl _ _).alloc (Nat.le_refl _) _⟩
  · rw [List.map_map]
    exact heap_alloc_new w _
  · rw [List.take_of_length_le (by simp)]
end Go.Proofs.YthjcmcgmalnfpaaGreatDoor.Lex
