/- The page's example, by wisdom.Print. -/
import Derived.Test.YtephllgddhncgaaGreatDoorGPrt
namespace Go.Proofs.YtephllgddhncgaaGreatDoor.Lex
open Go.RowKit Stab
set_option linter.unusedSimpArgs false
set_option linter.unusedVariables false
def oneE : List EntryV := [((8, 0), .mk 3 8 [])]
theorem live_text : printWV oneE = .tuple #[.string ⟨#[100, 117, 108, 99, 105, 109, 101, 114, 32, 49, 10, 56, 32, 48, 32, 115, 116, 111, 99, 107, 56, 10]⟩, .int .i64 0] := by
  have h1 : chkW oneE = 0 := by decide +kernel
  have h2 : textW oneE = [100, 117, 108, 99, 105, 109, 101, 114, 32, 49, 10, 56, 32, 48, 32, 115, 116, 111, 99, 107, 56, 10] := by decide +kernel
  rw [printWV, if_pos h1, h2]
  rfl
theorem one_row (W : World) (b : Nat) (h : W.heap[b]? = some (.cells #[.int .i64 8, .int .i64 0, .int .i64 3, .int .i64 8, .slice none 0 0] 44 (0, 0))) : RowOf (entryRd 1) 5 56 All W (some ⟨b, 0, none⟩) 1 1 oneE := by
  refine ⟨rfl, Nat.le_refl _, by decide, by decide, (fun h => by cases h), fun i x hx => ?_⟩
  obtain rfl : i = 0 := by
    have := (List.getElem?_eq_some_iff.1 hx).1
    simp [oneE] at this
    omega
  have hx' : ((8, 0), DescV.mk 3 8 []) = x := by simpa [oneE] using hx
  subst hx'
  refine ⟨b, 0, [.int .i64 8, .int .i64 0, .int .i64 3, .int .i64 8, .slice none 0 0], rfl, (Array.getElem?_eq_some_iff.1 h).1, trivial, rfl, fun j u hu => ?_, ?_⟩
  · have e : 0 + 0 * 5 + j = j := by omega
    rw [e]
    exact cell_at h (by simpa using hu)
  · exact ⟨[.int .i64 8, .int .i64 0], [.int .i64 3, .int .i64 8, .slice none 0 0], rfl, ⟨[.int .i64 8], [.int .i64 0], rfl, ⟨rfl, by decide⟩, rfl, by decide⟩, none, 0, 0, rfl, by decide, by decide, RowOf.empty _ _ _ _ _⟩
set_option maxRecDepth 100000 in
theorem head_any (w : World) : Calls Tryz.prog 16 #[] w fun e w' => e = .returned (.string ⟨#[100, 117, 108, 99, 105, 109, 101, 114, 32, 49]⟩) ∧ w = w' := by
  go_enter Tryz.func16, Tryz.ntmps16
  go_wp2_with fail
  go_ret
  exact ⟨rfl, rfl⟩
set_option maxRecDepth 100000 in
set_option maxHeartbeats 2000000 in
theorem live25 (w : World) (hx : HasMax w) (ht : HasTab w) : Calls Tryz.prog 7 #[] w fun e w' => e = .returned (.bool true) ∧ Below w.heap.size w w' := by
  obtain ⟨W1, hW1⟩ : ∃ W1, W1 = w.alloc (.cells #[.int .i64 8, .int .i64 0, .int .i64 3, .int .i64 8, .slice none 0 0] 44) := ⟨_, rfl⟩
  have hb1 : Below w.heap.size w W1 := by rw [hW1]; exact (Below.refl _ _).alloc (Nat.le_refl _) _
  have hg1 : W1.heap[w.heap.size]? = some (.cells #[.int .i64 8, .int .i64 0, .int .i64 3, .int .i64 8, .slice none 0 0] 44 (0, 0)) := by rw [hW1]; exact heap_alloc_new w _
  have hc := wprint 1 All oneE (some ⟨w.heap.size, 0, none⟩) 1 1 W1 (one_row W1 _ hg1) (by decide) (by decide) (hx.below hb1) (ht.below hb1)
  rw [live_text] at hc
  have HC := Lib.hid hc
  have HB := Lib.hid hb1
  have hap : (ByteArray.mk #[100, 117, 108, 99, 105, 109, 101, 114, 32, 49]) ++ (ByteArray.mk #[10, 56, 32, 48, 32, 115, 116, 111, 99, 107, 56, 10]) = ByteArray.mk #[100, 117, 108, 99, 105, 109, 101, 114, 32, 49, 10, 56, 32, 48, 32, 115, 116, 111, 99, 107, 56, 10] := by kernel_rfl
  clear hx ht hc hb1 hg1
  go_enter Tryz.func7, Tryz.ntmps7
  go_wp2_with (first
    | (rw [← hW1]; go_at_call 8; (with_reducible refine HC.out.mono ?_); rintro e w2 ⟨rfl, hb2⟩; have HB2 := Lib.hid (HB.out.trans (hb2.mono HB.out.size)); clear hb2 hW1)
    | (go_at_call 16; (with_reducible refine (head_any _).mono ?_); rintro e w3 ⟨rfl, rfl⟩))
  go_ret
  exact ⟨rfl, HB2.out⟩
end Go.Proofs.YtephllgddhncgaaGreatDoor.Lex
