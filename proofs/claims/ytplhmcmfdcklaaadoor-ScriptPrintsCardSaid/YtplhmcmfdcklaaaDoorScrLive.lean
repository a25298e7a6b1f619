/- The page's example of scripts. -/
import Derived.Test.YtplhmcmfdcklaaaDoorPrint2
namespace Go.Proofs.YtplhmcmfdcklaaaDoor.Lex
open Go.RowKit
set_option linter.unusedSimpArgs false
set_option linter.unusedVariables false
theorem below_next {B : Nat} {w a b : World} (h : Below B w a) (k : Below a.heap.size a b) (hB : B ≤ w.heap.size) : Below B w b := h.trans (k.mono (Nat.le_trans hB h.size))
def oneL : List (List CallV) := [[⟨1, 8, 0, ⟨#[]⟩, 0, 0, []⟩]]
theorem callRow_one (w : World) (T : TypeId) : CallRow (w.alloc (.cells #[.int .i64 1, .int .i64 8, .int .i64 0, .string ⟨#[]⟩, .int .i64 0, .int .i64 0, .slice none 0 0] T)) (some ⟨w.heap.size, 0, none⟩) [⟨1, 8, 0, ⟨#[]⟩, 0, 0, []⟩] := fun k hk => by
  obtain rfl : k = 0 := by simpa using hk
  have h := heap_alloc_new w (.cells #[.int .i64 1, .int .i64 8, .int .i64 0, .string ⟨#[]⟩, .int .i64 0, .int .i64 0, .slice none 0 0] T)
  exact ⟨_, 0, none, 0, rfl, by simp, cell_at h rfl, cell_at h rfl, cell_at h rfl, cell_at h rfl, cell_at h rfl, cell_at h rfl, cell_at h rfl, fun i hi => by simp at hi⟩
theorem callRows_one (w : World) (T U : TypeId) : CallRows ((w.alloc (.cells #[.int .i64 1, .int .i64 8, .int .i64 0, .string ⟨#[]⟩, .int .i64 0, .int .i64 0, .slice none 0 0] T)).alloc (.cells #[.slice (some ⟨w.heap.size, 0, none⟩) 1 1] U)) (some ⟨w.heap.size + 1, 0, none⟩) oneL := fun k hk => by
  obtain rfl : k = 0 := by simpa [oneL] using hk
  have h := heap_alloc_new (w.alloc (.cells #[.int .i64 1, .int .i64 8, .int .i64 0, .string ⟨#[]⟩, .int .i64 0, .int .i64 0, .slice none 0 0] T)) (.cells #[.slice (some ⟨w.heap.size, 0, none⟩) 1 1] U)
  rw [show (w.alloc (.cells #[.int .i64 1, .int .i64 8, .int .i64 0, .string ⟨#[]⟩, .int .i64 0, .int .i64 0, .slice none 0 0] T)).heap.size = w.heap.size + 1 by simp] at h
  exact ⟨_, 0, _, 1, rfl, by simp, cell_at h rfl, (callRow_one w T).keep ((Below.refl _ _).alloc (Nat.le_refl _) _)⟩
theorem text_one : headT 1 1 [] [] ++ clientsT oneL = [112, 108, 97, 121, 32, 49, 32, 49, 10, 112, 105, 99, 107, 115, 10, 116, 105, 99, 107, 115, 10, 99, 108, 105, 101, 110, 116, 10, 103, 101, 116, 32, 56, 32, 48, 10] := by decide +kernel
theorem print_one (w : World) (hm : HasMax w) (ht : HasTab w) (aC : Option Addr) (hC : CallRows w aC oneL) :
    Calls Tryd.prog 12 #[.agg #[.int .i64 1, .int .i64 1, .slice aC 1 1, .slice none 0 0, .slice none 0 0]] w fun e w' => e = .returned (.tuple #[.string ⟨#[112, 108, 97, 121, 32, 49, 32, 49, 10, 112, 105, 99, 107, 115, 10, 116, 105, 99, 107, 115, 10, 99, 108, 105, 101, 110, 116, 10, 103, 101, 116, 32, 56, 32, 48, 10]⟩, .int .i64 0]) ∧ Below w.heap.size w w' := by
  refine (print_walk 1 1 [] [] oneL aC none none 1 0 0 w hm ht ⟨by omega, by omega⟩ ⟨by omega, by omega⟩ (fun i hi => by simp at hi) (fun i hi => by simp at hi) hC ?_ (by simp) (by simp) (by simp [oneL]) (by simp [oneL]) (by rw [text_one]; simp)).mono ?_
  · intro l hl c hc
    simp only [oneL, List.mem_singleton] at hl
    subst hl
    simp only [List.mem_singleton] at hc
    subst hc
    exact ⟨by simp [InI], by simp [InI], by simp [InI], by simp [InI], by simp [InI], by show (0 : Nat) ≤ _; omega, by simp⟩
  · rintro e w' ⟨hb, h⟩
    refine ⟨?_, hb⟩
    have hne : ∀ l ∈ oneL, ∀ c ∈ l, callW c ≠ none := by
      intro l hl c hc
      simp only [oneL, List.mem_singleton] at hl
      subst hl
      simp only [List.mem_singleton] at hc
      subst hc
      simp [callW]
    rcases h with ⟨⟨l, hl, c, hc, hn⟩, _⟩ | ⟨_, ⟨hlen, _⟩ | ⟨_, he⟩⟩
    · exact absurd hn (hne l hl c hc)
    · rw [text_one] at hlen
      simp at hlen
    · rw [he, text_one]
      rfl
set_option maxRecDepth 100000 in
set_option maxHeartbeats 4000000 in
theorem live_scr (w : World) (hm : HasMax w) (ht : HasTab w) : Calls Tryd.prog 7 #[] w fun e w' => e = .returned (.bool true) ∧ Below w.heap.size w w' := by
  have HM := Lib.hid hm
  have HT := Lib.hid ht
  clear hm ht
  have hr := Lib.hid (callRows_one w 28 55)
  have hB : Hid (Below w.heap.size w ((w.alloc (.cells #[.int .i64 1, .int .i64 8, .int .i64 0, .string ⟨#[]⟩, .int .i64 0, .int .i64 0, .slice none 0 0] 28)).alloc (.cells #[.slice (some ⟨w.heap.size, 0, none⟩) 1 1] 55))) := Lib.hid (((Below.refl _ _).alloc (Nat.le_refl _) _).alloc (by simp) _)
  go_enter Tryd.func7, Tryd.ntmps7
  go_wp2_with (go_at_call 12; (with_reducible refine (print_one _ (HM.out.below hB.out) (HT.out.below hB.out) _ hr.out).mono ?_); rintro e w1 ⟨rfl, hb1⟩; have HB := Lib.hid (below_next hB.out hb1 (Nat.le_refl _)); clear hb1)
  go_ret
  exact ⟨rfl, HB.out⟩
end Go.Proofs.YtplhmcmfdcklaaaDoor.Lex
