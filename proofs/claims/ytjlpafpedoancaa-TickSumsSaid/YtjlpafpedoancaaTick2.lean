/- The statement TickGoes, walked. -/
import Derived.Test.YtjlpafpedoancaaTick
namespace Go.Proofs.Ytjlpafpedoancaa.Tick
open Go.RowKit
theorem src2 (w : World) (x y : Int) : Row (w.alloc (.cells #[.int .i64 x, .int .i64 y] 3)) (some ⟨w.heap.size, 0, none⟩) 2 2 ([x, y].map (Value.int .i64)) := by
  refine ⟨rfl, Nat.le_refl _, by simp [maxLen], by simp, fun _ => ⟨_, _, rfl, by simp, fun i u hu => ?_⟩⟩
  match i, hu with
  | 0, hu => simpa using hu
  | 1, hu => simpa using hu
theorem live (w : World) : Calls Try.prog 18 #[] w fun e w' => e = .returned (.bool true) ∧ Below w.heap.size w w' := by
  have e1 : nowR [5, 7] 1 = 5 := by decide
  have e2 : nowR [5, 7] 2 = 12 := by decide
  have e3 : nowR [5, 7] 3 = 12 := by decide
  go_enter Try.func18, Try.ntmps18
  go_wp2_with (first | (go_at_call 19; refine (new_any _ _ _ [5, 7] _ (by exact src2 w 5 7) (by omega)).mono ?_; rintro e w' ⟨b, rfl, hlt, hcl, hb⟩; have hlt : w.heap.size ≤ b := (by simp at hlt; omega); have hB : Below w.heap.size w _ := ((Below.refl _ _).alloc (Nat.le_refl _) _).trans (hb.mono (by simp))) | (go_at_call 20; refine (now_some _ _ _ _ (by assumption) (by omega) (by decide)).mono ?_; rintro e w' ⟨rfl, hcl, hg⟩; have hB := hB.grown hg hB.size (by intro k hk; cases hk; omega)) | (go_at_call 22; refine (asked_some _ _ _ _ (by assumption)).mono ?_; rintro e w' ⟨rfl, rfl⟩))
  go_ret
  exact ⟨rfl, hB⟩
theorem rnow_nat (a : Option Addr) (n cap : Nat) (zs : List Int) (m : Int) (j : Nat) (hj : m.toNat = j) (w : World) (h : Row w a n cap (zs.map (Value.int .i64))) (hz : ∀ z ∈ zs, (Lit.int .i64 z).wf = true) :
    Calls Try.prog 21 #[.slice a n cap, .int .i64 m] w fun e w' => e = .returned (.int .i64 (nowR zs j)) ∧ w = w' := by
  subst hj; exact rnow_any a n cap zs m w h hz
set_option maxHeartbeats 1000000 in
theorem law (a : Option Addr) (n cap : Nat) (zs : List Int) (m : Int) (w : World) (h : Row w a n cap (zs.map (Value.int .i64))) (hz : ∀ z ∈ zs, (Lit.int .i64 z).wf = true) (hm0 : 0 ≤ m) (hm1 : m ≤ 255) :
    Calls Try.prog 4 #[.slice a n cap, .int .u8 m] w fun e w' => e = .returned (.bool true) ∧ Below w.heap.size w w' := by
  have H := Lib.hid h
  have HZ := Lib.hid hz
  have hle := h.le
  have hmx := h.max
  unfold maxLen at hmx
  clear h hz
  by_cases hn : 100 < n
  · go_enter Try.func4, Try.ntmps4
    go_wp2_with (go_at_call 18; refine (live _).mono ?_; rintro e w' ⟨rfl, hB⟩)
    go_ret
    exact ⟨rfl, hB⟩
  · go_enter Try.func4, Try.ntmps4
    go_wp2_with (go_at_call 19; refine (new_any _ _ _ _ _ H.out (by omega)).mono ?_; rintro e w' ⟨b, rfl, hlt, hcl, hb⟩)
    go_loopw [6, 7] (fun last i wr => ∃ k : Nat, (k : Int) ≤ m ∧ i = .int .i64 (k + 1) ∧ last = .int .i64 (nowR zs k) ∧ Clock wr b zs k ∧ Below w.heap.size w wr) (fun _ i _ => (m + 1 - intOf i).toNat)
    case atStart => exact ⟨0, by omega, rfl, rfl, hcl, hb⟩
    case round =>
      clear hcl hb
      obtain ⟨k, hk, rfl, rfl, hcl, hB⟩ := hrel
      have hmono := nowR_mono zs k
      by_cases hkm : (k : Int) < m
      · go_wp2_with (first | (go_at_call 20; refine (now_some _ _ _ _ hcl (by omega) HZ.out).mono ?_; rintro e w' ⟨rfl, hcl, hg⟩; have hB := hB.grown hg hB.size (by intro k hk; cases hk; omega)) | (go_at_call 22; refine (asked_some _ _ _ _ (by assumption)).mono ?_; rintro e w' ⟨rfl, rfl⟩) | (go_at_call 21; refine (rnow_nat _ _ _ _ _ (k + 1) (by omega) _ (H.out.keep hB (Nat.le_refl _)) HZ.out).mono ?_; rintro e w' ⟨rfl, rfl⟩))
        go_roundw
        case rel => exact ⟨k + 1, by omega, by go_num, rfl, hcl, hB⟩
        case measure => simp [intOf]; omega
      · go_wp2_with (first | (go_at_call 20; refine (now_nil _).mono ?_; rintro e w' ⟨rfl, rfl⟩) | (go_at_call 22; refine (asked_nil _).mono ?_; rintro e w' ⟨rfl, rfl⟩) | (go_at_call 18; refine (live _).mono ?_; rintro e w' ⟨rfl, hL⟩))
        go_ret
        exact ⟨rfl, hB.trans (hL.mono hB.size)⟩
end Go.Proofs.Ytjlpafpedoancaa.Tick
