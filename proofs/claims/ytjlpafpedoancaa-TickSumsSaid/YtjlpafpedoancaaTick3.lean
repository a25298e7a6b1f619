/- Laps by a script, and the statement TickSums, walked. -/
import Derived.Test.YtjlpafpedoancaaTick2
namespace Go.Proofs.Ytjlpafpedoancaa.Tick
open Go.RowKit
set_option maxRecDepth 100000 in
theorem lap1 (w : World) : Calls Try.prog 60 #[] w fun e w' => e = .returned (.tuple #[]) ∧ w = w' := by
  go_enter Try.func60, Try.ntmps60
  go_wp2
  go_end0
  exact ⟨rfl, rfl⟩
set_option maxRecDepth 100000 in
theorem lap_script (b : Nat) (zs : List Int) (k : Nat) (w : World) (h : Clock w b zs k) (hk : k < 4611686018427387900) (hz : ∀ z ∈ zs, (Lit.int .i64 z).wf = true) :
    Calls Try.prog 24 #[.iface 31 (.pointer (some ⟨b, 0, none⟩)), .nilFunc] w fun e w' => e = .returned (.int .i64 (nowR zs (k + 2) - nowR zs (k + 1))) ∧ Clock w' b zs (k + 2) ∧ w.grownBy w' (some b) := by
  have q1 : ∀ w, (binOp .eql 1 .nilFunc .nilFunc).run Try.prog w = .ok (.bool true) w := fun _ => by kernel_rfl
  have q2 : ∀ a w, (binOp .eql 110 (.iface 31 (.pointer (some a))) .nilIface).run Try.prog w = .ok (.bool false) w := fun _ _ => by kernel_rfl
  have q3 : ∀ a w, (method 271 31 (.pointer (some a)) "Now").run Try.prog w = .ok (20, .pointer (some a)) w := fun _ _ => by kernel_rfl
  have hm1 := nowR_mono zs (k + 1)
  have hb1 := nowR_bd zs (k + 1)
  have hb2 := nowR_bd zs (k + 1 + 1)
  go_enter Try.func24, Try.ntmps24
  go_wp2_with (first | (go_at_call 20; refine (now_some _ _ _ _ (by assumption) (by omega) hz).mono ?_; rintro e w' ⟨rfl, hcl, hg⟩) | (go_at_call 60; refine (lap1 _).mono ?_; rintro e w' ⟨rfl, rfl⟩))
  all_goals
    go_ret
    exact ⟨ret_int (by show _ = nowR zs (k + 1 + 1) - nowR zs (k + 1); omega), hcl, grown_trans (by assumption) hg⟩
theorem nowR_le (zs : List Int) (k : Nat) : nowR zs k ≤ nowR zs zs.length := by
  by_cases h : zs.length ≤ k
  · rw [nowR_past zs k h]; omega
  · unfold nowR
    rw [List.take_length]
    have e : zs.foldl nowStep 0 = (zs.drop k).foldl nowStep ((zs.take k).foldl nowStep 0) := by rw [← List.foldl_append, List.take_append_drop]
    rw [e]
    exact (foldl_bd (zs.drop k) _ (nowR_bd zs k)).1
theorem sumR (zs : List Int) (j : Nat) : 0 ≤ nowR zs (2 * j) := (nowR_bd zs _).1
set_option maxHeartbeats 1000000 in
theorem sums (a : Option Addr) (n cap : Nat) (zs : List Int) (m : Int) (w : World) (h : Row w a n cap (zs.map (Value.int .i64))) (hz : ∀ z ∈ zs, (Lit.int .i64 z).wf = true) (hm0 : 0 ≤ m) (hm1 : m ≤ 255) :
    Calls Try.prog 6 #[.slice a n cap, .int .u8 m] w fun e w' => e = .returned (.bool true) ∧ Below w.heap.size w w' := by
  have H := Lib.hid h
  have HZ := Lib.hid hz
  have hlen := h.len
  simp only [List.length_map] at hlen
  have HL := Lib.hid hlen
  have hle := h.le
  have hmx := h.max
  unfold maxLen at hmx
  clear h hz hlen
  by_cases hn : 100 < n
  · go_enter Try.func6, Try.ntmps6
    go_wp2_with (go_at_call 18; refine (live _).mono ?_; rintro e w' ⟨rfl, hB⟩)
    go_ret
    exact ⟨rfl, hB⟩
  · go_enter Try.func6, Try.ntmps6
    go_wp2_with (go_at_call 19; refine (new_any _ _ _ _ _ H.out (by omega)).mono ?_; rintro e w' ⟨b, rfl, hlt, hcl, hb⟩)
    go_loopw [6, 7] (fun s i wr => ∃ k : Nat, (k : Int) ≤ m ∧ i = .int .i64 k ∧ (∃ t : Int, s = .int .i64 t ∧ 0 ≤ t ∧ t ≤ nowR zs (2 * k)) ∧ Clock wr b zs (2 * k) ∧ Below w.heap.size w wr) (fun _ i _ => (m + 1 - intOf i).toNat)
    case atStart => exact ⟨0, by omega, rfl, ⟨0, rfl, by omega, sumR zs 0⟩, hcl, hb⟩
    case round =>
      clear hcl hb
      obtain ⟨k, hk, rfl, ⟨s, rfl, hs0, hs1⟩, hcl, hB⟩ := hrel
      have b0 := nowR_bd zs (2 * k)
      have b1 := nowR_bd zs (2 * k + 1)
      have b2 := nowR_bd zs (2 * k + 2)
      have m0 := nowR_mono zs (2 * k)
      have m1 : nowR zs (2 * k + 1) ≤ nowR zs (2 * k + 2) := nowR_mono zs (2 * k + 1)
      by_cases hkm : (k : Int) < m
      · go_wp2_with (first | (go_at_call 24; refine (lap_script _ _ _ _ hcl (by omega) HZ.out).mono ?_; rintro e w' ⟨rfl, hcl, hg⟩; have hB := hB.grown hg hB.size (by intro k hk; cases hk; omega)) | (first | (go_at_call 21; refine (rnow_nat _ _ _ _ _ (2 * k + 2) (by omega) _ (H.out.keep hB (Nat.le_refl _)) HZ.out).mono ?_; rintro e w' ⟨rfl, rfl⟩) | (go_at_call 21; refine (rnow_nat _ _ _ _ _ (2 * k + 1) (by omega) _ (H.out.keep hB (Nat.le_refl _)) HZ.out).mono ?_; rintro e w' ⟨rfl, rfl⟩)))
        go_roundw
        case rel => exact ⟨k + 1, by omega, by go_num, ⟨_, rfl, by omega, by rw [show 2 * (k + 1) = 2 * k + 2 by omega]; omega⟩, hcl, hB⟩
        case measure => simp [intOf]; omega
      · have hpast : nowR zs (2 * k) ≤ nowR zs n := by
          rw [← HL.out]
          exact nowR_le zs _
        have bn := nowR_bd zs n
        go_wp2_with (first | (go_at_call 21; refine (rnow_nat _ _ _ _ _ n (by omega) _ (H.out.keep hB (Nat.le_refl _)) HZ.out).mono ?_; rintro e w' ⟨rfl, rfl⟩) | (go_at_call 18; refine (live _).mono ?_; rintro e w' ⟨rfl, hL⟩))
        go_ret
        exact ⟨rfl, hB.trans (hL.mono hB.size)⟩
end Go.Proofs.Ytjlpafpedoancaa.Tick
