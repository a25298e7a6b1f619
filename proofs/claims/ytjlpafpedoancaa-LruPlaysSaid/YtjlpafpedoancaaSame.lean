/- The reference's Same of two rows of ints. -/
import Derived.Test.YtjlpafpedoancaaMem2
import Derived.Deep.LoopGhost
namespace Go.Proofs.Ytjlpafpedoancaa
open Go.RowKit
theorem take_ext {α : Type} (d : α) (xs ys : List α) (k : Nat) (hx : k < xs.length) (hy : k < ys.length) (h : xs.take k = ys.take k) : xs.take (k + 1) = ys.take (k + 1) ↔ xs.getD k d = ys.getD k d := by
  have e1 : xs.getD k d = xs[k] := by simp [List.getD, hx]
  have e2 : ys.getD k d = ys[k] := by simp [List.getD, hy]
  rw [List.take_succ_eq_append_getElem hx, List.take_succ_eq_append_getElem hy, h, e1, e2]
  exact ⟨fun e => by have := List.append_cancel_left e; simpa using this, fun e => by rw [e]⟩
theorem ne_of_take {α : Type} {xs ys : List α} {k : Nat} (h : xs.take k ≠ ys.take k) : xs ≠ ys := fun e => h (by rw [e])
set_option maxHeartbeats 1000000 in
theorem same_ints (a b : Option Addr) (n m c d : Nat) (zs ys : List Int) (w : World) (h : Row w a n c (zs.map (Value.int .i64))) (h2 : Row w b m d (ys.map (Value.int .i64))) :
    Calls Try.prog 33 #[.slice a n c, .slice b m d] w fun e w' => e = .returned (.bool (decide (zs = ys))) ∧ ∃ q, w' = w.drewN q := by
  have hl := h.len
  have hl2 := h2.len
  simp only [List.length_map] at hl hl2
  have hmx := h.max
  have hle := h.le
  unfold maxLen at hmx
  by_cases hnm : n = m
  · subst hnm
    have HL := Lib.hid hl
    have HL2 := Lib.hid hl2
    have H := Lib.hid h
    have H2 := Lib.hid h2
    clear hl hl2 h h2
    go_enter Try.func33, Try.ntmps33
    go_wp2
    go_loopg [5] n (fun g i wr => ∃ k : Nat, k ≤ n ∧ g = n - k ∧ i = .int .i64 k ∧ zs.take k = ys.take k ∧ ∃ q, wr = w.drewN q)
    case atStart => exact ⟨0, by omega, rfl, rfl, by simp, 0, rfl⟩
    case round =>
      obtain ⟨k, hk, rfl, rfl, htk, q, rfl⟩ := hrel
      have HT := Lib.hid htk
      clear htk
      by_cases hkn : k < n
      · obtain ⟨b1, o1, rfl, hc1⟩ := H.out.int k hkn
        obtain ⟨b2, o2, rfl, hc2⟩ := H2.out.int k hkn
        have HX := Lib.hid (take_ext 0 zs ys k (by have := HL.out; omega) (by have := HL2.out; omega) HT.out)
        generalize zs.getD k 0 = x at *
        generalize ys.getD k 0 = y at *
        by_cases hxy : x = y
        · have HXY := Lib.hid hxy
          have t1 : (x != y) = false := by simp [hxy]
          clear hxy
          have hki : (k : Int) < (n : Int) := by omega
          have hk0 : (0 : Int) ≤ (k : Int) := by omega
          go_wp2
          go_quiet (fail)
          go_wp2
          go_roundg (n - (k + 1))
          case measure => omega
          case rel => exact ⟨k + 1, by omega, rfl, by go_num, HX.out.2 HXY.out, _, rfl⟩
        · have t1 : (x != y) = true := by simp [hxy]
          have hne : zs ≠ ys := ne_of_take fun e => hxy (HX.out.1 e)
          have HNE := Lib.hid hne
          clear hxy hne
          have hki : (k : Int) < (n : Int) := by omega
          have hk0 : (0 : Int) ≤ (k : Int) := by omega
          go_wp2
          go_quiet (fail)
          go_wp2
          go_ret
          exact ⟨ret_bool (by simp [HNE.out]), _, World.drewN_drewN _ _ _⟩
      · have e : zs = ys := by
          have := HT.out
          rwa [List.take_of_length_le (by have := HL.out; omega), List.take_of_length_le (by have := HL2.out; omega)] at this
        have HE := Lib.hid e
        clear e
        go_wp2
        go_ret
        exact ⟨ret_bool (by simp [HE.out]), _, rfl⟩
  · have hne : zs ≠ ys := fun e => hnm (by rw [← hl, ← hl2, e])
    have HNE := Lib.hid hne
    have t1 : ((n : Int) != (m : Int)) = true := by simp; omega
    clear hne h h2 hl hl2
    go_enter Try.func33, Try.ntmps33
    go_wp2
    go_ret
    exact ⟨ret_bool (by simp [HNE.out]), 0, rfl⟩
end Go.Proofs.Ytjlpafpedoancaa
