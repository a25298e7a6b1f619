/- Two rows of numbers compared: the reference's Same, slices.Equal. -/
import Derived.Test.YtibabpahpiijgaaGreatDoorFoot
import Derived.Test.YtibabpahpiijgaaGreatDoorProg
import Derived.Deep.LoopGhost
import Derived.Lib.SliceRun
namespace Go.Proofs.YtibabpahpiijgaaGreatDoor
open Go.RowKit
set_option linter.unusedSimpArgs false
set_option linter.unusedVariables false
set_option linter.unusedSimpArgs false
set_option linter.unusedVariables false
theorem room64 {n b : Nat} (h : n * b ≤ 140737488351232) (hb : 0 < b) : n ≤ 140737488351232 := Nat.le_trans (Nat.le_mul_of_pos_right n hb) h
theorem take_eq_step {α : Type} [DecidableEq α] {xs ys : List α} (k : Nat) (h : xs.take k = ys.take k) (h1 : k < xs.length) (h2 : k < ys.length) (e : xs[k]'h1 = ys[k]'h2) : xs.take (k + 1) = ys.take (k + 1) := by
  rw [List.take_succ_eq_append_getElem h1, List.take_succ_eq_append_getElem h2, h, e]
set_option maxRecDepth 100000 in
set_option maxHeartbeats 1000000 in
theorem fsame_any (xs ys : List Int) (F G : Foot) (a1 a2 : Option Addr) (n m c1 c2 : Nat) (w : World) (h1 : RowOf (Rd.int .u64) 1 8 F w a1 n c1 xs) (h2 : RowOf (Rd.int .u64) 1 8 G w a2 m c2 ys) :
    Calls Tryz.prog 15 #[.slice a1 n c1, .slice a2 m c2] w fun e w' => e = .returned (.bool (decide (xs = ys))) ∧ ∃ d, w' = w.drewN d := by
  have hn := room64 h1.room (by omega)
  have hx := h1.len
  have hy := h2.len
  have H1 := Lib.hid h1
  have H2 := Lib.hid h2
  clear h1 h2
  by_cases hl : n = m
  · subst hl
    have HX := Lib.hid hx
    have HY := Lib.hid hy
    clear hx hy
    go_enter Tryz.func15, Tryz.ntmps15
    go_wp2_with fail
    go_loopg [5] n (fun g iv wr => ∃ k d : Nat, k ≤ n ∧ g = n - k ∧ iv = .int .i64 k ∧ wr = w.drewN d ∧ xs.take k = ys.take k)
    case atStart => exact ⟨0, 0, Nat.zero_le _, rfl, rfl, rfl, rfl⟩
    case round =>
      obtain ⟨k, d, hk, rfl, rfl, rfl, htk⟩ := hrel
      have HT := Lib.hid htk
      clear htk
      by_cases hlt : k < n
      · have hkx : k < xs.length := by have := HX.out; omega
        have hky : k < ys.length := by have := HY.out; omega
        obtain ⟨g1, o1, rfl, _, _, d1, _⟩ := H1.out.int k hkx
        obtain ⟨g2, o2, rfl, _, _, d2, _⟩ := H2.out.int k hky
        by_cases hz : xs[k]'hkx = ys[k]'hky
        · have HTN := Lib.hid (take_eq_step k HT.out hkx hky hz)
          rw [hz] at d1
          generalize ys[k]'hky = z at *
          clear hz
          go_wp2_with fail
          go_quiet (fail)
          go_wp2_with fail
          go_roundg (n - (k + 1))
          case measure => omega
          case rel => exact ⟨k + 1, _, by omega, rfl, by go_num, rfl, HTN.out⟩
        · have HNE : Hid (xs ≠ ys) := Lib.hid fun e => hz (by subst e; rfl)
          have hb : (xs[k]'hkx != ys[k]'hky) = true := by simpa using hz
          generalize ys[k]'hky = z at *
          generalize xs[k]'hkx = z' at *
          go_wp2_with fail
          go_quiet (fail)
          go_wp2_with fail
          go_ret
          exact ⟨ret_bool (by simp [HNE.out]), d + nq, by simp⟩
      · have HE : Hid (xs = ys) := Lib.hid (by have h := HT.out; rwa [List.take_of_length_le (by have := HX.out; omega), List.take_of_length_le (by have := HY.out; omega)] at h)
        go_wp2_with fail
        go_ret
        exact ⟨ret_bool (by simp [HE.out]), d, rfl⟩
  · have HNE : Hid (xs ≠ ys) := Lib.hid fun e => hl (by subst e; omega)
    have hb : decide (n = m) = false := by simpa using hl
    clear hx hy
    go_enter Tryz.func15, Tryz.ntmps15
    go_wp2_with fail
    go_ret
    exact ⟨ret_bool (by simp [HNE.out]), 0, rfl⟩
set_option maxRecDepth 100000 in
set_option maxHeartbeats 2000000 in
theorem equalU_any (xs ys : List Int) (F G : Foot) (a1 a2 : Option Addr) (n m c1 c2 : Nat) (w : World) (h1 : RowOf (Rd.int .u64) 1 8 F w a1 n c1 xs) (h2 : RowOf (Rd.int .u64) 1 8 G w a2 m c2 ys) :
    Calls Tryz.prog 13 #[.slice a1 n c1, .slice a2 m c2] w fun e w' => e = .returned (.bool (decide (xs = ys))) ∧ ∃ d, w' = w.drewN d := by
  have hn := room64 h1.room (by omega)
  have hx := h1.len
  have hy := h2.len
  have H1 := Lib.hid h1
  have H2 := Lib.hid h2
  clear h1 h2
  by_cases hl : n = m
  · subst hl
    have HX := Lib.hid hx
    have HY := Lib.hid hy
    clear hx hy
    go_enter Tryz.func13, Tryz.ntmps13
    go_wp2_with fail
    go_loopg [13, 5] n (fun g iv jv wr => ∃ k d : Nat, k ≤ n ∧ g = n - k ∧ iv = .int .i64 k ∧ wr = w.drewN d ∧ xs.take k = ys.take k)
    case atStart => exact ⟨0, 0, Nat.zero_le _, rfl, rfl, rfl, rfl⟩
    case round =>
      obtain ⟨k, d, hk, rfl, rfl, rfl, htk⟩ := hrel
      have HT := Lib.hid htk
      clear htk
      by_cases hlt : k < n
      · have hkx : k < xs.length := by have := HX.out; omega
        have hky : k < ys.length := by have := HY.out; omega
        obtain ⟨g1, o1, rfl, _, _, d1, _⟩ := H1.out.int k hkx
        obtain ⟨g2, o2, rfl, _, _, d2, _⟩ := H2.out.int k hky
        by_cases hz : xs[k]'hkx = ys[k]'hky
        · have HTN := Lib.hid (take_eq_step k HT.out hkx hky hz)
          rw [hz] at d1
          generalize ys[k]'hky = z at *
          clear hz
          go_wp2_with fail
          go_quiet (fail)
          go_wp2_with fail
          go_roundg (n - (k + 1))
          case measure => omega
          case rel => exact ⟨k + 1, _, by omega, rfl, by go_num, rfl, HTN.out⟩
        · have HNE : Hid (xs ≠ ys) := Lib.hid fun e => hz (by subst e; rfl)
          have hb : (xs[k]'hkx != ys[k]'hky) = true := by simpa using hz
          generalize ys[k]'hky = z at *
          generalize xs[k]'hkx = z' at *
          go_wp2_with fail
          go_quiet (fail)
          go_wp2_with fail
          go_ret
          exact ⟨ret_bool (by simp [HNE.out]), d + nq, by simp⟩
      · have HE : Hid (xs = ys) := Lib.hid (by have h := HT.out; rwa [List.take_of_length_le (by have := HX.out; omega), List.take_of_length_le (by have := HY.out; omega)] at h)
        go_wp2_with fail
        go_ret
        exact ⟨ret_bool (by simp [HE.out]), d, rfl⟩
  · have HNE : Hid (xs ≠ ys) := Lib.hid fun e => hl (by subst e; omega)
    have hb : decide (n = m) = false := by simpa using hl
    clear hx hy
    go_enter Tryz.func13, Tryz.ntmps13
    go_wp2_with fail
    go_ret
    exact ⟨ret_bool (by simp [HNE.out]), 0, rfl⟩
end Go.Proofs.YtibabpahpiijgaaGreatDoor
