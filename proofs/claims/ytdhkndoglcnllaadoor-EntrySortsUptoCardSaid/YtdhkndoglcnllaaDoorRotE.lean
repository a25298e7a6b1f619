/- Two sections of a row of entries change places. -/
import Derived.Test.YtdhkndoglcnllaaDoorSwapE
namespace Go.Proofs.YtdhkndoglcnllaaDoor.Stab
open Go Go.RowKit
set_option linter.unusedSimpArgs false
set_option linter.unusedVariables false
theorem wrapS {n m i : Nat} (h : n = i + m) (hi : n < 4611686018427387904) : IntKind.i64.wrap ((n : Int) - (m : Int)) = (i : Int) := by
  have e : (n : Int) - (m : Int) = ((i : Nat) : Int) + ((0 : Nat) : Int) := by omega
  rw [e]
  exact wrapN (by omega) (by omega)
set_option maxRecDepth 100000 in
set_option maxHeartbeats 4000000 in
theorem rot_any (B b : Nat) (W0 : World) (hB : B ≤ b) (L : List EC) (cap a m c : Nat) (v : Value) (ham : a < m) (hmc : m < c) (hcn : c ≤ L.length) (hl : L.length ≤ 1099511627776) (W : World) (hst : St B b W0 L W) :
    Calls Tryd.prog 53 #[.slice (some ⟨b, 0, none⟩) L.length cap, .int .i64 a, .int .i64 m, .int .i64 c, v] W fun e w' => e = .returned (.tuple #[]) ∧ ∃ L', Turned (rho a m c) L L' ∧ St B b W0 L' w' := by
  have HST := Lib.hid hst
  obtain ⟨N, hN⟩ : ∃ N, N = L.length := ⟨_, rfl⟩
  rw [← hN] at hcn hl ⊢
  have HN := Lib.hid hN
  have HSW : Hid (∀ (L' : List EC) (x y n : Nat) (W' : World), L'.length = N → x + n ≤ y → y + n ≤ N → St B b W0 L' W' → Calls Tryd.prog 62 #[.slice (some ⟨b, 0, none⟩) N cap, .int .i64 x, .int .i64 y, .int .i64 n, v] W' fun e w' => e = .returned (.tuple #[]) ∧ ∃ L'', Turned (sig x y n) L' L'' ∧ St B b W0 L'' w') := Lib.hid fun L' x y n W' h1 h2 h3 h4 => by
    have h := swapr_any B b W0 hB L' cap x y n v h2 (by omega) (by omega) W' h4
    rw [h1] at h
    exact h
  obtain ⟨i0, hi0, hi0'⟩ : ∃ i0, m ≤ i0 + a ∧ i0 + a ≤ m := ⟨m - a, by omega, by omega⟩
  obtain ⟨j0, hj0, hj0'⟩ : ∃ j0, c ≤ j0 + m ∧ j0 + m ≤ c := ⟨c - m, by omega, by omega⟩
  have w1 := wrapS (n := m) (m := a) (i := i0) (by omega) (by omega)
  have w2 := wrapS (n := c) (m := m) (i := j0) (by omega) (by omega)
  clear hst hN
  go_enter Tryd.func53, Tryd.ntmps53
  go_wp2_with fail
  clear w1 w2
  go_loopg [10, 11] (i0 + j0) (fun g iv jv wr => ∃ i j : Nat, ∃ L' : List EC, 1 ≤ i ∧ 1 ≤ j ∧ a + i ≤ m ∧ m + j ≤ c ∧ g = i + j ∧ iv = .int .i64 (i : Int) ∧ jv = .int .i64 (j : Int) ∧ L'.length = N ∧ (∀ t, L'[rho (m - i) m (m + j) t]? = L[rho a m c t]?) ∧ St B b W0 L' wr)
  case atStart => exact ⟨i0, j0, L, by omega, by omega, by omega, by omega, rfl, rfl, rfl, HN.out.symm, fun t => by rw [show m - i0 = a by omega, show m + j0 = c by omega], HST.out⟩
  case round =>
    obtain ⟨i, j, L', hi, hj, hai, hjc, rfl, rfl, rfl, hlen, hrho, hs⟩ := hrel
    obtain ⟨wo, rfl⟩ : ∃ wo : World, wo = wr := ⟨_, rfl⟩
    have HR := Lib.hid hrho
    have HS := Lib.hid hs
    have HLEN := Lib.hid hlen
    obtain ⟨mi, hmi, hmi'⟩ : ∃ mi, m ≤ mi + i ∧ mi + i ≤ m := ⟨m - i, by omega, by omega⟩
    have hmie : m - i = mi := by omega
    have wmi := wrapS (n := m) (m := i) (i := mi) (by omega) (by omega)
    have HMI := Lib.hid hmie
    clear hrho hs hlen hmie
    by_cases hij : i = j
    · subst hij
      go_wp2_with (go_at_call 62; (with_reducible refine (HSW.out L' mi m i _ HLEN.out (by omega) (by omega) HS.out).mono ?_); rintro e w9 ⟨rfl, L9, ht9, hs9⟩; have HT9 := Lib.hid ht9; have HS9 := Lib.hid hs9; clear ht9 hs9)
      go_end0
      refine ⟨rfl, L9, ⟨by rw [HT9.out.len, HLEN.out, HN.out], fun t => ?_⟩, HS9.out⟩
      rw [HT9.out.at_, ← HR.out t, HMI.out]
      congr 1
      have h := rho_last (i := i) (m := m) (t := t) (by omega)
      rw [HMI.out] at h
      exact h
    · have hne : ¬ (i : Int) = (j : Int) := by omega
      by_cases hlt : j < i
      · have hlt' : (j : Int) < (i : Int) := by omega
        obtain ⟨i2, hi2, hi2'⟩ : ∃ i2, i ≤ i2 + j ∧ i2 + j ≤ i := ⟨i - j, by omega, by omega⟩
        have wi2 := wrapS (n := i) (m := j) (i := i2) (by omega) (by omega)
        go_wp2_with (go_at_call 62; (with_reducible refine (HSW.out L' mi m j _ HLEN.out (by omega) (by omega) HS.out).mono ?_); rintro e w9 ⟨rfl, L9, ht9, hs9⟩; have HT9 := Lib.hid ht9; have HS9 := Lib.hid hs9; clear ht9 hs9)
        go_roundg (i2 + j)
        case measure => omega
        case rel =>
          refine ⟨i2, j, L9, by omega, hj, by omega, hjc, rfl, rfl, rfl, by rw [HT9.out.len, HLEN.out], fun t => ?_, HS9.out⟩
          rw [HT9.out.at_, ← HR.out t, HMI.out]
          congr 1
          have h := rho_left (i := i) (j := j) (m := m) (t := t) hlt (by omega)
          rw [HMI.out] at h
          rw [← h, show m - i2 = mi + j by omega]
      · have hlt' : ¬ (j : Int) < (i : Int) := by omega
        obtain ⟨j2, hj2, hj2'⟩ : ∃ j2, j ≤ j2 + i ∧ j2 + i ≤ j := ⟨j - i, by omega, by omega⟩
        have wj2 := wrapS (n := j) (m := i) (i := j2) (by omega) (by omega)
        obtain ⟨mj, hmj, hmj'⟩ : ∃ mj, mj ≤ m + j ∧ m + j ≤ mj := ⟨m + j, by omega, by omega⟩
        have wmj := wrapN (n := m) (m := j) (i := mj) (by omega) (by omega)
        obtain ⟨q, hq, hq'⟩ : ∃ q, mj ≤ q + i ∧ q + i ≤ mj := ⟨mj - i, by omega, by omega⟩
        have wq := wrapS (n := mj) (m := i) (i := q) (by omega) (by omega)
        have HJQ : Hid (m + j - i = q) := Lib.hid (by omega)
        have HJ2 : Hid (m + j2 = q) := Lib.hid (by omega)
        go_wp2_with (go_at_call 62; (with_reducible refine (HSW.out L' mi q i _ HLEN.out (by omega) (by omega) HS.out).mono ?_); rintro e w9 ⟨rfl, L9, ht9, hs9⟩; have HT9 := Lib.hid ht9; have HS9 := Lib.hid hs9; clear ht9 hs9)
        go_roundg (i + j2)
        case measure => omega
        case rel =>
          refine ⟨i, j2, L9, hi, by omega, hai, by omega, rfl, rfl, rfl, by rw [HT9.out.len, HLEN.out], fun t => ?_, HS9.out⟩
          rw [HT9.out.at_, ← HR.out t, HMI.out]
          congr 1
          have h := rho_right (i := i) (j := j) (m := m) (t := t) (by omega) (by omega)
          rw [HMI.out, HJQ.out] at h
          rw [← h, HJ2.out]
end Go.Proofs.YtdhkndoglcnllaaDoor.Stab
