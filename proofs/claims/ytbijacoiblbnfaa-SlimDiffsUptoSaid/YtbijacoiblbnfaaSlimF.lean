/- The reference's Head and Even; slim.Even. -/
import Derived.Test.YtbijacoiblbnfaaSlimE
namespace Go.Proofs.Ytbijacoiblbnfaa
open Go.RowKit
set_option linter.unusedSimpArgs false
set_option linter.unusedVariables false
theorem own_ints_slice {w : World} {base n : Nat} {v : Value} {xs : List Int} (h : w.ownsRow base 3 1 v n (xs.map (Value.int .i64))) (hroom : n * 8 ≤ 140737488351232) (hwf : ∀ z ∈ xs, (Lit.int .i64 z).wf = true) : ∃ a c, v = .slice a n c ∧ RowOf rI 1 8 (From base) w a n c xs :=
  RowOf.of_own_ints h hroom (fun b hb => own_lt h b hb) hwf
set_option maxRecDepth 100000 in
set_option maxHeartbeats 4000000 in
theorem rhead_any (z : Int) (F : Foot) (a : Option Addr) (n cap K : Nat) (ps : List Int) (w : World) (hK : (K : Int) = min (max z 0) n) (h : RowOf rI 1 8 F w a n cap ps) :
    Calls Try.prog 11 #[.slice a n cap, .int .i64 z] w fun e w' => ∃ a' c', e = .returned (.slice a' K c') ∧ RowOf rI 1 8 (From w.heap.size) w' a' K c' (ps.take K) ∧ Below w.heap.size w w' := by
  have HK := Lib.hid hK
  have HP := Lib.hid h
  have hn := h.room
  have HL := Lib.hid h.len
  have HWF := Lib.hid h.wfs
  clear hK h
  go_enter Try.func11, Try.ntmps11
  go_wp2_with fail
  go_loopg [5, 6] K (fun g v iv wr => ∃ k : Nat, k ≤ K ∧ g = K - k ∧ iv = .int .i64 k ∧ wr.ownsRow w.heap.size 3 1 v k ((ps.take k).map (Value.int .i64)) ∧ Below w.heap.size w wr)
  case atStart => exact ⟨0, by omega, rfl, rfl, World.ownsRow_nil w _ _ _, Below.refl _ _⟩
  case round =>
    obtain ⟨k, hk, rfl, rfl, ho, hB⟩ := hrel
    obtain ⟨wo, rfl⟩ : ∃ wo : World, wo = wr := ⟨_, rfl⟩
    have HO := Lib.hid ho
    clear ho
    by_cases hlt : k < K
    · have hkn : k < n := by have := HK.out; omega
      have hkz : (k : Int) < z := by have := HK.out; omega
      obtain ⟨b, off, rfl, hb, _, c0', _⟩ := HP.out.int k (by have := HL.out; omega)
      have c0 := (hB.cell (p := ⟨b, off + k, none⟩) hb).trans c0'
      have HT : Hid (ps.take (k + 1) = ps.take k ++ [ps[k]'(by have := HL.out; omega)]) := Lib.hid (List.take_succ_eq_append_getElem _)
      generalize ps[k]'_ = u at *
      clear c0'
      go_wp2_with (at_builtin; refine wpl_app1 rfl _ _ 23 rfl intElem _ _ _ rfl _ rfl rfl HO.out hB (Nat.le_refl _) hB.size (by omega) (by unfold maxLen; omega) ?_; intro v' w1 hown hB' _)
      have HO2 := Lib.hid hown
      have HB2 := Lib.hid hB'
      clear hown hB'
      go_wp2_with fail
      go_roundg (K - (k + 1))
      case measure => omega
      case rel => exact ⟨k + 1, by omega, rfl, by go_num, by rw [HT.out, List.map_append]; exact HO2.out, HB2.out⟩
    · obtain rfl : k = K := by omega
      obtain ⟨a', c', rfl, hr⟩ := own_ints_slice HO.out (by have := HK.out; omega) (fun z hz => HWF.out z (List.mem_of_mem_take hz))
      have HR := Lib.hid hr
      clear hr
      by_cases hkn : k < n
      · have hkz : ¬ (k : Int) < z := by have := HK.out; omega
        go_wp2_with fail
        go_ret
        exact ⟨a', c', rfl, HR.out, hB⟩
      · go_wp2_with fail
        go_ret
        exact ⟨a', c', rfl, HR.out, hB⟩
/-- Picks in rounds, the first t. -/
def evenL (n t : Nat) : List Int := (List.range t).map fun i => ((i % n : Nat) : Int)
theorem evenL_succ (n t : Nat) : evenL n (t + 1) = evenL n t ++ [((t % n : Nat) : Int)] := by simp [evenL, List.range_succ]
theorem evenL_wf {n t : Nat} (ht : t ≤ 4096) : ∀ z ∈ evenL n t, (Lit.int .i64 z).wf = true := fun z hz => by
  obtain ⟨i, hi, rfl⟩ := List.mem_map.1 hz
  have h1 := List.mem_range.1 hi
  have h2 := Nat.mod_le i n
  simp only [Lit.wf, Bool.and_eq_true, decide_eq_true_eq]
  show (-9223372036854775808 : Int) ≤ _ ∧ _ ≤ (9223372036854775807 : Int)
  omega
set_option maxRecDepth 100000 in
set_option maxHeartbeats 4000000 in
theorem reven_any (n r : Nat) (w : World) (hn : 0 < n) (ht : r * n ≤ 4096) :
    Calls Try.prog 14 #[.int .i64 n, .int .i64 r] w fun e w' => ∃ a' c', e = .returned (.slice a' (r * n) c') ∧ RowOf rI 1 8 (From w.heap.size) w' a' (r * n) c' (evenL n (r * n)) ∧ Below w.heap.size w w' := by
  have hr : r ≤ 4096 := Nat.le_trans (Nat.le_mul_of_pos_right r hn) ht
  have hnn : r = 0 ∨ n ≤ 4096 := by
    rcases Nat.eq_zero_or_pos r with h | h
    · exact .inl h
    · exact .inr (Nat.le_trans (Nat.le_mul_of_pos_left n h) ht)
  have HT := Lib.hid ht
  have HNN := Lib.hid hnn
  clear ht hnn
  go_enter Try.func14, Try.ntmps14
  go_wp2_with fail
  go_loopg [5, 6] r (fun g v iv wr => ∃ k : Nat, k ≤ r ∧ g = r - k ∧ iv = .int .i64 k ∧ wr.ownsRow w.heap.size 3 1 v (k * n) ((evenL n (k * n)).map (Value.int .i64)) ∧ Below w.heap.size w wr)
  case atStart => exact ⟨0, by omega, rfl, rfl, by simpa [evenL] using World.ownsRow_nil w _ _ _, Below.refl _ _⟩
  case round =>
    obtain ⟨k, hk, rfl, rfl, ho, hB⟩ := hrel
    obtain ⟨wo, rfl⟩ : ∃ wo : World, wo = wr := ⟨_, rfl⟩
    have HO := Lib.hid ho
    have HB := Lib.hid hB
    clear ho hB
    by_cases hlt : k < r
    · have hn4 : n ≤ 4096 := by have := HNN.out; omega
      have HKN : Hid (k * n + n ≤ 4096) := Lib.hid (by
        have h1 : (k + 1) * n ≤ r * n := Nat.mul_le_mul_right _ hlt
        rw [Nat.add_mul, Nat.one_mul] at h1
        have := HT.out
        omega)
      go_wp2_with fail
      go_loopg [5, 7] n (fun g v iv wr => ∃ i : Nat, i ≤ n ∧ g = n - i ∧ iv = .int .i64 i ∧ wr.ownsRow w.heap.size 3 1 v (k * n + i) ((evenL n (k * n + i)).map (Value.int .i64)) ∧ Below w.heap.size w wr)
      case atStart => exact ⟨0, by omega, rfl, rfl, HO.out, HB.out⟩
      case round =>
        obtain ⟨i, hi, rfl, rfl, ho2, hB2⟩ := hrel
        obtain ⟨wi, rfl⟩ : ∃ wi : World, wi = wr := ⟨_, rfl⟩
        have HO2 := Lib.hid ho2
        clear ho2
        by_cases hin : i < n
        · have HEV : Hid (evenL n (k * n + (i + 1)) = evenL n (k * n + i) ++ [(i : Int)]) := Lib.hid (by
            have h := evenL_succ n (k * n + i)
            rw [Nat.add_comm (k * n), Nat.add_mul_mod_self_right, Nat.mod_eq_of_lt hin, Nat.add_comm i] at h
            exact h)
          go_wp2_with (at_builtin; refine wpl_app1 rfl _ _ 23 rfl intElem _ _ _ rfl _ rfl rfl HO2.out hB2 (Nat.le_refl _) hB2.size (by have := HKN.out; omega) (by have := HKN.out; unfold maxLen; omega) ?_; intro v' w1 hown hB' _)
          have HO3 := Lib.hid hown
          have HB3 := Lib.hid hB'
          clear hown hB' hB2
          go_wp2_with fail
          go_roundg (n - (i + 1))
          case measure => omega
          case rel => exact ⟨i + 1, by omega, rfl, by go_num, by rw [HEV.out, List.map_append]; exact HO3.out, HB3.out⟩
        · obtain rfl : i = n := by omega
          go_wp2_with fail
          go_roundg (r - (k + 1))
          case measure => omega
          case rel => exact ⟨k + 1, by omega, rfl, by go_num, by rw [Nat.add_mul, Nat.one_mul]; exact HO2.out, hB2⟩
    · obtain rfl : k = r := by omega
      obtain ⟨a', c', rfl, hr⟩ := own_ints_slice HO.out (by have := HT.out; omega) (evenL_wf HT.out)
      have HR := Lib.hid hr
      clear hr
      go_wp2_with fail
      go_ret
      exact ⟨a', c', rfl, HR.out, HB.out⟩
end Go.Proofs.Ytbijacoiblbnfaa
