/- A word's kind. -/
import Derived.Test.YtdhkndoglcnllaaGreatDoorWord23
namespace Go.Proofs.YtdhkndoglcnllaaGreatDoor.Lex
open Go.RowKit
set_option linter.unusedSimpArgs false
set_option linter.unusedVariables false
/-- A word's kind; 0: none. -/
def kindD (x : List UInt8) : Nat := match names23.findIdx? (· == x) with | none => 0 | some i => i + 1
theorem kindD_le (x : List UInt8) : kindD x ≤ 7 := by
  unfold kindD
  cases h : names23.findIdx? (· == x) with
  | none => exact Nat.zero_le _
  | some i =>
    have := List.findIdx?_eq_some_iff_getElem.1 h
    obtain ⟨hi, _⟩ := this
    have : names23.length = 7 := rfl
    show i + 1 ≤ 7
    omega
theorem kindD_at {x : List UInt8} {j : Nat} (hj : j < names23.length) (h : names23[j]'hj = x) (hno : ∀ i (hi : i < j), names23[i]'(by omega) ≠ x) : kindD x = j + 1 := by
  have : names23.findIdx? (· == x) = some j := List.findIdx?_eq_some_iff_getElem.2 ⟨hj, by simpa using h, fun i hi => by simpa using hno i hi⟩
  rw [kindD, this]
theorem kindD_no {x : List UInt8} (hno : ∀ i (hi : i < names23.length), names23[i]'hi ≠ x) : kindD x = 0 := by
  have : names23.findIdx? (· == x) = none := by
    rw [List.findIdx?_eq_none_iff]
    intro y hy
    obtain ⟨i, hi, rfl⟩ := List.mem_iff_getElem.1 hy
    simpa using hno i hi
  rw [kindD, this]
theorem kindD_word {k : Int} (h : 1 ≤ k ∧ k ≤ 7) : (kindD (wordD k) : Int) = k := by
  rcases (by omega : k = 1 ∨ k = 2 ∨ k = 3 ∨ k = 4 ∨ k = 5 ∨ k = 6 ∨ k = 7) with rfl | rfl | rfl | rfl | rfl | rfl | rfl <;> decide
theorem wordD_kind {x : List UInt8} (h : kindD x ≠ 0) : wordD (kindD x) = x := by
  unfold kindD at h ⊢
  cases hf : names23.findIdx? (· == x) with
  | none => rw [hf] at h; exact absurd rfl h
  | some i =>
    obtain ⟨hi, he, _⟩ := List.findIdx?_eq_some_iff_getElem.1 hf
    have h7 : names23.length = 7 := rfl
    show wordD ((i + 1 : Nat) : Int) = x
    rw [wordD, if_pos (by omega), show (((i + 1 : Nat) : Int) - 1).toNat = i by omega, List.getD_eq_getElem?_getD, List.getElem?_eq_getElem hi]
    simpa using he
theorem bs_toList (x : List UInt8) : (bs x).toList = x := by
  rw [ByteArray.toList_eq]
  simp [bs]
set_option maxRecDepth 100000 in
set_option maxHeartbeats 1000000 in
theorem kind_any (x : List UInt8) (w : World) (hm : HasMax w) : Calls Tryz.prog 55 #[.string (bs x)] w fun e w' => e = .returned (.int .i64 (kindD x)) ∧ Below w.heap.size w w' := by
  have HM := Lib.hid hm
  clear hm
  go_enter Tryz.func55, Tryz.ntmps55
  go_wp2_with (go_at_call 31; (with_reducible refine (split23 _ HM.out).mono ?_); rintro e w1 ⟨rfl, hc, hb⟩; have HC := Lib.hid hc; have HB := Lib.hid hb; clear hc hb)
  go_loopg [7] 7 (fun g iv wr => ∃ j : Nat, j ≤ 7 ∧ g = 7 - j ∧ iv = .int .i64 (j : Int) ∧ (∀ i (hi : i < names23.length), i < j → names23[i]'hi ≠ x) ∧ wr = w1)
  case atStart => exact ⟨0, by omega, rfl, rfl, fun i _ h => by omega, rfl⟩
  case round =>
    obtain ⟨j, hj, rfl, rfl, hno, rfl⟩ := hrel
    have HNO := Lib.hid hno
    clear hno
    by_cases hlt : j < 7
    · have hj7 : j < names23.length := hlt
      have c0 := HC.out j _ (List.getElem?_eq_getElem hj7)
      by_cases he : names23[j]'hj7 = x
      · have HK : Hid (kindD x = j + 1) := Lib.hid (kindD_at hj7 he fun i hi => HNO.out i (by omega) hi)
        rw [he] at c0
        clear he
        go_wp2_with fail
        go_ret
        exact ⟨by rw [HK.out]; go_num, HB.out⟩
      · have hb : ((bs (names23[j]'hj7)).toList == (bs x).toList) = false := by rw [bs_toList, bs_toList]; simpa using he
        have HNE := Lib.hid he
        generalize bs (names23[j]'hj7) = sj at *
        clear he
        go_wp2_with fail
        go_roundg (7 - (j + 1))
        case measure => omega
        case rel => exact ⟨j + 1, by omega, rfl, by go_num, fun i hi h => by
          rcases (by omega : i < j ∨ i = j) with h' | rfl
          · exact HNO.out i hi h'
          · exact HNE.out, rfl⟩
    · obtain rfl : j = 7 := by omega
      have HK : Hid (kindD x = 0) := Lib.hid (kindD_no fun i hi => HNO.out i hi hi)
      go_wp2_with fail
      go_ret
      exact ⟨by rw [HK.out]; rfl, HB.out⟩
end Go.Proofs.YtdhkndoglcnllaaGreatDoor.Lex
