/- Which sizes there are: root.Has, small.Has, stock.Has. -/
import Derived.Test.YtibabpahpiijgaaGreatDoorFact
namespace Go.Proofs.YtibabpahpiijgaaGreatDoor
open Go.RowKit
set_option linter.unusedSimpArgs false
set_option linter.unusedVariables false
def hasB (n : Int) : Bool := decide (1 ≤ n ∧ n ≤ 16777216 ∧ (18446744069414584320 : Int) % n = 0)
set_option maxRecDepth 100000 in
set_option maxHeartbeats 4000000 in
theorem has_any (n : Int) (w : World) : Calls Tryz.prog 41 #[.int .i64 n] w fun e w' => e = .returned (.bool (hasB n)) ∧ w = w' := by
  by_cases h1 : 1 ≤ n
  · by_cases h2 : n ≤ 16777216
    · have h0 : 0 ≤ n := by omega
      have hn0 : ¬ n = 0 := by omega
      have hw : IntKind.u64.wrap n = n := by rw [IntKind.wrap_u64]; omega
      by_cases h3 : (18446744069414584320 : Int) % n = 0
      · have HH : Hid (hasB n = true) := Lib.hid (decide_eq_true ⟨h1, h2, h3⟩)
        go_enter Tryz.func41, Tryz.ntmps41
        go_wp2_with fail
        go_ret
        exact ⟨by rw [HH.out]; rfl, rfl⟩
      · have HH : Hid (hasB n = false) := Lib.hid (decide_eq_false fun h => h3 h.2.2)
        have h3b : ((18446744069414584320 : Int) % n == 0) = false := by simpa using h3
        go_enter Tryz.func41, Tryz.ntmps41
        go_wp2_with fail
        go_ret
        exact ⟨by rw [HH.out]; rfl, rfl⟩
    · have HH : Hid (hasB n = false) := Lib.hid (decide_eq_false fun h => h2 h.2.1)
      go_enter Tryz.func41, Tryz.ntmps41
      go_wp2_with fail
      go_ret
      exact ⟨by rw [HH.out]; rfl, rfl⟩
  · have HH : Hid (hasB n = false) := Lib.hid (decide_eq_false fun h => h1 h.1)
    go_enter Tryz.func41, Tryz.ntmps41
    go_wp2_with fail
    go_ret
    exact ⟨by rw [HH.out]; rfl, rfl⟩
def smallB (n : Int) : Bool := decide (1 ≤ n ∧ n ≤ 5)
set_option maxHeartbeats 1000000 in
theorem small_any (n : Int) (w : World) : Calls Tryz.prog 129 #[.int .i64 n] w fun e w' => e = .returned (.bool (smallB n)) ∧ w = w' := by
  by_cases h1 : 1 ≤ n
  · by_cases h2 : n ≤ 5
    · have HH : Hid (smallB n = true) := Lib.hid (decide_eq_true ⟨h1, h2⟩)
      go_enter Tryz.func129, Tryz.ntmps129
      go_wp2_with fail
      go_ret
      exact ⟨by rw [HH.out]; rfl, rfl⟩
    · have HH : Hid (smallB n = false) := Lib.hid (decide_eq_false fun h => h2 h.2)
      go_enter Tryz.func129, Tryz.ntmps129
      go_wp2_with fail
      go_ret
      exact ⟨by rw [HH.out]; rfl, rfl⟩
  · have HH : Hid (smallB n = false) := Lib.hid (decide_eq_false fun h => h1 h.1)
    go_enter Tryz.func129, Tryz.ntmps129
    go_wp2_with fail
    go_ret
    exact ⟨by rw [HH.out]; rfl, rfl⟩
/-- Is it a power of two? (As the program asks.) -/
def powB (n : Int) : Bool := decide (0 < n) && (bits BinOp.and IntKind.i64 n (wrap64 (n - 1)) == 0)
set_option maxRecDepth 100000 in
set_option maxHeartbeats 1000000 in
theorem power_any (n : Int) (w : World) : Calls Tryz.prog 151 #[.int .i64 n] w fun e w' => e = .returned (.bool (powB n)) ∧ w = w' := by
  by_cases h1 : 0 < n
  · have HH : Hid (powB n = (bits BinOp.and IntKind.i64 n (wrap64 (n - 1)) == 0)) := Lib.hid (by unfold powB; rw [decide_eq_true h1]; rfl)
    go_enter Tryz.func151, Tryz.ntmps151
    go_wp2_with fail
    go_ret
    exact ⟨by rw [HH.out]; rfl, rfl⟩
  · have HH : Hid (powB n = false) := Lib.hid (by unfold powB; rw [decide_eq_false h1]; rfl)
    go_enter Tryz.func151, Tryz.ntmps151
    go_wp2_with fail
    go_ret
    exact ⟨by rw [HH.out]; rfl, rfl⟩
def stockB (n : Int) : Bool := powB n && decide (n ≤ 16777216)
set_option maxRecDepth 100000 in
set_option maxHeartbeats 1000000 in
theorem stock_any (n : Int) (w : World) : Calls Tryz.prog 130 #[.int .i64 n] w fun e w' => e = .returned (.bool (stockB n)) ∧ w = w' := by
  cases hp : powB n with
  | false =>
    have HP := Lib.hid hp
    have HH : Hid (stockB n = false) := Lib.hid (by unfold stockB; rw [hp]; rfl)
    clear hp
    go_enter Tryz.func130, Tryz.ntmps130
    go_wp2_with (go_at_call 151; (with_reducible refine (power_any _ _).mono ?_); rintro e w' ⟨rfl, rfl⟩; rw [HP.out])
    go_ret
    exact ⟨by rw [HH.out]; rfl, rfl⟩
  | true =>
    have HP := Lib.hid hp
    by_cases h2 : n ≤ 16777216
    · have HH : Hid (stockB n = true) := Lib.hid (by unfold stockB; rw [hp, decide_eq_true h2]; rfl)
      clear hp
      go_enter Tryz.func130, Tryz.ntmps130
      go_wp2_with (go_at_call 151; (with_reducible refine (power_any _ _).mono ?_); rintro e w' ⟨rfl, rfl⟩; rw [HP.out])
      go_ret
      exact ⟨by rw [HH.out]; rfl, rfl⟩
    · have HH : Hid (stockB n = false) := Lib.hid (by unfold stockB; rw [hp, decide_eq_false h2]; rfl)
      have h2b : decide (n ≤ 16777216) = false := decide_eq_false h2
      clear hp
      go_enter Tryz.func130, Tryz.ntmps130
      go_wp2_with (go_at_call 151; (with_reducible refine (power_any _ _).mono ?_); rintro e w' ⟨rfl, rfl⟩; rw [HP.out])
      go_ret
      exact ⟨by rw [HH.out]; rfl, rfl⟩
end Go.Proofs.YtibabpahpiijgaaGreatDoor
