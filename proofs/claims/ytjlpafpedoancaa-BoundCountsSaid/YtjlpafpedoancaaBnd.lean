/- The contracts of package bound's Turns and Rounds, of their reference, and of the page's example. -/
import Derived.Test.YtjlpafpedoancaaRows
import Derived.WalkKit
import Derived.Lib.Hide
import Derived.WalkSpells
import Derived.WalkLawsBesides
namespace Go.Proofs.Ytjlpafpedoancaa.Bnd
open Go.RowKit
theorem ret_int {k : IntKind} {a b : Int} (h : a = b) : Ending.returned (.int k a) = .returned (.int k b) := by rw [h]
theorem ret_bool {a b : Bool} (h : a = b) : Ending.returned (.bool a) = .returned (.bool b) := by rw [h]
def inB (n lo hi : Int) : Bool := decide (lo ≤ n ∧ n ≤ hi)
theorem in_any (n lo hi : Int) (b : Bool) (w : World) (hb : b = inB n lo hi) : Calls Try.prog 58 #[.int .i64 n, .int .i64 lo, .int .i64 hi] w fun e w' => e = .returned (.bool b) ∧ w = w' := by
  have HB := Lib.hid hb; clear hb
  go_enter Try.func58, Try.ntmps58
  go_wp2
  all_goals
    go_ret
    exact ⟨by rw [HB.out]; simp [inB, *]; try omega, rfl⟩
theorem turns_yes (s : Int) (w : World) (h1 : 1 ≤ s) (h2 : s ≤ 16) : Calls Try.prog 13 #[.int .i64 s] w fun e w' => e = .returned (.tuple #[.int .i64 (1200 + 4 * s), .int .i64 0]) ∧ w = w' := by
  go_enter Try.func13, Try.ntmps13
  go_wp2_with (go_at_call 58; (with_reducible refine (in_any _ _ _ true _ (by simp [inB]; omega)).mono ?_); rintro e w' ⟨rfl, rfl⟩)
  go_ret2
  exact ⟨rfl, rfl⟩
theorem turns_no (s : Int) (w : World) (h : s < 1 ∨ 16 < s) : Calls Try.prog 13 #[.int .i64 s] w fun e w' => e = .returned (.tuple #[.int .i64 0, .int .i64 2]) ∧ w = w' := by
  have H := Lib.hid h; clear h
  go_enter Try.func13, Try.ntmps13
  go_wp2_with (go_at_call 58; (with_reducible refine (in_any _ _ _ false _ (by have := H.out; simp [inB]; omega)).mono ?_); rintro e w' ⟨rfl, rfl⟩)
  go_ret2
  exact ⟨rfl, rfl⟩
theorem rounds_yes (p s c : Int) (w : World) (h1 : 1 ≤ s) (h2 : s ≤ 16) (h3 : 0 ≤ p) (h4 : p ≤ 8) (h5 : 0 ≤ c) (h6 : c ≤ 8) : Calls Try.prog 14 #[.int .i64 p, .int .i64 s, .int .i64 c] w fun e w' => e = .returned (.tuple #[.int .i64 (p * (1200 + 4 * s) + c), .int .i64 0]) ∧ w = w' := by
  have b1 : 0 ≤ p * (1200 + 4 * s) := Int.mul_nonneg h3 (by omega)
  have b2 : p * (1200 + 4 * s) ≤ 8 * 1264 := Int.mul_le_mul h4 (by omega) (by omega) (by omega)
  go_enter Try.func14, Try.ntmps14
  go_wp2_with (first | (go_at_call 13; (with_reducible refine (turns_yes _ _ h1 h2).mono ?_); rintro e w' ⟨rfl, rfl⟩) | (go_at_call 58; (with_reducible refine (in_any _ _ _ true _ (by simp [inB]; omega)).mono ?_); rintro e w' ⟨rfl, rfl⟩))
  go_ret2
  exact ⟨rfl, rfl⟩
theorem rounds_no1 (p s c : Int) (w : World) (h : s < 1 ∨ 16 < s) : Calls Try.prog 14 #[.int .i64 p, .int .i64 s, .int .i64 c] w fun e w' => e = .returned (.tuple #[.int .i64 0, .int .i64 2]) ∧ w = w' := by
  have H := Lib.hid h; clear h
  go_enter Try.func14, Try.ntmps14
  go_wp2_with (go_at_call 13; (with_reducible refine (turns_no _ _ H.out).mono ?_); rintro e w' ⟨rfl, rfl⟩)
  go_ret2
  exact ⟨rfl, rfl⟩
theorem rounds_no2 (p s c : Int) (w : World) (h1 : 1 ≤ s) (h2 : s ≤ 16) (h : ¬ (0 ≤ p ∧ p ≤ 8 ∧ 0 ≤ c ∧ c ≤ 8)) : Calls Try.prog 14 #[.int .i64 p, .int .i64 s, .int .i64 c] w fun e w' => e = .returned (.tuple #[.int .i64 0, .int .i64 2]) ∧ w = w' := by
  by_cases hp : 0 ≤ p ∧ p ≤ 8
  · have H := Lib.hid h; clear h
    go_enter Try.func14, Try.ntmps14
    go_wp2_with (first | (go_at_call 13; (with_reducible refine (turns_yes _ _ h1 h2).mono ?_); rintro e w' ⟨rfl, rfl⟩) | (go_at_call 58; (with_reducible refine (in_any _ _ _ true _ (by simp [inB]; omega)).mono ?_); rintro e w' ⟨rfl, rfl⟩) | (go_at_call 58; (with_reducible refine (in_any _ _ _ false _ (by have := H.out; simp [inB]; omega)).mono ?_); rintro e w' ⟨rfl, rfl⟩))
    go_ret2
    exact ⟨rfl, rfl⟩
  · clear h
    have H := Lib.hid hp; clear hp
    go_enter Try.func14, Try.ntmps14
    go_wp2_with (first | (go_at_call 13; (with_reducible refine (turns_yes _ _ h1 h2).mono ?_); rintro e w' ⟨rfl, rfl⟩) | (go_at_call 58; (with_reducible refine (in_any _ _ _ false _ (by have := H.out; simp [inB]; omega)).mono ?_); rintro e w' ⟨rfl, rfl⟩))
    go_ret2
    exact ⟨rfl, rfl⟩
theorem is_any (s : Int) (b : Bool) (w : World) (hb : b = inB s 1 16) : Calls Try.prog 15 #[.int .i64 s] w fun e w' => e = .returned (.bool b) ∧ w = w' := by
  have HB := Lib.hid hb; clear hb
  go_enter Try.func15, Try.ntmps15
  go_wp2
  all_goals
    go_ret
    exact ⟨ret_bool (by rw [HB.out, Bool.eq_iff_iff]; simp [inB]; try omega), rfl⟩
theorem rturns (s : Int) (w : World) (h1 : 1 ≤ s) (h2 : s ≤ 16) : Calls Try.prog 17 #[.int .i64 s] w fun e w' => e = .returned (.int .i64 (1200 + 4 * s)) ∧ w = w' := by
  have H := Lib.hid (show 1200 + s + s + s + s = 1200 + 4 * s by omega)
  go_enter Try.func17, Try.ntmps17
  go_wp2
  go_ret
  exact ⟨ret_int H.out, rfl⟩
theorem live (w : World) : Calls Try.prog 16 #[] w fun e w' => e = .returned (.bool true) ∧ w = w' := by
  go_enter Try.func16, Try.ntmps16
  go_wp2_with (first | (go_at_call 13; (with_reducible refine (turns_yes _ _ (by omega) (by omega)).mono ?_); rintro e w' ⟨rfl, rfl⟩) | (go_at_call 14; (with_reducible refine (rounds_yes _ _ _ _ (by omega) (by omega) (by omega) (by omega) (by omega) (by omega)).mono ?_); rintro e w' ⟨rfl, rfl⟩))
  go_ret
  exact ⟨rfl, rfl⟩
theorem law (p s c : Int) (w : World) : Calls Try.prog 3 #[.int .i64 p, .int .i64 s, .int .i64 c] w fun e w' => e = .returned (.bool true) ∧ w = w' := by
  by_cases hs : 1 ≤ s ∧ s ≤ 16
  · obtain ⟨h1, h2⟩ := hs
    by_cases hp : 0 ≤ p ∧ p ≤ 8 ∧ 0 ≤ c ∧ c ≤ 8
    · obtain ⟨h3, h4, h5, h6⟩ := hp
      have b1 : 0 ≤ p * (1200 + 4 * s) := Int.mul_nonneg h3 (by omega)
      have b2 : p * (1200 + 4 * s) ≤ 8 * 1264 := Int.mul_le_mul h4 (by omega) (by omega) (by omega)
      go_enter Try.func3, Try.ntmps3
      go_wp2_with (first | (go_at_call 13; (with_reducible refine (turns_yes _ _ h1 h2).mono ?_); rintro e w' ⟨rfl, rfl⟩) | (go_at_call 14; (with_reducible refine (rounds_yes _ _ _ _ h1 h2 h3 h4 h5 h6).mono ?_); rintro e w' ⟨rfl, rfl⟩) | (go_at_call 15; (with_reducible refine (is_any _ true _ (by simp [inB]; omega)).mono ?_); rintro e w' ⟨rfl, rfl⟩) | (go_at_call 17; (with_reducible refine (rturns _ _ h1 h2).mono ?_); rintro e w' ⟨rfl, rfl⟩) | (go_at_call 16; (with_reducible refine (live _).mono ?_); rintro e w' ⟨rfl, rfl⟩))
      go_ret
      exact ⟨rfl, rfl⟩
    · have H := Lib.hid hp
      by_cases c1 : p < 0
      · clear hp
        go_enter Try.func3, Try.ntmps3
        go_wp2_with (first | (go_at_call 13; (with_reducible refine (turns_yes _ _ h1 h2).mono ?_); rintro e w' ⟨rfl, rfl⟩) | (go_at_call 14; (with_reducible refine (rounds_no2 _ _ _ _ h1 h2 H.out).mono ?_); rintro e w' ⟨rfl, rfl⟩) | (go_at_call 15; (with_reducible refine (is_any _ true _ (by simp [inB]; omega)).mono ?_); rintro e w' ⟨rfl, rfl⟩) | (go_at_call 17; (with_reducible refine (rturns _ _ h1 h2).mono ?_); rintro e w' ⟨rfl, rfl⟩) | (go_at_call 16; (with_reducible refine (live _).mono ?_); rintro e w' ⟨rfl, rfl⟩))
        go_ret
        exact ⟨rfl, rfl⟩
      · by_cases c2 : 8 < p
        · clear hp
          go_enter Try.func3, Try.ntmps3
          go_wp2_with (first | (go_at_call 13; (with_reducible refine (turns_yes _ _ h1 h2).mono ?_); rintro e w' ⟨rfl, rfl⟩) | (go_at_call 14; (with_reducible refine (rounds_no2 _ _ _ _ h1 h2 H.out).mono ?_); rintro e w' ⟨rfl, rfl⟩) | (go_at_call 15; (with_reducible refine (is_any _ true _ (by simp [inB]; omega)).mono ?_); rintro e w' ⟨rfl, rfl⟩) | (go_at_call 17; (with_reducible refine (rturns _ _ h1 h2).mono ?_); rintro e w' ⟨rfl, rfl⟩) | (go_at_call 16; (with_reducible refine (live _).mono ?_); rintro e w' ⟨rfl, rfl⟩))
          go_ret
          exact ⟨rfl, rfl⟩
        · by_cases c3 : c < 0
          · clear hp
            go_enter Try.func3, Try.ntmps3
            go_wp2_with (first | (go_at_call 13; (with_reducible refine (turns_yes _ _ h1 h2).mono ?_); rintro e w' ⟨rfl, rfl⟩) | (go_at_call 14; (with_reducible refine (rounds_no2 _ _ _ _ h1 h2 H.out).mono ?_); rintro e w' ⟨rfl, rfl⟩) | (go_at_call 15; (with_reducible refine (is_any _ true _ (by simp [inB]; omega)).mono ?_); rintro e w' ⟨rfl, rfl⟩) | (go_at_call 17; (with_reducible refine (rturns _ _ h1 h2).mono ?_); rintro e w' ⟨rfl, rfl⟩) | (go_at_call 16; (with_reducible refine (live _).mono ?_); rintro e w' ⟨rfl, rfl⟩))
            go_ret
            exact ⟨rfl, rfl⟩
          · have c4 : 8 < c := by omega
            clear hp
            go_enter Try.func3, Try.ntmps3
            go_wp2_with (first | (go_at_call 13; (with_reducible refine (turns_yes _ _ h1 h2).mono ?_); rintro e w' ⟨rfl, rfl⟩) | (go_at_call 14; (with_reducible refine (rounds_no2 _ _ _ _ h1 h2 H.out).mono ?_); rintro e w' ⟨rfl, rfl⟩) | (go_at_call 15; (with_reducible refine (is_any _ true _ (by simp [inB]; omega)).mono ?_); rintro e w' ⟨rfl, rfl⟩) | (go_at_call 17; (with_reducible refine (rturns _ _ h1 h2).mono ?_); rintro e w' ⟨rfl, rfl⟩) | (go_at_call 16; (with_reducible refine (live _).mono ?_); rintro e w' ⟨rfl, rfl⟩))
            go_ret
            exact ⟨rfl, rfl⟩
  · have H := Lib.hid (show s < 1 ∨ 16 < s by omega)
    have H2 := Lib.hid hs
    clear hs
    go_enter Try.func3, Try.ntmps3
    go_wp2_with (first | (go_at_call 13; (with_reducible refine (turns_no _ _ H.out).mono ?_); rintro e w' ⟨rfl, rfl⟩) | (go_at_call 14; (with_reducible refine (rounds_no1 _ _ _ _ H.out).mono ?_); rintro e w' ⟨rfl, rfl⟩) | (go_at_call 15; (with_reducible refine (is_any _ false _ (by have := H2.out; simp [inB]; omega)).mono ?_); rintro e w' ⟨rfl, rfl⟩) | (go_at_call 16; (with_reducible refine (live _).mono ?_); rintro e w' ⟨rfl, rfl⟩))
    go_ret
    exact ⟨rfl, rfl⟩
end Go.Proofs.Ytjlpafpedoancaa.Bnd
