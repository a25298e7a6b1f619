/- The reference's number of a word. -/
import Derived.Test.YtplhmcmfdcklaaaDoorRWord
import Derived.Test.YtplhmcmfdcklaaaDoorNumP
namespace Go.Proofs.YtplhmcmfdcklaaaDoor.Lex
open Go.RowKit
set_option linter.unusedSimpArgs false
set_option linter.unusedVariables false
/-- The sum as the reference reckons it, in 64 bits that wrap; none: a byte that is no digit. -/
def wsum (n : Int) : List UInt8 → Option Int
  | [] => some n
  | c :: l => if c.toNat < 48 ∨ 57 < c.toNat then none else wsum (IntKind.i64.wrap (IntKind.i64.wrap (IntKind.i64.wrap (10 * n) + (c.toNat : Int)) - 48)) l
theorem wrap_mod (n : Int) : ∃ k : Int, IntKind.i64.wrap n = n + 18446744073709551616 * k ∧ -9223372036854775808 ≤ IntKind.i64.wrap n ∧ IntKind.i64.wrap n ≤ 9223372036854775807 := by
  rw [IntKind.wrap_i64]
  refine ⟨-((n + 9223372036854775808) / 18446744073709551616), ?_, ?_, ?_⟩ <;> omega
/-- Of digits it is the number that they spell, wrapped. -/
theorem wsum_of : ∀ (l : List UInt8) (a : Nat), wsum (IntKind.i64.wrap a) l = (Lib.decFrom a l).map fun m => IntKind.i64.wrap (m : Int)
  | [], a => rfl
  | c :: l, a => by
    rw [wsum, Lib.decFrom, Lib.digitVal]
    by_cases hc : c.toNat < 48 ∨ 57 < c.toNat
    · rw [if_pos hc, if_neg (by omega)]
      rfl
    · rw [if_neg hc, if_pos (by omega)]
      simp only
      rw [← wsum_of l (a * 10 + (c.toNat - 48))]
      congr 1
      rw [IntKind.wrap_i64, IntKind.wrap_i64, IntKind.wrap_i64, IntKind.wrap_i64, IntKind.wrap_i64]
      omega
/-- What the reference's number answers, in plain words. -/
def rnumL (w : List UInt8) : Option Int := match wsum 0 (if w.head? = some 45 then w.tail else w) with
  | none => none
  | some v => if Lib.itoa (if w.head? = some 45 then IntKind.i64.wrap (0 - v) else v) = w then some (if w.head? = some 45 then IntKind.i64.wrap (0 - v) else v) else none
theorem wsum_zero (m : Nat) : wsum 0 (Lib.decDigits m) = some (IntKind.i64.wrap (m : Int)) := by
  have h := wsum_of (Lib.decDigits m) 0
  rw [decFrom_digits] at h
  exact h
theorem head_digits (m : Nat) : (Lib.decDigits m).head? ≠ some 45 := fun h => by
  have hf := decFrom_digits m
  cases hd : Lib.decDigits m with
  | nil => rw [hd] at h; cases h
  | cons c l =>
    rw [hd] at h hf
    cases h
    rw [Lib.decFrom] at hf
    cases hf
theorem rnumL_some {w : List UInt8} {n : Int} (h0 : -9223372036854775808 ≤ n) (h1 : n ≤ 9223372036854775807) (h : Lib.itoa n = w) : rnumL w = some n := by
  by_cases hn : n < 0
  · have hw : w = 45 :: Lib.decDigits n.natAbs := by rw [← h, Lib.itoa, if_pos hn]
    have hh : w.head? = some 45 := by rw [hw]; rfl
    have hv : IntKind.i64.wrap (0 - IntKind.i64.wrap (n.natAbs : Int)) = n := by rw [IntKind.wrap_i64, IntKind.wrap_i64]; omega
    have ht : w.tail = Lib.decDigits n.natAbs := by rw [hw]; rfl
    rw [rnumL, if_pos hh, ht, wsum_zero]
    simp only [if_pos hh]
    rw [hv, if_pos h]
  · have hw : w = Lib.decDigits n.toNat := by rw [← h, Lib.itoa, if_neg hn]
    have hh : ¬ w.head? = some 45 := by rw [hw]; exact head_digits _
    have hv : IntKind.i64.wrap (n.toNat : Int) = n := by rw [IntKind.wrap_i64]; omega
    rw [rnumL, if_neg hh]
    rw [show wsum 0 w = some n by rw [hw, wsum_zero, hv]]
    simp only [if_neg hh]
    rw [if_pos h]
theorem wsum_range : ∀ {l : List UInt8} {n v : Int}, -9223372036854775808 ≤ n → n ≤ 9223372036854775807 → wsum n l = some v → -9223372036854775808 ≤ v ∧ v ≤ 9223372036854775807
  | [], n, v, h0, h1, h => by cases h; exact ⟨h0, h1⟩
  | c :: l, n, v, h0, h1, h => by
    rw [wsum] at h
    split at h
    · cases h
    · obtain ⟨_, _, r0, r1⟩ := wrap_mod (IntKind.i64.wrap (IntKind.i64.wrap (10 * n) + (c.toNat : Int)) - 48)
      exact wsum_range r0 r1 h
/-- The reference's number reads what the given one reads. -/
theorem rnumL_eq (w : List UInt8) : rnumL w = numW w := by
  cases e : numW w with
  | some n =>
    obtain ⟨⟨h0, h1⟩, h2⟩ := numW_iff.1 e
    exact rnumL_some h0 h1 h2
  | none =>
    cases e2 : rnumL w with
    | none => rfl
    | some n =>
      exfalso
      have hr : (-9223372036854775808 ≤ n ∧ n ≤ 9223372036854775807) ∧ Lib.itoa n = w := by
        unfold rnumL at e2
        by_cases hh : w.head? = some 45
        · simp only [if_pos hh] at e2
          cases hv : wsum 0 w.tail with
          | none => rw [hv] at e2; cases e2
          | some v =>
            rw [hv] at e2
            simp only at e2
            by_cases hi : Lib.itoa (IntKind.i64.wrap (0 - v)) = w
            · rw [if_pos hi] at e2
              cases e2
              obtain ⟨_, _, r0, r1⟩ := wrap_mod (0 - v)
              exact ⟨⟨r0, r1⟩, hi⟩
            · rw [if_neg hi] at e2
              cases e2
        · simp only [if_neg hh] at e2
          cases hv : wsum 0 w with
          | none => rw [hv] at e2; cases e2
          | some v =>
            rw [hv] at e2
            simp only at e2
            by_cases hi : Lib.itoa v = w
            · rw [if_pos hi] at e2
              cases e2
              exact ⟨wsum_range (by omega) (by omega) hv, hi⟩
            · rw [if_neg hi] at e2
              cases e2
      rw [numW_iff.2 hr] at e
      cases e
end Go.Proofs.YtplhmcmfdcklaaaDoor.Lex
