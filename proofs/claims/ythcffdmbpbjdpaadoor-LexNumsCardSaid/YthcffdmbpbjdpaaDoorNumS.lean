/- Numbers as digits, in plain words. No program in sight. -/
import Derived.Lib.ItoaNum
import Derived.Lib.Atoi
namespace Go.Proofs.YthcffdmbpbjdpaaDoor.Lex
theorem decFrom_append (a : Nat) (l r : List UInt8) : Lib.decFrom a (l ++ r) = (Lib.decFrom a l).bind fun m => Lib.decFrom m r := by
  induction l generalizing a with
  | nil => rfl
  | cons b l ih =>
    simp only [List.cons_append, Lib.decFrom]
    cases Lib.digitVal b with
    | none => rfl
    | some d => exact ih _
theorem digitVal_dig {d : Nat} (h : d < 10) : Lib.digitVal (UInt8.ofNat (48 + d)) = some d := by
  have e : (UInt8.ofNat (48 + d)).toNat = 48 + d := by simp [UInt8.toNat_ofNat']; omega
  unfold Lib.digitVal
  rw [e, if_pos ⟨by omega, by omega⟩]
  congr 1
  omega
theorem decDigits_small {u : Nat} (h : u < 10) : Lib.decDigits u = [UInt8.ofNat (48 + u)] := by rw [Lib.decDigits, dif_pos h]
theorem decDigits_big {u : Nat} (h : ¬ u < 10) : Lib.decDigits u = Lib.decDigits (u / 10) ++ [UInt8.ofNat (48 + u % 10)] := by rw [Lib.decDigits, dif_neg h]
theorem decFrom_digits (n : Nat) : Lib.decFrom 0 (Lib.decDigits n) = some n := by
  induction n using Nat.strongRecOn with
  | _ n ih =>
    by_cases h : n < 10
    · rw [decDigits_small h]
      simp only [Lib.decFrom, digitVal_dig h]
      congr 1
      omega
    · rw [decDigits_big h, decFrom_append, ih (n / 10) (by omega)]
      simp only [Option.bind_some, Lib.decFrom, digitVal_dig (show n % 10 < 10 by omega)]
      congr 1
      omega
theorem decDigits_ne (n : Nat) : Lib.decDigits n ≠ [] := by
  by_cases h : n < 10
  · rw [decDigits_small h]; simp
  · rw [decDigits_big h]; simp
theorem decDigits_head (n : Nat) (hn : 0 < n) : (Lib.decDigits n)[0]? ≠ some 48 := by
  induction n using Nat.strongRecOn with
  | _ n ih =>
    by_cases h : n < 10
    · rw [decDigits_small h]
      simp only [List.getElem?_cons_zero, ne_eq, Option.some.injEq]
      intro e
      have := congrArg UInt8.toNat e
      simp [UInt8.toNat_ofNat'] at this
      omega
    · rw [decDigits_big h]
      have := ih (n / 10) (by omega) (by omega)
      rw [List.getElem?_append_left]
      · exact this
      · exact List.length_pos_iff.2 (decDigits_ne _)
theorem nDigits_le (k : Nat) : ∀ u, u < 10 ^ (k + 1) → Lib.nDigits u ≤ k + 1 := by
  induction k with
  | zero => intro u h; rw [Lib.nDigits_small (by simpa using h)]; exact Nat.le_refl _
  | succ k ih =>
    intro u h
    by_cases h10 : u < 10
    · rw [Lib.nDigits_small h10]; omega
    · rw [Lib.nDigits_big h10]
      have := ih (u / 10) (by rw [Nat.pow_succ] at h; omega)
      omega
/-- The number that a text of digits is: nine at most, no nought ahead of others. -/
def numOf (l : List UInt8) : Option Nat := if l.length = 0 ∨ 9 < l.length ∨ (l[0]? = some 48 ∧ 1 < l.length) then none else Lib.decFrom 0 l
theorem numOf_digits {n : Nat} (h : n ≤ 999999999) : numOf (Lib.decDigits n) = some n := by
  have hl : (Lib.decDigits n).length ≤ 9 := by
    rw [Lib.decDigits_length]
    exact nDigits_le 8 n (by omega)
  have h0 : (Lib.decDigits n).length ≠ 0 := fun e => decDigits_ne n (List.eq_nil_of_length_eq_zero e)
  rw [numOf, if_neg, decFrom_digits]
  rintro (h1 | h1 | ⟨h1, h2⟩)
  · exact h0 h1
  · omega
  · rcases Nat.eq_zero_or_pos n with rfl | hn
    · rw [decDigits_small (by omega)] at h2
      simp at h2
    · exact decDigits_head n hn h1
theorem numOf_lt {l : List UInt8} {n : Nat} (h : numOf l = some n) : n < 1000000000 ∧ l.length ≤ 9 ∧ 0 < l.length := by
  unfold numOf at h
  split at h
  · cases h
  · rename_i hc
    have h1 := Lib.decFrom_lt l 0 n h
    have h9 : l.length ≤ 9 := by omega
    have : 10 ^ l.length ≤ 10 ^ 9 := Nat.pow_le_pow_right (by omega) h9
    exact ⟨by omega, h9, by omega⟩
end Go.Proofs.YthcffdmbpbjdpaaDoor.Lex
