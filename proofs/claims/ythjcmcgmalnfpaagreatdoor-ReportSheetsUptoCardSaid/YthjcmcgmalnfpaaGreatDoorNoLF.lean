/- No line feed in a call's line. No function of the program. -/
import Derived.Test.YthjcmcgmalnfpaaGreatDoorGCal
namespace Go.Proofs.YthjcmcgmalnfpaaGreatDoor.Lex
open Go.RowKit
theorem glue_memN : ∀ {ws : List (List UInt8)} {c : UInt8}, c ∈ glue ws → c = 32 ∨ ∃ x ∈ ws, c ∈ x
  | [], c, h => by cases h
  | [a], c, h => .inr ⟨a, by simp, h⟩
  | a :: b :: r, c, h => by
    rw [show glue (a :: b :: r) = a ++ 32 :: glue (b :: r) from rfl] at h
    rcases List.mem_append.1 h with h | h
    · exact .inr ⟨a, by simp, h⟩
    · rcases List.mem_cons.1 h with h | h
      · exact .inl h
      · rcases glue_memN h with h | ⟨x, hx, hc⟩
        · exact .inl h
        · exact .inr ⟨x, List.mem_cons_of_mem _ hx, hc⟩
def NoLF (x : List UInt8) : Prop := ∀ c ∈ x, c ≠ 10
theorem glue_noLF {ws : List (List UInt8)} (h : ∀ x ∈ ws, NoLF x) : NoLF (glue ws) := fun c hc => by
  rcases glue_memN hc with rfl | ⟨x, hx, hc⟩
  · decide
  · exact h x hx c hc
theorem dec_noLF (n : Nat) : NoLF (Lib.decDigits n) := by
  have one : ∀ d, d < 10 → UInt8.ofNat (48 + d) ≠ 10 := fun d hd e => by
    have := congrArg UInt8.toNat e
    simp [UInt8.toNat_ofNat'] at this
    omega
  induction n using Nat.strongRecOn with
  | _ n ih =>
    intro c hc
    by_cases h : n < 10
    · rw [decDigits_small h] at hc
      simp only [List.mem_cons, List.not_mem_nil, or_false] at hc
      subst hc
      exact one n h
    · rw [decDigits_big h] at hc
      rcases List.mem_append.1 hc with hc | hc
      · exact ih (n / 10) (by omega) c hc
      · simp only [List.mem_cons, List.not_mem_nil, or_false] at hc
        subst hc
        exact one _ (by omega)
theorem itoa_noLF (n : Int) : NoLF (Lib.itoa n) := by
  unfold Lib.itoa
  split
  · intro c hc
    rcases List.mem_cons.1 hc with rfl | hc
    · decide
    · exact dec_noLF _ c hc
  · exact dec_noLF _
theorem hexd_noLF {d : Nat} (h : d < 16) : hexd d ≠ 10 := by
  have : ∀ d : Fin 16, hexd d.1 ≠ 10 := by decide +kernel
  exact this ⟨d, h⟩
theorem hexW_noLF (l : List UInt8) : ∀ x ∈ hexW l, NoLF x := fun x hx c hc => by
  unfold hexW at hx
  split at hx
  · cases hx
  · rw [List.mem_singleton.1 hx] at hc
    unfold hexOf at hc
    obtain ⟨a, _, hc⟩ := List.mem_flatMap.1 hc
    have ha := a.toNat_lt
    simp only [List.mem_cons, List.not_mem_nil, or_false] at hc
    rcases hc with rfl | rfl
    · exact hexd_noLF (by omega)
    · exact hexd_noLF (by omega)
theorem callW_noLF {c : CallV} {ws : List (List UInt8)} (h : callW c = some ws) : NoLF (glue ws) := by
  have w1 : NoLF [103, 101, 116] := by unfold NoLF; decide
  have w2 : NoLF [108, 111, 111, 107, 117, 112] := by unfold NoLF; decide
  have w3 : NoLF [101, 118, 105, 99, 116] := by unfold NoLF; decide
  have w4 : NoLF [105, 109, 112, 111, 114, 116] := by unfold NoLF; decide
  have w5 : NoLF [101, 120, 112, 111, 114, 116] := by unfold NoLF; decide
  have w6 : NoLF [101, 120, 101, 99, 117, 116, 101] := by unfold NoLF; decide
  have w7 : NoLF [114, 101, 108, 101, 97, 115, 101] := by unfold NoLF; decide
  have two : ∀ (w : List UInt8) (a b : Int), NoLF w → ∀ x ∈ w :: [Lib.itoa a, Lib.itoa b], NoLF x := fun w a b hw x hx => by
    simp only [List.mem_cons, List.not_mem_nil, or_false] at hx
    rcases hx with rfl | rfl | rfl
    · exact hw
    · exact itoa_noLF _
    · exact itoa_noLF _
  refine glue_noLF ?_
  unfold callW at h
  split at h
  · cases h; exact two _ _ _ w1
  split at h
  · cases h; exact two _ _ _ w2
  split at h
  · cases h; exact two _ _ _ w3
  split at h
  · cases h
    intro x hx
    rcases List.mem_cons.1 hx with rfl | hx
    · exact w4
    · exact hexW_noLF _ x hx
  split at h
  · cases h
    intro x hx
    simp only [List.mem_cons, List.not_mem_nil, or_false] at hx
    subst hx
    exact w5
  split at h
  · cases h
    intro x hx
    rcases List.mem_cons.1 hx with rfl | hx
    · exact w6
    · rcases List.mem_append.1 hx with hx | hx
      · simp only [List.mem_cons, List.not_mem_nil, or_false] at hx
        rcases hx with rfl | rfl <;> exact itoa_noLF _
      · obtain ⟨n, _, rfl⟩ := List.mem_map.1 hx
        exact dec_noLF _
  split at h
  · cases h; exact two _ _ _ w7
  · cases h
end Go.Proofs.YthjcmcgmalnfpaaGreatDoor.Lex
