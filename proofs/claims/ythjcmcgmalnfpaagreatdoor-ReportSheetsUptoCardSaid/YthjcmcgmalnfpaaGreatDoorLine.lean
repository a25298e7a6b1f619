/- Lines: the program's and the reference's, walked. -/
import Derived.Test.YthjcmcgmalnfpaaGreatDoorWordS
import Derived.Test.YthjcmcgmalnfpaaGreatDoorMem2
import Derived.Test.YthjcmcgmalnfpaaGreatDoorChecked
import Derived.Test.YthjcmcgmalnfpaaGreatDoorShelf
import Derived.Deep.LoopGhost
namespace Go.Proofs.YthjcmcgmalnfpaaGreatDoor.Lex
open Go.RowKit
set_option linter.unusedSimpArgs false
set_option linter.unusedVariables false
/-- The byte at a place. -/
def byteAt (s : ByteArray) (i : Nat) : UInt8 := s.data.toList.getD i 0
theorem byteAt_eq {s : ByteArray} {i : Nat} (h : i < s.size) : byteAt s i = s[i]'h := by
  have hi : i < s.data.toList.length := by simpa using h
  simp [byteAt, List.getD, List.getElem?_eq_getElem hi]
  rfl
/-- The first line feed from a on stands at i. -/
structure FirstLF (s : ByteArray) (a i : Nat) : Prop where
  le : a ≤ i
  lt : i < s.size
  here : byteAt s i = 10
  no : ∀ j, a ≤ j → j < i → byteAt s j ≠ 10
theorem firstLF_or (s : ByteArray) (a : Nat) : (∃ i, FirstLF s a i) ∨ ∀ j, a ≤ j → j < s.size → byteAt s j ≠ 10 := by
  by_cases h : ∃ i, a ≤ i ∧ i < s.size ∧ byteAt s i = 10
  · obtain ⟨i, hi⟩ := h
    induction i using Nat.strongRecOn with
    | _ i ih =>
      by_cases h2 : ∃ j, j < i ∧ a ≤ j ∧ j < s.size ∧ byteAt s j = 10
      · obtain ⟨j, hj, h3⟩ := h2
        exact ih j hj h3
      · exact .inl ⟨i, hi.1, hi.2.1, hi.2.2, fun j h1 h3 h4 => h2 ⟨j, h3, h1, by have := hi.2.1; omega, h4⟩⟩
  · exact .inr fun j h1 h2 h3 => h ⟨j, h1, h2, h3⟩
theorem FirstLF.det {s : ByteArray} {a i j : Nat} (h : FirstLF s a i) (k : FirstLF s a j) : i = j := by
  rcases Nat.lt_trichotomy i j with h1 | h1 | h1
  · exact absurd h.here (k.no i h.le h1)
  · exact h1
  · exact absurd k.here (h.no j k.le h1)
theorem indexByte_first (c : UInt8) : ∀ (l : List UInt8) (i : Nat), l[i]? = some c → (∀ j, j < i → l[j]? ≠ some c) → Lib.indexByte l c = i
  | [], i, h, _ => by simp at h
  | b :: l, 0, h, _ => by
    have : b = c := by simpa using h
    simp [Lib.indexByte, this]
  | b :: l, i + 1, h, hn => by
    have hb : ¬ b = c := fun e => hn 0 (by omega) (by simp [e])
    have ih := indexByte_first c l i (by simpa using h) fun j hj => by have := hn (j + 1) (by omega); simpa using this
    rw [Lib.indexByte, if_neg (by simpa using hb), ih, if_neg (by rw [beq_iff_eq]; omega)]
    rfl
theorem indexByte_none (c : UInt8) : ∀ (l : List UInt8), (∀ j : Nat, l[j]? ≠ some c) → Lib.indexByte l c = -1
  | [], _ => rfl
  | b :: l, hn => by
    have hb : ¬ b = c := fun e => hn 0 (by simp [e])
    have ih := indexByte_none c l fun j => by have := hn (j + 1); simpa using this
    rw [Lib.indexByte, if_neg (by simpa using hb), ih]
    rfl
theorem drop_at (s : ByteArray) (a j : Nat) : (s.extract a s.size).data.toList[j]? = s.data.toList[a + j]? := by
  rw [Lib.extract_to_end, List.getElem?_drop]
theorem at_some {s : ByteArray} {j : Nat} {c : UInt8} (h : s.data.toList[j]? = some c) : j < s.size ∧ byteAt s j = c := by
  have hj := (List.getElem?_eq_some_iff.1 h).1
  exact ⟨by simpa using hj, by simp [byteAt, List.getD, h]⟩
theorem some_at {s : ByteArray} {j : Nat} (h : j < s.size) : s.data.toList[j]? = some (byteAt s j) := by
  have hj : j < s.data.toList.length := by simpa using h
  simp [byteAt, List.getD, List.getElem?_eq_getElem hj]
theorem index_yes {s : ByteArray} {a i : Nat} (h : FirstLF s a i) : Lib.indexByte (s.extract a s.size).data.toList 10 = ((i - a : Nat) : Int) := by
  have h1 := h.le
  refine indexByte_first 10 _ _ ?_ fun j hj he => ?_
  · rw [drop_at, show a + (i - a) = i by omega, some_at h.lt, h.here]
  · rw [drop_at] at he
    exact h.no (a + j) (by omega) (by omega) (at_some he).2
theorem index_no {s : ByteArray} {a : Nat} (h : ∀ j, a ≤ j → j < s.size → byteAt s j ≠ 10) : Lib.indexByte (s.extract a s.size).data.toList 10 = -1 := by
  refine indexByte_none 10 _ fun j he => ?_
  rw [drop_at] at he
  exact h (a + j) (by omega) (at_some he).1 (at_some he).2
theorem take_succ_at {s : ByteArray} {k : Nat} (h : k < s.size) : s.data.toList.take (k + 1) = s.data.toList.take k ++ [byteAt s k] := by
  rw [List.take_add_one, some_at h]
  rfl
end Go.Proofs.YthjcmcgmalnfpaaGreatDoor.Lex
