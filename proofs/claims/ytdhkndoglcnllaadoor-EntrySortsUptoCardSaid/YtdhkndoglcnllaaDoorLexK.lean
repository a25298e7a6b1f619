/- The kinds of bytes. -/
import Derived.Test.YtdhkndoglcnllaaDoorLexS
import Derived.Test.YtdhkndoglcnllaaDoorChecked
namespace Go.Proofs.YtdhkndoglcnllaaDoor.Lex
set_option linter.unusedSimpArgs false
theorem kd_1 {c : Nat} (h : 97 ≤ c ∧ c ≤ 122) : kd c = 1 := by unfold kd; rw [if_pos h]
theorem kd_2 {c : Nat} (h : 48 ≤ c ∧ c ≤ 57) : kd c = 2 := by unfold kd; rw [if_neg (by omega), if_pos h]
theorem kd_3 {c : Nat} (h : c = 40 ∨ c = 41 ∨ c = 44) : kd c = 3 := by unfold kd; rw [if_neg (by omega), if_neg (by omega), if_pos h]
theorem kd_0 {c : Nat} (h1 : ¬ (97 ≤ c ∧ c ≤ 122)) (h2 : ¬ (48 ≤ c ∧ c ≤ 57)) (h3 : ¬ (c = 40 ∨ c = 41 ∨ c = 44)) : kd c = 0 := by unfold kd; rw [if_neg h1, if_neg h2, if_neg h3]
end Go.Proofs.YtdhkndoglcnllaaDoor.Lex
