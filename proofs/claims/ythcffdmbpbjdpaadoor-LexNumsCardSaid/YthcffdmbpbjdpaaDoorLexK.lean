/- The kinds of bytes. -/
import Derived.Test.YthcffdmbpbjdpaaDoorLexS
import Derived.Test.YthcffdmbpbjdpaaDoorChecked
namespace Go.Proofs.YthcffdmbpbjdpaaDoor.Lex
set_option linter.unusedSimpArgs false
theorem kd_1 {c : Nat} (h : 97 ≤ c ∧ c ≤ 122) : kd c = 1 := by unfold kd; rw [if_pos h]
theorem kd_2 {c : Nat} (h : 48 ≤ c ∧ c ≤ 57) : kd c = 2 := by unfold kd; rw [if_neg (by omega), if_pos h]
theorem kd_3 {c : Nat} (h : c = 40 ∨ c = 41 ∨ c = 44) : kd c = 3 := by unfold kd; rw [if_neg (by omega), if_neg (by omega), if_pos h]
theorem kd_0 {c : Nat} (h1 : ¬ (97 ≤ c ∧ c ≤ 122)) (h2 : ¬ (48 ≤ c ∧ c ≤ 57)) (h3 : ¬ (c = 40 ∨ c = 41 ∨ c = 44)) : kd c = 0 := by unfold kd; rw [if_neg h1, if_neg h2, if_neg h3]
theorem lkind (c : Nat) (w : World) : Calls Tryd.prog 11 #[.int .i32 c] w fun e w' => e = .returned (.int .i64 (kd c)) ∧ w = w' := by
  go_enter Tryd.func11, Tryd.ntmps11
  go_wp2
  all_goals go_ret
  all_goals first
    | (have h9 : kd c = 1 := kd_1 (by omega); rw [h9]; exact ⟨rfl, rfl⟩)
    | (have h9 : kd c = 2 := kd_2 (by omega); rw [h9]; exact ⟨rfl, rfl⟩)
    | (have h9 : kd c = 3 := kd_3 (by simp only [beq_iff_eq, beq_eq_false_iff_ne, ne_eq] at *; omega); rw [h9]; exact ⟨rfl, rfl⟩)
    | (have h9 : kd c = 0 := kd_0 (by omega) (by omega) (by omega); rw [h9]; exact ⟨rfl, rfl⟩)
    | (have h9 : kd c = 3 := kd_3 (by omega); rw [h9]; exact ⟨rfl, rfl⟩)
    | (have h9 : kd c = 0 := (by simp only [beq_iff_eq, beq_eq_false_iff_ne, ne_eq] at *; exact kd_0 (by omega) (by omega) (by omega)); rw [h9]; exact ⟨rfl, rfl⟩)
    | (exfalso; simp only [beq_iff_eq, beq_eq_false_iff_ne, ne_eq] at *; omega)
end Go.Proofs.YthcffdmbpbjdpaaDoor.Lex
