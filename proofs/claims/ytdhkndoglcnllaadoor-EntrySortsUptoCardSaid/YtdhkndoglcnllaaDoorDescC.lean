/- Trees compared: the program's and the reference's. -/
import Derived.Test.YtdhkndoglcnllaaDoorDescM
import Derived.Deep.RegionHeld3
import Derived.Deep.DeepCutAuto
namespace Go.Proofs.YtdhkndoglcnllaaDoor
open Go.RowKit
set_option linter.unusedSimpArgs false
set_option linter.unusedVariables false
def c3 (x y : Int) : Int := if x < y then -1 else if y < x then 1 else 0
theorem c3_lt {x y : Int} (h : x < y) : c3 x y = -1 := by unfold c3; rw [if_pos h]
theorem c3_gt {x y : Int} (h : y < x) : c3 x y = 1 := by unfold c3; rw [if_neg (by omega), if_pos h]
theorem c3_self (x : Int) : c3 x x = 0 := by unfold c3; simp
theorem c3_zero {x y : Int} (h : c3 x y = 0) : x = y := by
  unfold c3 at h
  split at h
  · omega
  · split at h <;> omega
theorem c3_ways (x y : Int) : (x < y ∧ c3 x y = -1) ∨ (y < x ∧ c3 x y = 1) ∨ (x = y ∧ c3 x y = 0) := by
  rcases (by omega : x < y ∨ y < x ∨ x = y) with h | h | h
  · exact .inl ⟨h, c3_lt h⟩
  · exact .inr (.inl ⟨h, c3_gt h⟩)
  · exact .inr (.inr ⟨h, by subst h; exact c3_self x⟩)
def or2 (x y : Int) : Int := if x = 0 then y else x
mutual
def cmpD : DescV → DescV → Int
  | .mk k n l, .mk k' n' l' => or2 (c3 k k') (or2 (c3 n n') (or2 (c3 l.length l'.length) (cmpL l l')))
def cmpL : List DescV → List DescV → Int
  | [], _ => 0
  | _ :: _, [] => 1
  | a :: l, b :: m => or2 (cmpD a b) (cmpL l m)
end
mutual
theorem cmpD_self : ∀ d : DescV, cmpD d d = 0
  | .mk k n l => by rw [cmpD, c3_self, c3_self, c3_self, cmpL_self l]; rfl
theorem cmpL_self : ∀ l : List DescV, cmpL l l = 0
  | [] => by rw [cmpL]
  | a :: l => by rw [cmpL, cmpD_self a, cmpL_self l]; rfl
end
theorem cmpL_drop {l m : List DescV} {i : Nat} (h : i < l.length) (h' : i < m.length) : cmpL (l.drop i) (m.drop i) = or2 (cmpD l[i] m[i]) (cmpL (l.drop (i + 1)) (m.drop (i + 1))) := by
  rw [List.drop_eq_getElem_cons h, List.drop_eq_getElem_cons h', cmpL]
theorem cmpL_end {l m : List DescV} {i : Nat} (h : l.length ≤ i) : cmpL (l.drop i) (m.drop i) = 0 := by
  rw [List.drop_of_length_le h, cmpL]
theorem row_succ {k : Nat} {F : Foot} {w : World} {a : Option Addr} {n c : Nat} {l : List DescV} (h : RowOf (descRd k) 3 40 F w a n c l) {i : Nat} (hi : i < n) : ∃ j, k = j + 1 := by
  cases k with
  | zero =>
    have e := row_no_zero h
    have := h.len
    rw [e] at this
    simp at this
    omega
  | succ j => exact ⟨j, rfl⟩
theorem or2_zero {x y : Int} (h : or2 x y = 0) : x = 0 ∧ y = 0 := by
  unfold or2 at h
  split at h
  · exact ⟨‹_›, h⟩
  · exact absurd h ‹_›
theorem or2_assoc (x y z t : Int) : or2 (or2 x (or2 y z)) t = or2 x (or2 y (or2 z t)) := by
  unfold or2
  by_cases hx : x = 0 <;> by_cases hy : y = 0 <;> by_cases hz : z = 0 <;> simp [hx, hy, hz]
end Go.Proofs.YtdhkndoglcnllaaDoor
