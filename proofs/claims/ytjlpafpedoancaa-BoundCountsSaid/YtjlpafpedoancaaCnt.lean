/- Counts and runs in a list: what bound's Spent and Longest, and their references, come to. No program here. -/
namespace Go.Proofs.Ytjlpafpedoancaa.Cnt
def cnt (who : Int) : List Int → Nat
  | [] => 0
  | x :: l => (if x = who then 1 else 0) + cnt who l
def run (who : Int) : List Int → Nat
  | [] => 0
  | x :: l => if x = who then 0 else 1 + run who l
def most (who : Int) : List Int → Nat
  | [] => 0
  | x :: l => max (run who (x :: l)) (most who l)
def lp (who : Int) : List Int → Nat → Nat → Nat
  | [], _, b => b
  | x :: l, n, b => if x = who then lp who l 0 b else lp who l (n + 1) (max b (n + 1))
def rf (who : Int) : List Int → Nat → Nat
  | [], b => b
  | x :: l, b => rf who l (max b (run who (x :: l)))
theorem cnt_le (who : Int) (l : List Int) : cnt who l ≤ l.length := by
  induction l with
  | nil => simp [cnt]
  | cons x l ih => simp only [cnt, List.length_cons]; split <;> omega
theorem run_le (who : Int) (l : List Int) : run who l ≤ l.length := by
  induction l with
  | nil => simp [run]
  | cons x l ih => simp only [run, List.length_cons]; split <;> omega
theorem run_most (who : Int) (l : List Int) : run who l ≤ most who l := by
  cases l with
  | nil => simp [run, most]
  | cons x l => simp only [most]; omega
theorem most_le (who : Int) (l : List Int) : most who l ≤ l.length := by
  induction l with
  | nil => simp [most]
  | cons x l ih => have := run_le who (x :: l); simp only [most, List.length_cons] at *; omega
theorem rf_eq (who : Int) (l : List Int) : ∀ b, rf who l b = max b (most who l) := by
  induction l with
  | nil => intro b; simp [rf, most]
  | cons x l ih => intro b; simp only [rf, ih, most]; omega
theorem lp_eq (who : Int) (l : List Int) : ∀ n b, n ≤ b → lp who l n b = max b (max (n + run who l) (most who l)) := by
  induction l with
  | nil => intro n b h; simp only [lp, run, most]; omega
  | cons x l ih =>
    intro n b h
    have h1 := run_most who l
    by_cases hx : x = who
    · simp only [lp, run, most, if_pos hx]; rw [ih 0 b (by omega)]; omega
    · simp only [lp, run, most, if_neg hx]; rw [ih (n + 1) (max b (n + 1)) (by omega)]; omega
theorem lp_zero (who : Int) (l : List Int) : lp who l 0 0 = most who l := by
  rw [lp_eq who l 0 0 (by omega)]; have := run_most who l; omega
theorem drop_cons (zs : List Int) (k : Nat) (h : k < zs.length) : zs.drop k = zs.getD k 0 :: zs.drop (k + 1) := by
  rw [List.drop_eq_getElem_cons h]; simp [List.getD, h]
end Go.Proofs.Ytjlpafpedoancaa.Cnt
