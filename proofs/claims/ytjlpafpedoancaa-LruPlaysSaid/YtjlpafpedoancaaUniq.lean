/- Lists without doubles, from the front on: what stands in a list of bounded room. No program here. -/
namespace Go.Proofs.Ytjlpafpedoancaa.Uniq
def uniq : List Int → List Int
  | [] => []
  | x :: l => x :: (uniq l).filter (· ≠ x)
theorem mem_uniq {y : Int} : ∀ {l : List Int}, y ∈ uniq l ↔ y ∈ l
  | [] => Iff.rfl
  | x :: l => by
    simp only [uniq, List.mem_cons, List.mem_filter, mem_uniq (l := l), decide_eq_true_eq]
    by_cases h : y = x <;> simp [h]
theorem nodup_uniq : ∀ l : List Int, (uniq l).Nodup
  | [] => List.nodup_nil
  | x :: l => by
    simp only [uniq, List.nodup_cons, List.mem_filter]
    exact ⟨fun h => by simp at h, (nodup_uniq l).sublist List.filter_sublist⟩
theorem uniq_snoc (x : Int) : ∀ l : List Int, uniq (l ++ [x]) = if x ∈ l then uniq l else uniq l ++ [x]
  | [] => rfl
  | y :: l => by
    simp only [List.cons_append, uniq, uniq_snoc x l, List.mem_cons]
    by_cases h1 : x ∈ l
    · simp [h1]
    · by_cases h2 : x = y
      · subst h2; simp [h1]
      · simp [h1, h2]
theorem uniq_take (p l : List Int) : ∃ r, uniq (p ++ l) = uniq p ++ r := by
  induction l generalizing p with
  | nil => exact ⟨[], by simp⟩
  | cons x l ih =>
    obtain ⟨r, hr⟩ := ih (p ++ [x])
    rw [List.append_assoc] at hr
    simp only [List.cons_append, List.nil_append] at hr
    rw [hr, uniq_snoc]
    split
    · exact ⟨r, rfl⟩
    · exact ⟨x :: r, by simp⟩
theorem filter_take (k : Int) : ∀ (U : List Int) (m : Nat), U.Nodup → ((U.take (m + 1)).filter (· ≠ k)).take m = (U.filter (· ≠ k)).take m
  | [], m, _ => by simp
  | x :: U, m, h => by
    simp only [List.nodup_cons] at h
    simp only [List.take_succ_cons, List.filter_cons]
    by_cases hx : x = k
    · have hk : k ∉ U := by rw [← hx]; exact h.1
      have e : ∀ V : List Int, (∀ y ∈ V, y ∈ U) → V.filter (· ≠ k) = V := fun V hV => List.filter_eq_self.2 fun y hy => by
        simp only [decide_eq_true_eq]; exact fun e1 => hk (by rw [← e1]; exact hV y hy)
      rw [if_neg (by simp [hx]), if_neg (by simp [hx]), e _ (fun y hy => List.mem_of_mem_take hy), e _ (fun _ hy => hy), List.take_take, Nat.min_self]
    · rw [if_pos (by simp [hx]), if_pos (by simp [hx])]
      cases m with
      | zero => simp
      | succ m => simp only [List.take_succ_cons, filter_take k U m h.2]
/-- One more at the front, n at most. -/
theorem step (n : Nat) (hn : 1 ≤ n) (k : Int) (l : List Int) : (k :: ((uniq l).take n).filter (· ≠ k)).take n = (uniq (k :: l)).take n := by
  obtain ⟨m, rfl⟩ : ∃ m, n = m + 1 := ⟨n - 1, by omega⟩
  simp only [uniq, List.take_succ_cons, filter_take k (uniq l) m (nodup_uniq l)]
end Go.Proofs.Ytjlpafpedoancaa.Uniq
