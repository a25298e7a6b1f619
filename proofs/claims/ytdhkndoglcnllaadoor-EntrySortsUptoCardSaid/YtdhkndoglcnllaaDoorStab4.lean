/- Sorting that keeps what is equal in its order: one element put into a sorted section, from the left and from the right. -/
import Derived.Test.YtdhkndoglcnllaaDoorStab3
namespace Go.Proofs.YtdhkndoglcnllaaDoor.Stab
variable {α : Type} {lt : α → α → Bool}
theorem sec_one {l : List α} {a : Nat} {x : α} (h : l[a]? = some x) : sec l a (a + 1) = [x] := by
  apply List.ext_getElem?
  intro t
  rw [sec_get]
  cases t with
  | zero => rw [if_pos (by omega)]; simpa using h
  | succ t => rw [if_neg (by omega)]; simp
theorem On.trans {a b c : Nat} {l l' l'' : List α} (hab : a ≤ b) (hbc : b ≤ c) (h : On lt a b l l') (k : On lt a c l' l'') : On lt a c l l'' := by
  refine ⟨k.len.trans h.len, k.pre.trans h.pre, ?_, k.srt, ?_⟩
  · have t : ∀ l : List α, l.drop c = (l.drop b).drop (c - b) := fun l => by rw [List.drop_drop]; congr 1; omega
    rw [k.post, t l', h.post, ← t]
  · refine Same.trans ?_ k.same
    rw [sec_split l hab hbc, sec_split l' hab hbc, sec_after h.post (Nat.le_refl b)]
    exact h.same.append (Same.refl _)
/-- The first of a section, put behind those of the sorted rest that are ahead of it. -/
theorem one_left (ho : Ord lt) {l l1 : List α} {a b i : Nat} {x : α} (hx : l[a]? = some x) (h1 : a + 1 ≤ i) (h2 : i ≤ b) (hb : b ≤ l.length) (hv : Srt lt (sec l (a + 1) b))
    (B2 : a + 1 < i → ∀ y, l[i - 1]? = some y → lt y x = true) (B3 : i < b → ∀ y, l[i]? = some y → lt y x = false) (ht : Turned (rho a (a + 1) i) l l1) : On lt a b l l1 := by
  obtain ⟨p1, p2, p3, p4⟩ := turned_parts (by omega) h1 ht
  have e0 := sec_one hx
  have hv' := hv
  rw [sec_split l h1 h2] at hv'
  have hu : Srt lt (sec l a (a + 1)) := by rw [e0]; exact List.pairwise_singleton _ _
  refine merge_on ho (l1 := l1) (l2 := l1) (Nat.le_refl a) (by omega : a ≤ a + 1) h1 h2 hb rfl hu hv (fun h => by omega) (fun _ h x' y e1 e2 => ?_) ht.len p1 p2 p3 p4 (On.refl (by rw [p3]; exact srt_left hv')) (On.refl ?_)
  · rw [hx] at e1
    cases e1
    exact B2 h y e2
  · rw [sec_split l1 (m := i) (by omega) h2, p4, sec_after p2 (Nat.le_refl i)]
    exact List.pairwise_append.2 ⟨hu, srt_right hv', all_le ho hu (srt_right hv') fun x' y e1 e2 => by
      obtain ⟨_, q1⟩ := sec_last l (by omega) e1
      obtain ⟨q2, q3⟩ := sec_head l e2
      rw [Nat.add_sub_cancel, hx] at q1
      cases q1
      exact B3 q2 y q3⟩
/-- The last of a section, put into the sorted rest ahead of those that it is ahead of. -/
theorem one_right (ho : Ord lt) {l l1 : List α} {a m i : Nat} {x : α} (hx : l[m]? = some x) (h1 : a ≤ i) (h2 : i ≤ m) (hu : Srt lt (sec l a m))
    (B1 : a < i → ∀ y, l[i - 1]? = some y → lt x y = false) (B2 : i < m → ∀ y, l[i]? = some y → lt x y = true) (ht : Turned (rho i m (m + 1)) l l1) : On lt a (m + 1) l l1 := by
  obtain ⟨p1, p2, p3, p4⟩ := turned_parts h2 (by omega) ht
  have e0 := sec_one hx
  have hb : m + 1 ≤ l.length := (List.getElem?_eq_some_iff.1 hx).1
  have hu' := hu
  rw [sec_split l h1 h2] at hu'
  have hv : Srt lt (sec l m (m + 1)) := by rw [e0]; exact List.pairwise_singleton _ _
  refine merge_on ho (l1 := l1) (l2 := l1) h1 h2 (by omega : m ≤ m + 1) (Nat.le_refl _) hb rfl hu hv (fun _ h => by omega) (fun h _ x' y e1 e2 => ?_) ht.len p1 p2 p3 p4 (On.refl ?_) (On.refl (by rw [p4]; exact srt_right hu'))
  · rw [Nat.add_sub_cancel, hx] at e2
    cases e2
    exact B2 h x' e1
  · rw [sec_split l1 (m := i) h1 (by omega), p3, sec_before p1 (Nat.le_refl i)]
    exact List.pairwise_append.2 ⟨srt_left hu', hv, all_le ho (srt_left hu') hv fun x' y e1 e2 => by
      obtain ⟨q0, q1⟩ := sec_last l (by omega) e1
      obtain ⟨q2, q3⟩ := sec_head l e2
      rw [hx] at q3
      cases q3
      exact B1 q0 x' q1⟩
/-- One place further in an insertion: neighbours j - 1 and j change places. -/
theorem rho_down {j m t : Nat} (h : j < m) : rho (j + 1) m (m + 1) (sig j (j + 1) 1 t) = rho j m (m + 1) t := by
  unfold sig rho
  repeat' split
  all_goals omega
theorem rho_none {m t : Nat} : rho m m (m + 1) t = t := by
  unfold rho
  repeat' split
  all_goals omega
/-- One place further the other way: neighbours k and k + 1 change places. -/
theorem rho_up {a k t : Nat} (h : a ≤ k) : rho a (a + 1) (k + 1) (sig k (k + 1) 1 t) = rho a (a + 1) (k + 2) t := by
  unfold sig rho
  repeat' split
  all_goals omega
theorem rho_none' {a t : Nat} : rho a (a + 1) (a + 1) t = t := by
  unfold rho
  repeat' split
  all_goals omega
/-- A list whose places i and j have changed. -/
theorem turned_swap {l : List α} {i j : Nat} {x y : α} (hij : i < j) (hx : l[i]? = some x) (hy : l[j]? = some y) : Turned (sig i j 1) l ((l.set i y).set j x) := by
  have hj := (List.getElem?_eq_some_iff.1 hy).1
  have hi := (List.getElem?_eq_some_iff.1 hx).1
  refine ⟨by simp, fun t => ?_⟩
  rw [List.getElem?_set, List.getElem?_set]
  unfold sig
  by_cases e1 : j = t
  · subst e1
    rw [if_pos rfl, if_pos (by simpa using hj), if_neg (by omega), if_neg (by omega), if_neg (by omega), if_pos (by omega), show j - j + i = i by omega, hx]
  · rw [if_neg e1]
    by_cases e2 : i = t
    · subst e2
      rw [if_pos rfl, if_pos hi, if_neg (by omega), if_pos (by omega), show i - i + j = j by omega, hy]
    · rw [if_neg e2]
      congr 1
      repeat' split
      all_goals omega
/-- One pair more of two blocks. -/
theorem sig_step {a b k t : Nat} (h : a + k < b) : sig a b k (sig (a + k) (b + k) 1 t) = sig a b (k + 1) t := by
  unfold sig
  repeat' split
  all_goals omega
theorem sig_none {a b t : Nat} : sig a b 0 t = t := by
  unfold sig
  repeat' split
  all_goals omega
end Go.Proofs.YtdhkndoglcnllaaDoor.Stab
