/- Sorting that keeps what is equal in its order: the three steps of a merge from the middle, each of them done or left. -/
import Derived.Test.YtdhkndoglcnllaaDoorStab5
namespace Go.Proofs.YtdhkndoglcnllaaDoor.Stab
variable {α : Type} {lt : α → α → Bool}
/-- The sections s .. m and m .. e have changed places (mid is where they meet now). -/
structure Sec1 (l l1 : List α) (s m e mid : Nat) : Prop where
  len : l1.length = l.length
  pre : l1.take s = l.take s
  post : l1.drop e = l.drop e
  x1 : sec l1 s mid = sec l m e
  x2 : sec l1 mid e = sec l s m
theorem sec1_turn {l l1 : List α} {s m e mid : Nat} (h1 : s ≤ m) (h2 : m ≤ e) (hm : mid = s + (e - m)) (h : Turned (rho s m e) l l1) : Sec1 l l1 s m e mid := by
  obtain ⟨p1, p2, p3, p4⟩ := turned_parts h1 h2 h
  subst hm
  exact ⟨h.len, p1, p2, p3, p4⟩
theorem sec1_same {l : List α} {s m e mid : Nat} (h1 : s ≤ m) (h2 : m ≤ e) (hm : mid = s + (e - m)) (h : ¬ (s < m ∧ m < e)) : Sec1 l l s m e mid := by
  refine ⟨rfl, rfl, rfl, ?_, ?_⟩
  · by_cases c : s = m
    · rw [show mid = e by omega, c]
    · rw [sec_nil _ (by omega), sec_nil _ (by omega)]
  · by_cases c : s = m
    · rw [sec_nil _ (by omega), sec_nil _ (by omega)]
    · rw [show mid = s by omega, show e = m by omega]
theorem sec1_two {l l1 : List α} {a s m e mid b : Nat} (h : Sec1 l l1 s m e mid) (h1 : a ≤ s) (h2 : s ≤ m) (h3 : m ≤ e) (h4 : e ≤ b) (hu : Srt lt (sec l a m)) (hv : Srt lt (sec l m b)) : Srt lt (sec l1 a s) ∧ Srt lt (sec l1 s mid) := by
  rw [sec_split l h1 h2] at hu
  rw [sec_split l h3 h4] at hv
  exact ⟨by rw [sec_before h.pre (Nat.le_refl s)]; exact srt_left hu, by rw [h.x1]; exact srt_left hv⟩
theorem two_same {l l1 : List α} {a s m e mid b : Nat} (h : Sec1 l l1 s m e mid) (hm : mid = s + (e - m)) (h1 : a ≤ s) (h2 : s ≤ m) (h3 : m ≤ e) (h4 : e ≤ b) (hu : Srt lt (sec l a m)) (hv : Srt lt (sec l m b)) (c : ¬ (a < s ∧ s < mid)) : On lt a mid l1 l1 := by
  obtain ⟨g1, g2⟩ := sec1_two h h1 h2 h3 h4 hu hv
  refine On.refl ?_
  by_cases e : a = s
  · rw [e]; exact g2
  · rw [show mid = s by omega]; exact g1
theorem sec1_three {l l1 l2 : List α} {a s m e mid b : Nat} (h : Sec1 l l1 s m e mid) (hm : mid = s + (e - m)) (h1 : a ≤ s) (h2 : s ≤ m) (h3 : m ≤ e) (h4 : e ≤ b) (hu : Srt lt (sec l a m)) (hv : Srt lt (sec l m b)) (ho : On lt a mid l1 l2) : Srt lt (sec l2 mid e) ∧ Srt lt (sec l2 e b) := by
  rw [sec_split l h1 h2] at hu
  rw [sec_split l h3 h4] at hv
  refine ⟨?_, ?_⟩
  · rw [sec_after ho.post (Nat.le_refl mid), h.x2]; exact srt_right hu
  · rw [sec_after ho.post (by omega), sec_after h.post (Nat.le_refl e)]; exact srt_right hv
theorem three_same {l l1 l2 : List α} {a s m e mid b : Nat} (h : Sec1 l l1 s m e mid) (hm : mid = s + (e - m)) (h1 : a ≤ s) (h2 : s ≤ m) (h3 : m ≤ e) (h4 : e ≤ b) (hu : Srt lt (sec l a m)) (hv : Srt lt (sec l m b)) (ho : On lt a mid l1 l2) (c : ¬ (mid < e ∧ e < b)) : On lt mid b l2 l2 := by
  obtain ⟨g1, g2⟩ := sec1_three h hm h1 h2 h3 h4 hu hv ho
  refine On.refl ?_
  by_cases k : mid = e
  · rw [k]; exact g2
  · rw [show b = e by omega]; exact g1
theorem sec1_all (ho : Ord lt) {l l1 l2 l3 : List α} {a s m mid e b : Nat} (h : Sec1 l l1 s m e mid) (h1 : a ≤ s) (h2 : s ≤ m) (h3 : m ≤ e) (h4 : e ≤ b) (hb : b ≤ l.length) (hm : mid = s + (e - m))
    (hu : Srt lt (sec l a m)) (hv : Srt lt (sec l m b)) (B1 : a < s → e < b → ∀ x y, l[s - 1]? = some x → l[e]? = some y → lt y x = false) (B2 : s < m → m < e → ∀ x y, l[s]? = some x → l[e - 1]? = some y → lt y x = true)
    (on2 : On lt a mid l1 l2) (on3 : On lt mid b l2 l3) : On lt a b l l3 :=
  merge_on ho h1 h2 h3 h4 hb hm hu hv B1 B2 h.len h.pre h.post h.x1 h.x2 on2 on3
end Go.Proofs.YtdhkndoglcnllaaDoor.Stab
