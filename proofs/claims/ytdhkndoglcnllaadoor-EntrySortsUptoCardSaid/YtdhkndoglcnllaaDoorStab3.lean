/- Sorting that keeps what is equal in its order: a merge from the middle, by turning a section round. -/
import Derived.Test.YtdhkndoglcnllaaDoorStab2
namespace Go.Proofs.YtdhkndoglcnllaaDoor.Stab
variable {α : Type} {lt : α → α → Bool}
theorem sec_split (l : List α) {a m b : Nat} (h1 : a ≤ m) (h2 : m ≤ b) : sec l a b = sec l a m ++ sec l m b := by
  have e : (l.drop a).drop (m - a) = l.drop m := by rw [List.drop_drop]; congr 1; omega
  have := List.take_add (l := l.drop a) (i := m - a) (j := b - m)
  rw [e, show m - a + (b - m) = b - a by omega] at this
  exact this
theorem sec_nil (l : List α) {a b : Nat} (h : b ≤ a) : sec l a b = [] := by rw [sec, show b - a = 0 by omega]; rfl
theorem sec_get (l : List α) (a b i : Nat) : (sec l a b)[i]? = if i < b - a then l[a + i]? else none := by
  rw [sec, List.getElem?_take, List.getElem?_drop]
theorem sec_head (l : List α) {a b : Nat} {x : α} (h : (sec l a b).head? = some x) : a < b ∧ l[a]? = some x := by
  rw [List.head?_eq_getElem?, sec_get] at h
  split at h
  · exact ⟨by omega, h⟩
  · cases h
theorem sec_last (l : List α) {a b : Nat} (hb : b ≤ l.length) {x : α} (h : (sec l a b).getLast? = some x) : a < b ∧ l[b - 1]? = some x := by
  rw [List.getLast?_eq_getElem?, sec_get, sec_len l hb] at h
  split at h
  · rw [show a + (b - a - 1) = b - 1 by omega] at h
    exact ⟨by omega, h⟩
  · cases h
theorem srt_left {u v : List α} (h : Srt lt (u ++ v)) : Srt lt u := (List.pairwise_append.1 h).1
theorem srt_right {u v : List α} (h : Srt lt (u ++ v)) : Srt lt v := (List.pairwise_append.1 h).2.1
theorem merge_on (ho : Ord lt) {l l1 l2 l3 : List α} {a s m mid e b : Nat} (h1 : a ≤ s) (h2 : s ≤ m) (h3 : m ≤ e) (h4 : e ≤ b) (hb : b ≤ l.length) (hm : mid = s + (e - m))
    (hu : Srt lt (sec l a m)) (hv : Srt lt (sec l m b)) (B1 : a < s → e < b → ∀ x y, l[s - 1]? = some x → l[e]? = some y → lt y x = false) (B2 : s < m → m < e → ∀ x y, l[s]? = some x → l[e - 1]? = some y → lt y x = true)
    (len1 : l1.length = l.length) (pre1 : l1.take s = l.take s) (post1 : l1.drop e = l.drop e) (x1 : sec l1 s mid = sec l m e) (x2 : sec l1 mid e = sec l s m)
    (on2 : On lt a mid l1 l2) (on3 : On lt mid b l2 l3) : On lt a b l l3 := by
  have hse : s ≤ mid := by omega
  have hme : mid ≤ e := by omega
  have eu := sec_split l h1 h2
  have ev := sec_split l h3 h4
  rw [eu] at hu
  rw [ev] at hv
  have e1 : sec l1 a mid = sec l a s ++ sec l m e := by rw [sec_split l1 h1 hse, sec_before pre1 (Nat.le_refl s), x1]
  have e2 : sec l2 mid b = sec l s m ++ sec l e b := by rw [sec_after on2.post (Nat.le_refl mid), sec_split l1 hme h4, x2, sec_after post1 (Nat.le_refl e)]
  have e3 : sec l3 a mid = sec l2 a mid := sec_before on3.pre (Nat.le_refl mid)
  have k2 := on2.same
  have k3 := on3.same
  rw [e1] at k2
  rw [e2] at k3
  obtain ⟨g1, g2⟩ := merge_step ho hu hv
    (all_lt ho (srt_left hv) (srt_right hu) fun y x hy hx => by
      obtain ⟨p1, p2⟩ := sec_last l (by omega) hy
      obtain ⟨p3, p4⟩ := sec_head l hx
      exact B2 p3 p1 x y p4 p2)
    (all_le ho (srt_left hu) (srt_right hv) fun x y hx hy => by
      obtain ⟨p1, p2⟩ := sec_last l (by omega) hx
      obtain ⟨p3, p4⟩ := sec_head l hy
      exact B1 p1 p3 x y p2 p4) on2.srt k2 on3.srt k3
  have e4 : sec l3 a b = sec l2 a mid ++ sec l3 mid b := by rw [sec_split l3 (m := mid) (by omega) (by omega), e3]
  have pre : l3.take a = l.take a := by
    have t : ∀ l : List α, l.take a = (l.take s).take a := fun l => by rw [List.take_take, Nat.min_eq_left h1]
    have t' : ∀ l : List α, l.take a = (l.take mid).take a := fun l => by rw [List.take_take, Nat.min_eq_left (by omega)]
    rw [t' l3, on3.pre, ← t', on2.pre, t l1, pre1, ← t]
  have post : l3.drop b = l.drop b := by
    have t : ∀ l : List α, l.drop b = (l.drop e).drop (b - e) := fun l => by rw [List.drop_drop]; congr 1; omega
    have t' : ∀ l : List α, l.drop b = (l.drop mid).drop (b - mid) := fun l => by rw [List.drop_drop]; congr 1; omega
    rw [on3.post, t' l2, on2.post, ← t', t l1, post1, ← t]
  refine ⟨by rw [on3.len, on2.len, len1], pre, post, by rw [e4]; exact g1, ?_⟩
  rw [e4, sec_split l (m := m) (by omega) (by omega), eu, ev]
  exact g2
/-- Where what lies at place t came from, when the sections a .. m and m .. b have changed places. -/
def rho (a m b t : Nat) : Nat := if t < a then t else if t < a + (b - m) then t - a + m else if t < b then t - (b - m) else t
/-- The same, when n places from a on and n places from b on have changed places. -/
def sig (a b n t : Nat) : Nat := if t < a then t else if t < a + n then t - a + b else if t < b then t else if t < b + n then t - b + a else t
structure Turned (f : Nat → Nat) (l l' : List α) : Prop where
  len : l'.length = l.length
  at_ : ∀ t, l'[t]? = l[f t]?
theorem Turned.trans {f g : Nat → Nat} {l l' l'' : List α} (h : Turned f l l') (k : Turned g l' l'') : Turned (fun t => f (g t)) l l'' := ⟨k.len.trans h.len, fun t => (k.at_ t).trans (h.at_ _)⟩
theorem Turned.congr {f g : Nat → Nat} {l l' : List α} (h : Turned f l l') (e : ∀ t, f t = g t) : Turned g l l' := ⟨h.len, fun t => by rw [h.at_, e]⟩
theorem rho_left {i j m t : Nat} (h : j < i) (hi : i ≤ m) : sig (m - i) m j (rho (m - i + j) m (m + j) t) = rho (m - i) m (m + j) t := by
  unfold sig rho
  repeat' split
  all_goals omega
theorem rho_right {i j m t : Nat} (h : i < j) (hi : i ≤ m) : sig (m - i) (m + j - i) i (rho (m - i) m (m + j - i) t) = rho (m - i) m (m + j) t := by
  unfold sig rho
  repeat' split
  all_goals omega
theorem rho_last {i m t : Nat} (hi : i ≤ m) : sig (m - i) m i t = rho (m - i) m (m + i) t := by
  unfold sig rho
  repeat' split
  all_goals omega
theorem turned_parts {l l' : List α} {a m b : Nat} (h1 : a ≤ m) (h2 : m ≤ b) (h : Turned (rho a m b) l l') :
    l'.take a = l.take a ∧ l'.drop b = l.drop b ∧ sec l' a (a + (b - m)) = sec l m b ∧ sec l' (a + (b - m)) b = sec l a m := by
  refine ⟨List.ext_getElem? fun t => ?_, List.ext_getElem? fun t => ?_, List.ext_getElem? fun t => ?_, List.ext_getElem? fun t => ?_⟩
  · rw [List.getElem?_take, List.getElem?_take]
    split
    · rw [h.at_]; congr 1; unfold rho; split <;> omega
    · rfl
  · rw [List.getElem?_drop, List.getElem?_drop, h.at_]
    congr 1
    unfold rho
    repeat' split
    all_goals omega
  · rw [sec_get, sec_get]
    by_cases hc : t < b - m
    · rw [if_pos (by omega), if_pos hc, h.at_]
      congr 1
      unfold rho
      repeat' split
      all_goals omega
    · rw [if_neg (by omega), if_neg hc]
  · rw [sec_get, sec_get]
    by_cases hc : t < m - a
    · rw [if_pos (by omega), if_pos hc, h.at_]
      congr 1
      unfold rho
      repeat' split
      all_goals omega
    · rw [if_neg (by omega), if_neg hc]
end Go.Proofs.YtdhkndoglcnllaaDoor.Stab
