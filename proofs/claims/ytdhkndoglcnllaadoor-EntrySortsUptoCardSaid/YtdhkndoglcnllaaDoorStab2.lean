/- Sorting that keeps what is equal in its order: sections, runs, passes. -/
import Derived.Test.YtdhkndoglcnllaaDoorStab
namespace Go.Proofs.YtdhkndoglcnllaaDoor.Stab
variable {α : Type} {lt : α → α → Bool}
/-- What lies from place a to place b. -/
def sec (l : List α) (a b : Nat) : List α := (l.drop a).take (b - a)
theorem sec_eq (l : List α) (a b : Nat) : sec l a b = (l.take b).drop a := by rw [sec, List.drop_take]
theorem sec_before {l l' : List α} {a c d : Nat} (h : l'.take a = l.take a) (hd : d ≤ a) : sec l' c d = sec l c d := by
  have e : ∀ l : List α, l.take d = (l.take a).take d := fun l => by rw [List.take_take, Nat.min_eq_left hd]
  rw [sec_eq, sec_eq, e l', e l, h]
theorem sec_after {l l' : List α} {b c d : Nat} (h : l'.drop b = l.drop b) (hb : b ≤ c) : sec l' c d = sec l c d := by
  have e : ∀ l : List α, l.drop c = (l.drop b).drop (c - b) := fun l => by rw [List.drop_drop]; congr 1; omega
  rw [sec, sec, e l', e l, h]
theorem sec_mid (p u q : List α) : sec (p ++ (u ++ q)) p.length (p.length + u.length) = u := by
  rw [sec, List.drop_left, Nat.add_sub_cancel_left, List.take_left]
theorem parts (l : List α) {a b : Nat} (hab : a ≤ b) : l = l.take a ++ (sec l a b ++ l.drop b) := by
  have h1 : sec l a b ++ l.drop b = l.drop a := by
    have := List.take_append_drop (b - a) (l.drop a)
    rw [List.drop_drop, show a + (b - a) = b by omega] at this
    exact this
  rw [h1, List.take_append_drop]
theorem sec_len (l : List α) {a b : Nat} (hb : b ≤ l.length) : (sec l a b).length = b - a := by rw [sec, List.length_take, List.length_drop]; omega
theorem sec_past (l : List α) {a b : Nat} (hb : l.length ≤ b) : sec l a b = l.drop a := by rw [sec, List.take_of_length_le]; rw [List.length_drop]; omega
/-- From a to b it is sorted, all else is as it was. -/
structure On (lt : α → α → Bool) (a b : Nat) (l l' : List α) : Prop where
  len : l'.length = l.length
  pre : l'.take a = l.take a
  post : l'.drop b = l.drop b
  srt : Srt lt (sec l' a b)
  same : Same lt (sec l a b) (sec l' a b)
theorem on_of {p u q x : List α} (hx : Srt lt x) (hl : x.length = u.length) (hs : Same lt u x) : On lt p.length (p.length + u.length) (p ++ (u ++ q)) (p ++ (x ++ q)) := by
  have e : sec (p ++ (x ++ q)) p.length (p.length + u.length) = x := by rw [← hl, sec_mid]
  refine ⟨by simp [hl], by rw [List.take_left, List.take_left], ?_, by rw [e]; exact hx, by rw [sec_mid, e]; exact hs⟩
  rw [← List.append_assoc, ← List.append_assoc, List.drop_left' (by simp [hl]), List.drop_left' (by simp)]
theorem On.all {a b : Nat} {l l' : List α} (h : On lt a b l l') (hab : a ≤ b) : Same lt l l' := by
  have h1 := parts l hab
  have h2 := parts l' hab
  rw [h1, h2, h.pre, h.post]
  exact (Same.refl _).append (h.same.append (Same.refl _))
theorem On.refl {a b : Nat} {l : List α} (h : Srt lt (sec l a b)) : On lt a b l l := ⟨rfl, rfl, rfl, h, Same.refl _⟩
/-- All runs of s are sorted. -/
def Runs (lt : α → α → Bool) (s : Nat) (l : List α) : Prop := ∀ k, Srt lt (sec l (k * s) (k * s + s))
/-- The first q runs of s are sorted. -/
def Upto (lt : α → α → Bool) (s q : Nat) (l : List α) : Prop := ∀ k, k < q → Srt lt (sec l (k * s) (k * s + s))
theorem upto_step {s q : Nat} {l l' : List α} (h : Upto lt s q l) (ho : On lt (q * s) (q * s + s) l l') : Upto lt s (q + 1) l' := fun k hk => by
  by_cases e : k = q
  · subst e; exact ho.srt
  · have h1 : (k + 1) * s ≤ q * s := Nat.mul_le_mul_right s (by omega)
    rw [Nat.add_mul, Nat.one_mul] at h1
    rw [sec_before ho.pre h1]
    exact h k (by omega)
theorem srt_nil_drop {l : List α} {a b : Nat} (h : l.length ≤ a) : Srt lt (sec l a b) := by
  rw [sec, List.drop_of_length_le h]; simp [Srt]
theorem upto_end {s q n : Nat} {l l' : List α} (h : Upto lt s q l) (hn : l.length = n) (hlt : n < q * s + s) (ho : On lt (q * s) n l l') : Runs lt s l' := fun k => by
  by_cases h1 : k < q
  · have h2 : (k + 1) * s ≤ q * s := Nat.mul_le_mul_right s (by omega)
    rw [Nat.add_mul, Nat.one_mul] at h2
    rw [sec_before ho.pre h2]
    exact h k h1
  · by_cases e : k = q
    · subst e
      rw [sec_past _ (by rw [ho.len]; omega), ← sec_past (b := n) _ (by rw [ho.len]; omega)]
      exact ho.srt
    · have h2 : (q + 1) * s ≤ k * s := Nat.mul_le_mul_right s (by omega)
      rw [Nat.add_mul, Nat.one_mul] at h2
      exact srt_nil_drop (by rw [ho.len]; omega)
/-- A pass of merges: the first q runs of twice s are sorted, and the rest in runs of s. -/
structure Pass (lt : α → α → Bool) (s q : Nat) (l : List α) : Prop where
  done : Upto lt (2 * s) q l
  rest : ∀ k, 2 * q ≤ k → Srt lt (sec l (k * s) (k * s + s))
theorem pass_start {s : Nat} {l : List α} (h : Runs lt s l) : Pass lt s 0 l := ⟨fun k hk => by omega, fun k _ => h k⟩
theorem pass_two {s q : Nat} {l : List α} (h : Pass lt s q l) : Srt lt (sec l (q * (2 * s)) (q * (2 * s) + s)) ∧ Srt lt (sec l (q * (2 * s) + s) (q * (2 * s) + 2 * s)) := by
  have e : q * (2 * s) = 2 * q * s := by rw [← Nat.mul_assoc, Nat.mul_comm q 2]
  have h1 := h.rest (2 * q) (Nat.le_refl _)
  have h2 := h.rest (2 * q + 1) (by omega)
  rw [Nat.add_mul, Nat.one_mul] at h2
  rw [e]
  refine ⟨h1, ?_⟩
  rw [show 2 * q * s + 2 * s = 2 * q * s + s + s by omega]
  exact h2
theorem pass_step {s q : Nat} {l l' : List α} (h : Pass lt s q l) (ho : On lt (q * (2 * s)) (q * (2 * s) + 2 * s) l l') : Pass lt s (q + 1) l' := by
  refine ⟨upto_step h.done ho, fun k hk => ?_⟩
  have e : q * (2 * s) + 2 * s = 2 * (q + 1) * s := by
    rw [← Nat.mul_assoc, Nat.mul_comm q 2, Nat.mul_add, Nat.add_mul]
  have h2 : 2 * (q + 1) * s ≤ k * s := Nat.mul_le_mul_right s hk
  rw [sec_after ho.post (by omega)]
  exact h.rest k (by omega)
theorem pass_end {s q n : Nat} {l l' : List α} (h : Pass lt s q l) (hn : l.length = n) (hlt : n < q * (2 * s) + 2 * s) (ho : On lt (q * (2 * s)) n l l') : Runs lt (2 * s) l' := upto_end h.done hn hlt ho
theorem pass_end' {s q n : Nat} {l : List α} (h : Pass lt s q l) (hn : l.length = n) (hlt : n ≤ q * (2 * s) + s) : Srt lt (sec l (q * (2 * s)) n) := by
  have h1 := (pass_two h).1
  rw [sec_past _ (by omega)] at h1
  rw [sec_past _ (by omega)]
  exact h1
theorem runs_all {s : Nat} {l : List α} (h : Runs lt s l) (hs : l.length ≤ s) : Srt lt l := by
  have h1 := h 0
  rw [sec_past _ (by omega)] at h1
  simpa using h1
end Go.Proofs.YtdhkndoglcnllaaDoor.Stab
