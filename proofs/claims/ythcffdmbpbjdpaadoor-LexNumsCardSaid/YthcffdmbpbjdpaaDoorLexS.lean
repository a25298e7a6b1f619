/- Tokens, in plain words: kind, from, to. No program in sight. -/
import Derived.WalkKit
namespace Go.Proofs.YthcffdmbpbjdpaaDoor.Lex
abbrev Tok := Nat × Nat × Nat
def kd (c : Nat) : Nat := if 97 ≤ c ∧ c ≤ 122 then 1 else if 48 ≤ c ∧ c ≤ 57 then 2 else if c = 40 ∨ c = 41 ∨ c = 44 then 3 else 0
def kb (s : ByteArray) (i : Nat) : Nat := kd (s.data.toList.getD i 0).toNat
/-- The kind of the byte ahead of place i; 0: there is none. -/
def lastK (s : ByteArray) : Nat → Nat
  | 0 => 0
  | i + 1 => kb s i
/-- The tokens of the first i bytes. -/
def toks (s : ByteArray) : Nat → List Tok
  | 0 => []
  | i + 1 => if kb s i = 3 ∨ kb s i ≠ lastK s i then toks s i ++ [(kb s i, i, i + 1)] else (toks s i).dropLast ++ [(((toks s i).getLastD (0, 0, 0)).1, ((toks s i).getLastD (0, 0, 0)).2.1, i + 1)]
theorem toks_new {s : ByteArray} {i : Nat} (h : kb s i = 3 ∨ kb s i ≠ lastK s i) : toks s (i + 1) = toks s i ++ [(kb s i, i, i + 1)] := by
  simp only [toks, if_pos h]
theorem toks_more {s : ByteArray} {i : Nat} (h : ¬ (kb s i = 3 ∨ kb s i ≠ lastK s i)) : toks s (i + 1) = (toks s i).dropLast ++ [(((toks s i).getLastD (0, 0, 0)).1, ((toks s i).getLastD (0, 0, 0)).2.1, i + 1)] := by
  simp only [toks, if_neg h]
/-- Bytes of one kind behind a border are one token. -/
theorem toks_run {s : ByteArray} {i k : Nat} (hk : k ≠ 3) (hb : k ≠ lastK s i) : ∀ j, i < j → (∀ m, i ≤ m → m < j → kb s m = k) → toks s j = toks s i ++ [(k, i, j)] := by
  intro j hij
  obtain ⟨d, rfl⟩ : ∃ d, j = i + 1 + d := ⟨j - (i + 1), by omega⟩
  clear hij
  induction d with
  | zero =>
    intro h
    have h0 := h i (Nat.le_refl _) (by omega)
    rw [Nat.add_zero, toks_new (Or.inr (by rw [h0]; exact hb)), h0]
  | succ d ih =>
    intro h
    have h1 := ih fun m h1 h2 => h m h1 (by omega)
    have h0 : kb s (i + 1 + d) = k := h _ (by omega) (by omega)
    have h2 : lastK s (i + 1 + d) = k := by
      rw [show i + 1 + d = (i + d) + 1 by omega]
      exact h (i + d) (by omega) (by omega)
    rw [show i + 1 + (d + 1) = (i + 1 + d) + 1 by omega, toks_more (by rw [h0, h2]; simp [hk]), h1]
    simp
/-- Tokens that lie one behind the other, from a to b. -/
def chained : Nat → List Tok → Nat → Prop
  | a, [], b => a = b
  | a, x :: l, b => x.2.1 = a ∧ a < x.2.2 ∧ chained x.2.2 l b
theorem chained_snoc {x : Tok} : ∀ {l : List Tok} {a b c : Nat}, chained a l b → x.2.1 = b → b < x.2.2 → x.2.2 = c → chained a (l ++ [x]) c
  | [], a, b, c, h, h1, h2, h3 => by
    simp only [chained] at h
    subst h
    exact ⟨h1, h2, h3⟩
  | y :: l, a, b, c, h, h1, h2, h3 => ⟨h.1, h.2.1, chained_snoc h.2.2 h1 h2 h3⟩
theorem chained_last {x : Tok} : ∀ {l : List Tok} {a c : Nat}, chained a (l ++ [x]) c → ∃ b, chained a l b ∧ x.2.1 = b ∧ b < x.2.2 ∧ x.2.2 = c
  | [], a, c, h => ⟨a, rfl, h.1, h.2.1, h.2.2⟩
  | y :: l, a, c, h => by
    obtain ⟨b, h1, h2⟩ := chained_last h.2.2
    exact ⟨b, ⟨h.1, h.2.1, h1⟩, h2⟩
theorem toks_ne {s : ByteArray} {i : Nat} (hi : 0 < i) : toks s i ≠ [] := by
  obtain ⟨i, rfl⟩ : ∃ j, i = j + 1 := ⟨i - 1, by omega⟩
  simp only [toks]
  split <;> simp
theorem toks_chained {s : ByteArray} : ∀ i, (∀ m, m < i → kb s m ≠ 0) → chained 0 (toks s i) i
  | 0, _ => rfl
  | i + 1, h => by
    have ih := toks_chained i fun m hm => h m (by omega)
    by_cases hc : kb s i = 3 ∨ kb s i ≠ lastK s i
    · rw [toks_new hc]
      exact chained_snoc ih rfl (Nat.lt_succ_self i) rfl
    · rw [toks_more hc]
      have hi : 0 < i := by
        rcases Nat.eq_zero_or_pos i with rfl | hi
        · exact absurd (Or.inr (h 0 (by omega))) hc
        · exact hi
      rcases List.eq_nil_or_concat (toks s i) with h0 | ⟨l, x, hl⟩
      · exact absurd h0 (toks_ne hi)
      · rw [List.concat_eq_append] at hl
        rw [hl] at ih ⊢
        obtain ⟨b, h1, h2, h3, h4⟩ := chained_last ih
        simp only [List.dropLast_concat, List.getLastD_concat]
        exact chained_snoc h1 h2 (by simp only; omega) rfl
end Go.Proofs.YthcffdmbpbjdpaaDoor.Lex
