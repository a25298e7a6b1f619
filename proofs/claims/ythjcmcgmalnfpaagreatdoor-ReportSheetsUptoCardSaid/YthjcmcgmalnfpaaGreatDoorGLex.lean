/- NumS, LexS, LexK, LexM: laid into one text. -/
import Derived.Lib.ItoaNum
import Derived.Lib.Atoi
import Derived.WalkKit
import Derived.Test.YthjcmcgmalnfpaaGreatDoorChecked
import Derived.Test.YthjcmcgmalnfpaaGreatDoorMem2
import Derived.Lib.OthersKept
/- Numbers as digits, in plain words. No program in sight. -/
namespace Go.Proofs.YthjcmcgmalnfpaaGreatDoor.Lex
theorem decFrom_append (a : Nat) (l r : List UInt8) : Lib.decFrom a (l ++ r) = (Lib.decFrom a l).bind fun m => Lib.decFrom m r := by
  induction l generalizing a with
  | nil => rfl
  | cons b l ih =>
    simp only [List.cons_append, Lib.decFrom]
    cases Lib.digitVal b with
    | none => rfl
    | some d => exact ih _
theorem digitVal_dig {d : Nat} (h : d < 10) : Lib.digitVal (UInt8.ofNat (48 + d)) = some d := by
  have e : (UInt8.ofNat (48 + d)).toNat = 48 + d := by simp [UInt8.toNat_ofNat']; omega
  unfold Lib.digitVal
  rw [e, if_pos ⟨by omega, by omega⟩]
  congr 1
  omega
theorem decDigits_small {u : Nat} (h : u < 10) : Lib.decDigits u = [UInt8.ofNat (48 + u)] := by rw [Lib.decDigits, dif_pos h]
theorem decDigits_big {u : Nat} (h : ¬ u < 10) : Lib.decDigits u = Lib.decDigits (u / 10) ++ [UInt8.ofNat (48 + u % 10)] := by rw [Lib.decDigits, dif_neg h]
theorem decFrom_digits (n : Nat) : Lib.decFrom 0 (Lib.decDigits n) = some n := by
  induction n using Nat.strongRecOn with
  | _ n ih =>
    by_cases h : n < 10
    · rw [decDigits_small h]
      simp only [Lib.decFrom, digitVal_dig h]
      congr 1
      omega
    · rw [decDigits_big h, decFrom_append, ih (n / 10) (by omega)]
      simp only [Option.bind_some, Lib.decFrom, digitVal_dig (show n % 10 < 10 by omega)]
      congr 1
      omega
theorem decDigits_ne (n : Nat) : Lib.decDigits n ≠ [] := by
  by_cases h : n < 10
  · rw [decDigits_small h]; simp
  · rw [decDigits_big h]; simp
theorem decDigits_head (n : Nat) (hn : 0 < n) : (Lib.decDigits n)[0]? ≠ some 48 := by
  induction n using Nat.strongRecOn with
  | _ n ih =>
    by_cases h : n < 10
    · rw [decDigits_small h]
      simp only [List.getElem?_cons_zero, ne_eq, Option.some.injEq]
      intro e
      have := congrArg UInt8.toNat e
      simp [UInt8.toNat_ofNat'] at this
      omega
    · rw [decDigits_big h]
      have := ih (n / 10) (by omega) (by omega)
      rw [List.getElem?_append_left]
      · exact this
      · exact List.length_pos_iff.2 (decDigits_ne _)
theorem nDigits_le (k : Nat) : ∀ u, u < 10 ^ (k + 1) → Lib.nDigits u ≤ k + 1 := by
  induction k with
  | zero => intro u h; rw [Lib.nDigits_small (by simpa using h)]; exact Nat.le_refl _
  | succ k ih =>
    intro u h
    by_cases h10 : u < 10
    · rw [Lib.nDigits_small h10]; omega
    · rw [Lib.nDigits_big h10]
      have := ih (u / 10) (by rw [Nat.pow_succ] at h; omega)
      omega
/-- The number that a text of digits is: nine at most, no nought ahead of others. -/
def numOf (l : List UInt8) : Option Nat := if l.length = 0 ∨ 9 < l.length ∨ (l[0]? = some 48 ∧ 1 < l.length) then none else Lib.decFrom 0 l
theorem numOf_digits {n : Nat} (h : n ≤ 999999999) : numOf (Lib.decDigits n) = some n := by
  have hl : (Lib.decDigits n).length ≤ 9 := by
    rw [Lib.decDigits_length]
    exact nDigits_le 8 n (by omega)
  have h0 : (Lib.decDigits n).length ≠ 0 := fun e => decDigits_ne n (List.eq_nil_of_length_eq_zero e)
  rw [numOf, if_neg, decFrom_digits]
  rintro (h1 | h1 | ⟨h1, h2⟩)
  · exact h0 h1
  · omega
  · rcases Nat.eq_zero_or_pos n with rfl | hn
    · rw [decDigits_small (by omega)] at h2
      simp at h2
    · exact decDigits_head n hn h1
theorem numOf_lt {l : List UInt8} {n : Nat} (h : numOf l = some n) : n < 1000000000 ∧ l.length ≤ 9 ∧ 0 < l.length := by
  unfold numOf at h
  split at h
  · cases h
  · rename_i hc
    have h1 := Lib.decFrom_lt l 0 n h
    have h9 : l.length ≤ 9 := by omega
    have : 10 ^ l.length ≤ 10 ^ 9 := Nat.pow_le_pow_right (by omega) h9
    exact ⟨by omega, h9, by omega⟩
end Go.Proofs.YthjcmcgmalnfpaaGreatDoor.Lex
/- Tokens, in plain words: kind, from, to. No program in sight. -/
namespace Go.Proofs.YthjcmcgmalnfpaaGreatDoor.Lex
abbrev Tok := Nat × Nat × Nat
def kd (c : Nat) : Nat := if 97 ≤ c ∧ c ≤ 122 then 1 else if 48 ≤ c ∧ c ≤ 57 then 2 else if c = 40 ∨ c = 41 ∨ c = 44 then 3 else 0
def kb (s : ByteArray) (i : Nat) : Nat := kd (s.data.toList.getD i 0).toNat
/-- The kind of the byte ahead of place i; 0: there is none. -/
def lastK (s : ByteArray) : Nat → Nat
  | 0 => 0
  | i + 1 => kb s i
/-- The tokens of the first i bytes. -/
def toks (s : ByteArray) : Nat → List Tok
  | 0 => []
  | i + 1 => if kb s i = 3 ∨ kb s i ≠ lastK s i then toks s i ++ [(kb s i, i, i + 1)] else (toks s i).dropLast ++ [(((toks s i).getLastD (0, 0, 0)).1, ((toks s i).getLastD (0, 0, 0)).2.1, i + 1)]
theorem toks_new {s : ByteArray} {i : Nat} (h : kb s i = 3 ∨ kb s i ≠ lastK s i) : toks s (i + 1) = toks s i ++ [(kb s i, i, i + 1)] := by
  simp only [toks, if_pos h]
theorem toks_more {s : ByteArray} {i : Nat} (h : ¬ (kb s i = 3 ∨ kb s i ≠ lastK s i)) : toks s (i + 1) = (toks s i).dropLast ++ [(((toks s i).getLastD (0, 0, 0)).1, ((toks s i).getLastD (0, 0, 0)).2.1, i + 1)] := by
  simp only [toks, if_neg h]
/-- Bytes of one kind behind a border are one token. -/
theorem toks_run {s : ByteArray} {i k : Nat} (hk : k ≠ 3) (hb : k ≠ lastK s i) : ∀ j, i < j → (∀ m, i ≤ m → m < j → kb s m = k) → toks s j = toks s i ++ [(k, i, j)] := by
  intro j hij
  obtain ⟨d, rfl⟩ : ∃ d, j = i + 1 + d := ⟨j - (i + 1), by omega⟩
  clear hij
  induction d with
  | zero =>
    intro h
    have h0 := h i (Nat.le_refl _) (by omega)
    rw [Nat.add_zero, toks_new (Or.inr (by rw [h0]; exact hb)), h0]
  | succ d ih =>
    intro h
    have h1 := ih fun m h1 h2 => h m h1 (by omega)
    have h0 : kb s (i + 1 + d) = k := h _ (by omega) (by omega)
    have h2 : lastK s (i + 1 + d) = k := by
      rw [show i + 1 + d = (i + d) + 1 by omega]
      exact h (i + d) (by omega) (by omega)
    rw [show i + 1 + (d + 1) = (i + 1 + d) + 1 by omega, toks_more (by rw [h0, h2]; simp [hk]), h1]
    simp
/-- Tokens that lie one behind the other, from a to b. -/
def chained : Nat → List Tok → Nat → Prop
  | a, [], b => a = b
  | a, x :: l, b => x.2.1 = a ∧ a < x.2.2 ∧ chained x.2.2 l b
theorem chained_snoc {x : Tok} : ∀ {l : List Tok} {a b c : Nat}, chained a l b → x.2.1 = b → b < x.2.2 → x.2.2 = c → chained a (l ++ [x]) c
  | [], a, b, c, h, h1, h2, h3 => by
    simp only [chained] at h
    subst h
    exact ⟨h1, h2, h3⟩
  | y :: l, a, b, c, h, h1, h2, h3 => ⟨h.1, h.2.1, chained_snoc h.2.2 h1 h2 h3⟩
theorem chained_last {x : Tok} : ∀ {l : List Tok} {a c : Nat}, chained a (l ++ [x]) c → ∃ b, chained a l b ∧ x.2.1 = b ∧ b < x.2.2 ∧ x.2.2 = c
  | [], a, c, h => ⟨a, rfl, h.1, h.2.1, h.2.2⟩
  | y :: l, a, c, h => by
    obtain ⟨b, h1, h2⟩ := chained_last h.2.2
    exact ⟨b, ⟨h.1, h.2.1, h1⟩, h2⟩
theorem toks_ne {s : ByteArray} {i : Nat} (hi : 0 < i) : toks s i ≠ [] := by
  obtain ⟨i, rfl⟩ : ∃ j, i = j + 1 := ⟨i - 1, by omega⟩
  simp only [toks]
  split <;> simp
theorem toks_chained {s : ByteArray} : ∀ i, (∀ m, m < i → kb s m ≠ 0) → chained 0 (toks s i) i
  | 0, _ => rfl
  | i + 1, h => by
    have ih := toks_chained i fun m hm => h m (by omega)
    by_cases hc : kb s i = 3 ∨ kb s i ≠ lastK s i
    · rw [toks_new hc]
      exact chained_snoc ih rfl (Nat.lt_succ_self i) rfl
    · rw [toks_more hc]
      have hi : 0 < i := by
        rcases Nat.eq_zero_or_pos i with rfl | hi
        · exact absurd (Or.inr (h 0 (by omega))) hc
        · exact hi
      rcases List.eq_nil_or_concat (toks s i) with h0 | ⟨l, x, hl⟩
      · exact absurd h0 (toks_ne hi)
      · rw [List.concat_eq_append] at hl
        rw [hl] at ih ⊢
        obtain ⟨b, h1, h2, h3, h4⟩ := chained_last ih
        simp only [List.dropLast_concat, List.getLastD_concat]
        exact chained_snoc h1 h2 (by simp only; omega) rfl
end Go.Proofs.YthjcmcgmalnfpaaGreatDoor.Lex
/- The kinds of bytes. -/
namespace Go.Proofs.YthjcmcgmalnfpaaGreatDoor.Lex
set_option linter.unusedSimpArgs false
theorem kd_1 {c : Nat} (h : 97 ≤ c ∧ c ≤ 122) : kd c = 1 := by unfold kd; rw [if_pos h]
theorem kd_2 {c : Nat} (h : 48 ≤ c ∧ c ≤ 57) : kd c = 2 := by unfold kd; rw [if_neg (by omega), if_pos h]
theorem kd_3 {c : Nat} (h : c = 40 ∨ c = 41 ∨ c = 44) : kd c = 3 := by unfold kd; rw [if_neg (by omega), if_neg (by omega), if_pos h]
theorem kd_0 {c : Nat} (h1 : ¬ (97 ≤ c ∧ c ≤ 122)) (h2 : ¬ (48 ≤ c ∧ c ≤ 57)) (h3 : ¬ (c = 40 ∨ c = 41 ∨ c = 44)) : kd c = 0 := by unfold kd; rw [if_neg h1, if_neg h2, if_neg h3]
end Go.Proofs.YthjcmcgmalnfpaaGreatDoor.Lex
/- Rows of structs of three cells: an append of one, a store into one. Plain memory. -/
namespace Go.Proofs.YthjcmcgmalnfpaaGreatDoor
open Go.RowKit
set_option linter.unusedSimpArgs false
set_option linter.unusedVariables false
/-- 'append(out, T{u0, u1, u2})', out the call's own: behind the block that holds the struct. -/
theorem wpl_app3 {P : Program} {W w0 : World} {ops : Array Oper} {rest : List Oper} {o : Oper} {a : Act} {Q : Exit → Act → World → Prop} (hgd : o.guard = none) (s x : Operand) (t : TypeId)
    (ho : o.op = .call { callee := .builtin .append, args := #[s, x], argTypes := #[t, t] })
    {base B : Nat} {e : TypeId} {bytes : Nat} (E : Elem P t e 3 bytes) (v : Value) (n : Nat) (xs : List Value) (hs : a.eval s = v) (u0 u1 u2 : Value) (hx : a.eval x = .slice (some ⟨W.heap.size, 0, none⟩) 1 1) (hu : ∀ u ∈ [u0, u1, u2], u.oneCell' = true)
    (hown : W.ownsRow base e 3 v n xs) (hB : Below B w0 W) (hBb : B ≤ base) (hbase : base ≤ W.heap.size) (hn : (n + 1) * bytes ≤ 140737488355328) (hm : n + 1 ≤ maxLen)
    (h : ∀ v' w', w'.ownsRow base e 3 v' (n + 1) (xs ++ [u0, u1, u2]) → Below B w0 w' → W.grownBy w' v.ownBlock → wpList P ops Q rest (a.put o.dst v') w') : wpList P ops Q (o :: rest) a (W.alloc (.cells #[u0, u1, u2] e)) := by
  refine wpl_append hgd s x t ho E v n xs hs (some ⟨W.heap.size, 0, none⟩) 1 1 [u0, u1, u2] hx (hown.alloc _) ⟨rfl, by simp, fun y hy j z hz => ?_, hu⟩ hm hn (by simp; omega) fun v' w' h1 h2 _ => h v' w' h1 ?_ (grown_trans (World.grownBy_alloc W _ _) h2)
  · cases hy
    rw [Addr.add_lit, Nat.zero_add]
    exact cell_at (heap_alloc_new W _) (by simpa using hz)
  · exact (hB.alloc (by omega) _).grown h2 (by simp; omega) (fun k hk => by have := own_lt hown k hk; omega)
/-- A store into a row of the call's own. -/
theorem own_set {w : World} {base : Nat} {e : TypeId} {size g cap n : Nat} {xs : List Value} (h : w.ownsRow base e size (.slice (some ⟨g, 0, none⟩) n cap) n xs) (i : Nat) (hi : i < n * size) (u : Value) :
    (w.setCell ⟨g, i, none⟩ u).ownsRow base e size (.slice (some ⟨g, 0, none⟩) n cap) n (xs.set i u) := by
  refine ⟨by simpa using h.1, .inr ?_⟩
  rcases h.2 with ⟨h1, _⟩ | ⟨g', cap', cur, h1, hb, hg, hn, hm, hs, ht⟩
  · cases h1
  · cases h1
    refine ⟨g, cap, cur.setIfInBounds i u, rfl, hb, heap_set_at u hg, hn, hm, by simpa using hs, ?_⟩
    rw [Array.toList_setIfInBounds, List.take_set, ht]
theorem grown_obj {W w3 : World} {base : Nat} {e : TypeId} {size : Nat} {v : Value} {n : Nat} {xs : List Value} (h : W.ownsRow base e size v n xs) (hg : W.grownBy w3 v.ownBlock) {k : Nat} {o : Obj} (hit : W.heap[k]? = some o) (hk : k < base) : w3.heap[k]? = some o := by
  rw [hg.block k (Array.getElem?_eq_some_iff.1 hit).1 (fun e => by have := own_lt h k e.symm; omega)]
  exact hit
theorem set_mid (xs : List Value) (a b c u : Value) : (xs ++ [a, b, c]).set (xs.length + 1) u = xs ++ [a, u, c] := by
  rw [List.set_append_right _ _ (by omega)]
  simp
theorem own_some {w : World} {base : Nat} {e : TypeId} {size n : Nat} {v : Value} {xs : List Value} (h : w.ownsRow base e size v n xs) (hn : 0 < n) : ∃ g cap, v = .slice (some ⟨g, 0, none⟩) n cap ∧ base ≤ g ∧ g < w.heap.size ∧ n ≤ cap ∧ cap ≤ maxLen := by
  rcases h.2 with ⟨_, h1⟩ | ⟨g', cap', cur, h1, hb, hg, hn, hm, hs, ht⟩
  · omega
  · exact ⟨g', cap', h1, hb, (Array.getElem?_eq_some_iff.1 hg).1, hn, hm⟩
theorem own_cell {w : World} {base : Nat} {e : TypeId} {size g cap n : Nat} {xs : List Value} (h : w.ownsRow base e size (.slice (some ⟨g, 0, none⟩) n cap) n xs) {i : Nat} {u : Value} (hi : xs[i]? = some u) :
    w.cell? ⟨g, i, none⟩ = some u ∧ w.frozen? ⟨g, i, none⟩ = false := by
  rcases h.2 with ⟨h1, _⟩ | ⟨g', cap', cur, h1, hb, hg, hn, hm, hs, ht⟩
  · cases h1
  · cases h1
    have hi' := (List.getElem?_eq_some_iff.1 hi).1
    rw [h.1] at hi'
    refine ⟨cell_at hg ?_, free_at hg⟩
    rw [← ht, List.getElem?_take, if_pos hi'] at hi
    simpa using hi
end Go.Proofs.YthjcmcgmalnfpaaGreatDoor
