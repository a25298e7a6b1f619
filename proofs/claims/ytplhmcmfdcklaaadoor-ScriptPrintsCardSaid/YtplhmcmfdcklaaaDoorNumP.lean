/- Numbers as texts and back: plain Lean, no program. -/
import Derived.Lib.AtoiAll
import Derived.Lib.ItoaNum
import Derived.Lib.ParseIntB
namespace Go.Proofs.YtplhmcmfdcklaaaDoor.Lex
open Go.Lib
theorem parseUint10_snoc (c : UInt8) (hc : 48 ≤ c.toNat ∧ c.toNat ≤ 57) : ∀ (l : List UInt8) (acc v : Nat), parseUint10 acc l = .ok v → v * 10 + (c.toNat - 48) < 18446744073709551616 → parseUint10 acc (l ++ [c]) = .ok (v * 10 + (c.toNat - 48))
  | [], acc, v, h, hv => by
    simp only [parseUint10] at h
    injection h with h
    subst h
    rw [List.nil_append, parseUint10, if_pos hc, if_neg (by omega), if_neg (by omega), parseUint10]
  | d :: r, acc, v, h, hv => by
    rw [List.cons_append, parseUint10]
    rw [parseUint10] at h
    by_cases h1 : 48 ≤ d.toNat ∧ d.toNat ≤ 57
    · rw [if_pos h1] at h ⊢
      by_cases h2 : 1844674407370955162 ≤ acc
      · rw [if_pos h2] at h; cases h
      · rw [if_neg h2] at h ⊢
        by_cases h3 : 18446744073709551616 ≤ acc * 10 + (d.toNat - 48)
        · rw [if_pos h3] at h; cases h
        · rw [if_neg h3] at h ⊢
          exact parseUint10_snoc c hc r _ v h hv
    · rw [if_neg h1] at h; cases h
theorem digit_toNat {d : Nat} (h : d < 10) : (UInt8.ofNat (48 + d)).toNat = 48 + d := by
  rw [UInt8.toNat_ofNat']
  omega
theorem parseUint10_dec (u : Nat) (h : u < 18446744073709551616) : parseUint10 0 (decDigits u) = .ok u := by
  induction u using Nat.strongRecOn with
  | ind u ih =>
    rw [decDigits]
    split
    · next hu =>
      have e := digit_toNat hu
      have := parseUint10_snoc (UInt8.ofNat (48 + u)) (by omega) [] 0 0 rfl (by omega)
      rw [List.nil_append] at this
      rw [this, e]
      simp
    · next hu =>
      have e := digit_toNat (Nat.mod_lt u (by omega : 0 < 10))
      have := parseUint10_snoc (UInt8.ofNat (48 + u % 10)) (by omega) (decDigits (u / 10)) 0 (u / 10) (ih _ (by omega) (by omega)) (by omega)
      rw [this, e]
      congr 1
      omega
theorem dec_ne (u : Nat) : decDigits u ≠ [] := by
  rw [decDigits]
  split <;> simp
theorem dec_digit : ∀ (u : Nat) (c : UInt8), c ∈ decDigits u → 48 ≤ c.toNat ∧ c.toNat ≤ 57 := by
  intro u
  induction u using Nat.strongRecOn with
  | ind u ih =>
    intro c hc
    rw [decDigits] at hc
    split at hc
    · next hu =>
      rw [List.mem_singleton] at hc
      subst hc
      have e := digit_toNat hu
      omega
    · next hu =>
      rcases List.mem_append.1 hc with hc | hc
      · exact ih _ (by omega) c hc
      · rw [List.mem_singleton] at hc
        subst hc
        have e := digit_toNat (Nat.mod_lt u (by omega : 0 < 10))
        omega
theorem parseMag_dec (u : Nat) (h : u < 18446744073709551616) : parseMag (decDigits u) = .ok u := by
  unfold parseMag
  rw [if_neg (dec_ne u), parseUint10_dec u h]
def InI' (n : Int) : Prop := -9223372036854775808 ≤ n ∧ n ≤ 9223372036854775807
theorem atoiAll_itoa {n : Int} (h : -9223372036854775808 ≤ n ∧ n ≤ 9223372036854775807) : atoiAll (itoa n) = .ok n := by
  unfold itoa
  by_cases hn : n < 0
  · rw [if_pos hn]
    unfold atoiAll
    have e : parseMag (if (45 : UInt8).toNat = 43 ∨ (45 : UInt8).toNat = 45 then decDigits n.natAbs else 45 :: decDigits n.natAbs) = .ok n.natAbs := by
      rw [if_pos (by decide)]
      exact parseMag_dec _ (by omega)
    simp only [e]
    rw [if_neg (by simp), if_neg (by simp; omega), if_pos (by decide)]
    congr 1
    omega
  · rw [if_neg hn]
    obtain ⟨c, r, hcr⟩ : ∃ c r, decDigits n.toNat = c :: r := by
      cases hd : decDigits n.toNat with
      | nil => exact absurd hd (dec_ne _)
      | cons c r => exact ⟨c, r, rfl⟩
    have hc := dec_digit n.toNat c (by rw [hcr]; simp)
    rw [hcr]
    unfold atoiAll
    have e : parseMag (if c.toNat = 43 ∨ c.toNat = 45 then r else c :: r) = .ok n.toNat := by
      rw [if_neg (by omega), ← hcr]
      exact parseMag_dec _ (by omega)
    simp only [e]
    rw [if_neg (by omega), if_neg (by omega), if_neg (by omega)]
    congr 1
    omega
theorem atoiAll_in {l : List UInt8} {n : Int} (h : atoiAll l = .ok n) : -9223372036854775808 ≤ n ∧ n ≤ 9223372036854775807 := by
  cases l with
  | nil => cases h
  | cons c r =>
    unfold atoiAll at h
    revert h
    simp only
    cases parseMag (if c.toNat = 43 ∨ c.toNat = 45 then r else c :: r) with
    | ok u =>
      intro h
      simp only at h
      by_cases h1 : ¬ c.toNat = 45 ∧ 9223372036854775808 ≤ u
      · rw [if_pos h1] at h; cases h
      · rw [if_neg h1] at h
        by_cases h2 : c.toNat = 45 ∧ 9223372036854775808 < u
        · rw [if_pos h2] at h; cases h
        · rw [if_neg h2] at h
          injection h with h
          by_cases h3 : c.toNat = 45
          · rw [if_pos h3] at h; omega
          · rw [if_neg h3] at h; omega
    | _ => intro h; cases h
/-- The number that a word writes, just so. -/
def numW (w : List UInt8) : Option Int :=
  match atoiAll w with
  | .ok n => if itoa n = w then some n else none
  | _ => none
theorem numW_iff {w : List UInt8} {n : Int} : numW w = some n ↔ (-9223372036854775808 ≤ n ∧ n ≤ 9223372036854775807) ∧ itoa n = w := by
  constructor
  · intro h
    unfold numW at h
    cases e : atoiAll w with
    | ok m =>
      rw [e] at h
      simp only at h
      by_cases hm : itoa m = w
      · rw [if_pos hm] at h
        cases h
        exact ⟨atoiAll_in e, hm⟩
      · rw [if_neg hm] at h; cases h
    | _ => rw [e] at h; cases h
  · rintro ⟨h1, rfl⟩
    unfold numW
    rw [atoiAll_itoa h1]
    simp
theorem numW_none {w : List UInt8} (h : ∀ n, itoa n = w → ¬ (-9223372036854775808 ≤ n ∧ n ≤ 9223372036854775807)) : numW w = none := by
  cases e : numW w with
  | none => rfl
  | some n =>
    obtain ⟨h1, h2⟩ := numW_iff.1 e
    exact absurd h1 (h n h2)
/-- Words, each of which reads as something. -/
def allW {α : Type} (f : List UInt8 → Option α) : List (List UInt8) → Option (List α)
  | [] => some []
  | w :: r => match f w, allW f r with
    | some n, some l => some (n :: l)
    | _, _ => none
section
variable {α : Type} {f : List UInt8 → Option α}
theorem allW_snoc : ∀ (ws : List (List UInt8)) (w : List UInt8), allW f (ws ++ [w]) = match allW f ws, f w with
    | some l, some n => some (l ++ [n])
    | _, _ => none
  | [], w => by
    rw [List.nil_append, allW, allW]
    cases f w <;> rfl
  | v :: r, w => by
    rw [List.cons_append, allW, allW, allW_snoc r w]
    cases f v <;> cases allW f r <;> cases f w <;> rfl
theorem allW_none : ∀ (ws : List (List UInt8)) (k : Nat) (hk : k < ws.length), f (ws[k]'hk) = none → allW f ws = none
  | w :: r, 0, _, h => by
    rw [List.getElem_cons_zero] at h
    rw [allW, h]
  | w :: r, k + 1, hk, h => by
    rw [List.getElem_cons_succ] at h
    rw [allW, allW_none r k (by simpa using hk) h]
    cases f w <;> rfl
theorem allW_take {ws : List (List UInt8)} {k : Nat} (hk : k < ws.length) {l : List α} (h : allW f (ws.take k) = some l) {n : α} (hn : f (ws[k]'hk) = some n) : allW f (ws.take (k + 1)) = some (l ++ [n]) := by
  rw [List.take_succ_eq_append_getElem hk, allW_snoc, h, hn]
theorem allW_len : ∀ {ws : List (List UInt8)} {l : List α}, allW f ws = some l → l.length = ws.length
  | [], l, h => by cases h; rfl
  | w :: r, l, h => by
    rw [allW] at h
    cases e1 : f w with
    | none => rw [e1] at h; cases h
    | some n =>
      cases e2 : allW f r with
      | none => rw [e1, e2] at h; cases h
      | some l' =>
        rw [e1, e2] at h
        cases h
        simp [allW_len e2]
theorem allW_map {g : α → List UInt8} {p : α → Prop} (hf : ∀ {w n}, f w = some n ↔ p n ∧ g n = w) : ∀ {ws : List (List UInt8)} {l : List α}, allW f ws = some l → l.map g = ws ∧ ∀ n ∈ l, p n
  | [], l, h => by cases h; exact ⟨rfl, by simp⟩
  | w :: r, l, h => by
    rw [allW] at h
    cases e1 : f w with
    | none => rw [e1] at h; cases h
    | some n =>
      cases e2 : allW f r with
      | none => rw [e1, e2] at h; cases h
      | some l' =>
        rw [e1, e2] at h
        cases h
        obtain ⟨h1, h2⟩ := allW_map hf e2
        obtain ⟨h3, h4⟩ := hf.1 e1
        refine ⟨by rw [List.map_cons, h1, h4], fun m hm => ?_⟩
        rcases List.mem_cons.1 hm with rfl | hm
        · exact h3
        · exact h2 m hm
theorem allW_of {g : α → List UInt8} {p : α → Prop} (hf : ∀ {w n}, f w = some n ↔ p n ∧ g n = w) : ∀ {l : List α}, (∀ n ∈ l, p n) → allW f (l.map g) = some l
  | [], _ => rfl
  | n :: l, h => by
    rw [List.map_cons, allW, hf.2 ⟨h n (by simp), rfl⟩, allW_of hf fun m hm => h m (by simp [hm])]
end
/-- Words that are numbers. -/
abbrev numsW : List (List UInt8) → Option (List Int) := allW numW
/-! ### Numbers of 64 bits -/
theorem parseUintM_snoc (c : UInt8) (hc : 48 ≤ c.toNat ∧ c.toNat ≤ 57) : ∀ (l : List UInt8) (acc v : Nat), parseUintM (2 ^ 64 - 1) acc l = .ok v → v * 10 + (c.toNat - 48) < 18446744073709551616 → parseUintM (2 ^ 64 - 1) acc (l ++ [c]) = .ok (v * 10 + (c.toNat - 48))
  | [], acc, v, h, hv => by
    simp only [parseUintM] at h
    injection h with h
    subst h
    rw [List.nil_append, parseUintM, if_pos hc, if_neg (by omega), if_neg (by omega), parseUintM]
  | d :: r, acc, v, h, hv => by
    rw [List.cons_append, parseUintM]
    rw [parseUintM] at h
    by_cases h1 : 48 ≤ d.toNat ∧ d.toNat ≤ 57
    · rw [if_pos h1] at h ⊢
      split at h
      · cases h
      · next h2 =>
        rw [if_neg h2]
        split at h
        · cases h
        · next h3 =>
          rw [if_neg h3]
          exact parseUintM_snoc c hc r _ v h hv
    · rw [if_neg h1] at h; cases h
theorem parseUintM_dec (u : Nat) (h : u < 18446744073709551616) : parseUintM (2 ^ 64 - 1) 0 (decDigits u) = .ok u := by
  induction u using Nat.strongRecOn with
  | ind u ih =>
    rw [decDigits]
    split
    · next hu =>
      have e := digit_toNat hu
      have := parseUintM_snoc (UInt8.ofNat (48 + u)) (by omega) [] 0 0 rfl (by omega)
      rw [List.nil_append] at this
      rw [this, e]
      simp
    · next hu =>
      have e := digit_toNat (Nat.mod_lt u (by omega : 0 < 10))
      have := parseUintM_snoc (UInt8.ofNat (48 + u % 10)) (by omega) (decDigits (u / 10)) 0 (u / 10) (ih _ (by omega) (by omega)) (by omega)
      rw [this, e]
      congr 1
      omega
theorem parseUintB_dec (u : Nat) (h : u < 18446744073709551616) : parseUintB 64 (decDigits u) = .ok u := by
  unfold parseUintB
  rw [if_neg (dec_ne u), parseUintM_dec u h]
theorem parseUintM_lt : ∀ (l : List UInt8) (acc u : Nat), acc < 18446744073709551616 → parseUintM (2 ^ 64 - 1) acc l = .ok u → u < 18446744073709551616
  | [], acc, u, ha, h => by
    simp only [parseUintM] at h
    injection h with h
    omega
  | c :: r, acc, u, ha, h => by
    rw [parseUintM] at h
    split at h
    · split at h
      · cases h
      · split at h
        · cases h
        · next h3 => exact parseUintM_lt r _ u (by omega) h
    · cases h
theorem parseUintB_lt {w : List UInt8} {n : Nat} (e : parseUintB 64 w = .ok n) : n < 18446744073709551616 := by
  unfold parseUintB at e
  split at e
  · cases e
  · exact parseUintM_lt _ 0 _ (by omega) e
def uW (w : List UInt8) : Option Nat :=
  match parseUintB 64 w with
  | .ok n => if decDigits n = w then some n else none
  | _ => none
theorem uW_iff {w : List UInt8} {n : Nat} : uW w = some n ↔ n < 18446744073709551616 ∧ decDigits n = w := by
  constructor
  · intro h
    unfold uW at h
    cases e : parseUintB 64 w with
    | ok m =>
      rw [e] at h
      simp only at h
      by_cases hm : decDigits m = w
      · rw [if_pos hm] at h
        cases h
        refine ⟨?_, hm⟩
        unfold parseUintB at e
        split at e
        · cases e
        · exact parseUintM_lt _ 0 _ (by omega) e
      · rw [if_neg hm] at h; cases h
    | _ => rw [e] at h; cases h
  · rintro ⟨h1, rfl⟩
    unfold uW
    rw [parseUintB_dec n h1]
    simp
abbrev usW : List (List UInt8) → Option (List Nat) := allW uW
end Go.Proofs.YtplhmcmfdcklaaaDoor.Lex
