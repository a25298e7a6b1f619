/- Numbers: the program's and the reference's, walked. -/
import Derived.Test.YthjcmcgmalnfpaaGreatDoorGLex
import Derived.Test.YthjcmcgmalnfpaaGreatDoorMem2
import Derived.Test.YthjcmcgmalnfpaaGreatDoorWordS
import Derived.Test.YthjcmcgmalnfpaaGreatDoorLine
import Derived.Test.YthjcmcgmalnfpaaGreatDoorStr
import Derived.Test.YthjcmcgmalnfpaaGreatDoorShelf
import Derived.Deep.LoopGhost
import Derived.Lib.OthersKept
import Derived.Laws.RangeAny
import Derived.Lib.AtoiErrMem
import Derived.Lib.SmallJoins
import Derived.Lib.AppendIntMem
namespace Go.Proofs.YthjcmcgmalnfpaaGreatDoor.Lex
open Go.RowKit
set_option linter.unusedSimpArgs false
set_option linter.unusedVariables false
/-- The table of powers of ten reads as Go's own text lays it. -/
def HasTab (w : World) : Prop := Lib.TabIs Tryz.prog w "internal/strconv.uint64pow10" .u64 Lib.pow10Tab
theorem HasTab.below {w w' : World} (h : HasTab w) (hb : Below w.heap.size w w') : HasTab w' := Joins.tab_stays (g := 1) (by kernel_rfl) h hb (Nat.le_refl _)
theorem digitVal_kd (b : UInt8) : (kd b.toNat = 2 ∧ ∃ d, Lib.digitVal b = some d ∧ d = b.toNat - 48 ∧ 48 ≤ b.toNat ∧ b.toNat ≤ 57) ∨ (kd b.toNat ≠ 2 ∧ Lib.digitVal b = none) := by
  by_cases h : 48 ≤ b.toNat ∧ b.toNat ≤ 57
  · exact .inl ⟨kd_2 h, _, by rw [Lib.digitVal, if_pos h], rfl, h.1, h.2⟩
  · refine .inr ⟨fun e => ?_, by rw [Lib.digitVal, if_neg h]⟩
    by_cases h1 : 97 ≤ b.toNat ∧ b.toNat ≤ 122
    · rw [kd_1 h1] at e; omega
    · by_cases h2 : b.toNat = 40 ∨ b.toNat = 41 ∨ b.toNat = 44
      · rw [kd_3 h2] at e; omega
      · rw [kd_0 h1 h h2] at e; omega
theorem decFrom_none {b : UInt8} (hb : Lib.digitVal b = none) : ∀ (l : List UInt8) (a : Nat), b ∈ l → Lib.decFrom a l = none
  | [], _, h => by simp at h
  | c :: l, a, h => by
    rw [Lib.decFrom]
    cases hc : Lib.digitVal c with
    | none => rfl
    | some d =>
      rcases List.mem_cons.1 h with rfl | h
      · rw [hb] at hc; cases hc
      · exact decFrom_none hb l _ h
theorem decFrom_some : ∀ (l : List UInt8) (a : Nat), (∀ b ∈ l, ∃ d, Lib.digitVal b = some d) → ∃ n, Lib.decFrom a l = some n
  | [], a, _ => ⟨a, rfl⟩
  | b :: l, a, h => by
    obtain ⟨d, hd⟩ := h b (by simp)
    rw [Lib.decFrom, hd]
    exact decFrom_some l _ fun c hc => h c (by simp [hc])
theorem atoi_digits {l : List UInt8} {n : Nat} (h0 : l ≠ []) (hall : ∀ b ∈ l, ∃ d, Lib.digitVal b = some d) (h : Lib.decFrom 0 l = some n) : Lib.atoi l = some (n : Int) := by
  cases l with
  | nil => exact absurd rfl h0
  | cons b r =>
    obtain ⟨d, hd⟩ := hall b (by simp)
    have hb : 48 ≤ b.toNat ∧ b.toNat ≤ 57 := by
      unfold Lib.digitVal at hd
      split at hd
      · assumption
      · cases hd
    have h45 : ¬ b = 45 := fun e => by rw [e] at hb; revert hb; decide
    have h43 : ¬ b = 43 := fun e => by rw [e] at hb; revert hb; decide
    simp [Lib.atoi, h45, h43, Lib.decNat, h]
/-- What the texts' numbers are. -/
def NumPost (l : List UInt8) (w : World) (e : Ending) (w' : World) : Prop :=
  Below w.heap.size w w' ∧ e = .returned (.tuple (match numOf l with | none => #[.int .i64 0, .int .i64 10] | some n => #[.int .i64 n, .int .i64 0]))
theorem numPost_no {l : List UInt8} {w w' : World} (h : numOf l = none) (hb : Below w.heap.size w w') : NumPost l w (.returned (.tuple #[.int .i64 0, .int .i64 10])) w' := ⟨hb, by rw [h]⟩
theorem numPost_yes {l : List UInt8} {w w' : World} {n : Nat} (h : numOf l = some n) (hb : Below w.heap.size w w') : NumPost l w (.returned (.tuple #[.int .i64 n, .int .i64 0])) w' := ⟨hb, by rw [h]⟩
/-- The three ways in which a text is ruled out ahead of the loop, or not. -/
theorem numOf_ways (s : ByteArray) : (s.size = 0 ∧ numOf s.data.toList = none) ∨ (9 < s.size ∧ numOf s.data.toList = none) ∨ (0 < s.size ∧ s.size ≤ 9 ∧ 1 < s.size ∧ byteAt s 0 = 48 ∧ numOf s.data.toList = none) ∨
    (0 < s.size ∧ s.size ≤ 9 ∧ ¬ (byteAt s 0 = 48 ∧ 1 < s.size) ∧ numOf s.data.toList = Lib.decFrom 0 s.data.toList) := by
  have hl : s.data.toList.length = s.size := by simp
  by_cases h0 : s.size = 0
  · exact .inl ⟨h0, by rw [numOf, if_pos (.inl (by omega))]⟩
  · by_cases h9 : 9 < s.size
    · exact .inr (.inl ⟨h9, by rw [numOf, if_pos (.inr (.inl (by omega)))]⟩)
    · have e0 := some_at (s := s) (j := 0) (by omega)
      by_cases hz : byteAt s 0 = 48 ∧ 1 < s.size
      · exact .inr (.inr (.inl ⟨by omega, by omega, hz.2, hz.1, by rw [numOf, if_pos (.inr (.inr ⟨by rw [e0, hz.1], by omega⟩))]⟩))
      · refine .inr (.inr (.inr ⟨by omega, by omega, hz, ?_⟩))
        rw [numOf, if_neg]
        rintro (h | h | ⟨h1, h2⟩)
        · omega
        · omega
        · rw [e0] at h1
          exact hz ⟨Option.some.inj h1, by omega⟩
theorem mem_at {s : ByteArray} {k : Nat} (h : k < s.size) : byteAt s k ∈ s.data.toList := List.mem_of_getElem? (some_at h)
theorem all_at {s : ByteArray} {Q : UInt8 → Prop} (h : ∀ k, k < s.size → Q (byteAt s k)) : ∀ b ∈ s.data.toList, Q b := fun b hb => by
  obtain ⟨k, hk, rfl⟩ := List.mem_iff_getElem.1 hb
  have h1 := h k (by simpa using hk)
  have h2 := some_at (s := s) (j := k) (by simpa using hk)
  rw [List.getElem?_eq_getElem hk] at h2
  rwa [← Option.some.inj h2] at h1
/-- A byte that is no digit: what the loop reads there. -/
theorem next_nodigit {w : World} {k : Nat} {s : ByteArray} {i : Nat} (hk : w.heap[k]? = some (.stringIter s i)) (h : i < s.size) (hz : kd (byteAt s i).toNat ≠ 2) :
    ∃ (c p : Nat), kd c ≠ 2 ∧ ∀ ty, (Instr.next (.pointer (some ⟨k, 0, none⟩)) true ty).run Tryz.prog w = .ok (.tuple #[.bool true, .int .i64 i, .int .i32 c]) (w.iterAt k s p) := by
  rw [byteAt_eq h] at hz
  by_cases ha : (s[i]'h).toNat < 128
  · exact ⟨_, _, hz, fun ty => Lib.run_next_ascii_at w k s i ty hk h ha⟩
  · have := decode_high s i h (by omega)
    exact ⟨_, _, by rw [kd_0 (by omega) (by omega) (by omega)]; omega, fun ty => Lib.run_next_any_at w k s i ty hk h⟩
/-- The reference's number. -/
def rn (l : List UInt8) : Int := match numOf l with | none => -1 | some n => n
theorem rn_no {l : List UInt8} (h : numOf l = none) : rn l = -1 := by rw [rn, h]
theorem rn_yes {l : List UInt8} {n : Nat} (h : numOf l = some n) : rn l = n := by rw [rn, h]
theorem pow_le9 {k : Nat} (h : k ≤ 9) : 10 ^ k ≤ 1000000000 := Nat.le_trans (Nat.pow_le_pow_right (by omega) h) (by decide)
theorem itoa_any (n : Int) (h0 : -9223372036854775808 ≤ n) (h1 : n ≤ 9223372036854775807) (w : World) (ht : HasTab w) :
    Calls Tryz.prog 25 #[.int .i64 n] w fun e w' => e = .returned (.string (bs (Lib.itoa n))) ∧ Below w.heap.size w w' :=
  (Tryz.strconv_Itoa n h0 h1 w ht).mono fun e w' ⟨e1, k, os, e2⟩ => ⟨e1, e2 ▸ Lib.below_grow _ _ (Nat.le_refl _) _ _⟩
theorem itoa_nat (n : Nat) : Lib.itoa (n : Int) = Lib.decDigits n := by
  rw [Lib.itoa, if_neg (by omega), Int.toNat_natCast]
theorem dig_no (n : Int) (w : World) (h : n < 0 ∨ 999999999 < n) : Calls Tryz.prog 76 #[.int .i64 n] w fun e w' => e = .returned (.tuple #[.string ⟨#[]⟩, .int .i64 3]) ∧ w = w' := by
  by_cases h0 : n < 0
  · clear h
    go_enter Tryz.func76, Tryz.ntmps76
    go_wp2_with fail
    go_ret2
    exact ⟨rfl, rfl⟩
  · have h1 : 999999999 < n := by omega
    clear h
    go_enter Tryz.func76, Tryz.ntmps76
    go_wp2_with fail
    go_ret2
    exact ⟨rfl, rfl⟩
theorem dig_yes (n : Nat) (w : World) (h : n ≤ 999999999) (ht : HasTab w) : Calls Tryz.prog 76 #[.int .i64 n] w fun e w' => e = .returned (.tuple #[.string (bs (Lib.decDigits n)), .int .i64 0]) ∧ Below w.heap.size w w' := by
  have HT := Lib.hid ht
  have HI := Lib.hid (itoa_nat n)
  clear ht
  go_enter Tryz.func76, Tryz.ntmps76
  go_wp2_with (go_at_call 25; (with_reducible refine (itoa_any n (by omega) (by omega) _ HT.out).mono ?_); rintro e w' ⟨rfl, hb⟩; have HB := Lib.hid hb; clear hb; rw [HI.out])
  go_ret2
  exact ⟨rfl, HB.out⟩
theorem digit_at (d : Nat) (h : d < 10) : (⟨#[48, 49, 50, 51, 52, 53, 54, 55, 56, 57]⟩ : ByteArray).extract d (d + 1) = bs [UInt8.ofNat (48 + d)] := by
  have : ∀ d : Fin 10, (⟨#[48, 49, 50, 51, 52, 53, 54, 55, 56, 57]⟩ : ByteArray).extract d.1 (d.1 + 1) = bs [UInt8.ofNat (48 + d.1)] := by decide +kernel
  exact this ⟨d, h⟩
theorem decDigits_len {n : Nat} (h : n ≤ 9223372036854775807) : (Lib.decDigits n).length ≤ 19 := by
  rw [Lib.decDigits_length]
  exact nDigits_le 18 n (by omega)
set_option maxRecDepth 100000 in
theorem rdig (n : Nat) (w : World) (h : n ≤ 9223372036854775807) : Calls Tryz.prog 33 #[.int .i64 n] w fun e w' => e = .returned (.string (bs (Lib.decDigits n))) ∧ w = w' := by
  have hl := decDigits_len h
  go_enter Tryz.func33, Tryz.ntmps33
  go_wp2_with fail
  go_loop [0, 3] (fun nv tv => ∃ (m : Nat) (t : List UInt8), m ≤ n ∧ nv = .int .i64 m ∧ tv = .string (bs t) ∧ Lib.decDigits m ++ t = Lib.decDigits n) (fun nv _ => (intOf nv).toNat)
  case atStart => exact ⟨n, [], Nat.le_refl _, rfl, rfl, by simp⟩
  case round =>
    obtain ⟨m, t, hm, rfl, rfl, ht⟩ := hrel
    have htl : (bs t).size ≤ 19 := by
      have h1 := congrArg List.length ht
      rw [List.length_append] at h1
      simp only [bs, ByteArray.size, List.size_toArray]
      omega
    by_cases h9 : m < 10
    · have HX : Hid ((⟨#[48, 49, 50, 51, 52, 53, 54, 55, 56, 57]⟩ : ByteArray).extract m (m + 1) ++ bs t = bs (Lib.decDigits n)) := Lib.hid (by rw [digit_at m h9, bs_bs, ← ht, decDigits_small h9])
      clear ht hl
      go_wp2_with fail
      go_ret
      exact ⟨congrArg (fun x => Ending.returned (Value.string x)) HX.out, rfl⟩
    · have HX : Hid ((⟨#[48, 49, 50, 51, 52, 53, 54, 55, 56, 57]⟩ : ByteArray).extract (m % 10) (m % 10 + 1) ++ bs t = bs ([UInt8.ofNat (48 + m % 10)] ++ t)) := Lib.hid (by rw [digit_at _ (by omega), bs_bs])
      have HT2 : Hid (Lib.decDigits (m / 10) ++ ([UInt8.ofNat (48 + m % 10)] ++ t) = Lib.decDigits n) := Lib.hid (by rw [← ht, decDigits_big h9, List.append_assoc])
      clear ht hl
      go_wp2_with fail
      go_round
      case rel => exact ⟨m / 10, _, by omega, by go_num, congrArg Value.string HX.out, HT2.out⟩
      case measure => simp [intOf]; omega
end Go.Proofs.YthjcmcgmalnfpaaGreatDoor.Lex
