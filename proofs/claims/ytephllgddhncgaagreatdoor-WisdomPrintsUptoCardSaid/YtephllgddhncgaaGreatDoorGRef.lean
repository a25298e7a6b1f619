/- RFact, Pow, RNodeA, RNodeB4, RNodeB5, RNodeC6, RNode, ListT, RCheckV, REParse: laid into one text. -/
import Derived.Test.YtephllgddhncgaaGreatDoorVal
import Derived.Test.YtephllgddhncgaaGreatDoorNodeV
import Derived.Deep.RegionHeld3
import Derived.Test.YtephllgddhncgaaGreatDoorGBase
import Derived.Test.YtephllgddhncgaaGreatDoorForV
import Derived.Test.YtephllgddhncgaaGreatDoorGPar
import Derived.Test.YtephllgddhncgaaGreatDoorRParse23
import Derived.Test.YtephllgddhncgaaGreatDoorWordR
import Derived.BigQuiet
import Derived.Deep.QuietTactic
/- The reference's Gcd, Prime, Has and power. -/
namespace Go.Proofs.YtephllgddhncgaaGreatDoor
open Go.RowKit
set_option linter.unusedSimpArgs false
set_option linter.unusedVariables false
set_option maxRecDepth 100000 in
set_option maxHeartbeats 4000000 in
theorem rgcd_nat : ∀ (s a b : Nat) (w : World), a + b ≤ s → a ≤ 9223372036854775807 → b ≤ 9223372036854775807 → Calls Tryz.prog 104 #[.int .i64 a, .int .i64 b] w fun e w' => e = .returned (.int .i64 (Nat.gcd a b : Nat)) ∧ Below w.heap.size w w' := by
  intro s
  induction s with
  | zero =>
    intro a b w h _ _
    obtain rfl : a = 0 := by omega
    obtain rfl : b = 0 := by omega
    go_enter Tryz.func104, Tryz.ntmps104
    go_wp2_with fail
    go_ret
    exact ⟨rfl, Below.refl _ _⟩
  | succ s ih =>
    intro a b w h ha hb
    have HIH := Lib.hid ih
    clear ih
    by_cases ha0 : a = 0
    · subst ha0
      have HG : Hid (Nat.gcd 0 b = b) := Lib.hid (Nat.gcd_zero_left b)
      go_enter Tryz.func104, Tryz.ntmps104
      go_wp2_with fail
      go_ret
      exact ⟨by rw [HG.out]; rfl, Below.refl _ _⟩
    · have hai : ¬ (a : Int) = 0 := by omega
      have hab : ((a : Int) == 0) = false := by simpa using hai
      by_cases hb0 : b = 0
      · subst hb0
        have HG : Hid (Nat.gcd a 0 = a) := Lib.hid (Nat.gcd_zero_right a)
        go_enter Tryz.func104, Tryz.ntmps104
        go_wp2_with fail
        go_ret
        exact ⟨by rw [HG.out]; rfl, Below.refl _ _⟩
      · have hbi : ¬ (b : Int) = 0 := by omega
        have hbb : ((b : Int) == 0) = false := by simpa using hbi
        by_cases hlt : a < b
        · have hlti : (a : Int) < (b : Int) := by omega
          have HG : Hid (Nat.gcd (b % a) a = Nat.gcd a b) := Lib.hid (Nat.gcd_rec a b).symm
          have hm := Nat.mod_lt b (by omega : 0 < a)
          have HC := Lib.hid (HIH.out (b % a) a)
          rw [HG.out] at HC
          have HZ : Hid (((b % a : Nat) : Int) = (b : Int) % (a : Int)) := Lib.hid (Int.natCast_emod b a)
          rw [HZ.out] at HC
          clear ha0 hb0
          go_enter Tryz.func104, Tryz.ntmps104
          go_wp2_with (go_at_call 104; (with_reducible refine (HC.out _ (by omega) (by omega) (by omega)).mono ?_); rintro e w2 ⟨rfl, hb2⟩; have HB2 := Lib.hid hb2; clear hb2)
          go_ret
          exact ⟨rfl, HB2.out⟩
        · have hlti : ¬ (a : Int) < (b : Int) := by omega
          have HG : Hid (Nat.gcd (a % b) b = Nat.gcd a b) := Lib.hid (by rw [Nat.gcd_comm a b, Nat.gcd_rec b a])
          have hm := Nat.mod_lt a (by omega : 0 < b)
          have HC := Lib.hid (HIH.out (a % b) b)
          rw [HG.out] at HC
          have HZ : Hid (((a % b : Nat) : Int) = (a : Int) % (b : Int)) := Lib.hid (Int.natCast_emod a b)
          rw [HZ.out] at HC
          clear ha0 hb0
          go_enter Tryz.func104, Tryz.ntmps104
          go_wp2_with (go_at_call 104; (with_reducible refine (HC.out _ (by omega) (by omega) (by omega)).mono ?_); rintro e w2 ⟨rfl, hb2⟩; have HB2 := Lib.hid hb2; clear hb2)
          go_ret
          exact ⟨rfl, HB2.out⟩
set_option maxRecDepth 100000 in
set_option maxHeartbeats 4000000 in
theorem rgcd_any (a b : Int) (w : World) (ha : (Lit.int .i64 a).wf = true) (hb : (Lit.int .i64 b).wf = true) : Calls Tryz.prog 104 #[.int .i64 a, .int .i64 b] w fun e w' => e = .returned (.int .i64 (gcdI a b)) ∧ Below w.heap.size w w' := by
  have ha1 := (wf_i64_bd ha).2
  have hb1 := (wf_i64_bd hb).2
  clear ha hb
  by_cases h1 : a < 0
  · have HG : Hid (gcdI a b = 0) := Lib.hid (if_pos (.inl h1))
    go_enter Tryz.func104, Tryz.ntmps104
    go_wp2_with fail
    go_ret
    exact ⟨by rw [HG.out]; rfl, Below.refl _ _⟩
  · by_cases h2 : b < 0
    · have HG : Hid (gcdI a b = 0) := Lib.hid (if_pos (.inr h2))
      go_enter Tryz.func104, Tryz.ntmps104
      go_wp2_with fail
      go_ret
      exact ⟨by rw [HG.out]; rfl, Below.refl _ _⟩
    · obtain ⟨m, rfl⟩ : ∃ m : Nat, a = m := ⟨a.toNat, by omega⟩
      obtain ⟨n, rfl⟩ : ∃ n : Nat, b = n := ⟨b.toNat, by omega⟩
      have e : gcdI m n = (Nat.gcd m n : Nat) := by unfold gcdI; rw [if_neg (by omega), Int.toNat_natCast, Int.toNat_natCast]
      rw [e]
      exact rgcd_nat (m + n) m n w (Nat.le_refl _) (by omega) (by omega)
set_option maxRecDepth 100000 in
set_option maxHeartbeats 4000000 in
theorem rhas_any (n : Int) (w : World) : Calls Tryz.prog 67 #[.int .i64 n] w fun e w' => e = .returned (.bool (hasB n)) ∧ w = w' := by
  by_cases h1 : 1 ≤ n
  · by_cases h2 : n ≤ 16777216
    · have h0 : 0 ≤ n := by omega
      have hn0 : ¬ n = 0 := by omega
      have hw : IntKind.u64.wrap n = n := by rw [IntKind.wrap_u64]; omega
      by_cases h3 : (18446744069414584320 : Int) % n = 0
      · have HH : Hid (hasB n = true) := Lib.hid (decide_eq_true ⟨h1, h2, h3⟩)
        go_enter Tryz.func67, Tryz.ntmps67
        go_wp2_with fail
        go_ret
        exact ⟨by rw [HH.out]; rfl, rfl⟩
      · have HH : Hid (hasB n = false) := Lib.hid (decide_eq_false fun h => h3 h.2.2)
        have h3b : ((18446744069414584320 : Int) % n == 0) = false := by simpa using h3
        go_enter Tryz.func67, Tryz.ntmps67
        go_wp2_with fail
        go_ret
        exact ⟨by rw [HH.out]; rfl, rfl⟩
    · have HH : Hid (hasB n = false) := Lib.hid (decide_eq_false fun h => h2 h.2.1)
      go_enter Tryz.func67, Tryz.ntmps67
      go_wp2_with fail
      go_ret
      exact ⟨by rw [HH.out]; rfl, rfl⟩
  · have HH : Hid (hasB n = false) := Lib.hid (decide_eq_false fun h => h1 h.1)
    go_enter Tryz.func67, Tryz.ntmps67
    go_wp2_with fail
    go_ret
    exact ⟨by rw [HH.out]; rfl, rfl⟩
set_option maxRecDepth 100000 in
set_option maxHeartbeats 4000000 in
theorem rprime_any (n : Int) (w : World) : Calls Tryz.prog 105 #[.int .i64 n] w fun e w' => e = .returned (.bool (primI n)) ∧ w = w' := by
  by_cases h : 2 ≤ n ∧ n ≤ 16777216
  · obtain ⟨m, rfl⟩ : ∃ m : Nat, n = m := ⟨n.toNat, by omega⟩
    have hm2 : 2 ≤ m := by omega
    have hmx : m ≤ 16777216 := by omega
    have h2i : (2 : Int) ≤ (m : Int) := by omega
    have hmi : (m : Int) ≤ 16777216 := by omega
    clear h
    go_enter Tryz.func105, Tryz.ntmps105
    go_wp2_with fail
    go_loopg [3] 4100 (fun g dv wr => ∃ d : Nat, g = 4102 - d ∧ dv = .int .i64 (d : Int) ∧ 2 ≤ d ∧ d ≤ 4097 ∧ (∀ q, 2 ≤ q → q < d → ¬ q ∣ m) ∧ wr = w)
    case atStart => exact ⟨2, rfl, rfl, by omega, by omega, fun q _ _ => by omega, rfl⟩
    case round =>
      obtain ⟨d, rfl, rfl, hd2, hdm, hnd, rfl⟩ := hrel
      have HND := Lib.hid hnd
      clear hnd
      obtain ⟨q, hq1, hq2⟩ : ∃ q, q ≤ d * d ∧ d * d ≤ q := ⟨d * d, Nat.le_refl _, Nat.le_refl _⟩
      have hqq : d * d ≤ 4097 * 4097 := Nat.mul_le_mul hdm hdm
      have HQ : Hid (d * d = q) := Lib.hid (by omega)
      have wq : IntKind.i64.wrap ((d : Int) * (d : Int)) = (q : Int) := by
        rw [show (d : Int) * (d : Int) = ((d * d : Nat) : Int) by simp, HQ.out]
        exact wrapI (by omega) (by omega)
      clear hq1 hq2 hqq
      have hd0 : ¬ (d : Int) = 0 := by omega
      by_cases hle : q ≤ m
      · have hlei : (q : Int) ≤ (m : Int) := by omega
        have hdn : d ≤ 4096 := by
          rcases Nat.lt_or_ge 4096 d with h | h
          · have h2 := Nat.mul_le_mul h h
            have := HQ.out
            omega
          · exact h
        have hr := rem_nat (a := m) (b := d) (by omega) (by omega)
        by_cases hz : m % d = 0
        · have HP : Hid (primI m = false) := Lib.hid (primI_no hd2 (by rw [HQ.out]; exact hle) (Nat.dvd_of_mod_eq_zero hz))
          have hzi : (m : Int) % (d : Int) = 0 := by omega
          go_wp2_with fail
          go_ret
          exact ⟨by rw [HP.out]; rfl, rfl⟩
        · have hzi : ¬ (m : Int) % (d : Int) = 0 := by omega
          have hzb : ((m : Int) % (d : Int) == 0) = false := by simpa using hzi
          have HN : Hid (¬ d ∣ m) := Lib.hid fun h => hz (Nat.mod_eq_zero_of_dvd h)
          clear hz
          go_wp2_with fail
          go_roundg (4102 - (d + 1))
          case measure => omega
          case rel =>
            refine ⟨d + 1, rfl, by go_num, by omega, by omega, fun q' h1 h2 => ?_, rfl⟩
            by_cases e : q' = d
            · rw [e]; exact HN.out
            · exact HND.out q' h1 (by omega)
      · have hlei : ¬ (q : Int) ≤ (m : Int) := by omega
        have HP : Hid (primI m = true) := Lib.hid (by
          unfold primI
          rw [decide_eq_true_iff, Int.toNat_natCast]
          refine ⟨by omega, by omega, fun q' _ h3 h4 => ?_⟩
          refine HND.out q' h3 ?_
          rcases Nat.lt_or_ge q' d with h | h
          · exact h
          · have := Nat.mul_le_mul h h
            have := HQ.out
            omega)
        go_wp2_with fail
        go_ret
        exact ⟨by rw [HP.out]; rfl, rfl⟩
  · have HP : Hid (primI n = false) := Lib.hid (by
      unfold primI
      rw [decide_eq_false_iff_not]
      rintro ⟨h1, h2, _⟩
      exact h ⟨h1, h2⟩)
    by_cases h2 : n ≤ 16777216
    · have hn2 : n < 2 := by omega
      have h2n : ¬ 2 ≤ n := by omega
      have h2b : decide (2 ≤ n) = false := decide_eq_false h2n
      have h4 : ¬ (4 : Int) ≤ n := by omega
      clear h
      go_enter Tryz.func105, Tryz.ntmps105
      go_wp2_with fail
      go_loopg [3] 1 (fun g dv wr => g = 1 ∧ dv = .int .i64 2 ∧ wr = w)
      case atStart => exact ⟨rfl, rfl, rfl⟩
      case round =>
        obtain ⟨rfl, rfl, rfl⟩ := hrel
        go_wp2_with fail
        go_ret
        exact ⟨by rw [HP.out]; rfl, rfl⟩
    · have h2b : decide (n ≤ 16777216) = false := decide_eq_false h2
      have h2n : 2 ≤ n := by omega
      have h4 : (4 : Int) ≤ n := by omega
      clear h
      go_enter Tryz.func105, Tryz.ntmps105
      go_wp2_with fail
      go_loopg [3] 1 (fun g dv wr => g = 1 ∧ dv = .int .i64 2 ∧ wr = w)
      case atStart => exact ⟨rfl, rfl, rfl⟩
      case round =>
        obtain ⟨rfl, rfl, rfl⟩ := hrel
        go_wp2_with fail
        go_ret
        exact ⟨by rw [HP.out]; rfl, rfl⟩
/-- Halving, as long as it goes. -/
def powN (m : Nat) : Bool := if h : 1 < m ∧ m % 2 = 0 then powN (m / 2) else decide (m = 1)
termination_by m
decreasing_by omega
theorem powN_step {m : Nat} (h : 1 < m ∧ m % 2 = 0) : powN m = powN (m / 2) := by rw [powN, dif_pos h]
theorem powN_stop {m : Nat} (h : ¬ (1 < m ∧ m % 2 = 0)) : powN m = decide (m = 1) := by rw [powN, dif_neg h]
set_option maxRecDepth 100000 in
set_option maxHeartbeats 4000000 in
theorem rpow_any (m : Nat) (w : World) (hm : m ≤ 16777216) (h1 : 1 ≤ m) : Calls Tryz.prog 123 #[.int .i64 m] w fun e w' => e = .returned (.bool (powN m)) ∧ w = w' := by
  go_enter Tryz.func123, Tryz.ntmps123
  go_wp2_with fail
  go_loopg [0] m (fun g nv wr => ∃ n : Nat, n = g ∧ nv = .int .i64 (n : Int) ∧ 1 ≤ n ∧ n ≤ 16777216 ∧ powN n = powN m ∧ wr = w)
  case atStart => exact ⟨m, rfl, rfl, h1, hm, rfl, rfl⟩
  case round =>
    obtain ⟨n, rfl, rfl, hn1, hn2, hp, rfl⟩ := hrel
    have HP := Lib.hid hp
    clear hp
    by_cases h1n : 1 < n
    · have h1i : (1 : Int) < (n : Int) := by omega
      by_cases h2 : n % 2 = 0
      · have h2i : (n : Int) % 2 = 0 := by omega
        have HS := Lib.hid (powN_step ⟨h1n, h2⟩)
        obtain ⟨q, hq1, hq2⟩ : ∃ q, 2 * q ≤ n ∧ n ≤ 2 * q := ⟨n / 2, by omega, by omega⟩
        have HQ : Hid (n / 2 = q) := Lib.hid (by omega)
        have hqi : (n : Int) / 2 = (q : Int) := by omega
        clear h2
        go_wp2_with fail
        go_roundg q
        case measure => omega
        case rel => exact ⟨q, rfl, by first | rfl | exact congrArg _ (by omega), by omega, by omega, by rw [← HP.out, HS.out, HQ.out], rfl⟩
      · have h2i : ¬ (n : Int) % 2 = 0 := by omega
        have h2b : ((n : Int) % 2 == 0) = false := by simpa using h2i
        have HS : Hid (powN n = false) := Lib.hid (by rw [powN_stop (fun h => h2 h.2)]; exact decide_eq_false (by omega))
        have hn1b : ((n : Int) == 1) = false := by simp; omega
        clear h2
        go_wp2_with fail
        go_ret
        exact ⟨by rw [← HP.out, HS.out]; rfl, rfl⟩
    · obtain rfl : n = 1 := by omega
      have HS : Hid (powN 1 = true) := Lib.hid (by rw [powN_stop (by omega)]; rfl)
      go_wp2_with fail
      go_ret
      exact ⟨by rw [← HP.out, HS.out]; rfl, rfl⟩
end Go.Proofs.YtephllgddhncgaaGreatDoor
/- Powers of two: by bits, and by halving. -/
namespace Go.Proofs.YtephllgddhncgaaGreatDoor
open Go.RowKit
set_option linter.unusedSimpArgs false
set_option linter.unusedVariables false
theorem bits_and_nat {a b : Nat} (ha : a ≤ 16777216) (hb : b ≤ 16777216) : bits BinOp.and IntKind.i64 (a : Int) (b : Int) = ((a &&& b : Nat) : Int) := by
  have e : ((BitVec.ofInt 64 (a : Int)) &&& (BitVec.ofInt 64 (b : Int))).toNat = a &&& b := by
    rw [BitVec.toNat_and, BitVec.ofInt_natCast, BitVec.ofInt_natCast, BitVec.toNat_ofNat, BitVec.toNat_ofNat, Nat.mod_eq_of_lt (by omega), Nat.mod_eq_of_lt (by omega)]
  show IntKind.i64.wrap ((((BitVec.ofInt 64 (a : Int)) &&& (BitVec.ofInt 64 (b : Int))).toNat : Nat) : Int) = _
  rw [e]
  have := Nat.and_le_left (n := a) (m := b)
  exact wrapI (by omega) (by omega)
theorem and_pow : ∀ (s m : Nat), m ≤ s → 1 ≤ m → (m &&& (m - 1) = 0 ↔ powN m = true) := by
  intro s
  induction s with
  | zero => intro m h1 h2; omega
  | succ s ih =>
    intro m hs h1
    by_cases hm1 : m = 1
    · subst hm1
      rw [powN_stop (by omega)]
      simp
    · have hdiv : (m &&& (m - 1)) / 2 = m / 2 &&& (m - 1) / 2 := Nat.and_div_two
      have hmod : (m &&& (m - 1)) % 2 = m % 2 &&& (m - 1) % 2 := by have := Nat.and_mod_two_pow (a := m) (b := m - 1) (n := 1); simpa using this
      by_cases he : m % 2 = 0
      · rw [powN_step ⟨by omega, he⟩, ← ih (m / 2) (by omega) (by omega)]
        have e1 : (m - 1) / 2 = m / 2 - 1 := by omega
        rw [he, Nat.zero_and] at hmod
        rw [e1] at hdiv
        generalize m &&& (m - 1) = x at *
        generalize m / 2 &&& (m / 2 - 1) = y at *
        omega
      · rw [powN_stop (fun h => he h.2), decide_eq_true_iff]
        have e1 : (m - 1) / 2 = m / 2 := by omega
        rw [e1, Nat.and_self] at hdiv
        generalize m &&& (m - 1) = x at *
        omega
theorem stock_pow {m : Nat} (h1 : 1 ≤ m) (h2 : m ≤ 16777216) : stockB (m : Int) = powN m := by
  have hw : wrap64 ((m : Int) - 1) = ((m - 1 : Nat) : Int) := by unfold wrap64; omega
  unfold stockB powB
  rw [hw, bits_and_nat h2 (by omega), decide_eq_true (by omega), decide_eq_true (by omega), Bool.true_and, Bool.and_true]
  have h := and_pow m m (Nat.le_refl _) h1
  cases hp : powN m with
  | true => rw [h.2 hp]; rfl
  | false =>
    rw [beq_eq_false_iff_ne]
    intro he
    have : m &&& (m - 1) = 0 := by omega
    rw [h.1 this] at hp
    cases hp
theorem stock_no {n : Int} (h : ¬ (1 ≤ n ∧ n ≤ 16777216)) : stockB n = false := by
  unfold stockB powB
  by_cases h0 : 0 < n
  · rw [decide_eq_false (p := n ≤ 16777216) (by omega), Bool.and_false]
  · rw [decide_eq_false h0]; rfl
set_option maxRecDepth 100000 in
set_option maxHeartbeats 1000000 in
theorem rpower_any (n : Int) (w : World) : Calls Tryz.prog 103 #[.int .i64 n] w fun e w' => e = .returned (.bool (stockB n)) ∧ w = w' := by
  by_cases h1 : 1 ≤ n
  · by_cases h2 : n ≤ 16777216
    · obtain ⟨m, rfl⟩ : ∃ m : Nat, n = m := ⟨n.toNat, by omega⟩
      have HS := Lib.hid (stock_pow (m := m) (by omega) (by omega))
      have HC : Hid (∀ w, Calls Tryz.prog 123 #[.int .i64 m] w fun e w' => e = .returned (.bool (powN m)) ∧ w = w') := Lib.hid fun w => rpow_any m w (by omega) (by omega)
      go_enter Tryz.func103, Tryz.ntmps103
      go_wp2_with (go_at_call 123; (with_reducible refine (HC.out _).mono ?_); rintro e w2 ⟨rfl, rfl⟩)
      go_ret
      exact ⟨by rw [HS.out]; rfl, rfl⟩
    · have HS := Lib.hid (stock_no (n := n) (fun h => h2 h.2))
      have h2b : decide (n ≤ 16777216) = false := decide_eq_false h2
      go_enter Tryz.func103, Tryz.ntmps103
      go_wp2_with fail
      go_ret
      exact ⟨by rw [HS.out]; rfl, rfl⟩
  · have HS := Lib.hid (stock_no (n := n) (fun h => h1 h.1))
    have h1b : decide (1 ≤ n) = false := decide_eq_false h1
    go_enter Tryz.func103, Tryz.ntmps103
    go_wp2_with fail
    go_ret
    exact ⟨by rw [HS.out]; rfl, rfl⟩
end Go.Proofs.YtephllgddhncgaaGreatDoor
/- The reference's Node, kind by kind. -/
namespace Go.Proofs.YtephllgddhncgaaGreatDoor
open Go.RowKit
set_option linter.unusedSimpArgs false
set_option linter.unusedVariables false
theorem intElemR : Elem Tryz.prog 126 3 1 8 := ⟨Tryz.underlying126, ⟨.int .i64 0, by kernel_rfl, rfl⟩, by omega⟩
theorem one1 {k : Int} : ∀ u ∈ [Value.int .i64 k], u.oneCell' = true := by
  intro u hu
  simp only [List.mem_cons, List.not_mem_nil, or_false] at hu
  subst hu
  rfl
theorem kidN_get {l : List DescV} {i : Nat} (h : i < l.length) : kidN l i = (l[i]).n := by
  unfold kidN
  rw [List.getElem?_eq_getElem h]
/-- Whole division: a product without a remainder. -/
theorem mul_iff {n a b : Int} (hn : 1 ≤ n) (ha : 2 ≤ a) (hb : 2 ≤ b) : (a ≤ n ∧ b ≤ n ∧ a * b = n) ↔ (n % a = 0 ∧ n / a = b) := by
  constructor
  · rintro ⟨_, _, h⟩
    rw [← h]
    exact ⟨Int.mul_emod_right a b, Int.mul_ediv_cancel_left b (by omega)⟩
  · rintro ⟨h1, h2⟩
    have h3 : a * (n / a) + n % a = n := Int.mul_ediv_add_emod n a
    rw [h1, h2, Int.add_zero] at h3
    have h4 : a * 1 ≤ a * b := Int.mul_le_mul_of_nonneg_left (by omega) (by omega)
    have h5 : 1 * b ≤ a * b := Int.mul_le_mul_of_nonneg_right (by omega) (by omega)
    rw [h3] at h4 h5
    exact ⟨by omega, by omega, h3⟩
/-- What a row of the kids' sizes shows. -/
theorem kids_cell {w : World} {B : Nat} {ka : Option Addr} {kc : Nat} {l : List DescV} {n : Nat} (h : w.ownsRow B 3 1 (.slice ka n kc) n (l.map fun d => .int .i64 d.n)) {i : Nat} (hi : i < n) (hl : l.length = n) :
    ∃ g, ka = some ⟨g, 0, none⟩ ∧ w.cell? ⟨g, i, none⟩ = some (.int .i64 (kidN l i)) ∧ g < w.heap.size := by
  obtain ⟨g, rfl⟩ : ∃ g, ka = some ⟨g, 0, none⟩ := by
    rcases h.2 with ⟨_, h0⟩ | ⟨g, _, _, hv, _⟩
    · omega
    · cases hv; exact ⟨g, rfl⟩
  have hc := h.cells (g := g) rfl i (.int .i64 (kidN l i)) (by rw [kidN_get (by omega), List.getElem?_map, List.getElem?_eq_getElem (by omega)]; rfl)
  rw [Addr.add_lit, Nat.zero_add] at hc
  exact ⟨g, rfl, hc, (h.lt g rfl).2⟩
set_option maxRecDepth 100000 in
set_option maxHeartbeats 8000000 in
theorem rnode1 (k : Nat) (F : Foot) (nd : Int) (l : List DescV) (a : Option Addr) (n cap : Nat) (w : World) (hl : RowOf (descRd k) 3 40 F w a n cap l) :
    Calls Tryz.prog 89 #[.agg #[.int .i64 1, .int .i64 nd, .slice a n cap]] w fun e w' => e = .returned (.bool (nodeB 1 nd l)) ∧ Below w.heap.size w w' := by
  obtain ⟨W1, hW1⟩ : ∃ W1, W1 = w.alloc (.cells #[.int .i64 1, .int .i64 nd, .slice a n cap] 42) := ⟨_, rfl⟩
  have hb1 : Below w.heap.size w W1 := by rw [hW1]; exact (Below.refl _ _).alloc (Nat.le_refl _) _
  have g1 : W1.heap[w.heap.size]? = some (.cells #[.int .i64 1, .int .i64 nd, .slice a n cap] 42 (0, 0)) := by rw [hW1]; exact heap_alloc_new w _
  have hz1 : w.heap.size < W1.heap.size := by rw [hW1]; simp
  have HB := Lib.hid hb1
  have HLN := Lib.hid hl.len
  have hroom := hl.room
  have HL := Lib.hid (hl.keep (descRd_ok _) (Fix.of_below hb1))
  have HT : Hid (∀ W, Below W1.heap.size W1 W → W.cell? ⟨w.heap.size, 0, none⟩ = some (.int .i64 1) ∧ W.cell? ⟨w.heap.size, 1, none⟩ = some (.int .i64 nd) ∧ W.cell? ⟨w.heap.size, 2, none⟩ = some (.slice a n cap)) := Lib.hid fun W hb => by
    have g := (hb.block _ hz1).trans g1
    exact ⟨cell_at g rfl, cell_at g rfl, cell_at g rfl⟩
  clear hl hb1 g1
  go_enter Tryz.func89, Tryz.ntmps89
  go_upto_region 1 with fail
  rw [← hW1]
  clear hW1
  go_upto_region 3 with fail
  go_loopg [3, 4] n (fun g v iv wr => ∃ i : Nat, i ≤ n ∧ g = n - i ∧ iv = .int .i64 i ∧ wr.ownsRow W1.heap.size 3 1 v i ((l.take i).map fun d => .int .i64 d.n) ∧ Below W1.heap.size W1 wr)
  case atStart => exact ⟨0, by omega, rfl, rfl, World.ownsRow_nil _ _ _ _, Below.refl _ _⟩
  case round =>
    obtain ⟨i, hi, rfl, rfl, ho, hB⟩ := hrel
    obtain ⟨wo, rfl⟩ : ∃ wo : World, wo = wr := ⟨_, rfl⟩
    obtain ⟨ka, kc, rfl⟩ := own_val ho
    obtain ⟨c0, c1, c2⟩ := HT.out wo hB
    have HO := Lib.hid ho
    have HBo := Lib.hid hB
    clear ho hB
    by_cases hlt : i < n
    · have hlti : (i : Int) < (n : Int) := by omega
      obtain ⟨b, off, rfl, hbw, p0, _⟩ := row_kid (HL.out.keep (descRd_ok _) (Fix.of_below HBo.out)) hlt
      have HTK : Hid ((l.take (i + 1)).map (fun d => Value.int .i64 d.n) = (l.take i).map (fun d => Value.int .i64 d.n) ++ [.int .i64 (kidN l i)]) := Lib.hid (by
        rw [List.take_succ_eq_append_getElem (by rw [HLN.out]; exact hlt), List.map_append, kidN_get (by rw [HLN.out]; exact hlt)]
        rfl)
      generalize kidN l i = x at *
      go_wp2_with (at_builtin; refine wpl_append rfl _ _ 126 rfl intElemR _ _ _ rfl _ _ _ [.int .i64 x] rfl (own_below HO.out ((Below.refl _ _).alloc (Nat.le_refl _) _)) (src_new3 _ 3 1 rfl one1) (by unfold maxLen; omega) (by omega) (by have := HBo.out.size; simp; omega) ?_; intro v' w3 ho3 hg3 _; have HO3 := Lib.hid ho3; have HG3 := Lib.hid hg3; clear ho3 hg3)
      go_roundg (n - (i + 1))
      case measure => omega
      case rel =>
        refine ⟨i + 1, by omega, rfl, by go_num, by rw [HTK.out]; exact HO3.out, ?_⟩
        exact (HBo.out.trans (((Below.refl _ _).alloc (Nat.le_refl _) _).mono HBo.out.size)).grown HG3.out (by have := HBo.out.size; simp; omega) fun q hq => (HO.out.lt q hq).1
    · obtain rfl : i = n := by omega
      have hlti : ¬ (i : Int) < (i : Int) := by omega
      have ho2 := HO.out
      rw [List.take_of_length_le (by rw [HLN.out]; omega)] at ho2
      have HO2 := Lib.hid ho2
      have HBW : Hid (Below w.heap.size w wo) := Lib.hid (HB.out.trans (HBo.out.mono HB.out.size))
      clear ho2 hi hlt HO
      by_cases hn : i = 0
      · skip
        have hni : (i : Int) = 0 := by omega
        have hnb : ((i : Int) == 0) = true := by simpa using hni
        cases hh : hasB nd with
        | false =>
          have HH := Lib.hid hh
          have HS : Hid (nodeB 1 nd l = false) := Lib.hid (by simp [nodeB, sidesB, singleB, blueB, smallB, HLN.out, hh])
          clear hh hn
          go_wp2_with (go_at_call 67; (with_reducible refine (rhas_any _ _).mono ?_); rintro e w' ⟨rfl, rfl⟩; rw [HH.out])
          go_ret
          exact ⟨by rw [HS.out]; rfl, HBW.out⟩
        | true =>
          have HH := Lib.hid hh
          by_cases h64 : nd ≤ 64
          · skip
            have HS : Hid (nodeB 1 nd l = true) := Lib.hid (by simp [nodeB, sidesB, singleB, blueB, smallB, HLN.out, hh, h64, hn])
            clear hh hn
            go_wp2_with (go_at_call 67; (with_reducible refine (rhas_any _ _).mono ?_); rintro e w' ⟨rfl, rfl⟩; rw [HH.out])
            go_ret
            exact ⟨by rw [HS.out]; rfl, HBW.out⟩
          · skip
            have HS : Hid (nodeB 1 nd l = false) := Lib.hid (by simp [nodeB, sidesB, singleB, blueB, smallB, HLN.out, hh, h64, hn])
            have h64b : decide (nd ≤ 64) = false := decide_eq_false h64
            clear hh hn
            go_wp2_with (go_at_call 67; (with_reducible refine (rhas_any _ _).mono ?_); rintro e w' ⟨rfl, rfl⟩; rw [HH.out])
            go_ret
            exact ⟨by rw [HS.out]; rfl, HBW.out⟩
      · skip
        have hni : ¬ (i : Int) = 0 := by omega
        have hnb : ((i : Int) == 0) = false := by simpa using hni
        have hnb2 : ((i : Int) != 0) = true := by simpa using hni
        have HS : Hid (nodeB 1 nd l = false) := Lib.hid (by simp [nodeB, sidesB, singleB, blueB, smallB, HLN.out, hn])
        clear hn
        go_wp2_with fail
        go_ret
        exact ⟨by rw [HS.out]; rfl, HBW.out⟩
set_option maxRecDepth 100000 in
set_option maxHeartbeats 8000000 in
theorem rnode2 (k : Nat) (F : Foot) (nd : Int) (l : List DescV) (a : Option Addr) (n cap : Nat) (w : World) (hl : RowOf (descRd k) 3 40 F w a n cap l) :
    Calls Tryz.prog 89 #[.agg #[.int .i64 2, .int .i64 nd, .slice a n cap]] w fun e w' => e = .returned (.bool (nodeB 2 nd l)) ∧ Below w.heap.size w w' := by
  obtain ⟨W1, hW1⟩ : ∃ W1, W1 = w.alloc (.cells #[.int .i64 2, .int .i64 nd, .slice a n cap] 42) := ⟨_, rfl⟩
  have hb1 : Below w.heap.size w W1 := by rw [hW1]; exact (Below.refl _ _).alloc (Nat.le_refl _) _
  have g1 : W1.heap[w.heap.size]? = some (.cells #[.int .i64 2, .int .i64 nd, .slice a n cap] 42 (0, 0)) := by rw [hW1]; exact heap_alloc_new w _
  have hz1 : w.heap.size < W1.heap.size := by rw [hW1]; simp
  have HB := Lib.hid hb1
  have HLN := Lib.hid hl.len
  have hroom := hl.room
  have HL := Lib.hid (hl.keep (descRd_ok _) (Fix.of_below hb1))
  have HT : Hid (∀ W, Below W1.heap.size W1 W → W.cell? ⟨w.heap.size, 0, none⟩ = some (.int .i64 2) ∧ W.cell? ⟨w.heap.size, 1, none⟩ = some (.int .i64 nd) ∧ W.cell? ⟨w.heap.size, 2, none⟩ = some (.slice a n cap)) := Lib.hid fun W hb => by
    have g := (hb.block _ hz1).trans g1
    exact ⟨cell_at g rfl, cell_at g rfl, cell_at g rfl⟩
  clear hl hb1 g1
  go_enter Tryz.func89, Tryz.ntmps89
  go_upto_region 1 with fail
  rw [← hW1]
  clear hW1
  go_upto_region 3 with fail
  go_loopg [3, 4] n (fun g v iv wr => ∃ i : Nat, i ≤ n ∧ g = n - i ∧ iv = .int .i64 i ∧ wr.ownsRow W1.heap.size 3 1 v i ((l.take i).map fun d => .int .i64 d.n) ∧ Below W1.heap.size W1 wr)
  case atStart => exact ⟨0, by omega, rfl, rfl, World.ownsRow_nil _ _ _ _, Below.refl _ _⟩
  case round =>
    obtain ⟨i, hi, rfl, rfl, ho, hB⟩ := hrel
    obtain ⟨wo, rfl⟩ : ∃ wo : World, wo = wr := ⟨_, rfl⟩
    obtain ⟨ka, kc, rfl⟩ := own_val ho
    obtain ⟨c0, c1, c2⟩ := HT.out wo hB
    have HO := Lib.hid ho
    have HBo := Lib.hid hB
    clear ho hB
    by_cases hlt : i < n
    · have hlti : (i : Int) < (n : Int) := by omega
      obtain ⟨b, off, rfl, hbw, p0, _⟩ := row_kid (HL.out.keep (descRd_ok _) (Fix.of_below HBo.out)) hlt
      have HTK : Hid ((l.take (i + 1)).map (fun d => Value.int .i64 d.n) = (l.take i).map (fun d => Value.int .i64 d.n) ++ [.int .i64 (kidN l i)]) := Lib.hid (by
        rw [List.take_succ_eq_append_getElem (by rw [HLN.out]; exact hlt), List.map_append, kidN_get (by rw [HLN.out]; exact hlt)]
        rfl)
      generalize kidN l i = x at *
      go_wp2_with (at_builtin; refine wpl_append rfl _ _ 126 rfl intElemR _ _ _ rfl _ _ _ [.int .i64 x] rfl (own_below HO.out ((Below.refl _ _).alloc (Nat.le_refl _) _)) (src_new3 _ 3 1 rfl one1) (by unfold maxLen; omega) (by omega) (by have := HBo.out.size; simp; omega) ?_; intro v' w3 ho3 hg3 _; have HO3 := Lib.hid ho3; have HG3 := Lib.hid hg3; clear ho3 hg3)
      go_roundg (n - (i + 1))
      case measure => omega
      case rel =>
        refine ⟨i + 1, by omega, rfl, by go_num, by rw [HTK.out]; exact HO3.out, ?_⟩
        exact (HBo.out.trans (((Below.refl _ _).alloc (Nat.le_refl _) _).mono HBo.out.size)).grown HG3.out (by have := HBo.out.size; simp; omega) fun q hq => (HO.out.lt q hq).1
    · obtain rfl : i = n := by omega
      have hlti : ¬ (i : Int) < (i : Int) := by omega
      have ho2 := HO.out
      rw [List.take_of_length_le (by rw [HLN.out]; omega)] at ho2
      have HO2 := Lib.hid ho2
      have HBW : Hid (Below w.heap.size w wo) := Lib.hid (HB.out.trans (HBo.out.mono HB.out.size))
      clear ho2 hi hlt HO
      by_cases hn : i = 0
      · skip
        have hni : (i : Int) = 0 := by omega
        have hnb : ((i : Int) == 0) = true := by simpa using hni
        by_cases h2 : 2 ≤ nd
        · by_cases h5 : nd ≤ 5
          · have h1 : 1 ≤ nd := by omega
            have HS : Hid (nodeB 2 nd l = true) := Lib.hid (by simp [nodeB, sidesB, singleB, blueB, smallB, HLN.out, hn, h2, h5, h1])
            clear hn
            go_wp2_with fail
            go_ret
            exact ⟨by rw [HS.out]; rfl, HBW.out⟩
          · skip
            have HS : Hid (nodeB 2 nd l = false) := Lib.hid (by simp [nodeB, sidesB, singleB, blueB, smallB, HLN.out, hn, h2, h5])
            have h5b : decide (nd ≤ 5) = false := decide_eq_false h5
            clear hn
            go_wp2_with fail
            go_ret
            exact ⟨by rw [HS.out]; rfl, HBW.out⟩
        · skip
          have HS : Hid (nodeB 2 nd l = false) := Lib.hid (by simp [nodeB, sidesB, singleB, blueB, smallB, HLN.out, hn, h2])
          have h2b : decide (2 ≤ nd) = false := decide_eq_false h2
          clear hn
          go_wp2_with fail
          go_ret
          exact ⟨by rw [HS.out]; rfl, HBW.out⟩
      · skip
        have hni : ¬ (i : Int) = 0 := by omega
        have hnb : ((i : Int) == 0) = false := by simpa using hni
        have hnb2 : ((i : Int) != 0) = true := by simpa using hni
        have HS : Hid (nodeB 2 nd l = false) := Lib.hid (by simp [nodeB, sidesB, singleB, blueB, smallB, HLN.out, hn])
        clear hn
        go_wp2_with fail
        go_ret
        exact ⟨by rw [HS.out]; rfl, HBW.out⟩
set_option maxRecDepth 100000 in
set_option maxHeartbeats 8000000 in
theorem rnode3 (k : Nat) (F : Foot) (nd : Int) (l : List DescV) (a : Option Addr) (n cap : Nat) (w : World) (hl : RowOf (descRd k) 3 40 F w a n cap l) :
    Calls Tryz.prog 89 #[.agg #[.int .i64 3, .int .i64 nd, .slice a n cap]] w fun e w' => e = .returned (.bool (nodeB 3 nd l)) ∧ Below w.heap.size w w' := by
  obtain ⟨W1, hW1⟩ : ∃ W1, W1 = w.alloc (.cells #[.int .i64 3, .int .i64 nd, .slice a n cap] 42) := ⟨_, rfl⟩
  have hb1 : Below w.heap.size w W1 := by rw [hW1]; exact (Below.refl _ _).alloc (Nat.le_refl _) _
  have g1 : W1.heap[w.heap.size]? = some (.cells #[.int .i64 3, .int .i64 nd, .slice a n cap] 42 (0, 0)) := by rw [hW1]; exact heap_alloc_new w _
  have hz1 : w.heap.size < W1.heap.size := by rw [hW1]; simp
  have HB := Lib.hid hb1
  have HLN := Lib.hid hl.len
  have hroom := hl.room
  have HL := Lib.hid (hl.keep (descRd_ok _) (Fix.of_below hb1))
  have HT : Hid (∀ W, Below W1.heap.size W1 W → W.cell? ⟨w.heap.size, 0, none⟩ = some (.int .i64 3) ∧ W.cell? ⟨w.heap.size, 1, none⟩ = some (.int .i64 nd) ∧ W.cell? ⟨w.heap.size, 2, none⟩ = some (.slice a n cap)) := Lib.hid fun W hb => by
    have g := (hb.block _ hz1).trans g1
    exact ⟨cell_at g rfl, cell_at g rfl, cell_at g rfl⟩
  clear hl hb1 g1
  go_enter Tryz.func89, Tryz.ntmps89
  go_upto_region 1 with fail
  rw [← hW1]
  clear hW1
  go_upto_region 3 with fail
  go_loopg [3, 4] n (fun g v iv wr => ∃ i : Nat, i ≤ n ∧ g = n - i ∧ iv = .int .i64 i ∧ wr.ownsRow W1.heap.size 3 1 v i ((l.take i).map fun d => .int .i64 d.n) ∧ Below W1.heap.size W1 wr)
  case atStart => exact ⟨0, by omega, rfl, rfl, World.ownsRow_nil _ _ _ _, Below.refl _ _⟩
  case round =>
    obtain ⟨i, hi, rfl, rfl, ho, hB⟩ := hrel
    obtain ⟨wo, rfl⟩ : ∃ wo : World, wo = wr := ⟨_, rfl⟩
    obtain ⟨ka, kc, rfl⟩ := own_val ho
    obtain ⟨c0, c1, c2⟩ := HT.out wo hB
    have HO := Lib.hid ho
    have HBo := Lib.hid hB
    clear ho hB
    by_cases hlt : i < n
    · have hlti : (i : Int) < (n : Int) := by omega
      obtain ⟨b, off, rfl, hbw, p0, _⟩ := row_kid (HL.out.keep (descRd_ok _) (Fix.of_below HBo.out)) hlt
      have HTK : Hid ((l.take (i + 1)).map (fun d => Value.int .i64 d.n) = (l.take i).map (fun d => Value.int .i64 d.n) ++ [.int .i64 (kidN l i)]) := Lib.hid (by
        rw [List.take_succ_eq_append_getElem (by rw [HLN.out]; exact hlt), List.map_append, kidN_get (by rw [HLN.out]; exact hlt)]
        rfl)
      generalize kidN l i = x at *
      go_wp2_with (at_builtin; refine wpl_append rfl _ _ 126 rfl intElemR _ _ _ rfl _ _ _ [.int .i64 x] rfl (own_below HO.out ((Below.refl _ _).alloc (Nat.le_refl _) _)) (src_new3 _ 3 1 rfl one1) (by unfold maxLen; omega) (by omega) (by have := HBo.out.size; simp; omega) ?_; intro v' w3 ho3 hg3 _; have HO3 := Lib.hid ho3; have HG3 := Lib.hid hg3; clear ho3 hg3)
      go_roundg (n - (i + 1))
      case measure => omega
      case rel =>
        refine ⟨i + 1, by omega, rfl, by go_num, by rw [HTK.out]; exact HO3.out, ?_⟩
        exact (HBo.out.trans (((Below.refl _ _).alloc (Nat.le_refl _) _).mono HBo.out.size)).grown HG3.out (by have := HBo.out.size; simp; omega) fun q hq => (HO.out.lt q hq).1
    · obtain rfl : i = n := by omega
      have hlti : ¬ (i : Int) < (i : Int) := by omega
      have ho2 := HO.out
      rw [List.take_of_length_le (by rw [HLN.out]; omega)] at ho2
      have HO2 := Lib.hid ho2
      have HBW : Hid (Below w.heap.size w wo) := Lib.hid (HB.out.trans (HBo.out.mono HB.out.size))
      clear ho2 hi hlt HO
      by_cases hn : i = 0
      · skip
        have hni : (i : Int) = 0 := by omega
        have hnb : ((i : Int) == 0) = true := by simpa using hni
        by_cases h2 : 2 ≤ nd
        · skip
          have HS : Hid (nodeB 3 nd l = stockB nd) := Lib.hid (by simp [nodeB, sidesB, singleB, blueB, smallB, HLN.out, hn, h2])
          clear hn
          go_wp2_with (go_at_call 103; (with_reducible refine (rpower_any _ _).mono ?_); rintro e w2 ⟨rfl, rfl⟩)
          go_ret
          exact ⟨by rw [HS.out]; rfl, HBW.out⟩
        · skip
          have HS : Hid (nodeB 3 nd l = false) := Lib.hid (by simp [nodeB, sidesB, singleB, blueB, smallB, HLN.out, hn, h2])
          have h2b : decide (2 ≤ nd) = false := decide_eq_false h2
          clear hn
          go_wp2_with fail
          go_ret
          exact ⟨by rw [HS.out]; rfl, HBW.out⟩
      · skip
        have hni : ¬ (i : Int) = 0 := by omega
        have hnb : ((i : Int) == 0) = false := by simpa using hni
        have hnb2 : ((i : Int) != 0) = true := by simpa using hni
        have HS : Hid (nodeB 3 nd l = false) := Lib.hid (by simp [nodeB, sidesB, singleB, blueB, smallB, HLN.out, hn])
        clear hn
        go_wp2_with fail
        go_ret
        exact ⟨by rw [HS.out]; rfl, HBW.out⟩
set_option maxRecDepth 100000 in
set_option maxHeartbeats 8000000 in
theorem rnode0 (k : Nat) (F : Foot) (kd nd : Int) (l : List DescV) (a : Option Addr) (n cap : Nat) (w : World) (hl : RowOf (descRd k) 3 40 F w a n cap l) (hk : ¬ (kd = 1 ∨ kd = 2 ∨ kd = 3 ∨ kd = 4 ∨ kd = 5 ∨ kd = 6 ∨ kd = 7)) :
    Calls Tryz.prog 89 #[.agg #[.int .i64 kd, .int .i64 nd, .slice a n cap]] w fun e w' => e = .returned (.bool (nodeB kd nd l)) ∧ Below w.heap.size w w' := by
  obtain ⟨W1, hW1⟩ : ∃ W1, W1 = w.alloc (.cells #[.int .i64 kd, .int .i64 nd, .slice a n cap] 42) := ⟨_, rfl⟩
  have hb1 : Below w.heap.size w W1 := by rw [hW1]; exact (Below.refl _ _).alloc (Nat.le_refl _) _
  have g1 : W1.heap[w.heap.size]? = some (.cells #[.int .i64 kd, .int .i64 nd, .slice a n cap] 42 (0, 0)) := by rw [hW1]; exact heap_alloc_new w _
  have hz1 : w.heap.size < W1.heap.size := by rw [hW1]; simp
  have HB := Lib.hid hb1
  have HLN := Lib.hid hl.len
  have hroom := hl.room
  have HL := Lib.hid (hl.keep (descRd_ok _) (Fix.of_below hb1))
  have HT : Hid (∀ W, Below W1.heap.size W1 W → W.cell? ⟨w.heap.size, 0, none⟩ = some (.int .i64 kd) ∧ W.cell? ⟨w.heap.size, 1, none⟩ = some (.int .i64 nd) ∧ W.cell? ⟨w.heap.size, 2, none⟩ = some (.slice a n cap)) := Lib.hid fun W hb => by
    have g := (hb.block _ hz1).trans g1
    exact ⟨cell_at g rfl, cell_at g rfl, cell_at g rfl⟩
  clear hl hb1 g1
  go_enter Tryz.func89, Tryz.ntmps89
  go_upto_region 1 with fail
  rw [← hW1]
  clear hW1
  go_upto_region 3 with fail
  go_loopg [3, 4] n (fun g v iv wr => ∃ i : Nat, i ≤ n ∧ g = n - i ∧ iv = .int .i64 i ∧ wr.ownsRow W1.heap.size 3 1 v i ((l.take i).map fun d => .int .i64 d.n) ∧ Below W1.heap.size W1 wr)
  case atStart => exact ⟨0, by omega, rfl, rfl, World.ownsRow_nil _ _ _ _, Below.refl _ _⟩
  case round =>
    obtain ⟨i, hi, rfl, rfl, ho, hB⟩ := hrel
    obtain ⟨wo, rfl⟩ : ∃ wo : World, wo = wr := ⟨_, rfl⟩
    obtain ⟨ka, kc, rfl⟩ := own_val ho
    obtain ⟨c0, c1, c2⟩ := HT.out wo hB
    have HO := Lib.hid ho
    have HBo := Lib.hid hB
    clear ho hB
    by_cases hlt : i < n
    · have hlti : (i : Int) < (n : Int) := by omega
      obtain ⟨b, off, rfl, hbw, p0, _⟩ := row_kid (HL.out.keep (descRd_ok _) (Fix.of_below HBo.out)) hlt
      have HTK : Hid ((l.take (i + 1)).map (fun d => Value.int .i64 d.n) = (l.take i).map (fun d => Value.int .i64 d.n) ++ [.int .i64 (kidN l i)]) := Lib.hid (by
        rw [List.take_succ_eq_append_getElem (by rw [HLN.out]; exact hlt), List.map_append, kidN_get (by rw [HLN.out]; exact hlt)]
        rfl)
      generalize kidN l i = x at *
      go_wp2_with (at_builtin; refine wpl_append rfl _ _ 126 rfl intElemR _ _ _ rfl _ _ _ [.int .i64 x] rfl (own_below HO.out ((Below.refl _ _).alloc (Nat.le_refl _) _)) (src_new3 _ 3 1 rfl one1) (by unfold maxLen; omega) (by omega) (by have := HBo.out.size; simp; omega) ?_; intro v' w3 ho3 hg3 _; have HO3 := Lib.hid ho3; have HG3 := Lib.hid hg3; clear ho3 hg3)
      go_roundg (n - (i + 1))
      case measure => omega
      case rel =>
        refine ⟨i + 1, by omega, rfl, by go_num, by rw [HTK.out]; exact HO3.out, ?_⟩
        exact (HBo.out.trans (((Below.refl _ _).alloc (Nat.le_refl _) _).mono HBo.out.size)).grown HG3.out (by have := HBo.out.size; simp; omega) fun q hq => (HO.out.lt q hq).1
    · obtain rfl : i = n := by omega
      have hlti : ¬ (i : Int) < (i : Int) := by omega
      have ho2 := HO.out
      rw [List.take_of_length_le (by rw [HLN.out]; omega)] at ho2
      have HO2 := Lib.hid ho2
      have HBW : Hid (Below w.heap.size w wo) := Lib.hid (HB.out.trans (HBo.out.mono HB.out.size))
      clear ho2 hi hlt HO
      have HS : Hid (nodeB kd nd l = false) := Lib.hid (by unfold nodeB; rw [if_neg (by omega), if_neg (by omega), if_neg (by omega), if_neg (by omega), if_neg (by omega), if_neg (by omega), if_neg (by omega)])
      have k1 : ¬ kd = 1 := by omega
      have b1 : (kd == 1) = false := by simpa using k1
      have k2 : ¬ kd = 2 := by omega
      have b2 : (kd == 2) = false := by simpa using k2
      have k3 : ¬ kd = 3 := by omega
      have b3 : (kd == 3) = false := by simpa using k3
      have k4 : ¬ kd = 4 := by omega
      have b4 : (kd == 4) = false := by simpa using k4
      have k5 : ¬ kd = 5 := by omega
      have b5 : (kd == 5) = false := by simpa using k5
      have k6 : ¬ kd = 6 := by omega
      have b6 : (kd == 6) = false := by simpa using k6
      have k7 : ¬ kd = 7 := by omega
      have b7 : (kd == 7) = false := by simpa using k7
      clear hk
      go_wp2_with fail
      go_ret
      exact ⟨by rw [HS.out]; rfl, HBW.out⟩
end Go.Proofs.YtephllgddhncgaaGreatDoor
/- The reference's Node: kinds with kids. -/
namespace Go.Proofs.YtephllgddhncgaaGreatDoor
open Go.RowKit
set_option linter.unusedSimpArgs false
set_option linter.unusedVariables false
set_option maxRecDepth 100000 in
set_option maxHeartbeats 8000000 in
theorem rnode4 (k : Nat) (F : Foot) (nd : Int) (l : List DescV) (a : Option Addr) (n cap : Nat) (w : World) (hl : RowOf (descRd k) 3 40 F w a n cap l) :
    Calls Tryz.prog 89 #[.agg #[.int .i64 4, .int .i64 nd, .slice a n cap]] w fun e w' => e = .returned (.bool (nodeB 4 nd l)) ∧ Below w.heap.size w w' := by
  obtain ⟨W1, hW1⟩ : ∃ W1, W1 = w.alloc (.cells #[.int .i64 4, .int .i64 nd, .slice a n cap] 42) := ⟨_, rfl⟩
  have hb1 : Below w.heap.size w W1 := by rw [hW1]; exact (Below.refl _ _).alloc (Nat.le_refl _) _
  have g1 : W1.heap[w.heap.size]? = some (.cells #[.int .i64 4, .int .i64 nd, .slice a n cap] 42 (0, 0)) := by rw [hW1]; exact heap_alloc_new w _
  have hz1 : w.heap.size < W1.heap.size := by rw [hW1]; simp
  have HB := Lib.hid hb1
  have HLN := Lib.hid hl.len
  have hroom := hl.room
  have HL := Lib.hid (hl.keep (descRd_ok _) (Fix.of_below hb1))
  have HT : Hid (∀ W, Below W1.heap.size W1 W → W.cell? ⟨w.heap.size, 0, none⟩ = some (.int .i64 4) ∧ W.cell? ⟨w.heap.size, 1, none⟩ = some (.int .i64 nd) ∧ W.cell? ⟨w.heap.size, 2, none⟩ = some (.slice a n cap)) := Lib.hid fun W hb => by
    have g := (hb.block _ hz1).trans g1
    exact ⟨cell_at g rfl, cell_at g rfl, cell_at g rfl⟩
  clear hl hb1 g1
  go_enter Tryz.func89, Tryz.ntmps89
  go_upto_region 1 with fail
  rw [← hW1]
  clear hW1
  go_upto_region 3 with fail
  go_loopg [3, 4] n (fun g v iv wr => ∃ i : Nat, i ≤ n ∧ g = n - i ∧ iv = .int .i64 i ∧ wr.ownsRow W1.heap.size 3 1 v i ((l.take i).map fun d => .int .i64 d.n) ∧ Below W1.heap.size W1 wr)
  case atStart => exact ⟨0, by omega, rfl, rfl, World.ownsRow_nil _ _ _ _, Below.refl _ _⟩
  case round =>
    obtain ⟨i, hi, rfl, rfl, ho, hB⟩ := hrel
    obtain ⟨wo, rfl⟩ : ∃ wo : World, wo = wr := ⟨_, rfl⟩
    obtain ⟨ka, kc, rfl⟩ := own_val ho
    obtain ⟨c0, c1, c2⟩ := HT.out wo hB
    have HO := Lib.hid ho
    have HBo := Lib.hid hB
    clear ho hB
    by_cases hlt : i < n
    · have hlti : (i : Int) < (n : Int) := by omega
      obtain ⟨b, off, rfl, hbw, p0, _⟩ := row_kid (HL.out.keep (descRd_ok _) (Fix.of_below HBo.out)) hlt
      have HTK : Hid ((l.take (i + 1)).map (fun d => Value.int .i64 d.n) = (l.take i).map (fun d => Value.int .i64 d.n) ++ [.int .i64 (kidN l i)]) := Lib.hid (by
        rw [List.take_succ_eq_append_getElem (by rw [HLN.out]; exact hlt), List.map_append, kidN_get (by rw [HLN.out]; exact hlt)]
        rfl)
      generalize kidN l i = x at *
      go_wp2_with (at_builtin; refine wpl_append rfl _ _ 126 rfl intElemR _ _ _ rfl _ _ _ [.int .i64 x] rfl (own_below HO.out ((Below.refl _ _).alloc (Nat.le_refl _) _)) (src_new3 _ 3 1 rfl one1) (by unfold maxLen; omega) (by omega) (by have := HBo.out.size; simp; omega) ?_; intro v' w3 ho3 hg3 _; have HO3 := Lib.hid ho3; have HG3 := Lib.hid hg3; clear ho3 hg3)
      go_roundg (n - (i + 1))
      case measure => omega
      case rel =>
        refine ⟨i + 1, by omega, rfl, by go_num, by rw [HTK.out]; exact HO3.out, ?_⟩
        exact (HBo.out.trans (((Below.refl _ _).alloc (Nat.le_refl _) _).mono HBo.out.size)).grown HG3.out (by have := HBo.out.size; simp; omega) fun q hq => (HO.out.lt q hq).1
    · obtain rfl : i = n := by omega
      have hlti : ¬ (i : Int) < (i : Int) := by omega
      have ho2 := HO.out
      rw [List.take_of_length_le (by rw [HLN.out]; omega)] at ho2
      have HO2 := Lib.hid ho2
      have HBW : Hid (Below w.heap.size w wo) := Lib.hid (HB.out.trans (HBo.out.mono HB.out.size))
      clear ho2 hi hlt HO
      by_cases hn : i = 2
      · skip
        have hni : (i : Int) = 2 := by omega
        have hnb : ((i : Int) == 2) = true := by simpa using hni
        have hl2 : l.length = 2 := by rw [HLN.out]; exact hn
        cases hh : hasB nd with
        | false =>
          have HH := Lib.hid hh
          have HQ : Hid (∀ W, Calls Tryz.prog 67 #[.int .i64 nd] W fun e w' => e = .returned (.bool false) ∧ W = w') := Lib.hid fun W => by have h := rhas_any nd W; rw [hh] at h; exact h
          have HS : Hid (nodeB 4 nd l = false) := Lib.hid (by simp [nodeB, sidesB, singleB, blueB, smallB, HLN.out, hh])
          clear hh hn
          go_upto_region 15 with fail
          go_quiet ((go_at_call 67; exact qsame (HQ.out _)))
          go_wp2_with fail
          go_ret
          exact ⟨by rw [HS.out]; rfl, by first | exact HBW.out | exact HBW.out.drew | exact below_drewN HBW.out _ | exact below_drewN (below_drewN HBW.out _) _⟩
        | true =>
          have HH := Lib.hid hh
          have HQ : Hid (∀ W, Calls Tryz.prog 67 #[.int .i64 nd] W fun e w' => e = .returned (.bool true) ∧ W = w') := Lib.hid fun W => by have h := rhas_any nd W; rw [hh] at h; exact h
          obtain ⟨hn1, hn2⟩ := hasB_le hh
          subst hn
          obtain ⟨g, rfl, q0, hgz⟩ := kids_cell HO2.out (i := 0) (by omega) hl2
          obtain ⟨g', he, q1, _⟩ := kids_cell HO2.out (i := 1) (by omega) hl2
          cases he
          obtain ⟨b, off, rfl, _, _, wf0⟩ := row_kid HL.out (i := 0) (by omega)
          obtain ⟨_, _, _, _, _, wf1⟩ := row_kid HL.out (i := 1) (by omega)
          have HSD : Hid (sidesB nd l = (decide (2 ≤ kidN l 0) && (decide (2 ≤ kidN l 1) && (decide (kidN l 0 ≤ nd) && (decide (kidN l 1 ≤ nd) && decide (kidN l 0 * kidN l 1 = nd)))))) := Lib.hid (by unfold sidesB; rw [hh, hl2]; simp)
          have HS0 : Hid (nodeB 4 nd l = sidesB nd l) := Lib.hid (by simp [nodeB, hl2])
          generalize kidN l 0 = x at *
          generalize kidN l 1 = y at *
          clear hh
          by_cases t1 : 2 ≤ x
          · have t1b : ¬ x < 2 := by omega
            by_cases t2 : 2 ≤ y
            · have t2b : ¬ y < 2 := by omega
              have hx0 : ¬ x = 0 := by omega
              have HM := Lib.hid (mul_iff hn1 t1 t2)
              have hmod : Int.tmod nd x = nd % x := by rw [Int.tmod_eq_emod_of_nonneg (by omega)]
              have hdiv : Int.tdiv nd x = nd / x := by rw [Int.tdiv_eq_ediv_of_nonneg (by omega)]
              have hm0 : 0 ≤ nd % x := Int.emod_nonneg _ hx0
              have hm1 : nd % x < x := Int.emod_lt_of_pos _ (by omega)
              have hd0 : 0 ≤ nd / x := Int.ediv_nonneg (by omega) (by omega)
              have hd1 : nd / x ≤ nd := Int.ediv_le_self _ (by omega)
              have hxn : x ≤ 9223372036854775807 := (wf_i64_bd wf0).2
              have wm : IntKind.i64.wrap (nd % x) = nd % x := wrapI (by omega) (by omega)
              have wd : IntKind.i64.wrap (nd / x) = nd / x := wrapI (by omega) (by omega)
              have wm2 : wrap64 (nd % x) = nd % x := by unfold wrap64; omega
              have wd2 : wrap64 (nd / x) = nd / x := by unfold wrap64; omega
              by_cases t3 : nd % x = 0
              · by_cases t4 : nd / x = y
                · obtain ⟨u1, u2, u3⟩ := HM.out.2 ⟨t3, t4⟩
                  have HSY : Hid (sidesB nd l = true) := Lib.hid (by rw [HSD.out]; simp [t1, t2, u1, u2, u3])
                  clear u1 u2 u3 HM
                  have t3b : (nd % x != 0) = false := by simpa using t3
                  have t4b : (nd / x != y) = false := by simpa using t4
                  clear t3 t4
                  have HS : Hid (nodeB 4 nd l = true) := Lib.hid (by rw [HS0.out, HSY.out])
                  go_upto_region 15 with fail
                  go_quiet ((go_at_call 67; exact qsame (HQ.out _)))
                  go_wp2_with fail
                  go_quiet (fail)
                  go_wp2_with fail
                  go_ret
                  exact ⟨by rw [HS.out]; rfl, by first | exact HBW.out | exact HBW.out.drew | exact below_drewN HBW.out _ | exact below_drewN (below_drewN HBW.out _) _⟩
                · have t4n : ¬ (x ≤ nd ∧ y ≤ nd ∧ x * y = nd) := fun h => t4 (HM.out.1 h).2
                  have t4b : (nd / x != y) = true := by simpa using t4
                  have t3b : (nd % x != 0) = false := by simpa using t3
                  have HSN : Hid (sidesB nd l = false) := Lib.hid (by rw [HSD.out]; by_cases v1 : x ≤ nd <;> by_cases v2 : y ≤ nd <;> by_cases v3 : x * y = nd <;> simp_all)
                  have HS : Hid (nodeB 4 nd l = false) := Lib.hid (by rw [HS0.out, HSN.out])
                  clear t3 t4 t4n HM
                  go_upto_region 15 with fail
                  go_quiet ((go_at_call 67; exact qsame (HQ.out _)))
                  go_wp2_with fail
                  go_ret
                  exact ⟨by rw [HS.out]; rfl, by first | exact HBW.out | exact HBW.out.drew | exact below_drewN HBW.out _ | exact below_drewN (below_drewN HBW.out _) _⟩
              · have t4n : ¬ (x ≤ nd ∧ y ≤ nd ∧ x * y = nd) := fun h => t3 (HM.out.1 h).1
                have t3b : (nd % x != 0) = true := by simpa using t3
                have HSN : Hid (sidesB nd l = false) := Lib.hid (by rw [HSD.out]; by_cases v1 : x ≤ nd <;> by_cases v2 : y ≤ nd <;> by_cases v3 : x * y = nd <;> simp_all)
                have HS : Hid (nodeB 4 nd l = false) := Lib.hid (by rw [HS0.out, HSN.out])
                clear t3 t4n HM
                go_upto_region 15 with fail
                go_quiet ((go_at_call 67; exact qsame (HQ.out _)))
                go_wp2_with fail
                go_ret
                exact ⟨by rw [HS.out]; rfl, by first | exact HBW.out | exact HBW.out.drew | exact below_drewN HBW.out _ | exact below_drewN (below_drewN HBW.out _) _⟩
            · have t2b : y < 2 := by omega
              have HS : Hid (nodeB 4 nd l = false) := Lib.hid (by rw [HS0.out, HSD.out]; simp [t1, t2])
              go_upto_region 15 with fail
              go_quiet ((go_at_call 67; exact qsame (HQ.out _)))
              go_wp2_with fail
              go_ret
              exact ⟨by rw [HS.out]; rfl, by first | exact HBW.out | exact HBW.out.drew | exact below_drewN HBW.out _ | exact below_drewN (below_drewN HBW.out _) _⟩
          · have t1b : x < 2 := by omega
            have HS : Hid (nodeB 4 nd l = false) := Lib.hid (by rw [HS0.out, HSD.out]; simp [t1])
            go_upto_region 15 with fail
            go_quiet ((go_at_call 67; exact qsame (HQ.out _)))
            go_wp2_with fail
            go_ret
            exact ⟨by rw [HS.out]; rfl, by first | exact HBW.out | exact HBW.out.drew | exact below_drewN HBW.out _ | exact below_drewN (below_drewN HBW.out _) _⟩
      · skip
        have hni : ¬ (i : Int) = 2 := by omega
        have hnb : ((i : Int) == 2) = false := by simpa using hni
        have hnb2 : ((i : Int) != 2) = true := by simpa using hni
        have HS : Hid (nodeB 4 nd l = false) := Lib.hid (by simp [nodeB, sidesB, singleB, blueB, smallB, HLN.out, hn])
        clear hn
        go_upto_region 15 with fail
        go_quiet (fail)
        go_wp2_with fail
        go_ret
        exact ⟨by rw [HS.out]; rfl, by first | exact HBW.out | exact HBW.out.drew | exact below_drewN HBW.out _ | exact below_drewN (below_drewN HBW.out _) _⟩
end Go.Proofs.YtephllgddhncgaaGreatDoor
/- The reference's Node: kinds with kids. -/
namespace Go.Proofs.YtephllgddhncgaaGreatDoor
open Go.RowKit
set_option linter.unusedSimpArgs false
set_option linter.unusedVariables false
set_option maxRecDepth 100000 in
set_option maxHeartbeats 8000000 in
theorem rnode5 (k : Nat) (F : Foot) (nd : Int) (l : List DescV) (a : Option Addr) (n cap : Nat) (w : World) (hl : RowOf (descRd k) 3 40 F w a n cap l) :
    Calls Tryz.prog 89 #[.agg #[.int .i64 5, .int .i64 nd, .slice a n cap]] w fun e w' => e = .returned (.bool (nodeB 5 nd l)) ∧ Below w.heap.size w w' := by
  obtain ⟨W1, hW1⟩ : ∃ W1, W1 = w.alloc (.cells #[.int .i64 5, .int .i64 nd, .slice a n cap] 42) := ⟨_, rfl⟩
  have hb1 : Below w.heap.size w W1 := by rw [hW1]; exact (Below.refl _ _).alloc (Nat.le_refl _) _
  have g1 : W1.heap[w.heap.size]? = some (.cells #[.int .i64 5, .int .i64 nd, .slice a n cap] 42 (0, 0)) := by rw [hW1]; exact heap_alloc_new w _
  have hz1 : w.heap.size < W1.heap.size := by rw [hW1]; simp
  have HB := Lib.hid hb1
  have HLN := Lib.hid hl.len
  have hroom := hl.room
  have HL := Lib.hid (hl.keep (descRd_ok _) (Fix.of_below hb1))
  have HT : Hid (∀ W, Below W1.heap.size W1 W → W.cell? ⟨w.heap.size, 0, none⟩ = some (.int .i64 5) ∧ W.cell? ⟨w.heap.size, 1, none⟩ = some (.int .i64 nd) ∧ W.cell? ⟨w.heap.size, 2, none⟩ = some (.slice a n cap)) := Lib.hid fun W hb => by
    have g := (hb.block _ hz1).trans g1
    exact ⟨cell_at g rfl, cell_at g rfl, cell_at g rfl⟩
  clear hl hb1 g1
  go_enter Tryz.func89, Tryz.ntmps89
  go_upto_region 1 with fail
  rw [← hW1]
  clear hW1
  go_upto_region 3 with fail
  go_loopg [3, 4] n (fun g v iv wr => ∃ i : Nat, i ≤ n ∧ g = n - i ∧ iv = .int .i64 i ∧ wr.ownsRow W1.heap.size 3 1 v i ((l.take i).map fun d => .int .i64 d.n) ∧ Below W1.heap.size W1 wr)
  case atStart => exact ⟨0, by omega, rfl, rfl, World.ownsRow_nil _ _ _ _, Below.refl _ _⟩
  case round =>
    obtain ⟨i, hi, rfl, rfl, ho, hB⟩ := hrel
    obtain ⟨wo, rfl⟩ : ∃ wo : World, wo = wr := ⟨_, rfl⟩
    obtain ⟨ka, kc, rfl⟩ := own_val ho
    obtain ⟨c0, c1, c2⟩ := HT.out wo hB
    have HO := Lib.hid ho
    have HBo := Lib.hid hB
    clear ho hB
    by_cases hlt : i < n
    · have hlti : (i : Int) < (n : Int) := by omega
      obtain ⟨b, off, rfl, hbw, p0, _⟩ := row_kid (HL.out.keep (descRd_ok _) (Fix.of_below HBo.out)) hlt
      have HTK : Hid ((l.take (i + 1)).map (fun d => Value.int .i64 d.n) = (l.take i).map (fun d => Value.int .i64 d.n) ++ [.int .i64 (kidN l i)]) := Lib.hid (by
        rw [List.take_succ_eq_append_getElem (by rw [HLN.out]; exact hlt), List.map_append, kidN_get (by rw [HLN.out]; exact hlt)]
        rfl)
      generalize kidN l i = x at *
      go_wp2_with (at_builtin; refine wpl_append rfl _ _ 126 rfl intElemR _ _ _ rfl _ _ _ [.int .i64 x] rfl (own_below HO.out ((Below.refl _ _).alloc (Nat.le_refl _) _)) (src_new3 _ 3 1 rfl one1) (by unfold maxLen; omega) (by omega) (by have := HBo.out.size; simp; omega) ?_; intro v' w3 ho3 hg3 _; have HO3 := Lib.hid ho3; have HG3 := Lib.hid hg3; clear ho3 hg3)
      go_roundg (n - (i + 1))
      case measure => omega
      case rel =>
        refine ⟨i + 1, by omega, rfl, by go_num, by rw [HTK.out]; exact HO3.out, ?_⟩
        exact (HBo.out.trans (((Below.refl _ _).alloc (Nat.le_refl _) _).mono HBo.out.size)).grown HG3.out (by have := HBo.out.size; simp; omega) fun q hq => (HO.out.lt q hq).1
    · obtain rfl : i = n := by omega
      have hlti : ¬ (i : Int) < (i : Int) := by omega
      have ho2 := HO.out
      rw [List.take_of_length_le (by rw [HLN.out]; omega)] at ho2
      have HO2 := Lib.hid ho2
      have HBW : Hid (Below w.heap.size w wo) := Lib.hid (HB.out.trans (HBo.out.mono HB.out.size))
      clear ho2 hi hlt HO
      by_cases hn : i = 2
      · skip
        have hni : (i : Int) = 2 := by omega
        have hnb : ((i : Int) == 2) = true := by simpa using hni
        have hl2 : l.length = 2 := by rw [HLN.out]; exact hn
        cases hh : hasB nd with
        | false =>
          have HH := Lib.hid hh
          have HQ : Hid (∀ W, Calls Tryz.prog 67 #[.int .i64 nd] W fun e w' => e = .returned (.bool false) ∧ W = w') := Lib.hid fun W => by have h := rhas_any nd W; rw [hh] at h; exact h
          have HS : Hid (nodeB 5 nd l = false) := Lib.hid (by simp [nodeB, sidesB, singleB, blueB, smallB, HLN.out, hh])
          clear hh hn
          go_upto_region 15 with fail
          go_quiet ((go_at_call 67; exact qsame (HQ.out _)))
          go_wp2_with fail
          go_ret
          exact ⟨by rw [HS.out]; rfl, by first | exact HBW.out | exact HBW.out.drew | exact below_drewN HBW.out _ | exact below_drewN (below_drewN HBW.out _) _⟩
        | true =>
          have HH := Lib.hid hh
          have HQ : Hid (∀ W, Calls Tryz.prog 67 #[.int .i64 nd] W fun e w' => e = .returned (.bool true) ∧ W = w') := Lib.hid fun W => by have h := rhas_any nd W; rw [hh] at h; exact h
          obtain ⟨hn1, hn2⟩ := hasB_le hh
          subst hn
          obtain ⟨g, rfl, q0, hgz⟩ := kids_cell HO2.out (i := 0) (by omega) hl2
          obtain ⟨g', he, q1, _⟩ := kids_cell HO2.out (i := 1) (by omega) hl2
          cases he
          obtain ⟨b, off, rfl, _, _, wf0⟩ := row_kid HL.out (i := 0) (by omega)
          obtain ⟨_, _, _, _, _, wf1⟩ := row_kid HL.out (i := 1) (by omega)
          have HSD : Hid (sidesB nd l = (decide (2 ≤ kidN l 0) && (decide (2 ≤ kidN l 1) && (decide (kidN l 0 ≤ nd) && (decide (kidN l 1 ≤ nd) && decide (kidN l 0 * kidN l 1 = nd)))))) := Lib.hid (by unfold sidesB; rw [hh, hl2]; simp)
          have HS0 : Hid (nodeB 5 nd l = (decide (gcdI (kidN l 0) (kidN l 1) = 1) && sidesB nd l)) := Lib.hid (by simp [nodeB, hl2])
          generalize kidN l 0 = x at *
          generalize kidN l 1 = y at *
          clear hh
          by_cases t1 : 2 ≤ x
          · have t1b : ¬ x < 2 := by omega
            by_cases t2 : 2 ≤ y
            · have t2b : ¬ y < 2 := by omega
              have hx0 : ¬ x = 0 := by omega
              have HM := Lib.hid (mul_iff hn1 t1 t2)
              have hmod : Int.tmod nd x = nd % x := by rw [Int.tmod_eq_emod_of_nonneg (by omega)]
              have hdiv : Int.tdiv nd x = nd / x := by rw [Int.tdiv_eq_ediv_of_nonneg (by omega)]
              have hm0 : 0 ≤ nd % x := Int.emod_nonneg _ hx0
              have hm1 : nd % x < x := Int.emod_lt_of_pos _ (by omega)
              have hd0 : 0 ≤ nd / x := Int.ediv_nonneg (by omega) (by omega)
              have hd1 : nd / x ≤ nd := Int.ediv_le_self _ (by omega)
              have hxn : x ≤ 9223372036854775807 := (wf_i64_bd wf0).2
              have wm : IntKind.i64.wrap (nd % x) = nd % x := wrapI (by omega) (by omega)
              have wd : IntKind.i64.wrap (nd / x) = nd / x := wrapI (by omega) (by omega)
              have wm2 : wrap64 (nd % x) = nd % x := by unfold wrap64; omega
              have wd2 : wrap64 (nd / x) = nd / x := by unfold wrap64; omega
              by_cases t3 : nd % x = 0
              · by_cases t4 : nd / x = y
                · obtain ⟨u1, u2, u3⟩ := HM.out.2 ⟨t3, t4⟩
                  have HSY : Hid (sidesB nd l = true) := Lib.hid (by rw [HSD.out]; simp [t1, t2, u1, u2, u3])
                  clear u1 u2 u3 HM
                  have t3b : (nd % x != 0) = false := by simpa using t3
                  have t4b : (nd / x != y) = false := by simpa using t4
                  clear t3 t4
                  have HSC : Hid (∀ W, Below wo.heap.size wo W → W.cell? ⟨w.heap.size, 0, none⟩ = some (.int .i64 5) ∧ W.cell? ⟨g, 0, none⟩ = some (.int .i64 x) ∧ W.cell? ⟨g, 1, none⟩ = some (.int .i64 y)) := Lib.hid fun W hb => ⟨(HT.out W (HBo.out.trans (hb.mono HBo.out.size))).1, (hb.cell (p := ⟨g, 0, none⟩) hgz).trans q0, (hb.cell (p := ⟨g, 1, none⟩) hgz).trans q1⟩
                  go_upto_region 15 with fail
                  go_quiet ((go_at_call 67; exact qsame (HQ.out _)))
                  go_upto_region 17 with fail
                  have hbz : Below wo.heap.size wo (wo.drewN nq) := below_drewN (Below.refl _ _) _
                  generalize wo.drewN nq = wq at *
                  by_cases hg : gcdI x y = 1
                  · have HS : Hid (nodeB 5 nd l = true) := Lib.hid (by rw [HS0.out, HSY.out, decide_eq_true hg]; rfl)
                    have hgb : (gcdI x y == 1) = true := by simpa using hg
                    clear hg
                    go_region_held3 (fun W => W.cell? ⟨w.heap.size, 0, none⟩ = some (.int .i64 5) ∧ W.cell? ⟨g, 0, none⟩ = some (.int .i64 x) ∧ W.cell? ⟨g, 1, none⟩ = some (.int .i64 y)) ((refine HSC.out _ ?_; ((repeat' (first | with_reducible assumption | with_reducible refine Below.drew ?_ | (with_reducible refine Below.alloc ?_ ?_ _))) <;> first | assumption | (simp; done) | (simp; omega))))
                      ((go_at_call 104; (with_reducible refine (rgcd_any _ _ _ wf0 wf1).mono ?_); rintro e w2 ⟨rfl, hb2⟩; have hb2z : Below wo.heap.size wo w2 := Below.trans (show Below wo.heap.size wo _ by ((repeat' (first | with_reducible assumption | with_reducible refine Below.drew ?_ | (with_reducible refine Below.alloc ?_ ?_ _))) <;> first | assumption | (simp; done) | (simp; omega))) (hb2.mono (Below.size (show Below wo.heap.size wo _ by ((repeat' (first | with_reducible assumption | with_reducible refine Below.drew ?_ | (with_reducible refine Below.alloc ?_ ?_ _))) <;> first | assumption | (simp; done) | (simp; omega))))); clear hb2))
                    all_goals
                      have HB2 : Hid (Below wo.heap.size wo w2) := Lib.hid (by assumption)
                      go_wp2_with fail
                      go_ret
                      exact ⟨by rw [HS.out]; rfl, HBW.out.trans (HB2.out.mono HBW.out.size)⟩
                  · have HS : Hid (nodeB 5 nd l = false) := Lib.hid (by rw [HS0.out, HSY.out, decide_eq_false hg]; rfl)
                    have hgb : (gcdI x y == 1) = false := by simpa using hg
                    clear hg
                    go_region_held3 (fun W => W.cell? ⟨w.heap.size, 0, none⟩ = some (.int .i64 5) ∧ W.cell? ⟨g, 0, none⟩ = some (.int .i64 x) ∧ W.cell? ⟨g, 1, none⟩ = some (.int .i64 y)) ((refine HSC.out _ ?_; ((repeat' (first | with_reducible assumption | with_reducible refine Below.drew ?_ | (with_reducible refine Below.alloc ?_ ?_ _))) <;> first | assumption | (simp; done) | (simp; omega))))
                      ((go_at_call 104; (with_reducible refine (rgcd_any _ _ _ wf0 wf1).mono ?_); rintro e w2 ⟨rfl, hb2⟩; have hb2z : Below wo.heap.size wo w2 := Below.trans (show Below wo.heap.size wo _ by ((repeat' (first | with_reducible assumption | with_reducible refine Below.drew ?_ | (with_reducible refine Below.alloc ?_ ?_ _))) <;> first | assumption | (simp; done) | (simp; omega))) (hb2.mono (Below.size (show Below wo.heap.size wo _ by ((repeat' (first | with_reducible assumption | with_reducible refine Below.drew ?_ | (with_reducible refine Below.alloc ?_ ?_ _))) <;> first | assumption | (simp; done) | (simp; omega))))); clear hb2))
                    all_goals
                      have HB2 : Hid (Below wo.heap.size wo w2) := Lib.hid (by assumption)
                      go_wp2_with fail
                      go_ret
                      exact ⟨by rw [HS.out]; rfl, HBW.out.trans (HB2.out.mono HBW.out.size)⟩
                · have t4n : ¬ (x ≤ nd ∧ y ≤ nd ∧ x * y = nd) := fun h => t4 (HM.out.1 h).2
                  have t4b : (nd / x != y) = true := by simpa using t4
                  have t3b : (nd % x != 0) = false := by simpa using t3
                  have HSN : Hid (sidesB nd l = false) := Lib.hid (by rw [HSD.out]; by_cases v1 : x ≤ nd <;> by_cases v2 : y ≤ nd <;> by_cases v3 : x * y = nd <;> simp_all)
                  have HS : Hid (nodeB 5 nd l = false) := Lib.hid (by rw [HS0.out, HSN.out, Bool.and_false])
                  clear t3 t4 t4n HM
                  go_upto_region 15 with fail
                  go_quiet ((go_at_call 67; exact qsame (HQ.out _)))
                  go_wp2_with fail
                  go_ret
                  exact ⟨by rw [HS.out]; rfl, by first | exact HBW.out | exact HBW.out.drew | exact below_drewN HBW.out _ | exact below_drewN (below_drewN HBW.out _) _⟩
              · have t4n : ¬ (x ≤ nd ∧ y ≤ nd ∧ x * y = nd) := fun h => t3 (HM.out.1 h).1
                have t3b : (nd % x != 0) = true := by simpa using t3
                have HSN : Hid (sidesB nd l = false) := Lib.hid (by rw [HSD.out]; by_cases v1 : x ≤ nd <;> by_cases v2 : y ≤ nd <;> by_cases v3 : x * y = nd <;> simp_all)
                have HS : Hid (nodeB 5 nd l = false) := Lib.hid (by rw [HS0.out, HSN.out, Bool.and_false])
                clear t3 t4n HM
                go_upto_region 15 with fail
                go_quiet ((go_at_call 67; exact qsame (HQ.out _)))
                go_wp2_with fail
                go_ret
                exact ⟨by rw [HS.out]; rfl, by first | exact HBW.out | exact HBW.out.drew | exact below_drewN HBW.out _ | exact below_drewN (below_drewN HBW.out _) _⟩
            · have t2b : y < 2 := by omega
              have HS : Hid (nodeB 5 nd l = false) := Lib.hid (by rw [HS0.out, HSD.out]; simp [t1, t2])
              go_upto_region 15 with fail
              go_quiet ((go_at_call 67; exact qsame (HQ.out _)))
              go_wp2_with fail
              go_ret
              exact ⟨by rw [HS.out]; rfl, by first | exact HBW.out | exact HBW.out.drew | exact below_drewN HBW.out _ | exact below_drewN (below_drewN HBW.out _) _⟩
          · have t1b : x < 2 := by omega
            have HS : Hid (nodeB 5 nd l = false) := Lib.hid (by rw [HS0.out, HSD.out]; simp [t1])
            go_upto_region 15 with fail
            go_quiet ((go_at_call 67; exact qsame (HQ.out _)))
            go_wp2_with fail
            go_ret
            exact ⟨by rw [HS.out]; rfl, by first | exact HBW.out | exact HBW.out.drew | exact below_drewN HBW.out _ | exact below_drewN (below_drewN HBW.out _) _⟩
      · skip
        have hni : ¬ (i : Int) = 2 := by omega
        have hnb : ((i : Int) == 2) = false := by simpa using hni
        have hnb2 : ((i : Int) != 2) = true := by simpa using hni
        have HS : Hid (nodeB 5 nd l = false) := Lib.hid (by simp [nodeB, sidesB, singleB, blueB, smallB, HLN.out, hn])
        clear hn
        go_upto_region 15 with fail
        go_quiet (fail)
        go_wp2_with fail
        go_ret
        exact ⟨by rw [HS.out]; rfl, by first | exact HBW.out | exact HBW.out.drew | exact below_drewN HBW.out _ | exact below_drewN (below_drewN HBW.out _) _⟩
end Go.Proofs.YtephllgddhncgaaGreatDoor
/- The reference's Node: kinds with kids. -/
namespace Go.Proofs.YtephllgddhncgaaGreatDoor
open Go.RowKit
set_option linter.unusedSimpArgs false
set_option linter.unusedVariables false
set_option maxRecDepth 100000 in
set_option maxHeartbeats 8000000 in
theorem rnode6 (k : Nat) (F : Foot) (nd : Int) (l : List DescV) (a : Option Addr) (n cap : Nat) (w : World) (hl : RowOf (descRd k) 3 40 F w a n cap l) :
    Calls Tryz.prog 89 #[.agg #[.int .i64 6, .int .i64 nd, .slice a n cap]] w fun e w' => e = .returned (.bool (nodeB 6 nd l)) ∧ Below w.heap.size w w' := by
  obtain ⟨W1, hW1⟩ : ∃ W1, W1 = w.alloc (.cells #[.int .i64 6, .int .i64 nd, .slice a n cap] 42) := ⟨_, rfl⟩
  have hb1 : Below w.heap.size w W1 := by rw [hW1]; exact (Below.refl _ _).alloc (Nat.le_refl _) _
  have g1 : W1.heap[w.heap.size]? = some (.cells #[.int .i64 6, .int .i64 nd, .slice a n cap] 42 (0, 0)) := by rw [hW1]; exact heap_alloc_new w _
  have hz1 : w.heap.size < W1.heap.size := by rw [hW1]; simp
  have HB := Lib.hid hb1
  have HLN := Lib.hid hl.len
  have hroom := hl.room
  have HL := Lib.hid (hl.keep (descRd_ok _) (Fix.of_below hb1))
  have HT : Hid (∀ W, Below W1.heap.size W1 W → W.cell? ⟨w.heap.size, 0, none⟩ = some (.int .i64 6) ∧ W.cell? ⟨w.heap.size, 1, none⟩ = some (.int .i64 nd) ∧ W.cell? ⟨w.heap.size, 2, none⟩ = some (.slice a n cap)) := Lib.hid fun W hb => by
    have g := (hb.block _ hz1).trans g1
    exact ⟨cell_at g rfl, cell_at g rfl, cell_at g rfl⟩
  clear hl hb1 g1
  go_enter Tryz.func89, Tryz.ntmps89
  go_upto_region 1 with fail
  rw [← hW1]
  clear hW1
  go_upto_region 3 with fail
  go_loopg [3, 4] n (fun g v iv wr => ∃ i : Nat, i ≤ n ∧ g = n - i ∧ iv = .int .i64 i ∧ wr.ownsRow W1.heap.size 3 1 v i ((l.take i).map fun d => .int .i64 d.n) ∧ Below W1.heap.size W1 wr)
  case atStart => exact ⟨0, by omega, rfl, rfl, World.ownsRow_nil _ _ _ _, Below.refl _ _⟩
  case round =>
    obtain ⟨i, hi, rfl, rfl, ho, hB⟩ := hrel
    obtain ⟨wo, rfl⟩ : ∃ wo : World, wo = wr := ⟨_, rfl⟩
    obtain ⟨ka, kc, rfl⟩ := own_val ho
    obtain ⟨c0, c1, c2⟩ := HT.out wo hB
    have HO := Lib.hid ho
    have HBo := Lib.hid hB
    clear ho hB
    by_cases hlt : i < n
    · have hlti : (i : Int) < (n : Int) := by omega
      obtain ⟨b, off, rfl, hbw, p0, _⟩ := row_kid (HL.out.keep (descRd_ok _) (Fix.of_below HBo.out)) hlt
      have HTK : Hid ((l.take (i + 1)).map (fun d => Value.int .i64 d.n) = (l.take i).map (fun d => Value.int .i64 d.n) ++ [.int .i64 (kidN l i)]) := Lib.hid (by
        rw [List.take_succ_eq_append_getElem (by rw [HLN.out]; exact hlt), List.map_append, kidN_get (by rw [HLN.out]; exact hlt)]
        rfl)
      generalize kidN l i = x at *
      go_wp2_with (at_builtin; refine wpl_append rfl _ _ 126 rfl intElemR _ _ _ rfl _ _ _ [.int .i64 x] rfl (own_below HO.out ((Below.refl _ _).alloc (Nat.le_refl _) _)) (src_new3 _ 3 1 rfl one1) (by unfold maxLen; omega) (by omega) (by have := HBo.out.size; simp; omega) ?_; intro v' w3 ho3 hg3 _; have HO3 := Lib.hid ho3; have HG3 := Lib.hid hg3; clear ho3 hg3)
      go_roundg (n - (i + 1))
      case measure => omega
      case rel =>
        refine ⟨i + 1, by omega, rfl, by go_num, by rw [HTK.out]; exact HO3.out, ?_⟩
        exact (HBo.out.trans (((Below.refl _ _).alloc (Nat.le_refl _) _).mono HBo.out.size)).grown HG3.out (by have := HBo.out.size; simp; omega) fun q hq => (HO.out.lt q hq).1
    · obtain rfl : i = n := by omega
      have hlti : ¬ (i : Int) < (i : Int) := by omega
      have ho2 := HO.out
      rw [List.take_of_length_le (by rw [HLN.out]; omega)] at ho2
      have HO2 := Lib.hid ho2
      have HBW : Hid (Below w.heap.size w wo) := Lib.hid (HB.out.trans (HBo.out.mono HB.out.size))
      clear ho2 hi hlt HO
      by_cases hn : i = 1
      · skip
        have hni : (i : Int) = 1 := by omega
        have hnb : ((i : Int) == 1) = true := by simpa using hni
        have hl2 : l.length = 1 := by rw [HLN.out]; exact hn
        subst hn
        obtain ⟨g, rfl, q0, hgz⟩ := kids_cell HO2.out (i := 0) (by omega) hl2
        obtain ⟨b, off, rfl, _, _, wf0⟩ := row_kid HL.out (i := 0) (by omega)
        have HS0 : Hid (nodeB 6 nd l = (decide (3 ≤ nd) && (primI nd && (hasB nd && decide (kidN l 0 = nd - 1))))) := Lib.hid (by simp [nodeB, singleB, blueB, hl2])
        generalize kidN l 0 = x at *
        by_cases h3 : 3 ≤ nd
        · have h3t : decide (3 ≤ nd) = true := decide_eq_true h3
          cases hh : hasB nd with
          | false =>
            have HQ : Hid (∀ W, Calls Tryz.prog 67 #[.int .i64 nd] W fun e w' => e = .returned (.bool false) ∧ W = w') := Lib.hid fun W => by have h := rhas_any nd W; rw [hh] at h; exact h
            have HS : Hid (nodeB 6 nd l = false) := Lib.hid (by rw [HS0.out, hh]; simp)
            clear hh
            go_upto_region 19 with fail
            go_quiet ((go_at_call 67; exact qsame (HQ.out _)))
            go_wp2_with fail
            go_ret
            exact ⟨by rw [HS.out]; rfl, by first | exact HBW.out | exact HBW.out.drew | exact below_drewN HBW.out _ | exact below_drewN (below_drewN HBW.out _) _⟩
          | true =>
            have HQ : Hid (∀ W, Calls Tryz.prog 67 #[.int .i64 nd] W fun e w' => e = .returned (.bool true) ∧ W = w') := Lib.hid fun W => by have h := rhas_any nd W; rw [hh] at h; exact h
            obtain ⟨hn1, hn2⟩ := hasB_le hh
            have HSC : Hid (∀ W, Below wo.heap.size wo W → W.cell? ⟨w.heap.size, 1, none⟩ = some (.int .i64 nd) ∧ W.cell? ⟨g, 0, none⟩ = some (.int .i64 x)) := Lib.hid fun W hb => ⟨(HT.out W (HBo.out.trans (hb.mono HBo.out.size))).2.1, (hb.cell (p := ⟨g, 0, none⟩) hgz).trans q0⟩
            have hbz := Below.refl wo.heap.size wo
            have hw : wrap64 (nd - 1) = nd - 1 := by unfold wrap64; omega
            cases hp : primI nd with
            | false =>
              skip
              have HPQ : Hid (∀ W, Calls Tryz.prog 105 #[.int .i64 nd] W fun e w' => e = .returned (.bool false) ∧ W = w') := Lib.hid fun W => by have h := rprime_any nd W; rw [hp] at h; exact h
              have HS : Hid (nodeB 6 nd l = false) := Lib.hid (by rw [HS0.out, hp]; simp)
              clear hp hh
              go_upto_region 19 with fail
              go_quiet ((first | (go_at_call 67; exact qsame (HQ.out _)) | (go_at_call 105; exact qsame (HPQ.out _))))
              go_wp2_with fail
              go_ret
              exact ⟨by rw [HS.out]; rfl, by first | exact HBW.out | exact HBW.out.drew | exact below_drewN HBW.out _ | exact below_drewN (below_drewN HBW.out _) _⟩
            | true =>
              skip
              have HPQ : Hid (∀ W, Calls Tryz.prog 105 #[.int .i64 nd] W fun e w' => e = .returned (.bool true) ∧ W = w') := Lib.hid fun W => by have h := rprime_any nd W; rw [hp] at h; exact h
              by_cases hx : x = nd - 1
              · have HS : Hid (nodeB 6 nd l = true) := Lib.hid (by rw [HS0.out, hp, hh]; simp [h3, hx])
                have HXW : Hid ((x == nd - 1) = true) := Lib.hid (by simpa using hx)
                clear hp hh hx hw
                go_upto_region 19 with fail
                go_quiet ((first | (go_at_call 67; exact qsame (HQ.out _)) | (go_at_call 105; exact qsame (HPQ.out _))))
                go_wp2_with fail
                go_ret
                exact ⟨by rw [HS.out]; first | rfl | (show Ending.returned (.bool (x == nd - 1)) = _; rw [HXW.out]), by first | exact HBW.out | exact HBW.out.drew | exact below_drewN HBW.out _ | exact below_drewN (below_drewN HBW.out _) _⟩
              · have HS : Hid (nodeB 6 nd l = false) := Lib.hid (by rw [HS0.out, hp, hh]; simp [h3, hx])
                have HXW : Hid ((x == nd - 1) = false) := Lib.hid (by simpa using hx)
                clear hp hh hx hw
                go_upto_region 19 with fail
                go_quiet ((first | (go_at_call 67; exact qsame (HQ.out _)) | (go_at_call 105; exact qsame (HPQ.out _))))
                go_wp2_with fail
                go_ret
                exact ⟨by rw [HS.out]; first | rfl | (show Ending.returned (.bool (x == nd - 1)) = _; rw [HXW.out]), by first | exact HBW.out | exact HBW.out.drew | exact below_drewN HBW.out _ | exact below_drewN (below_drewN HBW.out _) _⟩
        · have h3b : decide (3 ≤ nd) = false := decide_eq_false h3
          have HS : Hid (nodeB 6 nd l = false) := Lib.hid (by rw [HS0.out]; simp [h3])
          go_upto_region 19 with fail
          go_quiet (fail)
          go_wp2_with fail
          go_ret
          exact ⟨by rw [HS.out]; rfl, by first | exact HBW.out | exact HBW.out.drew | exact below_drewN HBW.out _ | exact below_drewN (below_drewN HBW.out _) _⟩
      · skip
        have hni : ¬ (i : Int) = 1 := by omega
        have hnb : ((i : Int) == 1) = false := by simpa using hni
        have hnb2 : ((i : Int) != 1) = true := by simpa using hni
        have HS : Hid (nodeB 6 nd l = false) := Lib.hid (by simp [nodeB, sidesB, singleB, blueB, smallB, HLN.out, hn])
        clear hn
        go_upto_region 19 with fail
        go_quiet (fail)
        go_wp2_with fail
        go_ret
        exact ⟨by rw [HS.out]; rfl, by first | exact HBW.out | exact HBW.out.drew | exact below_drewN HBW.out _ | exact below_drewN (below_drewN HBW.out _) _⟩
set_option maxRecDepth 100000 in
set_option maxHeartbeats 8000000 in
theorem rnode7 (k : Nat) (F : Foot) (nd : Int) (l : List DescV) (a : Option Addr) (n cap : Nat) (w : World) (hl : RowOf (descRd k) 3 40 F w a n cap l) :
    Calls Tryz.prog 89 #[.agg #[.int .i64 7, .int .i64 nd, .slice a n cap]] w fun e w' => e = .returned (.bool (nodeB 7 nd l)) ∧ Below w.heap.size w w' := by
  obtain ⟨W1, hW1⟩ : ∃ W1, W1 = w.alloc (.cells #[.int .i64 7, .int .i64 nd, .slice a n cap] 42) := ⟨_, rfl⟩
  have hb1 : Below w.heap.size w W1 := by rw [hW1]; exact (Below.refl _ _).alloc (Nat.le_refl _) _
  have g1 : W1.heap[w.heap.size]? = some (.cells #[.int .i64 7, .int .i64 nd, .slice a n cap] 42 (0, 0)) := by rw [hW1]; exact heap_alloc_new w _
  have hz1 : w.heap.size < W1.heap.size := by rw [hW1]; simp
  have HB := Lib.hid hb1
  have HLN := Lib.hid hl.len
  have hroom := hl.room
  have HL := Lib.hid (hl.keep (descRd_ok _) (Fix.of_below hb1))
  have HT : Hid (∀ W, Below W1.heap.size W1 W → W.cell? ⟨w.heap.size, 0, none⟩ = some (.int .i64 7) ∧ W.cell? ⟨w.heap.size, 1, none⟩ = some (.int .i64 nd) ∧ W.cell? ⟨w.heap.size, 2, none⟩ = some (.slice a n cap)) := Lib.hid fun W hb => by
    have g := (hb.block _ hz1).trans g1
    exact ⟨cell_at g rfl, cell_at g rfl, cell_at g rfl⟩
  clear hl hb1 g1
  go_enter Tryz.func89, Tryz.ntmps89
  go_upto_region 1 with fail
  rw [← hW1]
  clear hW1
  go_upto_region 3 with fail
  go_loopg [3, 4] n (fun g v iv wr => ∃ i : Nat, i ≤ n ∧ g = n - i ∧ iv = .int .i64 i ∧ wr.ownsRow W1.heap.size 3 1 v i ((l.take i).map fun d => .int .i64 d.n) ∧ Below W1.heap.size W1 wr)
  case atStart => exact ⟨0, by omega, rfl, rfl, World.ownsRow_nil _ _ _ _, Below.refl _ _⟩
  case round =>
    obtain ⟨i, hi, rfl, rfl, ho, hB⟩ := hrel
    obtain ⟨wo, rfl⟩ : ∃ wo : World, wo = wr := ⟨_, rfl⟩
    obtain ⟨ka, kc, rfl⟩ := own_val ho
    obtain ⟨c0, c1, c2⟩ := HT.out wo hB
    have HO := Lib.hid ho
    have HBo := Lib.hid hB
    clear ho hB
    by_cases hlt : i < n
    · have hlti : (i : Int) < (n : Int) := by omega
      obtain ⟨b, off, rfl, hbw, p0, _⟩ := row_kid (HL.out.keep (descRd_ok _) (Fix.of_below HBo.out)) hlt
      have HTK : Hid ((l.take (i + 1)).map (fun d => Value.int .i64 d.n) = (l.take i).map (fun d => Value.int .i64 d.n) ++ [.int .i64 (kidN l i)]) := Lib.hid (by
        rw [List.take_succ_eq_append_getElem (by rw [HLN.out]; exact hlt), List.map_append, kidN_get (by rw [HLN.out]; exact hlt)]
        rfl)
      generalize kidN l i = x at *
      go_wp2_with (at_builtin; refine wpl_append rfl _ _ 126 rfl intElemR _ _ _ rfl _ _ _ [.int .i64 x] rfl (own_below HO.out ((Below.refl _ _).alloc (Nat.le_refl _) _)) (src_new3 _ 3 1 rfl one1) (by unfold maxLen; omega) (by omega) (by have := HBo.out.size; simp; omega) ?_; intro v' w3 ho3 hg3 _; have HO3 := Lib.hid ho3; have HG3 := Lib.hid hg3; clear ho3 hg3)
      go_roundg (n - (i + 1))
      case measure => omega
      case rel =>
        refine ⟨i + 1, by omega, rfl, by go_num, by rw [HTK.out]; exact HO3.out, ?_⟩
        exact (HBo.out.trans (((Below.refl _ _).alloc (Nat.le_refl _) _).mono HBo.out.size)).grown HG3.out (by have := HBo.out.size; simp; omega) fun q hq => (HO.out.lt q hq).1
    · obtain rfl : i = n := by omega
      have hlti : ¬ (i : Int) < (i : Int) := by omega
      have ho2 := HO.out
      rw [List.take_of_length_le (by rw [HLN.out]; omega)] at ho2
      have HO2 := Lib.hid ho2
      have HBW : Hid (Below w.heap.size w wo) := Lib.hid (HB.out.trans (HBo.out.mono HB.out.size))
      clear ho2 hi hlt HO
      by_cases hn : i = 1
      · skip
        have hni : (i : Int) = 1 := by omega
        have hnb : ((i : Int) == 1) = true := by simpa using hni
        have hl2 : l.length = 1 := by rw [HLN.out]; exact hn
        subst hn
        obtain ⟨g, rfl, q0, hgz⟩ := kids_cell HO2.out (i := 0) (by omega) hl2
        obtain ⟨b, off, rfl, _, _, wf0⟩ := row_kid HL.out (i := 0) (by omega)
        have HS0 : Hid (nodeB 7 nd l = (decide (2 ≤ nd) && (hasB nd && (decide (2 * nd - 1 ≤ kidN l 0) && stockB (kidN l 0))))) := Lib.hid (by simp [nodeB, singleB, blueB, hl2])
        generalize kidN l 0 = x at *
        by_cases h3 : 2 ≤ nd
        · have h3t : decide (2 ≤ nd) = true := decide_eq_true h3
          cases hh : hasB nd with
          | false =>
            have HQ : Hid (∀ W, Calls Tryz.prog 67 #[.int .i64 nd] W fun e w' => e = .returned (.bool false) ∧ W = w') := Lib.hid fun W => by have h := rhas_any nd W; rw [hh] at h; exact h
            have HS : Hid (nodeB 7 nd l = false) := Lib.hid (by rw [HS0.out, hh]; simp)
            clear hh
            go_upto_region 21 with fail
            go_quiet ((go_at_call 67; exact qsame (HQ.out _)))
            go_wp2_with fail
            go_ret
            exact ⟨by rw [HS.out]; rfl, by first | exact HBW.out | exact HBW.out.drew | exact below_drewN HBW.out _ | exact below_drewN (below_drewN HBW.out _) _⟩
          | true =>
            have HQ : Hid (∀ W, Calls Tryz.prog 67 #[.int .i64 nd] W fun e w' => e = .returned (.bool true) ∧ W = w') := Lib.hid fun W => by have h := rhas_any nd W; rw [hh] at h; exact h
            obtain ⟨hn1, hn2⟩ := hasB_le hh
            have HSC : Hid (∀ W, Below wo.heap.size wo W → W.cell? ⟨w.heap.size, 1, none⟩ = some (.int .i64 nd) ∧ W.cell? ⟨g, 0, none⟩ = some (.int .i64 x)) := Lib.hid fun W hb => ⟨(HT.out W (HBo.out.trans (hb.mono HBo.out.size))).2.1, (hb.cell (p := ⟨g, 0, none⟩) hgz).trans q0⟩
            have hbz := Below.refl wo.heap.size wo
            have hw : wrap64 (2 * nd) = 2 * nd := by unfold wrap64; omega
            have hw2 : wrap64 (2 * nd - 1) = 2 * nd - 1 := by unfold wrap64; omega
            cases hp : stockB x with
            | false =>
              skip
              have HPQ : Hid (∀ W, Calls Tryz.prog 103 #[.int .i64 x] W fun e w' => e = .returned (.bool false) ∧ W = w') := Lib.hid fun W => by have h := rpower_any x W; rw [hp] at h; exact h
              have HS : Hid (nodeB 7 nd l = false) := Lib.hid (by rw [HS0.out, hp]; simp)
              clear hp hh
              go_upto_region 21 with fail
              go_quiet ((first | (go_at_call 67; exact qsame (HQ.out _)) | (go_at_call 103; exact qsame (HPQ.out _))))
              go_wp2_with fail
              go_ret
              exact ⟨by rw [HS.out]; rfl, by first | exact HBW.out | exact HBW.out.drew | exact below_drewN HBW.out _ | exact below_drewN (below_drewN HBW.out _) _⟩
            | true =>
              skip
              have HPQ : Hid (∀ W, Calls Tryz.prog 103 #[.int .i64 x] W fun e w' => e = .returned (.bool true) ∧ W = w') := Lib.hid fun W => by have h := rpower_any x W; rw [hp] at h; exact h
              by_cases hx : 2 * nd - 1 ≤ x
              · have HS : Hid (nodeB 7 nd l = true) := Lib.hid (by rw [HS0.out, hp, hh]; simp [h3, hx])
                have HXW : Hid (decide (2 * nd - 1 ≤ x) = true) := Lib.hid (decide_eq_true hx)
                clear hp hh hx hw hw2
                go_upto_region 21 with fail
                go_quiet ((first | (go_at_call 67; exact qsame (HQ.out _)) | (go_at_call 103; exact qsame (HPQ.out _))))
                go_wp2_with fail
                go_ret
                exact ⟨by rw [HS.out]; first | rfl | (show Ending.returned (.bool (decide (2 * nd - 1 ≤ x))) = _; rw [HXW.out]), by first | exact HBW.out | exact HBW.out.drew | exact below_drewN HBW.out _ | exact below_drewN (below_drewN HBW.out _) _⟩
              · have HS : Hid (nodeB 7 nd l = false) := Lib.hid (by rw [HS0.out, hp, hh]; simp [h3, hx])
                have HXW : Hid (decide (2 * nd - 1 ≤ x) = false) := Lib.hid (decide_eq_false hx)
                clear hp hh hx hw hw2
                go_upto_region 21 with fail
                go_quiet ((first | (go_at_call 67; exact qsame (HQ.out _)) | (go_at_call 103; exact qsame (HPQ.out _))))
                go_wp2_with fail
                go_ret
                exact ⟨by rw [HS.out]; first | rfl | (show Ending.returned (.bool (decide (2 * nd - 1 ≤ x))) = _; rw [HXW.out]), by first | exact HBW.out | exact HBW.out.drew | exact below_drewN HBW.out _ | exact below_drewN (below_drewN HBW.out _) _⟩
        · have h3b : decide (2 ≤ nd) = false := decide_eq_false h3
          have HS : Hid (nodeB 7 nd l = false) := Lib.hid (by rw [HS0.out]; simp [h3])
          go_upto_region 21 with fail
          go_quiet (fail)
          go_wp2_with fail
          go_ret
          exact ⟨by rw [HS.out]; rfl, by first | exact HBW.out | exact HBW.out.drew | exact below_drewN HBW.out _ | exact below_drewN (below_drewN HBW.out _) _⟩
      · skip
        have hni : ¬ (i : Int) = 1 := by omega
        have hnb : ((i : Int) == 1) = false := by simpa using hni
        have hnb2 : ((i : Int) != 1) = true := by simpa using hni
        have HS : Hid (nodeB 7 nd l = false) := Lib.hid (by simp [nodeB, sidesB, singleB, blueB, smallB, HLN.out, hn])
        clear hn
        go_upto_region 21 with fail
        go_quiet (fail)
        go_wp2_with fail
        go_ret
        exact ⟨by rw [HS.out]; rfl, by first | exact HBW.out | exact HBW.out.drew | exact below_drewN HBW.out _ | exact below_drewN (below_drewN HBW.out _) _⟩
end Go.Proofs.YtephllgddhncgaaGreatDoor
/- The reference's Node: kinds with kids. -/
namespace Go.Proofs.YtephllgddhncgaaGreatDoor
open Go.RowKit
set_option linter.unusedSimpArgs false
set_option linter.unusedVariables false
theorem rnode_any (k : Nat) (F : Foot) (kd nd : Int) (l : List DescV) (a : Option Addr) (n cap : Nat) (w : World) (hl : RowOf (descRd k) 3 40 F w a n cap l) :
    Calls Tryz.prog 89 #[.agg #[.int .i64 kd, .int .i64 nd, .slice a n cap]] w fun e w' => e = .returned (.bool (nodeB kd nd l)) ∧ Below w.heap.size w w' := by
  by_cases h : kd = 1 ∨ kd = 2 ∨ kd = 3 ∨ kd = 4 ∨ kd = 5 ∨ kd = 6 ∨ kd = 7
  · rcases h with rfl | rfl | rfl | rfl | rfl | rfl | rfl
    · exact rnode1 k F nd l a n cap w hl
    · exact rnode2 k F nd l a n cap w hl
    · exact rnode3 k F nd l a n cap w hl
    · exact rnode4 k F nd l a n cap w hl
    · exact rnode5 k F nd l a n cap w hl
    · exact rnode6 k F nd l a n cap w hl
    · exact rnode7 k F nd l a n cap w hl
  · exact rnode0 k F kd nd l a n cap w hl h
end Go.Proofs.YtephllgddhncgaaGreatDoor
/- The nodes of a tree, listed by the reference: each of them a tree. -/
namespace Go.Proofs.YtephllgddhncgaaGreatDoor
open Go.RowKit
set_option linter.unusedSimpArgs false
set_option linter.unusedVariables false
namespace DescV
mutual
def allD : DescV → List DescV | .mk k n l => .mk k n l :: allL l
def allL : List DescV → List DescV | [] => [] | d :: l => d.allD ++ allL l
end
theorem allL_snoc (l : List DescV) (d : DescV) : allL (l ++ [d]) = allL l ++ d.allD := by
  induction l with
  | nil => simp [allL]
  | cons a l ih => rw [List.cons_append, allL, ih, allL, List.append_assoc]
mutual
theorem allD_len : ∀ d : DescV, d.allD.length = d.nodes
  | .mk _ _ l => by rw [allD, nodes, List.length_cons, allL_len l]
theorem allL_len : ∀ l : List DescV, (allL l).length = nodesL l
  | [] => rfl
  | d :: l => by rw [allL, nodesL, List.length_append, allD_len d, allL_len l]
end
end DescV
/-- Cells that show trees, by blocks below B0. -/
structure Nods (k B0 : Nat) (w : World) (xs : List Value) (ds : List DescV) : Prop where
  len : xs.length = ds.length * 3
  at_ : ∀ (i : Nat) d, ds[i]? = some d → descRd (k + 1) (fun b => b < B0) w ((xs.drop (i * 3)).take 3) d
theorem Nods.keep {k B0 : Nat} {w w' : World} {xs : List Value} {ds : List DescV} (h : Nods k B0 w xs ds) (hf : Fix (fun b => b < B0) w w') : Nods k B0 w' xs ds := ⟨h.len, fun i d hi => (descRd_ok _).keep (h.at_ i d hi) hf⟩
theorem Nods.mono {k B0 : Nat} {w : World} {xs : List Value} {ds : List DescV} (h : Nods k B0 w xs ds) : Nods (k + 1) B0 w xs ds := ⟨h.len, fun i d hi => descRd_succ _ (h.at_ i d hi)⟩
theorem Nods.append {k B0 : Nat} {w : World} {xs ys : List Value} {ds es : List DescV} (h : Nods k B0 w xs ds) (g : Nods k B0 w ys es) : Nods k B0 w (xs ++ ys) (ds ++ es) := by
  have hl := h.len
  refine ⟨by rw [List.length_append, List.length_append, hl, g.len, Nat.add_mul], fun i d hi => ?_⟩
  by_cases hlt : i < ds.length
  · rw [List.getElem?_append_left hlt] at hi
    rw [List.drop_append_of_le_length (by omega), List.take_append_of_le_length (by rw [List.length_drop]; omega)]
    exact h.at_ i d hi
  · rw [List.getElem?_append_right (by omega)] at hi
    have := g.at_ _ d hi
    rw [List.drop_append, List.drop_of_length_le (by omega), List.nil_append, show i * 3 - xs.length = (i - ds.length) * 3 by rw [hl, Nat.sub_mul]]
    exact this
def ListPostT (k B0 m : Nat) (ds : List DescV) (w : World) (e : Ending) (w' : World) : Prop := ∃ a cap xs, e = .returned (.slice a m cap) ∧ w'.ownsRow w.heap.size 42 3 (.slice a m cap) m xs ∧ (∀ u ∈ xs, u.oneCell' = true) ∧ Nods k B0 w' xs ds ∧ Below w.heap.size w w'
set_option maxRecDepth 100000 in
set_option maxHeartbeats 4000000 in
theorem listT_step (B0 k : Nat) (ih : ∀ j, k = j + 1 → ∀ (kd nd : Int) (l : List DescV) (a : Option Addr) (n cap : Nat) (w : World), RowOf (descRd j) 3 40 (fun b => b < B0) w a n cap l → DescV.nodesL l < 1048576 → B0 ≤ w.heap.size → (Lit.int .i64 kd).wf = true → (Lit.int .i64 nd).wf = true →
    Calls Tryz.prog 34 #[.agg #[.int .i64 kd, .int .i64 nd, .slice a n cap]] w (ListPostT j B0 (1 + DescV.nodesL l) (DescV.mk kd nd l :: DescV.allL l) w)) (kd nd : Int) (l : List DescV) (a : Option Addr) (n cap : Nat) (w : World) (hl : RowOf (descRd k) 3 40 (fun b => b < B0) w a n cap l) (hm : DescV.nodesL l < 1048576) (hB0 : B0 ≤ w.heap.size) (hwk : (Lit.int .i64 kd).wf = true) (hwn : (Lit.int .i64 nd).wf = true) :
    Calls Tryz.prog 34 #[.agg #[.int .i64 kd, .int .i64 nd, .slice a n cap]] w (ListPostT k B0 (1 + DescV.nodesL l) (DescV.mk kd nd l :: DescV.allL l) w) := by
  have HL := Lib.hid hl.len
  have hn := hl.room
  have HM := Lib.hid hm
  have HIH := Lib.hid ih
  have HWK := Lib.hid hwk
  have HWN := Lib.hid hwn
  have HZB := Lib.hid hB0
  obtain ⟨W0, hW0⟩ : ∃ W0, W0 = w.alloc (.cells #[.int .i64 kd, .int .i64 nd, .slice a n cap] 42) := ⟨_, rfl⟩
  obtain ⟨W1, hW1⟩ : ∃ W1, W1 = W0.alloc (.cells #[.int .i64 kd, .int .i64 nd, .slice a n cap] 42) := ⟨_, rfl⟩
  have hb0 : Below w.heap.size w W0 := by rw [hW0]; exact (Below.refl _ _).alloc (Nat.le_refl _) _
  have hz0 : W0.heap.size = w.heap.size + 1 := by rw [hW0]; simp
  have hb1 : Below W0.heap.size W0 W1 := by rw [hW1]; exact (Below.refl _ _).alloc (Nat.le_refl _) _
  have g0 : W0.heap[w.heap.size]? = some (.cells #[.int .i64 kd, .int .i64 nd, .slice a n cap] 42 (0, 0)) := by rw [hW0]; exact heap_alloc_new w _
  have t2 := cell_at (o := 2) g0 rfl
  have HT2 := Lib.hid t2
  have ho1 : W1.ownsRow W0.heap.size 42 3 (.slice (some ⟨W0.heap.size, 0, none⟩) 1 1) 1 [.int .i64 kd, .int .i64 nd, .slice a n cap] := by
    rw [hW1]
    exact ⟨rfl, .inr ⟨W0.heap.size, 1, _, rfl, Nat.le_refl _, heap_alloc_new W0 _, Nat.le_refl _, by unfold maxLen; omega, rfl, rfl⟩⟩
  have HO1 := Lib.hid ho1
  have HL0 := Lib.hid (hl.keep (descRd_ok _) (Fix.of_below hb0))
  have HB0 := Lib.hid hb0
  have HB1 := Lib.hid hb1
  have HZ := Lib.hid hz0
  have HND : Hid (Nods k B0 W1 [.int .i64 kd, .int .i64 nd, .slice a n cap] [DescV.mk kd nd l]) := Lib.hid ⟨rfl, fun i d h => by
    rcases i with _ | i
    · obtain rfl : DescV.mk kd nd l = d := by simpa using h
      exact ⟨a, n, cap, rfl, hwk, hwn, hl.keep (descRd_ok _) (Fix.of_below (hb0.trans (hb1.mono hb0.size)))⟩
    · simp at h⟩
  clear hl hm ih hb0 hb1 g0 ho1 hwk hwn hB0
  go_enter Tryz.func34, Tryz.ntmps34
  go_wp2_with fail
  rw [← hW0, ← hz0, ← hW1]
  clear hW0 hW1 hz0
  go_loopg [3, 4] n (fun g v iv wr => ∃ i : Nat, i ≤ n ∧ g = n - i ∧ iv = .int .i64 i ∧ (∃ xs, wr.ownsRow W0.heap.size 42 3 v (1 + DescV.nodesL (l.take i)) xs ∧ (∀ u ∈ xs, u.oneCell' = true) ∧ Nods k B0 wr xs (DescV.mk kd nd l :: DescV.allL (l.take i))) ∧ Below W0.heap.size W0 wr)
  case atStart => exact ⟨0, by omega, rfl, rfl, ⟨_, HO1.out, one3, HND.out⟩, HB1.out⟩
  case round =>
    obtain ⟨i, hi, rfl, rfl, ⟨xs, ho, hone, hhd⟩, hB⟩ := hrel
    obtain ⟨wo, rfl⟩ : ∃ wo : World, wo = wr := ⟨_, rfl⟩
    obtain ⟨av, cv, rfl⟩ := own_val ho
    have HO := Lib.hid ho
    have HONE := Lib.hid hone
    have HHD := Lib.hid hhd
    have HBo := Lib.hid hB
    have b2 : wo.cell? ⟨w.heap.size, 2, none⟩ = _ := (hB.cell (p := ⟨w.heap.size, 2, none⟩) (by have := HZ.out; show w.heap.size < _; omega)).trans HT2.out
    clear ho hone hB t2 hhd
    by_cases hlt : i < n
    · obtain ⟨k, rfl⟩ : ∃ j, k = j + 1 := by
        cases k with
        | zero => exact absurd (row_no_zero HL0.out) (fun e => by have := HL.out; rw [e] at this; simp at this; omega)
        | succ j => exact ⟨j, rfl⟩
      obtain ⟨b, off, ax, nx, cx, rfl, hbw, _, hw1, hw2, hk, p0, p1, p2⟩ := (HL0.out.keep (descRd_ok _) (Fix.of_below HBo.out)).desc i (by have := HL.out; omega)
      have HTK := Lib.hid (List.take_succ_eq_append_getElem (l := l) (i := i) (by have := HL.out; omega))
      have HSUM := Lib.hid (DescV.nodesL_take_succ (l := l) (i := i) (by have := HL.out; omega))
      have HLE := Lib.hid (DescV.nodesL_take_le l (i + 1))
      have HNK := Lib.hid (DescV.nodes_kids (l[i]'(by have := HL.out; omega)))
      generalize l[i]'_ = d at *
      obtain ⟨dk, dn, dl⟩ := d
      simp only [DescV.kind, DescV.n, DescV.kids] at p0 p1 p2 hk hw1 hw2
      have HNK' : Hid ((DescV.mk dk dn dl).nodes = DescV.nodesL dl + 1) := HNK
      have HK := Lib.hid hk
      have HW1 := Lib.hid hw1
      have HW2 := Lib.hid hw2
      clear hk hw1 hw2
      go_wp2_with fail
      refine (HIH.out k rfl dk dn dl ax nx cx _ HK.out (by have := HM.out; have := HSUM.out; have := HLE.out; have := HNK'.out; omega) (Nat.le_trans HZB.out (Nat.le_trans HB0.out.size HBo.out.size)) HW1.out HW2.out).mono ?_
      rintro e w2 ⟨a2, c2, xs2, rfl, ho2, hone2, hhd2, hb2⟩
      have HO2 := Lib.hid ho2
      have HONE2 := Lib.hid hone2
      have HHD2 := Lib.hid hhd2
      have HB2 := Lib.hid hb2
      clear ho2 hone2 hb2 hhd2
      go_wp2_with (at_builtin; refine wpl_append rfl _ _ 40 rfl descElem _ _ _ rfl _ _ _ _ rfl (own_below HO.out HB2.out) (own_src HO2.out HONE2.out) (by unfold maxLen; have := HM.out; have := HSUM.out; have := HLE.out; have := HNK'.out; omega) (by have := HM.out; have := HSUM.out; have := HLE.out; have := HNK'.out; omega) (by have := HBo.out.size; have := HB2.out.size; omega) ?_; intro v' w3 ho3 hg3 _)
      have HB3 : Hid (Below W0.heap.size W0 w3) := Lib.hid ((HBo.out.trans (HB2.out.mono HBo.out.size)).grown hg3 (by have := HBo.out.size; have := HB2.out.size; omega) (fun q hq => own_lt HO.out q hq))
      have HO3 := Lib.hid ho3
      have HF3 : Hid (Fix (fun b => b < B0) w2 w3) := Lib.hid (Fix.of_grown hg3 fun q _ hf e => by have := own_lt HO.out q e.symm; have := HB0.out.size; have := HZB.out; omega)
      clear ho3 hg3
      go_wp2_with fail
      go_roundg (n - (i + 1))
      case measure => omega
      case rel =>
        refine ⟨i + 1, by omega, rfl, by go_num, ⟨xs ++ xs2, ?_, ?_, ?_⟩, HB3.out⟩
        · have h3 := HO3.out
          rw [show 1 + DescV.nodesL (l.take i) + (1 + DescV.nodesL dl) = 1 + DescV.nodesL (l.take (i + 1)) by rw [HSUM.out, HNK'.out]; omega] at h3
          exact h3
        · intro u hu
          rcases List.mem_append.1 hu with hu | hu
          · exact HONE.out u hu
          · exact HONE2.out u hu
        · rw [HTK.out, DescV.allL_snoc, DescV.allD, ← List.cons_append]
          refine (HHD.out.keep ?_).append ((HHD2.out.mono).keep ?_)
          · exact (Fix.of_below HB2.out).trans HF3.out
          · exact HF3.out
    · obtain rfl : i = n := by omega
      rw [List.take_of_length_le (by have := HL.out; omega)] at HO HHD ⊢
      clear b2
      have b2 : wo.cell? ⟨w.heap.size, 2, none⟩ = _ := (HBo.out.cell (p := ⟨w.heap.size, 2, none⟩) (by have := HZ.out; show w.heap.size < _; omega)).trans HT2.out
      go_wp2_with fail
      go_ret
      exact ⟨_, _, _, rfl, own_down HO.out HB0.out.size, HONE.out, HHD.out, HB0.out.trans (HBo.out.mono HB0.out.size)⟩
theorem listT_any (B0 : Nat) : ∀ (k : Nat) (kd nd : Int) (l : List DescV) (a : Option Addr) (n cap : Nat) (w : World), RowOf (descRd k) 3 40 (fun b => b < B0) w a n cap l → DescV.nodesL l < 1048576 → B0 ≤ w.heap.size → (Lit.int .i64 kd).wf = true → (Lit.int .i64 nd).wf = true →
    Calls Tryz.prog 34 #[.agg #[.int .i64 kd, .int .i64 nd, .slice a n cap]] w (ListPostT k B0 (1 + DescV.nodesL l) (DescV.mk kd nd l :: DescV.allL l) w)
  | 0 => listT_step B0 0 fun j h => by omega
  | k + 1 => listT_step B0 (k + 1) fun j h => by
    obtain rfl : k = j := by omega
    exact listT_any B0 k
end Go.Proofs.YtephllgddhncgaaGreatDoor
/- The reference's Check and For. -/
namespace Go.Proofs.YtephllgddhncgaaGreatDoor
open Go.RowKit
set_option linter.unusedSimpArgs false
set_option linter.unusedVariables false
namespace DescV
mutual
theorem right_all : ∀ d : DescV, d.rightD = d.allD.all fun x => nodeB x.kind x.n x.kids
  | .mk k n l => by rw [rightD, allD, List.all_cons, rightL_allL l]; rfl
theorem rightL_allL : ∀ l : List DescV, rightL l = (allL l).all fun x => nodeB x.kind x.n x.kids
  | [] => rfl
  | d :: l => by rw [rightL, allL, List.all_append, right_all d, rightL_allL l]
end
end DescV
set_option maxRecDepth 100000 in
set_option maxHeartbeats 4000000 in
theorem rcheck_any (k : Nat) (F : Foot) (kd nd : Int) (l : List DescV) (a : Option Addr) (n cap : Nat) (w : World) (hl : RowOf (descRd k) 3 40 F w a n cap l) (hm : DescV.nodesL l < 1048576) (hwk : (Lit.int .i64 kd).wf = true) (hwn : (Lit.int .i64 nd).wf = true) :
    Calls Tryz.prog 68 #[.agg #[.int .i64 kd, .int .i64 nd, .slice a n cap]] w fun e w' => e = .returned (.int .i64 (checkE (.mk kd nd l))) ∧ Below w.heap.size w w' := by
  obtain ⟨W1, hW1⟩ : ∃ W1, W1 = w.alloc (.cells #[.int .i64 kd, .int .i64 nd, .slice a n cap] 42) := ⟨_, rfl⟩
  have hb1 : Below w.heap.size w W1 := by rw [hW1]; exact (Below.refl _ _).alloc (Nat.le_refl _) _
  have g1 : W1.heap[w.heap.size]? = some (.cells #[.int .i64 kd, .int .i64 nd, .slice a n cap] 42 (0, 0)) := by rw [hW1]; exact heap_alloc_new w _
  have hz1 : w.heap.size < W1.heap.size := by rw [hW1]; simp
  have hl1 := (hl.mono (G := fun b => b < w.heap.size) (descRd_ok _) fun b hb _ => hb).keep (descRd_ok _) (Fix.of_below hb1)
  have HB := Lib.hid hb1
  have HL := Lib.hid hl1
  have HT : Hid (∀ W, Below W1.heap.size W1 W → W.cell? ⟨w.heap.size, 0, none⟩ = some (.int .i64 kd) ∧ W.cell? ⟨w.heap.size, 1, none⟩ = some (.int .i64 nd) ∧ W.cell? ⟨w.heap.size, 2, none⟩ = some (.slice a n cap)) := Lib.hid fun W hb => by
    have g := (hb.block _ hz1).trans g1
    exact ⟨cell_at g rfl, cell_at g rfl, cell_at g rfl⟩
  have HC := Lib.hid (listT_any w.heap.size k kd nd l a n cap W1 hl1 hm (by omega) hwk hwn)
  have HM := Lib.hid hm
  have HND : Hid ((DescV.mk kd nd l).nodes = 1 + DescV.nodesL l) := Lib.hid (by rw [DescV.nodes_kids]; show DescV.nodesL l + 1 = _; omega)
  have HDP : Hid ((DescV.mk kd nd l).depth = DescV.depthL l + 1) := Lib.hid (DescV.depth_kids _)
  obtain ⟨c0, c1, c2⟩ := HT.out W1 (Below.refl _ _)
  clear hl hl1 hb1 g1 hm hwk hwn
  go_enter Tryz.func68, Tryz.ntmps68
  go_upto_region 1 with fail
  rw [← hW1]
  clear hW1
  go_upto_region 2 with (go_at_call 34; (with_reducible refine HC.out.mono ?_); rintro e w2 ⟨la, lc, xs, rfl, ho, _, hnd, hb2⟩; have HO := Lib.hid ho; have HN := Lib.hid hnd; have HB2 := Lib.hid hb2; clear c0 c1 c2; obtain ⟨c0, c1, c2⟩ := HT.out w2 hb2; clear ho hnd hb2)
  obtain ⟨W2, rfl⟩ : ∃ W : World, W = w2 := ⟨_, rfl⟩
  have HBW : Hid (Below w.heap.size w W2) := Lib.hid (HB.out.trans (HB2.out.mono HB.out.size))
  have HRD := Lib.hid (rdepth_any k _ kd nd l a n cap W2 (HL.out.keep (descRd_ok _) (Fix.of_below HB2.out)) HM.out)
  obtain ⟨m, hmm⟩ : ∃ m, m = 1 + DescV.nodesL l := ⟨_, rfl⟩
  have HMM := Lib.hid hmm
  rw [← hmm] at HO ⊢
  have hm9 : m ≤ 1048576 := by have := HM.out; omega
  clear hmm
  by_cases h60 : 60 < m
  · have h60i : (60 : Int) < (m : Int) := by omega
    have HCE : Hid (checkE (.mk kd nd l) = 12) := Lib.hid (by unfold checkE bigD; rw [HND.out, ← HMM.out, decide_eq_true (.inl h60)]; rfl)
    clear h60
    go_wp2_with fail
    go_ret
    exact ⟨by rw [HCE.out]; rfl, HBW.out⟩
  · have h60i : ¬ (60 : Int) < (m : Int) := by omega
    have h60b : decide ((60 : Int) < (m : Int)) = false := decide_eq_false h60i
    have H60 := Lib.hid h60
    obtain ⟨q, hq⟩ : ∃ q, q = DescV.depthL l + 1 := ⟨_, rfl⟩
    have HQ := Lib.hid hq
    rw [← hq] at HRD
    clear hq h60
    by_cases h12 : 12 < q
    · have h12i : (12 : Int) < (q : Int) := by omega
      have HCE : Hid (checkE (.mk kd nd l) = 12) := Lib.hid (by unfold checkE bigD; rw [HDP.out, ← HQ.out, decide_eq_true (.inr h12)]; rfl)
      clear h12
      go_wp2_with (go_at_call 88; (with_reducible refine HRD.out.mono ?_); rintro e w3 ⟨rfl, hb3⟩; have HB3 := Lib.hid (HBW.out.trans (hb3.mono HBW.out.size)); clear hb3)
      go_ret
      exact ⟨by rw [HCE.out]; rfl, HB3.out⟩
    · have h12i : ¬ (12 : Int) < (q : Int) := by omega
      have HBG : Hid (bigD (.mk kd nd l) = false) := Lib.hid (by unfold bigD; rw [HND.out, HDP.out, ← HMM.out, ← HQ.out]; exact decide_eq_false (fun h => h.elim H60.out h12))
      clear h12
      go_upto_region 5 with (go_at_call 88; (with_reducible refine HRD.out.mono ?_); rintro e w3 ⟨rfl, hb3⟩; have HB3 := Lib.hid hb3; clear c0 c1 c2 hb3)
      obtain ⟨W3, rfl⟩ : ∃ W : World, W = w3 := ⟨_, rfl⟩
      obtain ⟨ds, hds⟩ : ∃ ds, ds = DescV.mk kd nd l :: DescV.allL l := ⟨_, rfl⟩
      have HDS : Hid (ds = (DescV.mk kd nd l).allD) := Lib.hid (by rw [hds, DescV.allD])
      have HDL : Hid (ds.length = m) := Lib.hid (by rw [HDS.out, DescV.allD_len, HND.out, HMM.out])
      rw [← hds] at HN
      clear hds
      have HO3 := Lib.hid (own_below HO.out HB3.out)
      have HN3 := Lib.hid (HN.out.keep (Fix.of_below HB3.out))
      have HBW3 : Hid (Below w.heap.size w W3) := Lib.hid (HBW.out.trans (HB3.out.mono HBW.out.size))
      go_loopg [4] m (fun g iv wr => ∃ i : Nat, i ≤ m ∧ g = m - i ∧ iv = .int .i64 i ∧ ((ds.take i).all fun x => nodeB x.kind x.n x.kids) = true ∧ Below W3.heap.size W3 wr)
      case atStart => exact ⟨0, by omega, rfl, rfl, rfl, Below.refl _ _⟩
      case round =>
        obtain ⟨i, hi, rfl, rfl, hall, hB⟩ := hrel
        obtain ⟨wo, rfl⟩ : ∃ wo : World, wo = wr := ⟨_, rfl⟩
        have HALL := Lib.hid hall
        have HBo := Lib.hid hB
        clear hall hB
        by_cases hlt : i < m
        · have hlti : (i : Int) < (m : Int) := by omega
          have hil : i < ds.length := by rw [HDL.out]; exact hlt
          obtain ⟨g, rfl⟩ : ∃ g, la = some ⟨g, 0, none⟩ := by
            rcases HO3.out.2 with ⟨_, h0⟩ | ⟨g, _, _, hv, _⟩
            · omega
            · cases hv; exact ⟨g, rfl⟩
          have hrd := (HN3.out.keep (Fix.of_below HBo.out)).at_ i _ (List.getElem?_eq_getElem hil)
          have HTK := Lib.hid (List.take_succ_eq_append_getElem hil)
          have HGET := Lib.hid (List.getElem_mem hil)
          generalize ds[i]'hil = d at *
          obtain ⟨ax, nx, cx, hcs, hk⟩ := descRd_cells2 hrd
          obtain ⟨dk, dn, dl⟩ := d
          have ho := own_below HO3.out HBo.out
          have hcell : ∀ j u, [Value.int .i64 dk, .int .i64 dn, .slice ax nx cx][j]? = some u → wo.cell? ⟨g, i * 3 + j, none⟩ = some u := fun j u hu => by
            have hj : j < 3 := (List.getElem?_eq_some_iff.1 hu).1
            have e : xs[i * 3 + j]? = some u := by
              have : ((xs.drop (i * 3)).take 3)[j]? = some u := by rw [hcs]; exact hu
              rw [List.getElem?_take_of_lt hj, List.getElem?_drop] at this
              exact this
            have h := ho.cells (g := g) rfl _ u e
            rw [Addr.add_lit, Nat.zero_add] at h
            exact h
          have p0 := hcell 0 _ rfl
          have p1 := hcell 1 _ rfl
          have p2 := hcell 2 _ rfl
          simp only [Nat.add_zero] at p0
          have HC := Lib.hid (rnode_any _ _ dk dn dl ax nx cx wo hk)
          clear hrd hcs hk ho hcell
          cases hn : nodeB dk dn dl with
          | false =>
            have HNB := Lib.hid hn
            have HR : Hid (checkE (.mk kd nd l) = 8) := Lib.hid (by
              have hr : (DescV.mk kd nd l).rightD = false := by
                rw [DescV.right_all, ← HDS.out]
                cases h : ds.all fun x => nodeB x.kind x.n x.kids with
                | false => rfl
                | true => have := List.all_eq_true.1 h _ HGET.out; exact absurd (this.symm.trans hn) (by simp)
              unfold checkE
              rw [HBG.out, hr]
              rfl)
            clear hn
            go_wp2_with (go_at_call 89; (with_reducible refine HC.out.mono ?_); rintro e w5 ⟨rfl, hb5⟩; rw [HNB.out]; have HB5 := Lib.hid (HBW3.out.trans ((HBo.out.trans (hb5.mono HBo.out.size)).mono HBW3.out.size)); clear hb5)
            go_ret
            exact ⟨by rw [HR.out]; rfl, HB5.out⟩
          | true =>
            have HNB := Lib.hid hn
            clear hn
            go_wp2_with (go_at_call 89; (with_reducible refine HC.out.mono ?_); rintro e w5 ⟨rfl, hb5⟩; rw [HNB.out]; have HB5 := Lib.hid (HBo.out.trans (hb5.mono HBo.out.size)); clear hb5)
            go_roundg (m - (i + 1))
            case measure => omega
            case rel =>
              refine ⟨i + 1, by omega, rfl, by go_num, ?_, HB5.out⟩
              rw [HTK.out, List.all_append, HALL.out]
              simp only [List.all_cons, List.all_nil, Bool.and_true, Bool.true_and]
              exact HNB.out
        · obtain rfl : i = m := by omega
          have HR : Hid (checkE (.mk kd nd l) = 0) := Lib.hid (by
            have h := HALL.out
            rw [List.take_of_length_le (by rw [HDL.out]; omega), HDS.out, ← DescV.right_all] at h
            unfold checkE
            rw [HBG.out, h]
            rfl)
          go_wp2_with fail
          go_ret
          exact ⟨by rw [HR.out]; rfl, HBW3.out.trans (HBo.out.mono HBW3.out.size)⟩
set_option maxRecDepth 100000 in
set_option maxHeartbeats 4000000 in
theorem rfor_any (k : Nat) (F : Foot) (kn kr kd nd : Int) (l : List DescV) (a : Option Addr) (n cap : Nat) (w : World) (hl : RowOf (descRd k) 3 40 F w a n cap l) (hm : DescV.nodesL l < 1048576) (hwk : (Lit.int .i64 kd).wf = true) (hwn : (Lit.int .i64 nd).wf = true) :
    Calls Tryz.prog 42 #[.agg #[.int .i64 kn, .int .i64 kr], .agg #[.int .i64 kd, .int .i64 nd, .slice a n cap]] w fun e w' => e = .returned (.int .i64 (forE kn kr (.mk kd nd l))) ∧ Below w.heap.size w w' := by
  obtain ⟨W1, hW1⟩ : ∃ W1, W1 = (w.alloc (.cells #[.int .i64 kn, .int .i64 kr] 39)).alloc (.cells #[.int .i64 kd, .int .i64 nd, .slice a n cap] 42) := ⟨_, rfl⟩
  have hb1 : Below w.heap.size w W1 := by rw [hW1]; exact ((Below.refl _ _).alloc (Nat.le_refl _) _).alloc (by simp) _
  have gs : W1.heap[w.heap.size]? = some (.cells #[.int .i64 kn, .int .i64 kr] 39 (0, 0)) ∧ W1.heap[w.heap.size + 1]? = some (.cells #[.int .i64 kd, .int .i64 nd, .slice a n cap] 42 (0, 0)) := by
    rw [hW1]
    simp only [heap_alloc_iff, World.size_alloc]
    refine ⟨?_, ?_⟩ <;> simp
  obtain ⟨g0, g1⟩ := gs
  have hz1 : W1.heap.size = w.heap.size + 2 := by rw [hW1]; simp
  have c0 : W1.cell? ⟨w.heap.size + 1, 0, none⟩ = some (.int .i64 kd) := cell_at (o := 0) g1 rfl
  have c1 : W1.cell? ⟨w.heap.size + 1, 1, none⟩ = some (.int .i64 nd) := cell_at (o := 1) g1 rfl
  have c2 : W1.cell? ⟨w.heap.size + 1, 2, none⟩ = some (.slice a n cap) := cell_at (o := 2) g1 rfl
  have k0 : W1.cell? ⟨w.heap.size, 0, none⟩ = some (.int .i64 kn) := cell_at (o := 0) g0 rfl
  have k1 : W1.cell? ⟨w.heap.size, 1, none⟩ = some (.int .i64 kr) := cell_at (o := 1) g0 rfl
  have HB := Lib.hid hb1
  have HC := Lib.hid (rcheck_any k F kd nd l a n cap W1 (hl.keep (descRd_ok _) (Fix.of_below hb1)) hm hwk hwn)
  have HT : Hid (∀ w2, Below W1.heap.size W1 w2 → w2.cell? ⟨w.heap.size + 1, 1, none⟩ = some (.int .i64 nd) ∧ w2.cell? ⟨w.heap.size, 0, none⟩ = some (.int .i64 kn)) := Lib.hid fun w2 hb => ⟨cell_at ((hb.block _ (by omega)).trans g1) rfl, cell_at ((hb.block _ (by omega)).trans g0) rfl⟩
  clear hl hb1 g0 g1 hz1 hm hwk hwn
  cases hh : hasB kn with
  | false =>
    have HH := Lib.hid hh
    have HF : Hid (forE kn kr (.mk kd nd l) = 4) := Lib.hid (by unfold forE; rw [hh]; rfl)
    clear hh
    go_enter Tryz.func42, Tryz.ntmps42
    go_upto_region 1 with fail
    rw [← hW1]
    clear hW1
    go_wp2_with (go_at_call 67; (with_reducible refine (rhas_any _ _).mono ?_); rintro e w' ⟨rfl, rfl⟩; rw [HH.out])
    go_ret
    exact ⟨by rw [HF.out]; rfl, HB.out⟩
  | true =>
    have HH := Lib.hid hh
    by_cases hr : kr = 0 ∨ kr = 1
    · have HF0 : Hid (forE kn kr (.mk kd nd l) = if checkE (.mk kd nd l) = 0 then (if nd = kn then 0 else 8) else checkE (.mk kd nd l)) := Lib.hid (by unfold forE; rw [hh, if_pos hr]; rfl)
      have hr' : Hid (kr = 0 ∨ kr = 1) := Lib.hid hr
      clear hh hr
      by_cases hc : checkE (.mk kd nd l) = 0
      · have HCC := Lib.hid hc
        by_cases hn : nd = kn
        · have HF : Hid (forE kn kr (.mk kd nd l) = 0) := Lib.hid (by rw [HF0.out, if_pos hc, if_pos hn])
          subst hn
          clear hc
          rcases hr'.out with rfl | rfl
          all_goals
            go_enter Tryz.func42, Tryz.ntmps42
            go_upto_region 1 with fail
            rw [← hW1]
            clear hW1
            go_wp2_with (first | (go_at_call 67; (with_reducible refine (rhas_any _ _).mono ?_); rintro e w' ⟨rfl, rfl⟩; rw [HH.out]) | (go_at_call 68; (with_reducible refine HC.out.mono ?_); rintro e w2 ⟨rfl, hb2⟩; rw [HCC.out]; have HB2 := Lib.hid (HB.out.trans (hb2.mono HB.out.size)); clear c0 c1 c2 k0 k1; obtain ⟨c1, k0⟩ := HT.out w2 hb2; clear hb2))
            go_ret
            exact ⟨by rw [HF.out]; rfl, HB2.out⟩
        · have HF : Hid (forE kn kr (.mk kd nd l) = 8) := Lib.hid (by rw [HF0.out, if_pos hc, if_neg hn])
          have hnb : (nd != kn) = true := by simpa using hn
          have hnb2 : (nd == kn) = false := by simpa using hn
          clear hc hn
          rcases hr'.out with rfl | rfl
          all_goals
            go_enter Tryz.func42, Tryz.ntmps42
            go_upto_region 1 with fail
            rw [← hW1]
            clear hW1
            go_wp2_with (first | (go_at_call 67; (with_reducible refine (rhas_any _ _).mono ?_); rintro e w' ⟨rfl, rfl⟩; rw [HH.out]) | (go_at_call 68; (with_reducible refine HC.out.mono ?_); rintro e w2 ⟨rfl, hb2⟩; rw [HCC.out]; have HB2 := Lib.hid (HB.out.trans (hb2.mono HB.out.size)); clear c0 c1 c2 k0 k1; obtain ⟨c1, k0⟩ := HT.out w2 hb2; clear hb2))
            go_ret
            exact ⟨by rw [HF.out]; rfl, HB2.out⟩
      · have HF : Hid (forE kn kr (.mk kd nd l) = checkE (.mk kd nd l)) := Lib.hid (by rw [HF0.out, if_neg hc])
        generalize checkE (.mk kd nd l) = ce at *
        have hcb : (ce != 0) = true := by simpa using hc
        rcases hr'.out with rfl | rfl
        all_goals
          go_enter Tryz.func42, Tryz.ntmps42
          go_upto_region 1 with fail
          rw [← hW1]
          clear hW1
          go_wp2_with (first | (go_at_call 67; (with_reducible refine (rhas_any _ _).mono ?_); rintro e w' ⟨rfl, rfl⟩; rw [HH.out]) | (go_at_call 68; (with_reducible refine HC.out.mono ?_); rintro e w2 ⟨rfl, hb2⟩; have HB2 := Lib.hid (HB.out.trans (hb2.mono HB.out.size)); clear c0 c1 c2 k0 k1; obtain ⟨c1, k0⟩ := HT.out w2 hb2; clear hb2))
          go_ret
          exact ⟨by rw [HF.out]; rfl, HB2.out⟩
    · have HF : Hid (forE kn kr (.mk kd nd l) = 2) := Lib.hid (by unfold forE; rw [hh, if_neg hr]; rfl)
      have hr0 : ¬ kr = 0 := fun h => hr (.inl h)
      have hr1 : ¬ kr = 1 := fun h => hr (.inr h)
      have b0 : (kr != 0) = true := by simpa using hr0
      have b1 : (kr != 1) = true := by simpa using hr1
      clear hh hr
      go_enter Tryz.func42, Tryz.ntmps42
      go_upto_region 1 with fail
      rw [← hW1]
      clear hW1
      go_wp2_with (go_at_call 67; (with_reducible refine (rhas_any _ _).mono ?_); rintro e w' ⟨rfl, rfl⟩; rw [HH.out])
      go_ret
      exact ⟨by rw [HF.out]; rfl, HB.out⟩
end Go.Proofs.YtephllgddhncgaaGreatDoor
/- The reference's Check and Parse of an entry. -/
namespace Go.Proofs.YtephllgddhncgaaGreatDoor.Lex
open Go.RowKit
set_option linter.unusedSimpArgs false
set_option linter.unusedVariables false
theorem qsame2 {P : Program} {f : FuncId} {args : Array Value} {w : World} {n : Nat} {v : Value}
    (h : Calls P f args (w.drewN n) fun e w' => e = .returned v ∧ w.drewN n = w') : Calls P f args (w.drewN n) fun e w'' => e = .returned v ∧ ∃ m, w'' = w.drewN m :=
  h.mono fun _ _ ⟨he, hm⟩ => ⟨he, n, hm.symm⟩
set_option maxRecDepth 100000 in
set_option maxHeartbeats 4000000 in
theorem rcheckE_any (k : Nat) (F : Foot) (kn kr kd nd : Int) (l : List DescV) (a : Option Addr) (n cap : Nat) (w : World) (hl : RowOf (descRd k) 3 40 F w a n cap l) (hm : DescV.nodesL l < 1048576) (hwk : (Lit.int .i64 kd).wf = true) (hwn : (Lit.int .i64 nd).wf = true) :
    Calls Tryz.prog 24 #[.agg #[.int .i64 kn, .int .i64 kr, .int .i64 kd, .int .i64 nd, .slice a n cap]] w fun e w' => e = .returned (.int .i64 (forE kn kr (.mk kd nd l))) ∧ Below w.heap.size w w' := by
  have hb : Below w.heap.size w (w.alloc (.cells #[.int .i64 kn, .int .i64 kr, .int .i64 kd, .int .i64 nd, .slice a n cap] 44)) := (Below.refl _ _).alloc (Nat.le_refl _) _
  have HB := Lib.hid hb
  have HC := Lib.hid (rfor_any k F kn kr kd nd l a n cap _ (hl.keep (descRd_ok _) (Fix.of_below hb)) hm hwk hwn)
  clear hl hb
  go_enter Tryz.func24, Tryz.ntmps24
  go_wp2_with (go_at_call 42; (with_reducible refine HC.out.mono ?_); rintro e w2 ⟨rfl, hb2⟩; have HB2 := Lib.hid (HB.out.trans (hb2.mono HB.out.size)); clear hb2)
  go_ret
  exact ⟨rfl, HB2.out⟩
set_option maxRecDepth 100000 in
set_option maxHeartbeats 8000000 in
theorem reparse (s : ByteArray) (w : World) (hs : s.size ≤ 1048576) (hx : HasMax w) : Calls Tryz.prog 33 #[.string s] w (EPost s.data.toList w) := by
  obtain ⟨W1, hW1⟩ : ∃ W1, W1 = w.alloc (.cells #[.int .i64 0, .int .i64 0, .int .i64 0, .int .i64 0, .slice none 0 0] 44) := ⟨_, rfl⟩
  have hb1 : Below w.heap.size w W1 := by rw [hW1]; exact (Below.refl _ _).alloc (Nat.le_refl _) _
  have g1 : W1.heap[w.heap.size]? = some (.cells #[.int .i64 0, .int .i64 0, .int .i64 0, .int .i64 0, .slice none 0 0] 44 (0, 0)) := by rw [hW1]; exact heap_alloc_new w _
  have hz1 : w.heap.size < W1.heap.size := by rw [hW1]; simp
  have HB := Lib.hid hb1
  have HZ := Lib.hid hz1
  have HX := Lib.hid (hx.below hb1)
  have HR : Hid (∀ W, Below W1.heap.size W1 W → W.heap[w.heap.size]? = some (.cells #[.int .i64 0, .int .i64 0, .int .i64 0, .int .i64 0, .slice none 0 0] 44 (0, 0))) := Lib.hid fun W hb => (hb.block _ hz1).trans g1
  have HW := Lib.hid (rwords s W1 hs)
  have hsl : s.data.toList.length = s.size := by simp
  have HSL := Lib.hid hsl
  have HS := Lib.hid hs
  clear hb1 g1 hz1 hx hsl hs
  cases hwd : wordsOf s.data.toList with
  | none =>
    have HE := Lib.hid (parseE_none hwd)
    have HC : Hid (Calls Tryz.prog 52 #[.string s] W1 fun e w' => e = .returned (.tuple #[.slice none 0 0, .bool false]) ∧ Below W1.heap.size W1 w') := Lib.hid (HW.out.mono fun e w' ⟨hb, h⟩ => by rw [hwd] at h; exact ⟨h, hb⟩)
    clear hwd HW
    go_enter Tryz.func33, Tryz.ntmps33
    go_upto_region 1 with fail
    rw [← hW1]
    clear hW1
    go_upto_region 3 with (go_at_call 52; (with_reducible refine HC.out.mono ?_); rintro e w2 ⟨rfl, hb2⟩; have HB2 := Lib.hid hb2; clear hb2)
    have HRR := Lib.hid (HR.out w2 HB2.out)
    have HBB := Lib.hid (HB.out.trans (HB2.out.mono HB.out.size))
    (have r0 := cell_at (o := 0) HRR.out rfl; have r1 := cell_at (o := 1) HRR.out rfl; have r2 := cell_at (o := 2) HRR.out rfl; have r3 := cell_at (o := 3) HRR.out rfl; have r4 := cell_at (o := 4) HRR.out rfl; have f0 := free_at (o := 0) HRR.out; have f1 := free_at (o := 1) HRR.out; have f2 := free_at (o := 2) HRR.out; have f3 := free_at (o := 3) HRR.out; have f4 := free_at (o := 4) HRR.out)
    go_wp2_with fail
    (have hg := heap_set_at (o := 4) (.slice none 0 0) (heap_set_at (o := 3) (.int .i64 0) (heap_set_at (o := 2) (.int .i64 0) (heap_set_at (o := 1) (.int .i64 0) (heap_set_at (o := 0) (.int .i64 0) HRR.out)))); (have z0 := cell_at (o := 0) hg rfl; have z1 := cell_at (o := 1) hg rfl; have z2 := cell_at (o := 2) hg rfl; have z3 := cell_at (o := 3) hg rfl; have z4 := cell_at (o := 4) hg rfl; clear r0 r1 r2 r3 r4 f0 f1 f2 f3 f4); have hbz := (((((HBB.out.setCell (p := ⟨w.heap.size, 0, none⟩) (Nat.le_refl _) (.int .i64 0)).setCell (p := ⟨w.heap.size, 1, none⟩) (Nat.le_refl _) (.int .i64 0)).setCell (p := ⟨w.heap.size, 2, none⟩) (Nat.le_refl _) (.int .i64 0)).setCell (p := ⟨w.heap.size, 3, none⟩) (Nat.le_refl _) (.int .i64 0)).setCell (p := ⟨w.heap.size, 4, none⟩) (Nat.le_refl _) (.slice none 0 0)); refine bodyPost_ret (v := .tuple #[.agg #[.int .i64 0, .int .i64 0, .int .i64 0, .int .i64 0, .slice none 0 0], .int .i64 10]) (by simp [results, Tryz.results33, go_sem, z0, z1, z2, z3, z4]) rfl ?_; exact epost_bad HE.out hbz)
  | some ws =>
    have HC : Hid (Calls Tryz.prog 52 #[.string s] W1 fun e w' => (∃ v, e = .returned (.tuple #[v, .bool true]) ∧ w'.ownsRow W1.heap.size 9 1 v ws.length (ws.map fun l => .string (bs l))) ∧ Below W1.heap.size W1 w') := Lib.hid (HW.out.mono fun e w' ⟨hb, h⟩ => by rw [hwd] at h; exact ⟨h, hb⟩)
    by_cases hl3 : ws.length = 3
    · obtain ⟨a, b, c, rfl⟩ : ∃ a b c, ws = [a, b, c] := by
        match ws, hl3 with
        | [a, b, c], _ => exact ⟨a, b, c, rfl⟩
      have hgl : a.length + b.length + c.length + 2 = s.size := by
        have h := congrArg List.length (words_sub hwd)
        rw [glue_three, HSL.out] at h
        simp at h
        omega
      have hss := HS.out
      have La : a.length ≤ 9223372036854775807 := by omega
      have Lb : b.length ≤ 9223372036854775807 := by omega
      have Lc : (bs c).size ≤ maxLen := by show c.toArray.size ≤ _; unfold maxLen; simp; omega
      have HNA : Hid (∀ W, Calls Tryz.prog 53 #[.string (bs a)] W fun e w' => e = .returned (.int .i64 (rn a)) ∧ W = w') := Lib.hid fun W => by
        have h := rnum (bs a) W (by show a.toArray.size ≤ _; simpa using La)
        rw [data_bs] at h
        exact h
      have HNB : Hid (∀ W, Calls Tryz.prog 53 #[.string (bs b)] W fun e w' => e = .returned (.int .i64 (rn b)) ∧ W = w') := Lib.hid fun W => by
        have h := rnum (bs b) W (by show b.toArray.size ≤ _; simpa using Lb)
        rw [data_bs] at h
        exact h
      have HWD := Lib.hid hwd
      clear hl3 hwd HW hgl hss La Lb
      go_enter Tryz.func33, Tryz.ntmps33
      go_upto_region 1 with fail
      rw [← hW1]
      clear hW1
      go_upto_region 2 with (go_at_call 52; (with_reducible refine HC.out.mono ?_); rintro e w2 ⟨⟨v, rfl, ho⟩, hb2⟩; obtain ⟨va, vc, rfl⟩ := own_val ho; have HO := Lib.hid ho; have HB2 := Lib.hid hb2; clear hb2 ho)
      obtain ⟨W2, rfl⟩ : ∃ W : World, W = w2 := ⟨_, rfl⟩
      have HBW := Lib.hid (HB.out.trans (HB2.out.mono HB.out.size))
      obtain ⟨g, rfl⟩ : ∃ g, va = some ⟨g, 0, none⟩ := by
        rcases HO.out.2 with ⟨_, h0⟩ | ⟨g, _, _, hv, _⟩
        · simp at h0
        · cases hv; exact ⟨g, rfl⟩
      have hcl : ∀ j (u : List UInt8), [a, b, c][j]? = some u → W2.cell? ⟨g, j, none⟩ = some (.string (bs u)) := fun j u hu => by
        have h := HO.out.cells (g := g) rfl j (.string (bs u)) (by rw [List.getElem?_map, hu]; rfl)
        rw [Addr.add_lit, Nat.zero_add] at h
        exact h
      have hgz := (HO.out.lt g rfl).2
      have HWC : Hid (∀ W, Below W2.heap.size W2 W → W.cell? ⟨g, 0, none⟩ = some (.string (bs a)) ∧ W.cell? ⟨g, 1, none⟩ = some (.string (bs b)) ∧ W.cell? ⟨g, 2, none⟩ = some (.string (bs c))) := Lib.hid fun W hb => by
        have e : ∀ o, W.cell? ⟨g, o, none⟩ = W2.cell? ⟨g, o, none⟩ := fun o => hb.cell (p := ⟨g, o, none⟩) hgz
        rw [e, e, e]
        exact ⟨hcl 0 a rfl, hcl 1 b rfl, hcl 2 c rfl⟩
      obtain ⟨s0, s1, s2⟩ := HWC.out W2 (Below.refl _ _)
      clear hcl hgz
      cases ha : numOf a with
      | none =>
        have HE := Lib.hid (parseE_num HWD.out (.inl ha))
        have hra := rn_no ha
        rw [hra] at HNA
        clear ha hra
        go_upto_region 3 with ((first | (go_at_call 53; (with_reducible refine (HNA.out _).mono ?_); rintro e w' ⟨rfl, rfl⟩) | (go_at_call 53; (with_reducible refine (HNB.out _).mono ?_); rintro e w' ⟨rfl, rfl⟩)))
        have HRR := Lib.hid (HR.out W2 HB2.out)
        have HBB := HBW
        clear s0 s1 s2
        (have r0 := cell_at (o := 0) HRR.out rfl; have r1 := cell_at (o := 1) HRR.out rfl; have r2 := cell_at (o := 2) HRR.out rfl; have r3 := cell_at (o := 3) HRR.out rfl; have r4 := cell_at (o := 4) HRR.out rfl; have f0 := free_at (o := 0) HRR.out; have f1 := free_at (o := 1) HRR.out; have f2 := free_at (o := 2) HRR.out; have f3 := free_at (o := 3) HRR.out; have f4 := free_at (o := 4) HRR.out)
        go_wp2_with fail
        (have hg := heap_set_at (o := 4) (.slice none 0 0) (heap_set_at (o := 3) (.int .i64 0) (heap_set_at (o := 2) (.int .i64 0) (heap_set_at (o := 1) (.int .i64 0) (heap_set_at (o := 0) (.int .i64 0) HRR.out)))); (have z0 := cell_at (o := 0) hg rfl; have z1 := cell_at (o := 1) hg rfl; have z2 := cell_at (o := 2) hg rfl; have z3 := cell_at (o := 3) hg rfl; have z4 := cell_at (o := 4) hg rfl; clear r0 r1 r2 r3 r4 f0 f1 f2 f3 f4); have hbz := (((((HBB.out.setCell (p := ⟨w.heap.size, 0, none⟩) (Nat.le_refl _) (.int .i64 0)).setCell (p := ⟨w.heap.size, 1, none⟩) (Nat.le_refl _) (.int .i64 0)).setCell (p := ⟨w.heap.size, 2, none⟩) (Nat.le_refl _) (.int .i64 0)).setCell (p := ⟨w.heap.size, 3, none⟩) (Nat.le_refl _) (.int .i64 0)).setCell (p := ⟨w.heap.size, 4, none⟩) (Nat.le_refl _) (.slice none 0 0)); refine bodyPost_ret (v := .tuple #[.agg #[.int .i64 0, .int .i64 0, .int .i64 0, .int .i64 0, .slice none 0 0], .int .i64 10]) (by simp [results, Tryz.results33, go_sem, z0, z1, z2, z3, z4]) rfl ?_; exact epost_bad HE.out hbz)
      | some n =>
        have hra := rn_yes ha
        rw [hra] at HNA
        clear hra
        have hn0 : ¬ (n : Int) < 0 := by omega
        have hnd : decide ((n : Int) < 0) = false := decide_eq_false hn0
        cases hb : numOf b with
        | none =>
          have HE := Lib.hid (parseE_num HWD.out (.inr hb))
          have hrb := rn_no hb
          rw [hrb] at HNB
          clear hb hrb ha
          go_upto_region 3 with ((first | (go_at_call 53; (with_reducible refine (HNA.out _).mono ?_); rintro e w' ⟨rfl, rfl⟩) | (go_at_call 53; (with_reducible refine (HNB.out _).mono ?_); rintro e w' ⟨rfl, rfl⟩)))
          have HRR := Lib.hid (HR.out W2 HB2.out)
          have HBB := HBW
          clear s0 s1 s2
          (have r0 := cell_at (o := 0) HRR.out rfl; have r1 := cell_at (o := 1) HRR.out rfl; have r2 := cell_at (o := 2) HRR.out rfl; have r3 := cell_at (o := 3) HRR.out rfl; have r4 := cell_at (o := 4) HRR.out rfl; have f0 := free_at (o := 0) HRR.out; have f1 := free_at (o := 1) HRR.out; have f2 := free_at (o := 2) HRR.out; have f3 := free_at (o := 3) HRR.out; have f4 := free_at (o := 4) HRR.out)
          go_wp2_with fail
          (have hg := heap_set_at (o := 4) (.slice none 0 0) (heap_set_at (o := 3) (.int .i64 0) (heap_set_at (o := 2) (.int .i64 0) (heap_set_at (o := 1) (.int .i64 0) (heap_set_at (o := 0) (.int .i64 0) HRR.out)))); (have z0 := cell_at (o := 0) hg rfl; have z1 := cell_at (o := 1) hg rfl; have z2 := cell_at (o := 2) hg rfl; have z3 := cell_at (o := 3) hg rfl; have z4 := cell_at (o := 4) hg rfl; clear r0 r1 r2 r3 r4 f0 f1 f2 f3 f4); have hbz := (((((HBB.out.setCell (p := ⟨w.heap.size, 0, none⟩) (Nat.le_refl _) (.int .i64 0)).setCell (p := ⟨w.heap.size, 1, none⟩) (Nat.le_refl _) (.int .i64 0)).setCell (p := ⟨w.heap.size, 2, none⟩) (Nat.le_refl _) (.int .i64 0)).setCell (p := ⟨w.heap.size, 3, none⟩) (Nat.le_refl _) (.int .i64 0)).setCell (p := ⟨w.heap.size, 4, none⟩) (Nat.le_refl _) (.slice none 0 0)); refine bodyPost_ret (v := .tuple #[.agg #[.int .i64 0, .int .i64 0, .int .i64 0, .int .i64 0, .slice none 0 0], .int .i64 10]) (by simp [results, Tryz.results33, go_sem, z0, z1, z2, z3, z4]) rfl ?_; exact epost_bad HE.out hbz)
        | some r =>
          have hrb := rn_yes hb
          rw [hrb] at HNB
          clear hrb
          have hr0 : ¬ (r : Int) < 0 := by omega
          have hrd : decide ((r : Int) < 0) = false := decide_eq_false hr0
          have HE0 : Hid (parseE s.data.toList = if (parseD c).1 = 0 then (if forE n r (parseD c).2 = 0 then (0, (((((n : Int), (r : Int)), (parseD c).2) : EntV))) else (forE n r (parseD c).2, zeroE)) else ((parseD c).1, zeroE)) := Lib.hid (by rw [parseE_three HWD.out, ha, hb])
          clear ha hb
          have HDP := Lib.hid (rparse_any (bs c) W2 Lc)
          unfold ParsePost at HDP
          rw [data_bs] at HDP
          have HWF : Hid ((parseD c).1 = 0 → (Lit.int .i64 (parseD c).2.kind).wf = true ∧ (Lit.int .i64 (parseD c).2.n).wf = true ∧ (parseD c).2.nodes ≤ 60 ∧ DescV.nodesL (parseD c).2.kids < 1048576) := Lib.hid parseD_wf
          generalize parseD c = pc at *
          obtain ⟨pe, dk, dn, dl⟩ := pc
          dsimp only [DescV.kind, DescV.n, DescV.kids] at HDP HE0 HWF
          go_upto_region 4 with ((first | (go_at_call 53; (with_reducible refine (HNA.out _).mono ?_); rintro e w' ⟨rfl, rfl⟩) | (go_at_call 53; (with_reducible refine (HNB.out _).mono ?_); rintro e w' ⟨rfl, rfl⟩)))
          by_cases hpe : pe = 0
          · subst hpe
            rw [if_pos rfl] at HE0
            go_upto_region 7 with (go_at_call 54; (with_reducible refine HDP.out.mono ?_); rintro e w5 ⟨da, dm, dc, rfl, hr, hb5⟩; have HDR := Lib.hid hr; have HB5 := Lib.hid hb5; clear s0 s1 s2 hr hb5)
            obtain ⟨W5, rfl⟩ : ∃ W : World, W = w5 := ⟨_, rfl⟩
            obtain ⟨W6, hW6⟩ : ∃ W6, W6 = W5.alloc (.cells #[.int .i64 dk, .int .i64 dn, .slice da dm dc] 42) := ⟨_, rfl⟩
            have hb6 : Below W5.heap.size W5 W6 := by rw [hW6]; exact (Below.refl _ _).alloc (Nat.le_refl _) _
            have g6 : W6.heap[W5.heap.size]? = some (.cells #[.int .i64 dk, .int .i64 dn, .slice da dm dc] 42 (0, 0)) := by rw [hW6]; exact heap_alloc_new W5 _
            have hz6 : W6.heap.size = W5.heap.size + 1 := by rw [hW6]; simp
            have HB6 := Lib.hid (HB5.out.trans (hb6.mono HB5.out.size))
            have HDR6 := Lib.hid (HDR.out.keep (descRd_ok _) (Fix.of_below hb6))
            have HQ6 : Hid (∀ W, Below W6.heap.size W6 W → W.cell? ⟨g, 0, none⟩ = some (.string (bs a)) ∧ W.cell? ⟨g, 1, none⟩ = some (.string (bs b)) ∧ W.cell? ⟨W5.heap.size, 0, none⟩ = some (.int .i64 dk) ∧ W.cell? ⟨W5.heap.size, 1, none⟩ = some (.int .i64 dn) ∧ W.cell? ⟨W5.heap.size, 2, none⟩ = some (.slice da dm dc)) := Lib.hid fun W hb => by
              obtain ⟨t0, t1, _⟩ := HWC.out W (HB6.out.trans (hb.mono HB6.out.size))
              have e := (hb.block W5.heap.size (by omega)).trans g6
              exact ⟨t0, t1, cell_at e rfl, cell_at e rfl, cell_at e rfl⟩
            have hbz := Below.refl W6.heap.size W6
            rw [← hW6]
            clear hW6 hb6 g6 HDR hz6
            go_region_held3 (fun W => W.cell? ⟨g, 0, none⟩ = some (.string (bs a)) ∧ W.cell? ⟨g, 1, none⟩ = some (.string (bs b)) ∧ W.cell? ⟨W5.heap.size, 0, none⟩ = some (.int .i64 dk) ∧ W.cell? ⟨W5.heap.size, 1, none⟩ = some (.int .i64 dn) ∧ W.cell? ⟨W5.heap.size, 2, none⟩ = some (.slice da dm dc)) ((refine HQ6.out _ ?_; ((repeat' (first | with_reducible assumption | with_reducible refine Below.drew ?_ | (with_reducible refine Below.alloc ?_ ?_ _))) <;> first | assumption | (simp; done) | (simp; omega)))) ((first | (go_at_call 53; (with_reducible refine (HNA.out _).mono ?_); rintro e w' ⟨rfl, rfl⟩) | (go_at_call 53; (with_reducible refine (HNB.out _).mono ?_); rintro e w' ⟨rfl, rfl⟩)))
            all_goals
              obtain ⟨W7, hW7⟩ : ∃ W7, W7 = (W6.alloc (.cells #[.int .i64 (n : Int), .int .i64 (r : Int), .int .i64 dk, .int .i64 dn, .slice da dm dc] 44)).drew := ⟨_, rfl⟩
              have hb7 : Below W6.heap.size W6 W7 := by rw [hW7]; exact ((Below.refl _ _).alloc (Nat.le_refl _) _).drew
              have g7 : W7.heap[W6.heap.size]? = some (.cells #[.int .i64 (n : Int), .int .i64 (r : Int), .int .i64 dk, .int .i64 dn, .slice da dm dc] 44 (0, 0)) := by rw [hW7]; exact heap_alloc_new W6 _
              have hz7 : W6.heap.size < W7.heap.size := by rw [hW7]; simp
              have HB7 := Lib.hid (HB6.out.trans (hb7.mono HB6.out.size))
              have HDR7 := Lib.hid (HDR6.out.keep (descRd_ok _) (Fix.of_below hb7))
              have HCK : Hid (∀ W, Below W7.heap.size W7 W → Calls Tryz.prog 24 #[.agg #[.int .i64 (n : Int), .int .i64 (r : Int), .int .i64 dk, .int .i64 dn, .slice da dm dc]] W fun e w' => e = .returned (.int .i64 (forE n r (.mk dk dn dl))) ∧ Below W.heap.size W w') := Lib.hid fun W hb => rcheckE_any 16384 _ n r dk dn dl da dm dc W (HDR7.out.keep (descRd_ok _) (Fix.of_below hb)) (HWF.out trivial).2.2.2 (HWF.out trivial).1 (HWF.out trivial).2.1
              have HC7 : Hid (∀ W, Below W7.heap.size W7 W → W.cell? ⟨W6.heap.size, 0, none⟩ = some (.int .i64 (n : Int)) ∧ W.cell? ⟨W6.heap.size, 1, none⟩ = some (.int .i64 (r : Int)) ∧ W.cell? ⟨W6.heap.size, 2, none⟩ = some (.int .i64 dk) ∧ W.cell? ⟨W6.heap.size, 3, none⟩ = some (.int .i64 dn) ∧ W.cell? ⟨W6.heap.size, 4, none⟩ = some (.slice da dm dc)) := Lib.hid fun W hb => by
                have e := (hb.block _ hz7).trans g7
                exact ⟨cell_at e rfl, cell_at e rfl, cell_at e rfl, cell_at e rfl, cell_at e rfl⟩
              have HZ5 : Hid (w.heap.size < W2.heap.size) := Lib.hid (Nat.lt_of_lt_of_le HZ.out HB2.out.size)
              rw [← hW7]
              obtain ⟨q0, q1, q2, q3, q4⟩ := HC7.out W7 (Below.refl _ _)
              clear hW7 hb7 g7 hz7 hbz
              by_cases hf : forE n r (.mk dk dn dl) = 0
              · have HE : Hid (parseE s.data.toList = (0, (((n : Int), (r : Int)), .mk dk dn dl))) := Lib.hid (by rw [HE0.out, if_pos hf])
                have HCK0 : Hid (∀ W, Below W7.heap.size W7 W → Calls Tryz.prog 24 #[.agg #[.int .i64 (n : Int), .int .i64 (r : Int), .int .i64 dk, .int .i64 dn, .slice da dm dc]] W fun e w' => e = .returned (.int .i64 0) ∧ Below W.heap.size W w') := Lib.hid fun W hb => by have h := HCK.out W hb; rw [hf] at h; exact h
                clear hf HCK
                go_upto_region 10 with (go_at_call 24; (with_reducible refine (HCK0.out _ (Below.refl _ _)).mono ?_); rintro e w8 ⟨rfl, hb8⟩; have HB78 := Lib.hid hb8; have HB8 := Lib.hid (HB7.out.trans (hb8.mono HB7.out.size)); clear q0 q1 q2 q3 q4; obtain ⟨q0, q1, q2, q3, q4⟩ := HC7.out w8 hb8; clear hb8)
                have HRR := Lib.hid (HR.out w8 (HB2.out.trans (HB8.out.mono HB2.out.size)))
                have HBB := Lib.hid (HBW.out.trans (HB8.out.mono HBW.out.size))
                have HDR8 := Lib.hid (HDR7.out.keep (descRd_ok _) (Fix.of_below HB78.out))
                (have r0 := cell_at (o := 0) HRR.out rfl; have r1 := cell_at (o := 1) HRR.out rfl; have r2 := cell_at (o := 2) HRR.out rfl; have r3 := cell_at (o := 3) HRR.out rfl; have r4 := cell_at (o := 4) HRR.out rfl; have f0 := free_at (o := 0) HRR.out; have f1 := free_at (o := 1) HRR.out; have f2 := free_at (o := 2) HRR.out; have f3 := free_at (o := 3) HRR.out; have f4 := free_at (o := 4) HRR.out)
                go_wp2_with fail
                clear q0 q1 q2 q3 q4
                have hg := heap_set_at (o := 4) (.slice da dm dc) (heap_set_at (o := 3) (.int .i64 dn) (heap_set_at (o := 2) (.int .i64 dk) (heap_set_at (o := 1) (.int .i64 (r : Int)) (heap_set_at (o := 0) (.int .i64 (n : Int)) HRR.out))))
                (have z0 := cell_at (o := 0) hg rfl; have z1 := cell_at (o := 1) hg rfl; have z2 := cell_at (o := 2) hg rfl; have z3 := cell_at (o := 3) hg rfl; have z4 := cell_at (o := 4) hg rfl; clear r0 r1 r2 r3 r4 f0 f1 f2 f3 f4)
                have hbz := (((((HBB.out.setCell (p := ⟨w.heap.size, 0, none⟩) (Nat.le_refl _) (.int .i64 (n : Int))).setCell (p := ⟨w.heap.size, 1, none⟩) (Nat.le_refl _) (.int .i64 (r : Int))).setCell (p := ⟨w.heap.size, 2, none⟩) (Nat.le_refl _) (.int .i64 dk)).setCell (p := ⟨w.heap.size, 3, none⟩) (Nat.le_refl _) (.int .i64 dn)).setCell (p := ⟨w.heap.size, 4, none⟩) (Nat.le_refl _) (.slice da dm dc))
                refine bodyPost_ret (v := .tuple #[.agg #[.int .i64 (n : Int), .int .i64 (r : Int), .int .i64 dk, .int .i64 dn, .slice da dm dc], .int .i64 0]) (by simp [results, Tryz.results33, go_sem, z0, z1, z2, z3, z4]) rfl ?_
                refine ⟨da, dm, dc, by rw [HE.out]; rfl, ?_, hbz⟩
                rw [HE.out]
                have hno : ¬ From W2.heap.size w.heap.size := fun h => by have h2 : W2.heap.size ≤ w.heap.size := h; have := HZ5.out; omega
                have hfx : Fix (From W2.heap.size) w8 _ := ((((Fix.setCell (a := ⟨w.heap.size, 0, none⟩) w8 (.int .i64 (n : Int)) hno).trans (Fix.setCell (a := ⟨w.heap.size, 1, none⟩) _ (.int .i64 (r : Int)) hno)).trans (Fix.setCell (a := ⟨w.heap.size, 2, none⟩) _ (.int .i64 dk) hno)).trans (Fix.setCell (a := ⟨w.heap.size, 3, none⟩) _ (.int .i64 dn) hno)).trans (Fix.setCell (a := ⟨w.heap.size, 4, none⟩) _ (.slice da dm dc) hno)
                exact (HDR8.out.keep (descRd_ok _) hfx).mono (descRd_ok _) fun q _ hq => Nat.le_trans (Nat.le_of_lt HZ5.out) hq
              · have HE : Hid (parseE s.data.toList = (forE n r (.mk dk dn dl), zeroE)) := Lib.hid (by rw [HE0.out, if_neg hf])
                clear HE0
                generalize forE n r (.mk dk dn dl) = fe at *
                have hfb : (fe != 0) = true := by simpa using hf
                go_upto_region 9 with (go_at_call 24; (with_reducible refine (HCK.out _ (Below.refl _ _)).mono ?_); rintro e w8 ⟨rfl, hb8⟩; have HB78 := Lib.hid hb8; have HB8 := Lib.hid (HB7.out.trans (hb8.mono HB7.out.size)); clear q0 q1 q2 q3 q4; obtain ⟨q0, q1, q2, q3, q4⟩ := HC7.out w8 hb8; clear hb8)
                go_wp2_with (go_at_call 24; (with_reducible refine (HCK.out _ HB78.out).mono ?_); rintro e w9 ⟨rfl, hb9⟩; have HB9 := Lib.hid (HB8.out.trans (hb9.mono HB8.out.size)); clear q0 q1 q2 q3 q4 hb9; have HRR := Lib.hid (HR.out w9 (HB2.out.trans (HB9.out.mono HB2.out.size))); have HBB := Lib.hid (HBW.out.trans (HB9.out.mono HBW.out.size)); (have r0 := cell_at (o := 0) HRR.out rfl; have r1 := cell_at (o := 1) HRR.out rfl; have r2 := cell_at (o := 2) HRR.out rfl; have r3 := cell_at (o := 3) HRR.out rfl; have r4 := cell_at (o := 4) HRR.out rfl; have f0 := free_at (o := 0) HRR.out; have f1 := free_at (o := 1) HRR.out; have f2 := free_at (o := 2) HRR.out; have f3 := free_at (o := 3) HRR.out; have f4 := free_at (o := 4) HRR.out))
                (have hg := heap_set_at (o := 4) (.slice none 0 0) (heap_set_at (o := 3) (.int .i64 0) (heap_set_at (o := 2) (.int .i64 0) (heap_set_at (o := 1) (.int .i64 0) (heap_set_at (o := 0) (.int .i64 0) HRR.out)))); (have z0 := cell_at (o := 0) hg rfl; have z1 := cell_at (o := 1) hg rfl; have z2 := cell_at (o := 2) hg rfl; have z3 := cell_at (o := 3) hg rfl; have z4 := cell_at (o := 4) hg rfl; clear r0 r1 r2 r3 r4 f0 f1 f2 f3 f4); have hbz := (((((HBB.out.setCell (p := ⟨w.heap.size, 0, none⟩) (Nat.le_refl _) (.int .i64 0)).setCell (p := ⟨w.heap.size, 1, none⟩) (Nat.le_refl _) (.int .i64 0)).setCell (p := ⟨w.heap.size, 2, none⟩) (Nat.le_refl _) (.int .i64 0)).setCell (p := ⟨w.heap.size, 3, none⟩) (Nat.le_refl _) (.int .i64 0)).setCell (p := ⟨w.heap.size, 4, none⟩) (Nat.le_refl _) (.slice none 0 0)); refine bodyPost_ret (v := .tuple #[.agg #[.int .i64 0, .int .i64 0, .int .i64 0, .int .i64 0, .slice none 0 0], .int .i64 fe]) (by simp [results, Tryz.results33, go_sem, z0, z1, z2, z3, z4]) rfl ?_; exact epost_bad HE.out hbz)
          · have HE : Hid (parseE s.data.toList = (pe, zeroE)) := Lib.hid (by rw [HE0.out, if_neg hpe])
            have hpb : (pe != 0) = true := by simpa using hpe
            clear HE0 HWF
            go_upto_region 6 with (go_at_call 54; (with_reducible refine HDP.out.mono ?_); rintro e w5 ⟨da, dm, dc, rfl, hr, hb5⟩; have HB5 := Lib.hid hb5; clear s0 s1 s2 hr hb5)
            obtain ⟨W5, rfl⟩ : ∃ W : World, W = w5 := ⟨_, rfl⟩
            obtain ⟨W6, hW6⟩ : ∃ W6, W6 = W5.alloc (.cells #[.int .i64 dk, .int .i64 dn, .slice da dm dc] 42) := ⟨_, rfl⟩
            have hb6 : Below W5.heap.size W5 W6 := by rw [hW6]; exact (Below.refl _ _).alloc (Nat.le_refl _) _
            have HB6 := Lib.hid (HB5.out.trans (hb6.mono HB5.out.size))
            rw [← hW6]
            clear hW6 hb6
            have HRR := Lib.hid (HR.out W6 (HB2.out.trans (HB6.out.mono HB2.out.size)))
            have HBB := Lib.hid (HBW.out.trans (HB6.out.mono HBW.out.size))
            (have r0 := cell_at (o := 0) HRR.out rfl; have r1 := cell_at (o := 1) HRR.out rfl; have r2 := cell_at (o := 2) HRR.out rfl; have r3 := cell_at (o := 3) HRR.out rfl; have r4 := cell_at (o := 4) HRR.out rfl; have f0 := free_at (o := 0) HRR.out; have f1 := free_at (o := 1) HRR.out; have f2 := free_at (o := 2) HRR.out; have f3 := free_at (o := 3) HRR.out; have f4 := free_at (o := 4) HRR.out)
            go_wp2_with fail
            (have hg := heap_set_at (o := 4) (.slice none 0 0) (heap_set_at (o := 3) (.int .i64 0) (heap_set_at (o := 2) (.int .i64 0) (heap_set_at (o := 1) (.int .i64 0) (heap_set_at (o := 0) (.int .i64 0) HRR.out)))); (have z0 := cell_at (o := 0) hg rfl; have z1 := cell_at (o := 1) hg rfl; have z2 := cell_at (o := 2) hg rfl; have z3 := cell_at (o := 3) hg rfl; have z4 := cell_at (o := 4) hg rfl; clear r0 r1 r2 r3 r4 f0 f1 f2 f3 f4); have hbz := (((((HBB.out.setCell (p := ⟨w.heap.size, 0, none⟩) (Nat.le_refl _) (.int .i64 0)).setCell (p := ⟨w.heap.size, 1, none⟩) (Nat.le_refl _) (.int .i64 0)).setCell (p := ⟨w.heap.size, 2, none⟩) (Nat.le_refl _) (.int .i64 0)).setCell (p := ⟨w.heap.size, 3, none⟩) (Nat.le_refl _) (.int .i64 0)).setCell (p := ⟨w.heap.size, 4, none⟩) (Nat.le_refl _) (.slice none 0 0)); refine bodyPost_ret (v := .tuple #[.agg #[.int .i64 0, .int .i64 0, .int .i64 0, .int .i64 0, .slice none 0 0], .int .i64 pe]) (by simp [results, Tryz.results33, go_sem, z0, z1, z2, z3, z4]) rfl ?_; exact epost_bad HE.out hbz)
    · have HE := Lib.hid (parseE_len hwd hl3)
      have hli : ¬ (ws.length : Int) = 3 := by omega
      have hlb : ((ws.length : Int) != 3) = true := by simp; omega
      clear hwd HW hl3
      go_enter Tryz.func33, Tryz.ntmps33
      go_upto_region 1 with fail
      rw [← hW1]
      clear hW1
      go_upto_region 3 with (go_at_call 52; (with_reducible refine HC.out.mono ?_); rintro e w2 ⟨⟨v, rfl, ho⟩, hb2⟩; obtain ⟨va, vc, rfl⟩ := own_val ho; have HB2 := Lib.hid hb2; clear hb2 ho)
      have HRR := Lib.hid (HR.out w2 HB2.out)
      have HBB := Lib.hid (HB.out.trans (HB2.out.mono HB.out.size))
      (have r0 := cell_at (o := 0) HRR.out rfl; have r1 := cell_at (o := 1) HRR.out rfl; have r2 := cell_at (o := 2) HRR.out rfl; have r3 := cell_at (o := 3) HRR.out rfl; have r4 := cell_at (o := 4) HRR.out rfl; have f0 := free_at (o := 0) HRR.out; have f1 := free_at (o := 1) HRR.out; have f2 := free_at (o := 2) HRR.out; have f3 := free_at (o := 3) HRR.out; have f4 := free_at (o := 4) HRR.out)
      go_wp2_with fail
      (have hg := heap_set_at (o := 4) (.slice none 0 0) (heap_set_at (o := 3) (.int .i64 0) (heap_set_at (o := 2) (.int .i64 0) (heap_set_at (o := 1) (.int .i64 0) (heap_set_at (o := 0) (.int .i64 0) HRR.out)))); (have z0 := cell_at (o := 0) hg rfl; have z1 := cell_at (o := 1) hg rfl; have z2 := cell_at (o := 2) hg rfl; have z3 := cell_at (o := 3) hg rfl; have z4 := cell_at (o := 4) hg rfl; clear r0 r1 r2 r3 r4 f0 f1 f2 f3 f4); have hbz := (((((HBB.out.setCell (p := ⟨w.heap.size, 0, none⟩) (Nat.le_refl _) (.int .i64 0)).setCell (p := ⟨w.heap.size, 1, none⟩) (Nat.le_refl _) (.int .i64 0)).setCell (p := ⟨w.heap.size, 2, none⟩) (Nat.le_refl _) (.int .i64 0)).setCell (p := ⟨w.heap.size, 3, none⟩) (Nat.le_refl _) (.int .i64 0)).setCell (p := ⟨w.heap.size, 4, none⟩) (Nat.le_refl _) (.slice none 0 0)); refine bodyPost_ret (v := .tuple #[.agg #[.int .i64 0, .int .i64 0, .int .i64 0, .int .i64 0, .slice none 0 0], .int .i64 10]) (by simp [results, Tryz.results33, go_sem, z0, z1, z2, z3, z4]) rfl ?_; exact epost_bad HE.out hbz)
end Go.Proofs.YtephllgddhncgaaGreatDoor.Lex
