/- The reference's numbers. -/
import Derived.Test.YthjcmcgmalnfpaaGreatDoorNum
import Derived.Test.YthjcmcgmalnfpaaGreatDoorGCal
namespace Go.Proofs.YthjcmcgmalnfpaaGreatDoor.Lex
open Go.RowKit
set_option linter.unusedSimpArgs false
set_option linter.unusedVariables false
theorem decDigits_len64 {n : Nat} (h : n ≤ 18446744073709551615) : (Lib.decDigits n).length ≤ 20 := by
  rw [Lib.decDigits_length]
  exact nDigits_le 19 n (by omega)
set_option maxRecDepth 100000 in
/-- Word: the digits of a number of 64 bits. -/
theorem rword_any (n : Nat) (w : World) (h : n ≤ 18446744073709551615) : Calls Tryz.prog 20 #[.int .u64 n] w fun e w' => e = .returned (.string (bs (Lib.decDigits n))) ∧ w = w' := by
  have hl := decDigits_len64 h
  go_enter Tryz.func20, Tryz.ntmps20
  go_wp2_with fail
  go_loop [0, 3] (fun nv tv => ∃ (m : Nat) (t : List UInt8), m ≤ n ∧ nv = .int .u64 m ∧ tv = .string (bs t) ∧ Lib.decDigits m ++ t = Lib.decDigits n) (fun nv _ => (intOf nv).toNat)
  case atStart => exact ⟨n, [], Nat.le_refl _, rfl, rfl, by simp⟩
  case round =>
    obtain ⟨m, t, hm, rfl, rfl, ht⟩ := hrel
    have htl : (bs t).size ≤ 20 := by
      have h1 := congrArg List.length ht
      rw [List.length_append] at h1
      simp only [bs, ByteArray.size, List.size_toArray]
      omega
    by_cases h9 : m < 10
    · have HX : Hid (bs (Lib.decDigits m) ++ bs t = bs (Lib.decDigits n)) := Lib.hid (by rw [bs_bs, ht])
      have hs1 : (bs (Lib.decDigits m)).size = 1 := by rw [size_bs, decDigits_small h9]; rfl
      clear ht hl
      go_wp2_with (go_at_call 33; (with_reducible refine (rdig m _ (by omega)).mono ?_); rintro e w1 ⟨rfl, rfl⟩)
      go_ret
      exact ⟨congrArg (fun x => Ending.returned (Value.string x)) HX.out, rfl⟩
    · have HD : Lib.decDigits (m % 10) = [UInt8.ofNat (48 + m % 10)] := decDigits_small (by omega)
      have HX : Hid (bs (Lib.decDigits (m % 10)) ++ bs t = bs ([UInt8.ofNat (48 + m % 10)] ++ t)) := Lib.hid (by rw [HD, bs_bs])
      have HT2 : Hid (Lib.decDigits (m / 10) ++ ([UInt8.ofNat (48 + m % 10)] ++ t) = Lib.decDigits n) := Lib.hid (by rw [← ht, decDigits_big h9, List.append_assoc])
      have hs1 : (bs (Lib.decDigits (m % 10))).size = 1 := by rw [size_bs, HD]; rfl
      have HRD : Hid (Calls Tryz.prog 33 #[.int .i64 ((m : Int) % 10)] w fun e w' => e = .returned (.string (bs (Lib.decDigits (m % 10)))) ∧ w = w') := Lib.hid (by
        have e10 : ((m % 10 : Nat) : Int) = (m : Int) % 10 := by omega
        rw [← e10]
        exact rdig (m % 10) w (by omega))
      clear ht hl HD
      go_wp2_with (go_at_call 33; (with_reducible refine HRD.out.mono ?_); rintro e w1 ⟨rfl, rfl⟩)
      go_round
      case rel => exact ⟨m / 10, _, by omega, by go_num, congrArg Value.string HX.out, HT2.out⟩
      case measure => simp [intOf]; omega
set_option maxRecDepth 100000 in
/-- Int: a number of 64 bits with its sign. -/
theorem rint_any (n : Int) (w : World) (h0 : -9223372036854775808 ≤ n) (h1 : n ≤ 9223372036854775807) : Calls Tryz.prog 8 #[.int .i64 n] w fun e w' => e = .returned (.string (bs (Lib.itoa n))) ∧ w = w' := by
  by_cases hn : n < 0
  · obtain ⟨m, hm⟩ : ∃ m : Nat, n = -(m : Int) := ⟨n.natAbs, by omega⟩
    have hw1 : IntKind.i64.wrap (n + 1) = n + 1 := by rw [IntKind.wrap_i64]; omega
    have hw2 : IntKind.i64.wrap (-(n + 1)) = -(n + 1) := by rw [IntKind.wrap_i64]; omega
    have hw3 : IntKind.u64.wrap (-(n + 1)) = -(n + 1) := by rw [IntKind.wrap_u64]; omega
    have hw4 : IntKind.u64.wrap (-(n + 1) + 1) = (m : Int) := by rw [IntKind.wrap_u64]; omega
    have HI : Hid (bs [45] ++ bs (Lib.decDigits m) = bs (Lib.itoa n)) := Lib.hid (by
      rw [bs_bs, Lib.itoa, if_pos hn]
      rw [show n.natAbs = m by omega]
      rfl)
    have hl := decDigits_len64 (n := m) (by omega)
    have hsz : (bs (Lib.decDigits m)).size ≤ 20 := by rw [size_bs]; exact hl
    have HW := Lib.hid (rword_any m w (by omega))
    clear hm hl
    go_enter Tryz.func8, Tryz.ntmps8
    go_wp2_with (go_at_call 20; (with_reducible refine HW.out.mono ?_); rintro e w1 ⟨rfl, rfl⟩)
    go_ret
    exact ⟨congrArg (fun x => Ending.returned (Value.string x)) HI.out, rfl⟩
  · obtain ⟨m, rfl⟩ : ∃ m : Nat, n = (m : Int) := ⟨n.toNat, by omega⟩
    have hw3 : IntKind.u64.wrap (m : Int) = m := by rw [IntKind.wrap_u64]; omega
    have HI := Lib.hid (itoa_nat m)
    have HW := Lib.hid (rword_any m w (by omega))
    go_enter Tryz.func8, Tryz.ntmps8
    go_wp2_with (go_at_call 20; (with_reducible refine HW.out.mono ?_); rintro e w1 ⟨rfl, rfl⟩)
    go_ret
    exact ⟨by rw [HI.out]; rfl, rfl⟩
end Go.Proofs.YthjcmcgmalnfpaaGreatDoor.Lex
