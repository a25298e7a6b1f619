/- strconv.ParseUint of two bytes at base 16. -/
import Derived.Test.YtplhmcmfdcklaaaDoorPN
import Derived.Test.YtplhmcmfdcklaaaDoorWordC
namespace Go.Proofs.YtplhmcmfdcklaaaDoor.Lex
open Go.RowKit
set_option linter.unusedSimpArgs false
set_option linter.unusedVariables false
/-- A byte's letter made small. -/
def lowB (c : UInt8) : Int := bits .or .u8 (c.toNat : Int) 32
/-- A byte as a hexadecimal digit, as ParseUint reads it. -/
def hv (c : UInt8) : Option Nat :=
  if 48 ≤ c.toNat ∧ c.toNat ≤ 57 then some (c.toNat - 48)
  else if 97 ≤ lowB c ∧ lowB c ≤ 102 then some ((lowB c).toNat - 87)
  else none
theorem hv_lt {c : UInt8} {d : Nat} (h : hv c = some d) : d < 16 := by
  unfold hv at h
  split at h
  · cases h; omega
  · split at h
    · cases h; omega
    · cases h
theorem low_any (c : UInt8) (w : World) : Calls Tryd.prog 105 #[.int .u8 (c.toNat : Int)] w fun e w' => e = .returned (.int .u8 (lowB c)) ∧ w = w' :=
  (Tryd.internal_strconv_lower _ w).mono fun e w' ⟨h1, h2⟩ => ⟨h1, h2.symm⟩
set_option maxRecDepth 100000 in
set_option maxHeartbeats 8000000 in
theorem ipu16_any (s : ByteArray) (hs : s.size = 2) (w : World) :
    Calls Tryd.prog 96 #[.string s, .int .i64 16, .int .i64 8] w fun e w' => Below w.heap.size w w' ∧
      ((∃ x y, hv (byteAt s 0) = some x ∧ hv (byteAt s 1) = some y ∧ e = .returned (.tuple #[.int .u64 (x * 16 + y : Nat), .nilIface])) ∨
       ((hv (byteAt s 0) = none ∨ hv (byteAt s 1) = none) ∧ e = .returned (.tuple #[.int .u64 0, .iface 137 (.int .i64 2)]))) := by
  obtain ⟨cap, W1, hconv, hcell, hb1, hz1⟩ := conv_bytes Tryd.underlying9 Tryd.underlying53 Tryd.underlying5 s w
  have HC : Hid (∀ k, k < 2 → W1.cell? ⟨w.heap.size, k, none⟩ = some (.int .u8 ((byteAt s k).toNat : Int))) := Lib.hid fun k hk => by
    rw [hcell k (by omega), byteAt_eq (by omega)]
  have HB := Lib.hid hb1
  have hne : s.toList.isEmpty = false := by
    rw [ByteArray.toList_eq]
    obtain ⟨⟨l⟩⟩ := s
    cases l with
    | nil => cases hs
    | cons a l => rfl
  rw [hs] at hconv
  clear hcell hb1 hz1
  go_enter Tryd.func96, Tryd.ntmps96
  go_wp2_with fail
  go_loopg [12, 13, 101] 2 (fun g v12 v13 v101 wr => ∃ k N : Nat, k ≤ 2 ∧ g = 2 - k ∧ v12 = .bool false ∧ v13 = .int .u64 (N : Int) ∧ v101 = .int .i64 (k : Int) ∧ wr = W1 ∧
    ((k = 0 ∧ N = 0) ∨ (k = 1 ∧ hv (byteAt s 0) = some N) ∨ (k = 2 ∧ ∃ x y, hv (byteAt s 0) = some x ∧ hv (byteAt s 1) = some y ∧ N = x * 16 + y)))
  case atStart => exact ⟨0, 0, by omega, rfl, rfl, rfl, rfl, rfl, .inl ⟨rfl, rfl⟩⟩
  case round =>
    obtain ⟨k, N, hk, rfl, rfl, rfl, rfl, rfl, hrel⟩ := hrel
    by_cases hlt : k < 2
    · have c1 := HC.out k hlt
      have hN : N < 16 := by
        rcases hrel with ⟨_, rfl⟩ | ⟨_, h⟩ | ⟨h, _⟩
        · omega
        · exact hv_lt h
        · omega
      have HNO : Hid (hv (byteAt s k) = none → hv (byteAt s 0) = none ∨ hv (byteAt s 1) = none) := Lib.hid fun h => by
        rcases hrel with ⟨rfl, _⟩ | ⟨rfl, _⟩ | ⟨h, _⟩
        · exact .inl h
        · exact .inr h
        · omega
      have HYES : Hid (∀ d, hv (byteAt s k) = some d → (k + 1 = 0 ∧ N * 16 + d = 0) ∨ (k + 1 = 1 ∧ hv (byteAt s 0) = some (N * 16 + d)) ∨ (k + 1 = 2 ∧ ∃ x y, hv (byteAt s 0) = some x ∧ hv (byteAt s 1) = some y ∧ N * 16 + d = x * 16 + y)) := Lib.hid fun d h => by
        rcases hrel with ⟨rfl, rfl⟩ | ⟨rfl, h0⟩ | ⟨h, _⟩
        · exact .inr (.inl ⟨rfl, by rw [h]; congr 1; omega⟩)
        · exact .inr (.inr ⟨rfl, N, d, h0, h, rfl⟩)
        · omega
      clear hrel
      have HLOW : Hid (∀ w, Calls Tryd.prog 105 #[.int .u8 ((byteAt s k).toNat : Int)] w fun e w' => e = .returned (.int .u8 (lowB (byteAt s k))) ∧ w = w') := Lib.hid (low_any _)
      have HV : Hid (hv (byteAt s k) = if 48 ≤ (byteAt s k).toNat ∧ (byteAt s k).toNat ≤ 57 then some ((byteAt s k).toNat - 48) else if 97 ≤ lowB (byteAt s k) ∧ lowB (byteAt s k) ≤ 102 then some ((lowB (byteAt s k)).toNat - 87) else none) := Lib.hid rfl
      have hcb : (byteAt s k).toNat < 256 := (byteAt s k).toNat_lt
      generalize lowB (byteAt s k) = L at *
      generalize hcn : (byteAt s k).toNat = c at *
      clear hcn
      have hcut : decide ((1152921504606846976 : Int) ≤ (N : Int)) = false := decide_eq_false (by omega)
      by_cases hA : 48 ≤ c ∧ c ≤ 57
      · have HY := Lib.hid (HYES.out (c - 48) (by rw [HV.out, if_pos hA]))
        obtain ⟨hA1, hA2⟩ := hA
        clear HNO
        go_wp2_with fail
        go_roundg (2 - (k + 1))
        case measure => omega
        case rel => exact ⟨k + 1, N * 16 + (c - 48), by omega, rfl, rfl, by go_num, by go_num, rfl, HY.out⟩
      · by_cases hB1 : 97 ≤ L ∧ L ≤ 102
        · have HY := Lib.hid (HYES.out (L.toNat - 87) (by rw [HV.out, if_neg hA, if_pos hB1]))
          obtain ⟨hB1, hB2⟩ := hB1
          clear HNO
          by_cases h95 : c = 95
          · subst h95
            have HLOW : Hid (∀ w, Calls Tryd.prog 105 #[.int .u8 95] w fun e w' => e = .returned (.int .u8 L) ∧ w = w') := Lib.hid HLOW.out
            clear hA
            go_wp2_with (go_at_call 105; (with_reducible refine (HLOW.out _).mono ?_); rintro e w2 ⟨rfl, rfl⟩)
            go_roundg (2 - (k + 1))
            case measure => omega
            case rel => exact ⟨k + 1, N * 16 + (L.toNat - 87), by omega, rfl, rfl, by go_num, by go_num, rfl, HY.out⟩
          · have h95' : ¬ (c : Int) = 95 := by omega
            go_wp2_with (go_at_call 105; (with_reducible refine (HLOW.out _).mono ?_); rintro e w2 ⟨rfl, rfl⟩)
            all_goals
              go_roundg (2 - (k + 1))
              case measure => omega
              case rel => exact ⟨k + 1, N * 16 + (L.toNat - 87), by omega, rfl, rfl, by go_num, by go_num, rfl, HY.out⟩
        · have HN := Lib.hid (HNO.out (by rw [HV.out, if_neg hA, if_neg hB1]))
          clear HYES HNO
          by_cases h95 : c = 95
          · subst h95
            have HLOW : Hid (∀ w, Calls Tryd.prog 105 #[.int .u8 95] w fun e w' => e = .returned (.int .u8 L) ∧ w = w') := Lib.hid HLOW.out
            clear hA
            go_wp2_with (go_at_call 105; (with_reducible refine (HLOW.out _).mono ?_); rintro e w2 ⟨rfl, rfl⟩)
            all_goals
              go_ret2
              exact ⟨HB.out, .inr ⟨HN.out, rfl⟩⟩
          · have h95' : ¬ (c : Int) = 95 := by omega
            go_wp2_with (go_at_call 105; (with_reducible refine (HLOW.out _).mono ?_); rintro e w2 ⟨rfl, rfl⟩)
            all_goals
              go_ret2
              exact ⟨HB.out, .inr ⟨HN.out, rfl⟩⟩
    · obtain rfl : k = 2 := by omega
      obtain ⟨x, y, hx, hy, rfl⟩ : ∃ x y, hv (byteAt s 0) = some x ∧ hv (byteAt s 1) = some y ∧ N = x * 16 + y := by
        rcases hrel with ⟨h, _⟩ | ⟨h, _⟩ | ⟨_, h⟩
        · omega
        · omega
        · exact h
      have HX := Lib.hid hx
      have HY := Lib.hid hy
      clear hx hy hrel
      go_wp2_with fail
      go_ret2
      exact ⟨HB.out, .inl ⟨x, y, HX.out, HY.out, rfl⟩⟩
end Go.Proofs.YtplhmcmfdcklaaaDoor.Lex
