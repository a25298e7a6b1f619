/- bound's Spent and Longest, and their references. -/
import Derived.Test.YtjlpafpedoancaaMem2
import Derived.Test.YtjlpafpedoancaaCnt
import Derived.Test.YtjlpafpedoancaaBnd
namespace Go.Proofs.Ytjlpafpedoancaa.Counts
open Go.RowKit Cnt
section
variable (a : Option Addr) (n cap : Nat) (zs : List Int) (who : Int) (w : World)
theorem spent (h : Row w a n cap (zs.map (Value.int .i64))) :
    Calls Try.prog 62 #[.slice a n cap, .int .i64 who] w fun e w' => e = .returned (.int .i64 (cnt who zs)) ∧ w = w' := by
  have hlen := h.len
  simp only [List.length_map] at hlen
  have hmx := h.max
  have hle := h.le
  unfold maxLen at hmx
  have HL := Lib.hid hlen; clear hlen
  go_enter Try.func62, Try.ntmps62
  go_wp2
  go_loop [5, 7, 10] (fun s _ i => ∃ k c : Nat, k ≤ n ∧ c ≤ k ∧ i = .int .i64 k ∧ s = .int .i64 c ∧ c + cnt who (zs.drop k) = cnt who zs) (fun _ _ i => n - (intOf i).toNat)
  case atStart => exact ⟨0, 0, by omega, by omega, rfl, rfl, by simp⟩
  case round =>
    obtain ⟨k, c, hk, hc, rfl, rfl, hsum⟩ := hrel
    have HS := Lib.hid hsum; clear hsum
    by_cases hn : k < n
    · obtain ⟨b, off, rfl, hcell⟩ := h.int k hn
      have HD := Lib.hid (drop_cons zs k (by have := HL.out; omega))
      clear h
      generalize zs.getD k 0 = x at *
      by_cases hx : x = who
      · have hx' := hx
        have HX := Lib.hid hx
        clear hx hx'
        have t1 : (x == who) = true := beq_iff_eq.2 HX.out
        go_wp2
        go_round
        case rel => exact ⟨k + 1, c + 1, by omega, by omega, by go_num, by go_num, by have := HS.out; rw [HD.out] at this; simp only [cnt, if_pos HX.out] at this; omega⟩
        case measure => simp [intOf]; omega
      · have HX := Lib.hid hx
        clear hx
        have t1 : (x == who) = false := beq_eq_false_iff_ne.2 HX.out
        go_wp2
        go_round
        case rel => exact ⟨k + 1, c, by omega, by omega, by go_num, by go_num, by have := HS.out; rw [HD.out] at this; simp only [cnt, if_neg HX.out] at this; omega⟩
        case measure => simp [intOf]; omega
    · have e : c = cnt who zs := by have := HS.out; rw [List.drop_of_length_le (by have := HL.out; omega)] at this; simp only [cnt] at this; omega
      have HE := Lib.hid e; clear e
      clear h
      go_wp2
      go_ret
      exact ⟨ret_int (by rw [← HE.out]), rfl⟩
set_option maxHeartbeats 1000000 in
theorem rlongest (h : Row w a n cap (zs.map (Value.int .i64))) :
    Calls Try.prog 28 #[.slice a n cap, .int .i64 who] w fun e w' => e = .returned (.int .i64 (most who zs)) ∧ w = w' := by
  have hlen := h.len
  simp only [List.length_map] at hlen
  have hmx := h.max
  have hle := h.le
  unfold maxLen at hmx
  have HL := Lib.hid hlen; clear hlen
  go_enter Try.func28, Try.ntmps28
  go_wp2
  go_loop [5, 6, 7] (fun s i _ => ∃ i' b : Nat, i' ≤ n ∧ b ≤ n ∧ i = .int .i64 i' ∧ s = .int .i64 b ∧ rf who (zs.drop i') b = most who zs) (fun _ i _ => n - (intOf i).toNat)
  case atStart => exact ⟨0, 0, by omega, by omega, rfl, rfl, by simp [rf_eq]⟩
  case round =>
    obtain ⟨i, b, hi, hbn, rfl, rfl, hrf⟩ := hrel
    have HF := Lib.hid hrf; clear hrf
    by_cases hin : i < n
    · have HI := Lib.hid (drop_cons zs i (by have := HL.out; omega))
      go_wp2
      go_loop [7] (fun kv => ∃ k : Nat, i ≤ k ∧ k ≤ n ∧ kv = .int .i64 k ∧ run who (zs.drop i) = (k - i) + run who (zs.drop k)) (fun kv => n - (intOf kv).toNat)
      case atStart => exact ⟨i, by omega, by omega, rfl, by omega⟩
      case round =>
        obtain ⟨k, hik, hkn, rfl, hrun⟩ := hrel
        have HR := Lib.hid hrun; clear hrun
        by_cases hk : k < n
        · obtain ⟨b0, off, rfl, hcell⟩ := h.int k hk
          have HD := Lib.hid (drop_cons zs k (by have := HL.out; omega))
          generalize hxk : zs.getD k 0 = x at *
          clear hxk
          by_cases hx : x = who
          · have HX := Lib.hid hx
            clear hx
            have t1 : (x != who) = false := by simp [HX.out]
            have e : run who (zs.drop i) = k - i := by have := HR.out; rw [HD.out] at this; simp only [run, if_pos HX.out] at this; omega
            have HE := Lib.hid e; clear e
            clear h
            by_cases hb : b < k - i
            · have hb' : (b : Int) < (k : Int) - (i : Int) := by omega
              go_wp2
              go_round
              case rel => exact ⟨i + 1, k - i, by omega, by omega, by go_num, by go_num, by have := HF.out; rw [HI.out] at this; simp only [rf] at this; rw [← HI.out, HE.out, Nat.max_eq_right (by omega)] at this; exact this⟩
              case measure => simp [intOf]; omega
            · have hb' : (k : Int) - (i : Int) ≤ (b : Int) := by omega
              go_wp2
              go_round
              case rel => exact ⟨i + 1, b, by omega, by omega, by go_num, by go_num, by have := HF.out; rw [HI.out] at this; simp only [rf] at this; rw [← HI.out, HE.out, Nat.max_eq_left (by omega)] at this; exact this⟩
              case measure => simp [intOf]; omega
          · have HX := Lib.hid hx
            clear hx
            have t1 : (x != who) = true := by simp [HX.out]
            clear h
            go_wp2
            go_round
            case rel => exact ⟨k + 1, by omega, by omega, by go_num, by have := HR.out; rw [HD.out] at this; simp only [run, if_neg HX.out] at this; omega⟩
            case measure => simp [intOf]; omega
        · have e : run who (zs.drop i) = k - i := by have := HR.out; rw [List.drop_of_length_le (i := k) (by have := HL.out; omega)] at this; simp only [run] at this; omega
          have HE := Lib.hid e; clear e
          clear h
          by_cases hb : b < k - i
          · have hb' : (b : Int) < (k : Int) - (i : Int) := by omega
            go_wp2
            go_round
            case rel => exact ⟨i + 1, k - i, by omega, by omega, by go_num, by go_num, by have := HF.out; rw [HI.out] at this; simp only [rf] at this; rw [← HI.out, HE.out, Nat.max_eq_right (by omega)] at this; exact this⟩
            case measure => simp [intOf]; omega
          · have hb' : (k : Int) - (i : Int) ≤ (b : Int) := by omega
            go_wp2
            go_round
            case rel => exact ⟨i + 1, b, by omega, by omega, by go_num, by go_num, by have := HF.out; rw [HI.out] at this; simp only [rf] at this; rw [← HI.out, HE.out, Nat.max_eq_left (by omega)] at this; exact this⟩
            case measure => simp [intOf]; omega
    · have e : b = most who zs := by have := HF.out; rw [List.drop_of_length_le (by have := HL.out; omega)] at this; simpa only [rf] using this
      have HE := Lib.hid e; clear e
      clear h
      go_wp2
      go_ret
      exact ⟨ret_int (by rw [← HE.out]), rfl⟩
theorem rspent (h : Row w a n cap (zs.map (Value.int .i64))) :
    Calls Try.prog 27 #[.slice a n cap, .int .i64 who] w fun e w' => e = .returned (.int .i64 (cnt who zs)) ∧ w = w' := by
  have hlen := h.len
  simp only [List.length_map] at hlen
  have hmx := h.max
  have hle := h.le
  unfold maxLen at hmx
  have HL := Lib.hid hlen; clear hlen
  go_enter Try.func27, Try.ntmps27
  go_wp2
  go_loop [5, 6] (fun s i => ∃ k c : Nat, k ≤ n ∧ c ≤ k ∧ i = .int .i64 k ∧ s = .int .i64 c ∧ c + cnt who (zs.drop k) = cnt who zs) (fun _ i => n - (intOf i).toNat)
  case atStart => exact ⟨0, 0, by omega, by omega, rfl, rfl, by simp⟩
  case round =>
    obtain ⟨k, c, hk, hc, rfl, rfl, hsum⟩ := hrel
    have HS := Lib.hid hsum; clear hsum
    by_cases hn : k < n
    · obtain ⟨b, off, rfl, hcell⟩ := h.int k hn
      have HD := Lib.hid (drop_cons zs k (by have := HL.out; omega))
      clear h
      generalize zs.getD k 0 = x at *
      by_cases hx : x = who
      · have HX := Lib.hid hx
        clear hx
        have t1 : (x == who) = true := beq_iff_eq.2 HX.out
        go_wp2
        go_round
        case rel => exact ⟨k + 1, c + 1, by omega, by omega, by go_num, by go_num, by have := HS.out; rw [HD.out] at this; simp only [cnt, if_pos HX.out] at this; omega⟩
        case measure => simp [intOf]; omega
      · have HX := Lib.hid hx
        clear hx
        have t1 : (x == who) = false := beq_eq_false_iff_ne.2 HX.out
        go_wp2
        go_round
        case rel => exact ⟨k + 1, c, by omega, by omega, by go_num, by go_num, by have := HS.out; rw [HD.out] at this; simp only [cnt, if_neg HX.out] at this; omega⟩
        case measure => simp [intOf]; omega
    · have e : c = cnt who zs := by have := HS.out; rw [List.drop_of_length_le (by have := HL.out; omega)] at this; simp only [cnt] at this; omega
      have HE := Lib.hid e; clear e
      clear h
      go_wp2
      go_ret
      exact ⟨ret_int (by rw [← HE.out]), rfl⟩
theorem longest (h : Row w a n cap (zs.map (Value.int .i64))) :
    Calls Try.prog 63 #[.slice a n cap, .int .i64 who] w fun e w' => e = .returned (.int .i64 (most who zs)) ∧ w = w' := by
  have hlen := h.len
  simp only [List.length_map] at hlen
  have hmx := h.max
  have hle := h.le
  unfold maxLen at hmx
  have HL := Lib.hid hlen; clear hlen
  go_enter Try.func63, Try.ntmps63
  go_wp2
  go_loop [5, 6, 8, 11] (fun s m _ i => ∃ k b r : Nat, k ≤ n ∧ b ≤ k ∧ r ≤ b ∧ i = .int .i64 k ∧ s = .int .i64 b ∧ m = .int .i64 r ∧ lp who (zs.drop k) r b = most who zs) (fun _ _ _ i => n - (intOf i).toNat)
  case atStart => exact ⟨0, 0, 0, by omega, by omega, by omega, rfl, rfl, rfl, by simp [lp_zero]⟩
  case round =>
    obtain ⟨k, b, r, hk, hb, hr, rfl, rfl, rfl, hsum⟩ := hrel
    have HS := Lib.hid hsum; clear hsum
    by_cases hn : k < n
    · obtain ⟨b0, off, rfl, hcell⟩ := h.int k hn
      have HD := Lib.hid (drop_cons zs k (by have := HL.out; omega))
      clear h
      generalize zs.getD k 0 = x at *
      by_cases hx : x = who
      · have HX := Lib.hid hx
        clear hx
        have t1 : (x == who) = true := beq_iff_eq.2 HX.out
        go_wp2
        go_round
        case rel => exact ⟨k + 1, b, 0, by omega, by omega, by omega, by go_num, by go_num, by go_num, by have := HS.out; rw [HD.out] at this; simp only [lp, if_pos HX.out] at this; exact this⟩
        case measure => simp [intOf]; omega
      · have HX := Lib.hid hx
        clear hx
        have t1 : (x == who) = false := beq_eq_false_iff_ne.2 HX.out
        by_cases hbr : b < r + 1
        · go_wp2
          go_round
          case rel => exact ⟨k + 1, r + 1, r + 1, by omega, by omega, by omega, by go_num, by go_num, by go_num, by have := HS.out; rw [HD.out] at this; simp only [lp, if_neg HX.out, Nat.max_eq_right (show b ≤ r + 1 by omega)] at this; exact this⟩
          case measure => simp [intOf]; omega
        · go_wp2
          go_round
          case rel => exact ⟨k + 1, b, r + 1, by omega, by omega, by omega, by go_num, by go_num, by go_num, by have := HS.out; rw [HD.out] at this; simp only [lp, if_neg HX.out, Nat.max_eq_left (show r + 1 ≤ b by omega)] at this; exact this⟩
          case measure => simp [intOf]; omega
    · have e : b = most who zs := by have := HS.out; rw [List.drop_of_length_le (by have := HL.out; omega)] at this; simpa only [lp] using this
      have HE := Lib.hid e; clear e
      clear h
      go_wp2
      go_ret
      exact ⟨ret_int (by rw [← HE.out]), rfl⟩
end
end Go.Proofs.Ytjlpafpedoancaa.Counts
