/- The reference's number, walked. -/
import Derived.Test.YtplhmcmfdcklaaaDoorRNum
import Derived.Test.YtplhmcmfdcklaaaDoorParse
namespace Go.Proofs.YtplhmcmfdcklaaaDoor.Lex
open Go.RowKit
set_option linter.unusedSimpArgs false
set_option linter.unusedVariables false
/-- Two texts compared. -/
theorem text_dec (l : List UInt8) (s : ByteArray) : ((bs l).toList == s.toList) = decide (l = s.data.toList) := by
  rw [ByteArray.toList_eq, ByteArray.toList_eq, bs_list, Bool.eq_iff_iff]
  simp
theorem wrap_64 (n : Int) : IntKind.i64.wrap n = wrap64 n := by rw [IntKind.wrap_i64]; unfold wrap64; omega
theorem wsum_step {s : ByteArray} {i : Nat} (v : Int) (h : i < s.size) (h48 : 48 ≤ (s[i]'h).toNat) (h57 : (s[i]'h).toNat ≤ 57) : wsum v (s.data.toList.drop i) = wsum (IntKind.i64.wrap (IntKind.i64.wrap (IntKind.i64.wrap (10 * v) + ((s[i]'h).toNat : Int)) - 48)) (s.data.toList.drop (i + 1)) := by
  have hl : i < s.data.toList.length := by rw [Array.length_toList]; exact h
  rw [List.drop_eq_getElem_cons hl, byteAt_get hl, byteAt_eq h, wsum, if_neg (by omega)]
theorem wsum_stop {s : ByteArray} {i : Nat} (v : Int) (h : i < s.size) (hn : (s[i]'h).toNat < 48 ∨ 57 < (s[i]'h).toNat) : wsum v (s.data.toList.drop i) = none := by
  have hl : i < s.data.toList.length := by rw [Array.length_toList]; exact h
  rw [List.drop_eq_getElem_cons hl, byteAt_get hl, byteAt_eq h, wsum, if_pos hn]
/-- What the reference's number answers. -/
def RNP (w : World) (r : Option Int) (l : List UInt8) (e : Ending) (w' : World) : Prop := Below w.heap.size w w' ∧ match r with
  | none => e = .returned (.tuple #[.int .i64 0, .bool false])
  | some v => e = .returned (.tuple #[.int .i64 v, .bool (decide (Lib.itoa v = l))])
theorem rnp_none {w w' : World} {r : Option Int} {l : List UInt8} (h : r = none) (hb : Below w.heap.size w w') : RNP w r l (.returned (.tuple #[.int .i64 0, .bool false])) w' := by
  subst h; exact ⟨hb, rfl⟩
theorem rnp_some {w : World} {r : Option Int} {l : List UInt8} {v : Int} {b : Bool} (h : r = some v) (hb : b = decide (Lib.itoa v = l)) {w' : World} (hw : Below w.heap.size w w') : RNP w r l (.returned (.tuple #[.int .i64 v, .bool b])) w' := by
  subst h; subst hb; exact ⟨hw, rfl⟩
set_option maxRecDepth 100000 in
set_option maxHeartbeats 4000000 in
theorem rnumber_pos (s : ByteArray) (w : World) (h1 : 0 < s.size) (hs : s.size ≤ 1048576) (h45 : (s[0]'h1).toNat ≠ 45) : Calls Tryd.prog 64 #[.string s] w (RNP w (wsum 0 s.data.toList) s.data.toList) := by
  have t0 : (((s[0]'h1).toNat : Int) == 45) = false := beq_eq_false_iff_ne.2 (by omega)
  have hd : (0 : Int) < (s.size : Int) := by omega
  go_enter Tryd.func64, Tryd.ntmps64
  go_wp2_with fail
  go_region
  all_goals
    go_wp2_with fail
    go_loop [4, 6] (fun nv iv => ∃ (i : Nat) (v : Int), i ≤ s.size ∧ iv = .int .i64 i ∧ nv = .int .i64 v ∧ (-9223372036854775808 ≤ v ∧ v ≤ 9223372036854775807) ∧ wsum v (s.data.toList.drop i) = wsum 0 s.data.toList) (fun _ iv => s.size - (intOf iv).toNat)
    case atStart => exact ⟨0, 0, by omega, rfl, rfl, by omega, rfl⟩
    case round =>
      obtain ⟨i, v, hi, rfl, rfl, hr, hv⟩ := hrel
      have HV := Lib.hid hv
      clear hv
      by_cases hp : i < s.size
      · have h255 : (s[i]'hp).toNat < 256 := (s[i]'hp).toNat_lt
        by_cases h48 : (s[i]'hp).toNat < 48
        · have HW := Lib.hid (wsum_stop v hp (.inl h48))
          go_wp2_with fail
          go_ret2
          exact rnp_none (HV.out.symm.trans HW.out) (Below.refl _ _).drew
        · by_cases h57 : 57 < (s[i]'hp).toNat
          · have HW := Lib.hid (wsum_stop v hp (.inr h57))
            go_wp2_with fail
            go_ret2
            exact rnp_none (HV.out.symm.trans HW.out) (Below.refl _ _).drew
          · have hwst := wsum_step v hp (by omega) (by omega)
            rw [wrap_64, wrap_64, wrap_64] at hwst
            have HW := Lib.hid hwst
            clear hwst
            go_wp2_with fail
            go_round
            case rel =>
              obtain ⟨_, _, r0, r1⟩ := wrap_mod (IntKind.i64.wrap (IntKind.i64.wrap (10 * v) + ((s[i]'hp).toNat : Int)) - 48)
              rw [wrap_64, wrap_64, wrap_64] at r0 r1
              exact ⟨i + 1, _, by omega, by go_num, rfl, ⟨r0, r1⟩, by rw [← HW.out, HV.out]⟩
            case measure => simp [intOf]; omega
      · have HE : Hid (wsum 0 s.data.toList = some v) := Lib.hid (by rw [← HV.out, List.drop_eq_nil_of_le (by rw [Array.length_toList]; show s.size ≤ i; omega)]; rfl)
        have HR := Lib.hid (rint_any v w.drew hr.1 hr.2)
        go_wp2_with (go_at_call 42; (with_reducible refine HR.out.mono ?_); rintro e w1 ⟨rfl, rfl⟩)
        go_ret2
        refine rnp_some HE.out ?_ (Below.refl _ _).drew
        exact text_dec _ _
set_option maxRecDepth 100000 in
set_option maxHeartbeats 4000000 in
theorem rnumber_neg (s : ByteArray) (w : World) (h1 : 0 < s.size) (hs : s.size ≤ 1048576) (h45 : (s[0]'h1).toNat = 45) : Calls Tryd.prog 64 #[.string s] w (RNP w ((wsum 0 s.data.toList.tail).map fun v => wrap64 (-v)) s.data.toList) := by
  have t0 : (((s[0]'h1).toNat : Int) == 45) = true := by rw [h45]; rfl
  have hd : (0 : Int) < (s.size : Int) := by omega
  go_enter Tryd.func64, Tryd.ntmps64
  go_wp2_with fail
  go_region
  all_goals
    go_wp2_with fail
    go_loop [4, 6] (fun nv iv => ∃ (i : Nat) (v : Int), i ≤ s.size ∧ iv = .int .i64 i ∧ nv = .int .i64 v ∧ (-9223372036854775808 ≤ v ∧ v ≤ 9223372036854775807) ∧ (i = 0 ∧ v = 0 ∨ 0 < i ∧ wsum v (s.data.toList.drop i) = wsum 0 s.data.toList.tail)) (fun _ iv => s.size - (intOf iv).toNat)
    case atStart => exact ⟨0, 0, by omega, rfl, rfl, by omega, .inl ⟨rfl, rfl⟩⟩
    case round =>
      obtain ⟨i, v, hi, rfl, rfl, hr, hv⟩ := hrel
      rcases hv with ⟨rfl, rfl⟩ | ⟨hi0, hv⟩
      · go_wp2_with fail
        go_round
        case rel => exact ⟨1, 0, by omega, rfl, rfl, by omega, .inr ⟨by omega, by rw [List.drop_one]⟩⟩
        case measure => simp [intOf]; omega
      · have hi0' : ((i : Int) == 0) = false := beq_eq_false_iff_ne.2 (by omega)
        have HV := Lib.hid hv
        clear hv
        by_cases hp : i < s.size
        · have h255 : (s[i]'hp).toNat < 256 := (s[i]'hp).toNat_lt
          by_cases h48 : (s[i]'hp).toNat < 48
          · have HW := Lib.hid (wsum_stop v hp (.inl h48))
            go_wp2_with fail
            go_ret2
            exact rnp_none (by rw [HV.out.symm.trans HW.out]; rfl) (Below.refl _ _).drew
          · by_cases h57 : 57 < (s[i]'hp).toNat
            · have HW := Lib.hid (wsum_stop v hp (.inr h57))
              go_wp2_with fail
              go_ret2
              exact rnp_none (by rw [HV.out.symm.trans HW.out]; rfl) (Below.refl _ _).drew
            · have hwst := wsum_step v hp (by omega) (by omega)
              rw [wrap_64, wrap_64, wrap_64] at hwst
              have HW := Lib.hid hwst
              clear hwst
              go_wp2_with fail
              go_round
              case rel =>
                obtain ⟨_, _, r0, r1⟩ := wrap_mod (IntKind.i64.wrap (IntKind.i64.wrap (10 * v) + ((s[i]'hp).toNat : Int)) - 48)
                rw [wrap_64, wrap_64, wrap_64] at r0 r1
                exact ⟨i + 1, _, by omega, by go_num, rfl, ⟨r0, r1⟩, .inr ⟨by omega, by rw [← HW.out, HV.out]⟩⟩
              case measure => simp [intOf]; omega
        · have HE : Hid ((wsum 0 s.data.toList.tail).map (fun v => wrap64 (-v)) = some (wrap64 (-v))) := Lib.hid (by rw [← HV.out, List.drop_eq_nil_of_le (by rw [Array.length_toList]; show s.size ≤ i; omega)]; rfl)
          have HR := Lib.hid (rint_any (wrap64 (-v)) w.drew (by obtain ⟨_, _, r0, r1⟩ := wrap_mod (-v); rw [wrap_64] at r0; exact r0) (by obtain ⟨_, _, r0, r1⟩ := wrap_mod (-v); rw [wrap_64] at r1; exact r1))
          go_wp2_with (go_at_call 42; (with_reducible refine HR.out.mono ?_); rintro e w1 ⟨rfl, rfl⟩)
          go_ret2
          refine rnp_some HE.out ?_ (Below.refl _ _).drew
          exact text_dec _ _
end Go.Proofs.YtplhmcmfdcklaaaDoor.Lex
