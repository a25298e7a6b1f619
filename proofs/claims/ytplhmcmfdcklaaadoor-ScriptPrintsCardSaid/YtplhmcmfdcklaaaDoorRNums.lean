/- The reference's rows of numbers. -/
import Derived.Test.YtplhmcmfdcklaaaDoorRNumW
namespace Go.Proofs.YtplhmcmfdcklaaaDoor.Lex
open Go.RowKit
set_option linter.unusedSimpArgs false
set_option linter.unusedVariables false
/-- Words none of which is empty. -/
def Full (ws : List (List UInt8)) : Prop := ws.length ≤ 1048576 ∧ ∀ w ∈ ws, w ≠ [] ∧ w.length ≤ 1048576
/-- What the reference's number makes of a word. -/
def RNumPost (x : List UInt8) (w : World) (e : Ending) (w' : World) : Prop := Below w.heap.size w w' ∧ ∃ v ok, e = .returned (.tuple #[.int .i64 v, .bool ok]) ∧ (∀ n, numW x = some n → v = n ∧ ok = true) ∧ (numW x = none → ok = false)
theorem rnumber_any (x : List UInt8) (w : World) (h0 : x ≠ []) (hs : x.length ≤ 1048576) : Calls Tryd.prog 64 #[.string (bs x)] w (RNumPost x w) := by
  have hsz : (bs x).size = x.length := size_bs x
  have h1 : 0 < (bs x).size := by
    rw [hsz]
    exact List.length_pos_iff.2 h0
  have hb : (bs x).data.toList = x := bs_list x
  have hd : x.head? = some ((bs x)[0]'h1) := by
    have h := byteAt_eq h1
    rw [← h]
    unfold byteAt
    rw [hb]
    cases x with
    | nil => exact absurd rfl h0
    | cons c l => rfl
  by_cases h45 : ((bs x)[0]'h1).toNat = 45
  · have hc : x.head? = some 45 := by rw [hd]; exact congrArg some (UInt8.toNat_inj.1 h45)
    refine (rnumber_neg (bs x) w h1 (by omega) h45).mono ?_
    rintro e w' ⟨hbw, he⟩
    rw [hb] at he
    have hr := rnumL_eq x
    unfold rnumL at hr
    simp only [if_pos hc] at hr
    refine ⟨hbw, ?_⟩
    cases hv : wsum 0 x.tail with
    | none =>
      rw [hv] at he hr
      exact ⟨0, false, he, fun n hn => by (rw [← hr] at hn; cases hn), fun _ => rfl⟩
    | some v =>
      rw [hv] at he hr
      simp only [Option.map_some] at he
      have e1 : IntKind.i64.wrap (0 - v) = wrap64 (-v) := by rw [wrap_64]; congr 1; omega
      simp only [e1] at hr
      refine ⟨_, _, he, fun n hn => ?_, fun hn => ?_⟩
      · rw [← hr] at hn
        by_cases hi : Lib.itoa (wrap64 (-v)) = x
        · rw [if_pos hi] at hn; cases hn; exact ⟨rfl, by simp [hi]⟩
        · rw [if_neg hi] at hn; cases hn
      · rw [← hr] at hn
        by_cases hi : Lib.itoa (wrap64 (-v)) = x
        · rw [if_pos hi] at hn; cases hn
        · simp [hi]
  · have hc : ¬ x.head? = some 45 := by
      rw [hd]
      intro e
      exact h45 (by rw [Option.some.inj e]; rfl)
    refine (rnumber_pos (bs x) w h1 (by omega) h45).mono ?_
    rintro e w' ⟨hbw, he⟩
    rw [hb] at he
    have hr := rnumL_eq x
    unfold rnumL at hr
    simp only [if_neg hc] at hr
    refine ⟨hbw, ?_⟩
    cases hv : wsum 0 x with
    | none =>
      rw [hv] at he hr
      exact ⟨0, false, he, fun n hn => by (rw [← hr] at hn; cases hn), fun _ => rfl⟩
    | some v =>
      rw [hv] at he hr
      refine ⟨_, _, he, fun n hn => ?_, fun hn => ?_⟩
      · rw [← hr] at hn
        by_cases hi : Lib.itoa v = x
        · simp only [if_pos hi] at hn; cases hn; exact ⟨rfl, by simp [hi]⟩
        · simp only [if_neg hi] at hn; cases hn
      · rw [← hr] at hn
        by_cases hi : Lib.itoa v = x
        · simp only [if_pos hi] at hn; cases hn
        · simp [hi]
theorem rnumber_yes (x : List UInt8) (w : World) (h0 : x ≠ []) (hs : x.length ≤ 1048576) (n : Int) (h : numW x = some n) : Calls Tryd.prog 64 #[.string (bs x)] w fun e w' => e = .returned (.tuple #[.int .i64 n, .bool true]) ∧ Below w.heap.size w w' :=
  (rnumber_any x w h0 hs).mono fun e w' ⟨hb, v, ok, he, h1, _⟩ => by
    obtain ⟨rfl, rfl⟩ := h1 n h
    exact ⟨he, hb⟩
theorem rnumber_no (x : List UInt8) (w : World) (h0 : x ≠ []) (hs : x.length ≤ 1048576) (h : numW x = none) : Calls Tryd.prog 64 #[.string (bs x)] w fun e w' => ∃ v, e = .returned (.tuple #[.int .i64 v, .bool false]) ∧ Below w.heap.size w w' :=
  (rnumber_any x w h0 hs).mono fun e w' ⟨hb, v, ok, he, _, h2⟩ => by
    obtain rfl := h2 h
    exact ⟨v, he, hb⟩
set_option maxRecDepth 100000 in
set_option maxHeartbeats 2000000 in
theorem rnumbers_any (ws : List (List UInt8)) (a : Option Addr) (cap : Nat) (w : World) (hs : Txt w a ws) (hsh : Full ws) :
    Calls Tryd.prog 50 #[.slice a ws.length cap] w (RowPost 3 (Value.int .i64) (numsW ws) w) := by
  have HS := Lib.hid hs
  have HSH := Lib.hid hsh
  have hn := hsh.1
  clear hs hsh
  go_enter Tryd.func50, Tryd.ntmps50
  go_wp2_with fail
  go_loopg [4, 5] ws.length (fun g v iv wr => ∃ (k : Nat) (l : List Int), k ≤ ws.length ∧ g = ws.length - k ∧ iv = .int .i64 k ∧ numsW (ws.take k) = some l ∧ wr.ownsRow w.heap.size 3 1 v k (l.map (Value.int .i64)) ∧ Below w.heap.size w wr)
  case atStart => exact ⟨0, [], by omega, rfl, rfl, rfl, World.ownsRow_nil _ _ _ _, Below.refl _ _⟩
  case round =>
    obtain ⟨k, l, hk, rfl, rfl, hl, hown, hbw⟩ := hrel
    obtain ⟨wo, rfl⟩ : ∃ wo : World, wo = wr := ⟨_, rfl⟩
    have HL := Lib.hid hl
    have HO := Lib.hid hown
    have HB := Lib.hid hbw
    have hsz := hbw.size
    by_cases hlt : k < ws.length
    · obtain ⟨g, off, rfl, _, c1⟩ := HS.out.keep hbw k hlt
      have HW := Lib.hid (HSH.out.2 _ (List.getElem_mem hlt))
      have HAT := Lib.hid (fun n (h : numW (ws[k]'hlt) = some n) => allW_take hlt HL.out h)
      have HNO := Lib.hid (allW_none (f := numW) ws k hlt)
      generalize ws[k]'hlt = x at *
      clear hown hbw hl
      cases hx : numW x with
      | some n =>
        have HX := Lib.hid hx
        have HNX := Lib.hid (HAT.out n hx)
        clear hx
        go_wp2_with (first
          | (go_at_call 64; (with_reducible refine (rnumber_yes x _ HW.out.1 HW.out.2 n HX.out).mono ?_); rintro e w2 ⟨rfl, hb2⟩; have HB2 := Lib.hid (HB.out.trans (hb2.mono HB.out.size)); have HO2 := Lib.hid (own_below HO.out hb2); have hsz2 := HB2.out.size; clear hb2)
          | (at_builtin; refine wpl_app1 rfl _ _ 34 rfl intElemL _ _ _ rfl _ rfl rfl HO2.out HB2.out (Nat.le_refl _) hsz2 (by omega) (by unfold maxLen; omega) ?_; intro v' w4 hown4 hbw4 hg4; have HO4 := Lib.hid hown4; have HB4 := Lib.hid hbw4; clear hg4 hown4 hbw4))
        go_roundg (ws.length - (k + 1))
        case measure => omega
        case rel => exact ⟨k + 1, _, by omega, rfl, by go_num, HNX.out, by simpa using HO4.out, HB4.out⟩
      | none =>
        have HX := Lib.hid hx
        have HNN := Lib.hid (HNO.out hx)
        clear hx
        go_wp2_with (go_at_call 64; (with_reducible refine (rnumber_no x _ HW.out.1 HW.out.2 HX.out).mono ?_); rintro e w2 ⟨v, rfl, hb2⟩; have HB2 := Lib.hid (HB.out.trans (hb2.mono HB.out.size)); clear hb2)
        go_ret2
        exact rowPost_none HNN.out HB2.out
    · obtain rfl : k = ws.length := by omega
      rw [List.take_length] at HL
      clear hown hbw hl
      go_wp2_with fail
      go_ret2
      exact rowPost_some HL.out HB.out HO.out
/-! ### Numbers of 64 bits -/
/-- The sum as the reference reckons it, in 64 bits that wrap. -/
def usum (n : Int) : List UInt8 → Int
  | [] => n
  | c :: l => usum (IntKind.u64.wrap (IntKind.u64.wrap (IntKind.u64.wrap (10 * n) + (c.toNat : Int)) - 48)) l
theorem uwrap_in (n : Int) : 0 ≤ IntKind.u64.wrap n ∧ IntKind.u64.wrap n ≤ 18446744073709551615 := by
  rw [IntKind.wrap_u64]
  omega
theorem usum_in : ∀ {l : List UInt8} {n : Int}, 0 ≤ n → n ≤ 18446744073709551615 → 0 ≤ usum n l ∧ usum n l ≤ 18446744073709551615
  | [], n, h0, h1 => ⟨h0, h1⟩
  | c :: l, n, h0, h1 => by
    rw [usum]
    obtain ⟨r0, r1⟩ := uwrap_in (IntKind.u64.wrap (IntKind.u64.wrap (10 * n) + (c.toNat : Int)) - 48)
    exact usum_in r0 r1
theorem usum_of : ∀ (l : List UInt8) (a m : Nat), Lib.decFrom a l = some m → usum (IntKind.u64.wrap a) l = IntKind.u64.wrap m
  | [], a, m, h => by cases h; rfl
  | c :: l, a, m, h => by
    rw [Lib.decFrom, Lib.digitVal] at h
    by_cases hc : 48 ≤ c.toNat ∧ c.toNat ≤ 57
    · rw [if_pos hc] at h
      rw [usum, ← usum_of l _ m h]
      congr 1
      rw [IntKind.wrap_u64, IntKind.wrap_u64, IntKind.wrap_u64, IntKind.wrap_u64, IntKind.wrap_u64]
      omega
    · rw [if_neg hc] at h
      cases h
theorem usum_dec {n : Nat} (h : n < 18446744073709551616) : usum 0 (Lib.decDigits n) = n := by
  have h1 := usum_of (Lib.decDigits n) 0 n (decFrom_digits n)
  rw [show IntKind.u64.wrap ((0 : Nat) : Int) = 0 from rfl] at h1
  rw [h1, IntKind.wrap_u64]
  omega
theorem uW_usum (x : List UInt8) : ∃ u : Nat, usum 0 x = u ∧ u ≤ 18446744073709551615 ∧ uW x = if Lib.decDigits u = x then some u else none := by
  obtain ⟨h0, h1⟩ := usum_in (l := x) (n := 0) (by omega) (by omega)
  refine ⟨(usum 0 x).toNat, by omega, by omega, ?_⟩
  by_cases hi : Lib.decDigits (usum 0 x).toNat = x
  · rw [if_pos hi]
    exact uW_iff.2 ⟨by omega, hi⟩
  · rw [if_neg hi]
    cases e : uW x with
    | none => rfl
    | some n =>
      obtain ⟨h2, h3⟩ := uW_iff.1 e
      have h4 := usum_dec h2
      rw [h3] at h4
      exact absurd (by rw [h4]; exact h3) hi
theorem usum_step {x : List UInt8} {k : Nat} (v : Int) (h : k < (bs x).size) : usum v (x.drop k) = usum (IntKind.u64.wrap (IntKind.u64.wrap (IntKind.u64.wrap (10 * v) + (((bs x)[k]'h).toNat : Int)) - 48)) (x.drop (k + 1)) := by
  have hl : k < x.length := by rw [size_bs] at h; exact h
  have e : (bs x)[k]'h = x[k] := by
    have := byteAt_eq h
    rw [← this]
    unfold byteAt
    rw [bs_list]
    simp [List.getD, hl]
  rw [List.drop_eq_getElem_cons hl, usum, e]
set_option maxRecDepth 100000 in
set_option maxHeartbeats 4000000 in
theorem rwords_any (ws : List (List UInt8)) (a : Option Addr) (cap : Nat) (w : World) (hs : Txt w a ws) (hsh : Full ws) :
    Calls Tryd.prog 66 #[.slice a ws.length cap] w (RowPost 57 (fun n : Nat => Value.int .u64 n) (usW ws) w) := by
  have HS := Lib.hid hs
  have HSH := Lib.hid hsh
  have hn := hsh.1
  clear hs hsh
  go_enter Tryd.func66, Tryd.ntmps66
  go_wp2_with fail
  go_loopg [4, 5] ws.length (fun g v iv wr => ∃ (k : Nat) (l : List Nat), k ≤ ws.length ∧ g = ws.length - k ∧ iv = .int .i64 k ∧ usW (ws.take k) = some l ∧ wr.ownsRow w.heap.size 57 1 v k (l.map (fun n : Nat => Value.int .u64 n)) ∧ Below w.heap.size w wr)
  case atStart => exact ⟨0, [], by omega, rfl, rfl, rfl, World.ownsRow_nil _ _ _ _, Below.refl _ _⟩
  case round =>
    obtain ⟨k, l, hk, rfl, rfl, hl, hown, hbw⟩ := hrel
    obtain ⟨wo, rfl⟩ : ∃ wo : World, wo = wr := ⟨_, rfl⟩
    have HL := Lib.hid hl
    have HO := Lib.hid hown
    have HB := Lib.hid hbw
    have hsz := hbw.size
    by_cases hlt : k < ws.length
    · obtain ⟨g, off, rfl, _, c1⟩ := HS.out.keep hbw k hlt
      have HW := Lib.hid (HSH.out.2 _ (List.getElem_mem hlt))
      have HAT := Lib.hid (fun n (h : uW (ws[k]'hlt) = some n) => allW_take hlt HL.out h)
      have HNO := Lib.hid (allW_none (f := uW) ws k hlt)
      generalize ws[k]'hlt = x at *
      clear hown hbw hl
      have hxs : (bs x).size = x.length := size_bs x
      have hxl : x.length ≤ 1048576 := HW.out.2
      go_wp2_with fail
      go_loop [6, 7] (fun uv jv => ∃ (j : Nat) (v : Int), j ≤ x.length ∧ jv = .int .i64 j ∧ uv = .int .u64 v ∧ (0 ≤ v ∧ v ≤ 18446744073709551615) ∧ usum v (x.drop j) = usum 0 x) (fun _ jv => x.length - (intOf jv).toNat)
      case atStart => exact ⟨0, 0, by omega, rfl, rfl, by omega, rfl⟩
      case round =>
        obtain ⟨j, v, hj, rfl, rfl, hr, hv⟩ := hrel
        by_cases hjl : j < x.length
        · have hp : j < (bs x).size := by omega
          have HST := Lib.hid (usum_step v hp)
          have HV := Lib.hid hv
          have h255 : ((bs x)[j]'hp).toNat < 256 := ((bs x)[j]'hp).toNat_lt
          clear hv
          go_wp2_with fail
          go_round
          case rel =>
            obtain ⟨r0, r1⟩ := uwrap_in (IntKind.u64.wrap (IntKind.u64.wrap (10 * v) + (((bs x)[j]'hp).toNat : Int)) - 48)
            exact ⟨j + 1, _, by omega, by go_num, rfl, ⟨r0, r1⟩, by rw [← HST.out, HV.out]⟩
          case measure => simp [intOf]; omega
        · obtain ⟨u, hu1, hu2, hu3⟩ := uW_usum x
          have hvu : v = (u : Int) := by rw [← hu1, ← hv, List.drop_eq_nil_of_le (by omega)]; rfl
          subst hvu
          have HRW := Lib.hid (fun w => rword_any u w hu2)
          clear hv hu1
          by_cases hit : Lib.decDigits u = x
          · rw [if_pos hit] at hu3
            have HNX := Lib.hid (HAT.out u hu3)
            have t : ((bs (Lib.decDigits u)).toList == (bs x).toList) = true := by rw [hit]; exact beq_self_eq_true _
            have HD := Lib.hid hit
            clear hit hu3
            go_wp2_with fail
            go_quiet ((go_at_call 45; with_reducible exact qsame (HRW.out _)))
            have HO2 := Lib.hid (own_below HO.out (below_drewN (Below.refl _ _) nq))
            have HB2 := Lib.hid (below_drewN HB.out nq)
            have hsz2 := HB2.out.size
            generalize wo.drewN nq = wn at *
            go_wp2_with (at_builtin; refine wpl_app1 rfl _ _ 26 rfl u64ElemL _ _ _ rfl _ rfl rfl HO2.out HB2.out (Nat.le_refl _) hsz2 (by omega) (by unfold maxLen; omega) ?_; intro v' w4 hown4 hbw4 hg4; have HO4 := Lib.hid hown4; have HB4 := Lib.hid hbw4; clear hg4 hown4 hbw4)
            go_roundg (ws.length - (k + 1))
            case measure => omega
            case rel => exact ⟨k + 1, _, by omega, rfl, by go_num, HNX.out, by simpa using HO4.out, HB4.out⟩
          · rw [if_neg hit] at hu3
            have HNX := Lib.hid (HNO.out hu3)
            have t := text_ne fun e => hit (bs_inj e)
            clear hit hu3
            go_wp2_with fail
            go_quiet ((go_at_call 45; with_reducible exact qsame (HRW.out _)))
            go_wp2_with fail
            go_ret2
            exact rowPost_none HNX.out (below_drewN HB.out _)
    · obtain rfl : k = ws.length := by omega
      rw [List.take_length] at HL
      clear hown hbw hl
      go_wp2_with fail
      go_ret2
      exact rowPost_some HL.out HB.out HO.out
end Go.Proofs.YtplhmcmfdcklaaaDoor.Lex
