/- The reference's digits of bytes, read back. -/
import Derived.Test.YtplhmcmfdcklaaaDoorRNum
import Derived.Test.YtplhmcmfdcklaaaDoorTxt
namespace Go.Proofs.YtplhmcmfdcklaaaDoor.Lex
open Go.RowKit
set_option linter.unusedSimpArgs false
set_option linter.unusedVariables false
/-- A byte's place among the sixteen digits; 16: it is none. -/
def halfF (c : UInt8) : Nat → Nat → Nat
  | 0, _ => 16
  | n + 1, i => if hexd i = c then i else halfF c n (i + 1)
def halfN (c : UInt8) : Nat := halfF c 16 0
theorem halfN_hexd {d : Nat} (h : d < 16) : halfN (hexd d) = d := by
  have : ∀ d : Fin 16, halfN (hexd d.1) = d.1 := by decide +kernel
  exact this ⟨d, h⟩
theorem halfN_all (c : UInt8) : halfN c ≤ 16 ∧ (halfN c < 16 → hexd (halfN c) = c) := by
  have : ∀ n : Fin 256, halfN (UInt8.ofNat n.1) ≤ 16 ∧ (halfN (UInt8.ofNat n.1) < 16 → hexd (halfN (UInt8.ofNat n.1)) = UInt8.ofNat n.1) := by decide +kernel
  have h := this ⟨c.toNat, c.toNat_lt⟩
  simpa using h
/-- Pairs of digits, read; none: no pairs of digits. -/
def unhexL : List UInt8 → Option (List UInt8)
  | a :: b :: r => if 15 < halfN a ∨ 15 < halfN b then none else (unhexL r).map (UInt8.ofNat (16 * halfN a + halfN b) :: ·)
  | [] => some []
  | [_] => none
theorem unhexL_hex : ∀ l : List UInt8, unhexL (hexOf l) = some l
  | [] => rfl
  | c :: l => by
    have e : hexOf (c :: l) = hexd (c.toNat / 16) :: hexd (c.toNat % 16) :: hexOf l := rfl
    have hc := c.toNat_lt
    have h1 : c.toNat / 16 < 16 := by omega
    have h2 : c.toNat % 16 < 16 := by omega
    rw [e, unhexL, halfN_hexd h1, halfN_hexd h2, if_neg (by omega), unhexL_hex l]
    have hx : 16 * (c.toNat / 16) + c.toNat % 16 = c.toNat := by omega
    rw [hx, UInt8.ofNat_toNat]
    rfl
theorem unhexL_some : ∀ {w l : List UInt8}, unhexL w = some l → hexOf l = w
  | [], l, h => by cases h; rfl
  | [_], l, h => by cases h
  | a :: b :: r, l, h => by
    rw [unhexL] at h
    split at h
    · cases h
    · next hn =>
      obtain ⟨m, hm, rfl⟩ := Option.map_eq_some_iff.1 h
      have ih := unhexL_some hm
      have ha := (halfN_all a).2 (by omega)
      have hb := (halfN_all b).2 (by omega)
      have e : (UInt8.ofNat (16 * halfN a + halfN b)).toNat = 16 * halfN a + halfN b := by rw [UInt8.toNat_ofNat']; omega
      have e1 : (16 * halfN a + halfN b) / 16 = halfN a := by omega
      have e2 : (16 * halfN a + halfN b) % 16 = halfN b := by omega
      show hexd _ :: hexd _ :: hexOf m = _
      rw [e, e1, e2, ha, hb, ih]
theorem unhexL_odd : ∀ {w : List UInt8}, w.length % 2 = 1 → unhexL w = none
  | [], h => by simp at h
  | [_], _ => rfl
  | a :: b :: r, h => by
    have ih := unhexL_odd (w := r) (by simp only [List.length_cons] at h; omega)
    rw [unhexL, ih]
    split <;> rfl
set_option maxRecDepth 100000 in
theorem half_any (c : UInt8) (w : World) : Calls Tryd.prog 80 #[.int .u8 (c.toNat : Int)] w fun e w' => e = .returned (.int .i64 (halfN c : Nat)) ∧ w = w' := by
  go_enter Tryd.func80, Tryd.ntmps80
  go_wp2_with fail
  go_loop [4] (fun iv => ∃ i : Nat, i ≤ 16 ∧ iv = .int .i64 i ∧ halfF c (16 - i) i = halfN c) (fun iv => 16 - (intOf iv).toNat)
  case atStart => exact ⟨0, by omega, rfl, rfl⟩
  case round =>
    obtain ⟨i, hi, rfl, hv⟩ := hrel
    by_cases hp : i < 16
    · have hh : halfF c (16 - i) i = if hexd i = c then i else halfF c (16 - (i + 1)) (i + 1) := by
        rw [show 16 - i = (16 - (i + 1)) + 1 by omega, halfF]
      have hx : i < (⟨#[48, 49, 50, 51, 52, 53, 54, 55, 56, 57, 97, 98, 99, 100, 101, 102]⟩ : ByteArray).size := hp
      have hat := hexd_at hx
      by_cases hc : hexd i = c
      · rw [if_pos hc, hv] at hh
        have HH := Lib.hid hh
        have t : (((((⟨#[48, 49, 50, 51, 52, 53, 54, 55, 56, 57, 97, 98, 99, 100, 101, 102]⟩ : ByteArray)[i]'hx).toNat : Nat) : Int) == (c.toNat : Int)) = true := by rw [hat, hc]; exact beq_self_eq_true _
        clear hat hh hv
        go_wp2_with fail
        go_ret
        exact ⟨by rw [HH.out]; rfl, rfl⟩
      · rw [if_neg hc, hv] at hh
        have HH := Lib.hid hh
        have t : (((((⟨#[48, 49, 50, 51, 52, 53, 54, 55, 56, 57, 97, 98, 99, 100, 101, 102]⟩ : ByteArray)[i]'hx).toNat : Nat) : Int) == (c.toNat : Int)) = false := by
          rw [hat, beq_eq_false_iff_ne]
          intro e
          exact hc (UInt8.toNat_inj.1 (by omega))
        clear hat hh hv
        go_wp2_with fail
        go_round
        case rel => exact ⟨i + 1, by omega, by go_num, HH.out.symm⟩
        case measure => simp [intOf]; omega
    · have e16 : i = 16 := by omega
      subst e16
      have HH : Hid (16 = halfN c) := Lib.hid hv
      clear hv
      go_wp2_with fail
      go_ret
      exact ⟨by rw [← HH.out]; rfl, rfl⟩
/-- What the reference's unhex makes of a word. -/
def UnhexPost (x : List UInt8) (w : World) (e : Ending) (w' : World) : Prop :=
  Below w.heap.size w w' ∧ ∃ t ok, e = .returned (.tuple #[.string t, .bool ok]) ∧ (∀ l, unhexL x = some l → t = bs l ∧ ok = true) ∧ (unhexL x = none → ok = false)
theorem unhexPost_yes {x l : List UInt8} {w w' : World} (h : unhexL x = some l) (hb : Below w.heap.size w w') : UnhexPost x w (.returned (.tuple #[.string (bs l), .bool true])) w' :=
  ⟨hb, _, _, rfl, fun m hm => by (rw [h] at hm; cases hm; exact ⟨rfl, rfl⟩), fun hn => by (rw [h] at hn; cases hn)⟩
theorem unhexPost_no {x : List UInt8} {w w' : World} {t : ByteArray} (h : unhexL x = none) (hb : Below w.heap.size w w') : UnhexPost x w (.returned (.tuple #[.string t, .bool false])) w' :=
  ⟨hb, _, _, rfl, fun m hm => by (rw [h] at hm; cases hm), fun _ => rfl⟩
set_option maxRecDepth 100000 in
theorem unhex_odd (x : List UInt8) (w : World) (hx : x.length ≤ 1099511627776) (ho : x.length % 2 = 1) : Calls Tryd.prog 65 #[.string (bs x)] w (UnhexPost x w) := by
  have HO := Lib.hid (unhexL_odd ho)
  have hxs : (bs x).size = x.length := size_bs x
  have t : ((x.length : Int) % 2 == 1) = true := by simp only [beq_iff_eq]; omega
  go_enter Tryd.func65, Tryd.ntmps65
  go_wp2_with fail
  go_ret2
  exact unhexPost_no HO.out (Below.refl _ _)
set_option maxRecDepth 100000 in
set_option maxHeartbeats 4000000 in
theorem unhex_even (x : List UInt8) (w : World) (hx : x.length ≤ 1099511627776) (ho : x.length % 2 = 0) : Calls Tryd.prog 65 #[.string (bs x)] w (UnhexPost x w) := by
  have hxs : (bs x).size = x.length := size_bs x
  have t : ((x.length : Int) % 2 == 1) = false := by rw [beq_eq_false_iff_ne]; omega
  go_enter Tryd.func65, Tryd.ntmps65
  go_wp2_with fail
  go_loopg [4, 5] x.length (fun gh v iv wr => ∃ (i : Nat) (l : List UInt8), i ≤ x.length ∧ gh = x.length - i ∧ iv = .int .i64 i ∧ 2 * l.length = i ∧ unhexL x = (unhexL (x.drop i)).map (l ++ ·) ∧ wr.ownsRow w.heap.size 5 1 v l.length (l.map fun c => .int .u8 (c.toNat : Int)) ∧ Below w.heap.size w wr)
  case atStart => exact ⟨0, [], by omega, by omega, rfl, rfl, by simp, World.ownsRow_nil _ _ _ _, Below.refl _ _⟩
  case round =>
    obtain ⟨i, l, hk, rfl, rfl, hl, hp, hown, hbw⟩ := hrel
    obtain ⟨wo, rfl⟩ : ∃ wo : World, wo = wr := ⟨_, rfl⟩
    have HO := Lib.hid hown
    have HB := Lib.hid hbw
    have hsz := hbw.size
    have hlt2 : (((bs x).size : Nat) : Int) = x.length := by omega
    by_cases hlt : i < x.length
    · have hd := drop_two (w := x) (i := i) (by omega)
      rw [hd, unhexL] at hp
      have hi0 : i < (bs x).size := by omega
      have hi1 : i + 1 < (bs x).size := by omega
      have hj0 : (i : Int) < ((bs x).size : Nat) := by omega
      have hj1 : (i : Int) + 1 < ((bs x).size : Nat) := by omega
      have hwr : IntKind.i64.wrap ((i : Int) + 1) = ((i + 1 : Nat) : Int) := by rw [IntKind.wrap_i64]; omega
      have hj2 : i + 1 < x.length := by omega
      have hj3 : (i : Int) + 1 < (x.length : Int) := by omega
      have hj4 : (0 : Int) ≤ (i : Int) + 1 := by omega
      have b0 := byteAt_eq hi0
      have b1 := byteAt_eq hi1
      rw [b0, b1] at hp
      clear hd b0 b1
      have hpl := (halfN_all ((bs x)[i]'hi0)).1
      have hql := (halfN_all ((bs x)[i + 1]'hi1)).1
      have HA := Lib.hid (fun w => half_any ((bs x)[i]'hi0) w)
      have HC := Lib.hid (fun w => half_any ((bs x)[i + 1]'hi1) w)
      generalize halfN ((bs x)[i]'hi0) = p at *
      generalize halfN ((bs x)[i + 1]'hi1) = q at *
      by_cases hbad : 15 < p ∨ 15 < q
      · have HN : Hid (unhexL x = none) := Lib.hid (by rw [hp, if_pos hbad]; rfl)
        clear hp hown hbw hl
        go_wp2_with fail
        go_quiet (first | (go_at_call 80; with_reducible exact qsame (HA.out _)) | (go_at_call 80; with_reducible exact qsame (HC.out _)))
        by_cases h15 : 15 < p
        · go_wp2_with fail
          go_ret2
          exact unhexPost_no HN.out (below_drewN HB.out _)
        · have h16 : 15 < q := by omega
          go_wp2_with fail
          go_ret2
          exact unhexPost_no HN.out (below_drewN HB.out _)
      · have hp1 : ¬ 15 < p := by omega
        have hq1 : ¬ 15 < q := by omega
        have HNX : Hid (unhexL x = (unhexL (x.drop (i + 2))).map ((l ++ [UInt8.ofNat (16 * p + q)]) ++ ·)) := Lib.hid (by
          rw [hp, if_neg hbad]
          cases unhexL (x.drop (i + 2)) <;> simp)
        have HPQ : Hid (((UInt8.ofNat (16 * p + q)).toNat : Int) = 16 * p + q) := Lib.hid (by rw [UInt8.toNat_ofNat']; omega)
        have HL := Lib.hid hl
        clear hp hbad hown hbw
        go_wp2_with fail
        go_quiet (first | (go_at_call 80; with_reducible exact qsame (HA.out _)) | (go_at_call 80; with_reducible exact qsame (HC.out _)))
        have HO2 := Lib.hid (own_below HO.out (below_drewN (Below.refl _ _) nq))
        have HB2 := Lib.hid (below_drewN HB.out nq)
        have hsz2 := HB2.out.size
        generalize wo.drewN nq = wn at *
        go_wp2_with (at_builtin; refine wpl_app1 rfl _ _ 53 rfl byteElemL _ _ _ rfl _ rfl rfl HO2.out HB2.out (Nat.le_refl _) hsz2 (by omega) (by unfold maxLen; omega) ?_; intro v' w4 hown4 hbw4 hg4; have HO4 := Lib.hid hown4; have HB4 := Lib.hid hbw4; clear hg4 hown4 hbw4)
        go_roundg (x.length - (i + 2))
        case measure => omega
        case rel => exact ⟨i + 2, _, by omega, rfl, by go_num, by simp; omega, HNX.out, by have := HO4.out; rw [List.map_append, List.map_singleton, HPQ.out, List.length_append]; exact this, HB4.out⟩
    · have HX : Hid (unhexL x = some l) := Lib.hid (by rw [hp, List.drop_eq_nil_of_le (by omega)]; simp [unhexL])
      have HKC := Lib.hid (own_conv hown)
      clear hp hown hbw
      have kc := HKC.out
      go_wp2_with fail
      go_ret2
      exact unhexPost_yes HX.out HB.out
theorem unhex_any (x : List UInt8) (w : World) (hx : x.length ≤ 1099511627776) : Calls Tryd.prog 65 #[.string (bs x)] w (UnhexPost x w) := by
  rcases Nat.mod_two_eq_zero_or_one x.length with h | h
  · exact unhex_even x w hx h
  · exact unhex_odd x w hx h
end Go.Proofs.YtplhmcmfdcklaaaDoor.Lex
