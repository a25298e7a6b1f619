/- The law WisdomOrder. -/
import Derived.Test.YtephllgddhncgaaGreatDoorParseW
import Derived.Test.YtephllgddhncgaaGreatDoorRef24
import Derived.Test.YtephllgddhncgaaGreatDoorLive25
namespace Go.Proofs.YtephllgddhncgaaGreatDoor.Lex
open Go.RowKit Stab
set_option linter.unusedSimpArgs false
set_option linter.unusedVariables false
theorem bodyW_ge : ∀ l : List EntryV, l.length ≤ (bodyW l).length
  | [] => by simp [bodyW]
  | x :: l => by
    have h := bodyW_ge l
    have e : bodyW (x :: l) = lineX x ++ 10 :: bodyW l := by simp [bodyW]
    rw [e]
    simp only [List.length_append, List.length_cons]
    omega
theorem textW_ge (l : List EntryV) : l.length ≤ (textW l).length := by
  have h1 := bodyW_ge (sortE l)
  have h2 := (sortE_perm l).length_eq
  rw [textW, List.length_append]
  omega
set_option maxRecDepth 100000 in
set_option maxHeartbeats 4000000 in
theorem order25 (s : ByteArray) (w : World) (hx : HasMax w) (ht : HasTab w) : Calls Tryz.prog 5 #[.string s] w fun e w' => e = .returned (.bool true) ∧ Below w.heap.size w w' := by
  have HX := Lib.hid hx
  have HT := Lib.hid ht
  by_cases hbig : 4000 < s.size
  · have hbi : (4000 : Int) < (s.size : Int) := by omega
    clear hbig hx ht
    go_enter Tryz.func5, Tryz.ntmps5
    go_wp2_with (go_at_call 7; (with_reducible refine (live25 _ HX.out HT.out).mono ?_); rintro e w2 ⟨rfl, hb2⟩; have HB2 := Lib.hid hb2; clear hb2)
    go_ret
    exact ⟨rfl, HB2.out⟩
  · have hbi : ¬ (4000 : Int) < (s.size : Int) := by omega
    have HP := Lib.hid (wparse s w hx)
    unfold PPost at HP
    obtain ⟨k, m, l, hE⟩ : ∃ k m l, parseW s.data.toList = (k, m, l) := ⟨_, _, _, rfl⟩
    rw [hE] at HP
    dsimp only at HP
    by_cases hk : k = 0
    · subst hk
      obtain ⟨o1, o2, o3⟩ := order_law hE
      have hsl : s.data.toList.length = s.size := by simp
      have HLN : Hid (l.length ≤ 4096) := Lib.hid (by have := textW_ge l; omega)
      have hpv : printWV l = .tuple #[.string (bs (textW l)), .int .i64 0] := by rw [printWV, if_pos o2]
      have hT : (bs (textW l)).size = s.size := by rw [size_bs]; omega
      have HPR : Hid (∀ (a : Option Addr) (c : Nat) (F : Foot) (W : World), RowOf (entryRd 16385) 5 56 F W a l.length c l → HasMax W → HasTab W → Calls Tryz.prog 8 #[.slice a l.length c] W fun e w' => e = .returned (.tuple #[.string (bs (textW l)), .int .i64 0]) ∧ Below W.heap.size W w') := Lib.hid fun a c F W hr h1 h2 => by
        have h := wprint 16385 F l a l.length c W hr (by omega) HLN.out h1 h2
        rw [hpv] at h
        exact h
      have HPT : Hid (∀ W, HasMax W → Calls Tryz.prog 10 #[.string (bs (textW l))] W fun e w' => ∃ a c, e = .returned (.tuple #[.slice a l.length c, .int .i64 0, .int .i64 0]) ∧ RowOf (entryRd 16385) 5 56 (From W.heap.size) w' a l.length c l ∧ Below W.heap.size W w') := Lib.hid fun W h => by
        have h := wparse (bs (textW l)) W h
        unfold PPost at h
        rw [data_bs, o1] at h
        exact h
      clear hbig hx ht hE o1 o2 o3 hsl hpv
      generalize bs (textW l) = T at *
      have hts : ((T.size : Int) != (s.size : Int)) = false := by rw [hT]; simp
      have htt : (T.toList == T.toList) = true := by simp
      clear hT
      go_enter Tryz.func5, Tryz.ntmps5
      go_upto_region 6 with (go_at_call 10; (with_reducible refine HP.out.mono ?_); rintro e w2 ⟨a2, c2, rfl, hr2, hb2⟩; have HB2 := Lib.hid hb2; have HR2 := Lib.hid hr2; clear hb2 hr2)
      go_upto_region 7 with (go_at_call 8; (with_reducible refine (HPR.out _ _ _ _ HR2.out (HX.out.below HB2.out) (HT.out.below HB2.out)).mono ?_); rintro e w3 ⟨rfl, hb3⟩; have HR3 := Lib.hid (HR2.out.keep (entryRd_ok _) (Fix.of_below hb3)); have HB3 := Lib.hid (HB2.out.trans (hb3.mono HB2.out.size)); clear hb3)
      go_upto_region 10 with (go_at_call 10; (with_reducible refine (HPT.out _ (HX.out.below HB3.out)).mono ?_); rintro e w4 ⟨a4, c4, rfl, hr4, hb4⟩; have HR34 := Lib.hid (HR3.out.keep (entryRd_ok _) (Fix.of_below hb4)); have HB4 := Lib.hid (HB3.out.trans (hb4.mono HB3.out.size)); have HR4 := Lib.hid hr4; clear hb4 hr4)
      go_upto_region 11 with (go_at_call 8; (with_reducible refine (HPR.out _ _ _ _ HR4.out (HX.out.below HB4.out) (HT.out.below HB4.out)).mono ?_); rintro e w5 ⟨rfl, hb5⟩; have HR45 := Lib.hid (HR4.out.keep (entryRd_ok _) (Fix.of_below hb5)); have HR35 := Lib.hid (HR34.out.keep (entryRd_ok _) (Fix.of_below hb5)); have HB5 := Lib.hid (HB4.out.trans (hb5.mono HB4.out.size)); clear hb5)
      go_wp2_with (first
        | (go_at_call 12; (with_reducible refine (all24_eq 16385 _ _ l _ _ _ _ _ _ HR35.out HR45.out).mono ?_); rintro e w6 ⟨rfl, hb6⟩; have HB6 := Lib.hid (HB5.out.trans (hb6.mono HB5.out.size)); clear hb6)
        | (go_at_call 7; (with_reducible refine (live25 _ (HX.out.below HB6.out) (HT.out.below HB6.out)).mono ?_); rintro e w7 ⟨rfl, hb7⟩; have HB7 := Lib.hid (HB6.out.trans (hb7.mono HB6.out.size)); clear hb7))
      go_ret
      exact ⟨rfl, HB7.out⟩
    · have hl := parseW_bad hE hk
      subst hl
      have hkb : (k != 0) = true := by simpa using hk
      clear hbig hx ht hE hk
      go_enter Tryz.func5, Tryz.ntmps5
      go_wp2_with (first
        | (go_at_call 10; (with_reducible refine HP.out.mono ?_); rintro e w2 ⟨a2, c2, rfl, hr2, hb2⟩; have HB2 := Lib.hid hb2; clear hb2 hr2)
        | (go_at_call 7; (with_reducible refine (live25 _ (HX.out.below HB2.out) (HT.out.below HB2.out)).mono ?_); rintro e w3 ⟨rfl, hb3⟩; have HB3 := Lib.hid (HB2.out.trans (hb3.mono HB2.out.size)); clear hb3))
      go_ret
      exact ⟨rfl, HB3.out⟩
end Go.Proofs.YtephllgddhncgaaGreatDoor.Lex
