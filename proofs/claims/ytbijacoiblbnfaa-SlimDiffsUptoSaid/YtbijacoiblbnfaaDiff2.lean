/- The first place of two rows of calls that is not the same: the program's and the reference's (printed by tools/mk_diff2.py). -/
import Derived.Test.YtbijacoiblbnfaaDiff
import Derived.StillTailTactics
namespace Go.Proofs.Ytbijacoiblbnfaa
open Go.RowKit
set_option linter.unusedSimpArgs false
set_option linter.unusedVariables false
def diffI : List OpV → List OpV → Nat → Int
  | [], [], _ => -1
  | a :: l, b :: m, i => if oneB a b then diffI l m (i + 1) else i
  | _, _, i => i
theorem diffI_drop {l m : List OpV} {i : Nat} (h : i < l.length) (h' : i < m.length) : diffI (l.drop i) (m.drop i) i = if oneB l[i] m[i] then diffI (l.drop (i + 1)) (m.drop (i + 1)) (i + 1) else i := by
  rw [List.drop_eq_getElem_cons h, List.drop_eq_getElem_cons h', diffI]
theorem diffI_end {l m : List OpV} {i : Nat} (h : l.length ≤ i) (h' : m.length ≤ i) : diffI (l.drop i) (m.drop i) i = -1 := by
  rw [List.drop_of_length_le h, List.drop_of_length_le h', diffI]
theorem diffI_left {l m : List OpV} {i : Nat} (h : l.length ≤ i) (h' : i < m.length) : diffI (l.drop i) (m.drop i) i = i := by
  rw [List.drop_of_length_le h, List.drop_eq_getElem_cons h']
  rfl
theorem diffI_right {l m : List OpV} {i : Nat} (h : i < l.length) (h' : m.length ≤ i) : diffI (l.drop i) (m.drop i) i = i := by
  rw [List.drop_of_length_le h', List.drop_eq_getElem_cons h]
  rfl
set_option maxRecDepth 100000 in
set_option maxHeartbeats 2000000 in
theorem first_any (k : Nat) (l m : List OpV) (a b : Option Addr) (n n' c c' : Nat) (w : World) (hl : RowOf (opRd k) 19 216 All w a n c l) (hm : RowOf (opRd k) 19 216 All w b n' c' m) :
    Calls Try.prog 25 #[.slice a n c, .slice b n' c', .func (.func 26) #[] #[]] w fun e w' => e = .returned (.int .i64 (diffI l m 0)) ∧ Below w.heap.size w w' := by
  have hn := hl.room
  have hn' := hm.room
  have HL := Lib.hid hl
  have HM := Lib.hid hm
  have hu := Try.underlying81
  clear hl hm
  by_cases hmx : n' ≤ n
  · go_enter Try.func25, Try.ntmps25
    go_wp2_with fail
    go_loopg [13] n (fun g iv wr => ∃ i : Nat, i ≤ n ∧ g = n - i ∧ iv = .int .i64 i ∧ diffI l m 0 = diffI (l.drop i) (m.drop i) i ∧ Below w.heap.size w wr)
    case atStart => exact ⟨0, by omega, rfl, rfl, rfl, Below.refl _ _⟩
    case round =>
      obtain ⟨i, hi, rfl, rfl, hc, hB⟩ := hrel
      obtain ⟨wo, rfl⟩ : ∃ wo : World, wo = wr := ⟨_, rfl⟩
      have HC := Lib.hid hc
      have HB := Lib.hid hB
      clear hc hB
      by_cases hlt : i < n
      · by_cases h1 : i < n
        · by_cases h2 : i < n'
          · have HST := Lib.hid (diffI_drop (l := l) (m := m) (i := i) (by have := HL.out.len; omega) (by have := HM.out.len; omega))
            obtain ⟨b1, o1, hb1, hF1, wh1, at1, ki1, kn1, kd1, tx1, ow1, oa1, xs1, e1, dk1, dn1, dl1, n1, li1, tt1, ys1, fr1, to1, xa1, xm1, xc1, da1, dm1, dc1, ya1, ym1, yc1, rfl, hv1, hc1, hx1, hd1, hy1, hop1⟩ := (HL.out.keep (opRd_ok _) (Fix.of_below HB.out)).op i (by have := HL.out.len; omega)
            obtain ⟨b2, o2, hb2, hF2, wh2, at2, ki2, kn2, kd2, tx2, ow2, oa2, xs2, e2, dk2, dn2, dl2, n2, li2, tt2, ys2, fr2, to2, xa2, xm2, xc2, da2, dm2, dc2, ya2, ym2, yc2, rfl, hv2, hc2, hx2, hd2, hy2, hop2⟩ := (HM.out.keep (opRd_ok _) (Fix.of_below HB.out)).op i (by have := HM.out.len; omega)
            have HE : Hid (oneB (l[i]'(by have := HL.out.len; omega)) (m[i]'(by have := HM.out.len; omega)) = oneB ((wh1, at1), (ki1, (kn1, kd1), tx1, (ow1, oa1), xs1), (e1, DescV.mk dk1 dn1 dl1, n1, li1, tt1, ys1), fr1, to1) ((wh2, at2), (ki2, (kn2, kd2), tx2, (ow2, oa2), xs2), (e2, DescV.mk dk2 dn2 dl2, n2, li2, tt2, ys2), fr2, to2)) := Lib.hid (by rw [hv1, hv2])
            rw [HE.out] at HST
            have HO1 := Lib.hid hop1
            have HO2 := Lib.hid hop2
            have HS : Hid (∀ W, Below wo.heap.size wo W → W.rangeAt b1 (o1 + i * 19) [.int .i64 wh1, .int .i64 at1, .int .i64 ki1, .int .i64 kn1, .int .i64 kd1, .string tx1, .int .i64 ow1, .int .i64 oa1, .slice xa1 xm1 xc1, .int .i64 e1, .int .i64 dk1, .int .i64 dn1, .slice da1 dm1 dc1, .int .i64 n1, .int .i64 li1, .string tt1, .slice ya1 ym1 yc1, .int .i64 fr1, .int .i64 to1] ∧ W.rangeAt b2 (o2 + i * 19) [.int .i64 wh2, .int .i64 at2, .int .i64 ki2, .int .i64 kn2, .int .i64 kd2, .string tx2, .int .i64 ow2, .int .i64 oa2, .slice xa2 xm2 xc2, .int .i64 e2, .int .i64 dk2, .int .i64 dn2, .slice da2 dm2 dc2, .int .i64 n2, .int .i64 li2, .string tt2, .slice ya2 ym2 yc2, .int .i64 fr2, .int .i64 to2]) := Lib.hid fun W hb => ⟨fun j u hu => (hb.cell (p := ⟨b1, o1 + i * 19 + j, none⟩) hb1).trans (hc1 j u hu), fun j u hu => (hb.cell (p := ⟨b2, o2 + i * 19 + j, none⟩) hb2).trans (hc2 j u hu)⟩
            clear hv1 hv2 hc1 hc2 hx1 hx2 hd1 hd2 hy1 hy2 hop1 hop2
            have HCALL : Hid (∀ W, Below wo.heap.size wo W → Calls Try.prog 26 #[.agg #[.int .i64 wh1, .int .i64 at1, .int .i64 ki1, .int .i64 kn1, .int .i64 kd1, .string tx1, .int .i64 ow1, .int .i64 oa1, .slice xa1 xm1 xc1, .int .i64 e1, .int .i64 dk1, .int .i64 dn1, .slice da1 dm1 dc1, .int .i64 n1, .int .i64 li1, .string tt1, .slice ya1 ym1 yc1, .int .i64 fr1, .int .i64 to1], .agg #[.int .i64 wh2, .int .i64 at2, .int .i64 ki2, .int .i64 kn2, .int .i64 kd2, .string tx2, .int .i64 ow2, .int .i64 oa2, .slice xa2 xm2 xc2, .int .i64 e2, .int .i64 dk2, .int .i64 dn2, .slice da2 dm2 dc2, .int .i64 n2, .int .i64 li2, .string tt2, .slice ya2 ym2 yc2, .int .i64 fr2, .int .i64 to2]] W fun e w' => e = .returned (.bool (oneB ((wh1, at1), (ki1, (kn1, kd1), tx1, (ow1, oa1), xs1), (e1, DescV.mk dk1 dn1 dl1, n1, li1, tt1, ys1), fr1, to1) ((wh2, at2), (ki2, (kn2, kd2), tx2, (ow2, oa2), xs2), (e2, DescV.mk dk2 dn2 dl2, n2, li2, tt2, ys2), fr2, to2))) ∧ Below W.heap.size W w') := Lib.hid fun W hb => dclo_any k wh1 at1 fr1 to1 ki1 kn1 kd1 ow1 oa1 e1 dk1 dn1 n1 li1 wh2 at2 fr2 to2 ki2 kn2 kd2 ow2 oa2 e2 dk2 dn2 n2 li2 tx1 tx2 tt1 tt2 dl1 dl2 xs1 xs2 ys1 ys2 xa1 xa2 da1 da2 ya1 ya2 xm1 xc1 dm1 dc1 ym1 yc1 xm2 xc2 dm2 dc2 ym2 yc2 W ((opRd_ok k).keep HO1.out (Fix.of_below hb)) ((opRd_ok k).keep HO2.out (Fix.of_below hb))
            have hi1 : (Try.prog.info? 81).map (·.size) = some ([.int .i64 wh1, .int .i64 at1, .int .i64 ki1, .int .i64 kn1, .int .i64 kd1, .string tx1, .int .i64 ow1, .int .i64 oa1, .slice xa1 xm1 xc1, .int .i64 e1, .int .i64 dk1, .int .i64 dn1, .slice da1 dm1 dc1, .int .i64 n1, .int .i64 li1, .string tt1, .slice ya1 ym1 yc1, .int .i64 fr1, .int .i64 to1] : List Value).length := by kernel_rfl
            have hi2 : (Try.prog.info? 81).map (·.size) = some ([.int .i64 wh2, .int .i64 at2, .int .i64 ki2, .int .i64 kn2, .int .i64 kd2, .string tx2, .int .i64 ow2, .int .i64 oa2, .slice xa2 xm2 xc2, .int .i64 e2, .int .i64 dk2, .int .i64 dn2, .slice da2 dm2 dc2, .int .i64 n2, .int .i64 li2, .string tt2, .slice ya2 ym2 yc2, .int .i64 fr2, .int .i64 to2] : List Value).length := by kernel_rfl
            have HI1 := Lib.hid hi1
            have HI2 := Lib.hid hi2
            clear HO1 HO2 hi1 hi2
            generalize ([.int .i64 wh1, .int .i64 at1, .int .i64 ki1, .int .i64 kn1, .int .i64 kd1, .string tx1, .int .i64 ow1, .int .i64 oa1, .slice xa1 xm1 xc1, .int .i64 e1, .int .i64 dk1, .int .i64 dn1, .slice da1 dm1 dc1, .int .i64 n1, .int .i64 li1, .string tt1, .slice ya1 ym1 yc1, .int .i64 fr1, .int .i64 to1] : List Value) = L1 at *
            generalize ([.int .i64 wh2, .int .i64 at2, .int .i64 ki2, .int .i64 kn2, .int .i64 kd2, .string tx2, .int .i64 ow2, .int .i64 oa2, .slice xa2 xm2 xc2, .int .i64 e2, .int .i64 dk2, .int .i64 dn2, .slice da2 dm2 dc2, .int .i64 n2, .int .i64 li2, .string tt2, .slice ya2 ym2 yc2, .int .i64 fr2, .int .i64 to2] : List Value) = L2 at *
            generalize oneB ((wh1, at1), (ki1, (kn1, kd1), tx1, (ow1, oa1), xs1), (e1, DescV.mk dk1 dn1 dl1, n1, li1, tt1, ys1), fr1, to1) ((wh2, at2), (ki2, (kn2, kd2), tx2, (ow2, oa2), xs2), (e2, DescV.mk dk2 dn2 dl2, n2, li2, tt2, ys2), fr2, to2) = r at *
            have hbz := Below.refl wo.heap.size wo
            have h1' : ¬ n ≤ i := by omega
            have h2' : ¬ n' ≤ i := by omega
            go_wp2_with fail
            have hbw : Below wo.heap.size wo wo.drew := (Below.refl _ _).drew
            have HR9 := Lib.hid (HS.out _ hbw)
            have HCL := Lib.hid (HCALL.out _ hbw)
            go_still_tail 20, (by kernel_rfl)
            repeat (first
              | (refine wpStill_load (by rfl) 81 _ rfl b1 (o1 + i * 19) rfl L1 _ HR9.out.1 hu rfl HI1.out ?_)
              | (refine wpStill_load (by rfl) 81 _ rfl b2 (o2 + i * 19) rfl L2 _ HR9.out.2 hu rfl HI2.out ?_)
              | still_step)
            refine wpStill_nil ?_
            change wpList _ _ _ _ _ wo.drew
            generalize wo.drew = w9 at *
            cases r
            · go_wp2_with (go_at_call 26; (with_reducible refine HCL.out.mono ?_); rintro e w2 ⟨rfl, hb2⟩; have HB2 : Hid (Below wo.heap.size wo w2) := Lib.hid (Below.trans hbw (Below.mono hb2 hbw.size)); clear hb2)
              go_ret
              exact ⟨by rw [HC.out, HST.out]; rfl, HB.out.trans (HB2.out.mono HB.out.size)⟩
            · go_wp2_with (go_at_call 26; (with_reducible refine HCL.out.mono ?_); rintro e w2 ⟨rfl, hb2⟩; have HB2 : Hid (Below wo.heap.size wo w2) := Lib.hid (Below.trans hbw (Below.mono hb2 hbw.size)); clear hb2)
              go_roundg (n - (i + 1))
              case measure => omega
              case rel => exact ⟨i + 1, by omega, rfl, by go_num, by rw [HC.out, HST.out]; rfl, HB.out.trans (HB2.out.mono HB.out.size)⟩
          · have h1' : ¬ n ≤ i := by omega
            have h2' : n' ≤ i := by omega
            have HST := Lib.hid (diffI_right (l := l) (m := m) (i := i) (by have := HL.out.len; omega) (by have := HM.out.len; omega))
            go_wp2_with fail
            go_quiet (fail)
            go_wp2_with fail
            go_ret
            exact ⟨by rw [HC.out, HST.out]; rfl, below_drewN HB.out _⟩
        · have h1' : n ≤ i := by omega
          have h2 : i < n' := by omega
          have HST := Lib.hid (diffI_left (l := l) (m := m) (i := i) (by have := HL.out.len; omega) (by have := HM.out.len; omega))
          go_wp2_with fail
          go_quiet (fail)
          go_wp2_with fail
          go_ret
          exact ⟨by rw [HC.out, HST.out]; rfl, below_drewN HB.out _⟩
      · have HST := Lib.hid (diffI_end (l := l) (m := m) (i := i) (by have := HL.out.len; omega) (by have := HM.out.len; omega))
        go_wp2_with fail
        go_ret
        exact ⟨by rw [HC.out, HST.out]; rfl, HB.out⟩
  · have hmx' : n ≤ n' := by omega
    go_enter Try.func25, Try.ntmps25
    go_wp2_with fail
    go_loopg [13] n' (fun g iv wr => ∃ i : Nat, i ≤ n' ∧ g = n' - i ∧ iv = .int .i64 i ∧ diffI l m 0 = diffI (l.drop i) (m.drop i) i ∧ Below w.heap.size w wr)
    case atStart => exact ⟨0, by omega, rfl, rfl, rfl, Below.refl _ _⟩
    case round =>
      obtain ⟨i, hi, rfl, rfl, hc, hB⟩ := hrel
      obtain ⟨wo, rfl⟩ : ∃ wo : World, wo = wr := ⟨_, rfl⟩
      have HC := Lib.hid hc
      have HB := Lib.hid hB
      clear hc hB
      by_cases hlt : i < n'
      · by_cases h1 : i < n
        · by_cases h2 : i < n'
          · have HST := Lib.hid (diffI_drop (l := l) (m := m) (i := i) (by have := HL.out.len; omega) (by have := HM.out.len; omega))
            obtain ⟨b1, o1, hb1, hF1, wh1, at1, ki1, kn1, kd1, tx1, ow1, oa1, xs1, e1, dk1, dn1, dl1, n1, li1, tt1, ys1, fr1, to1, xa1, xm1, xc1, da1, dm1, dc1, ya1, ym1, yc1, rfl, hv1, hc1, hx1, hd1, hy1, hop1⟩ := (HL.out.keep (opRd_ok _) (Fix.of_below HB.out)).op i (by have := HL.out.len; omega)
            obtain ⟨b2, o2, hb2, hF2, wh2, at2, ki2, kn2, kd2, tx2, ow2, oa2, xs2, e2, dk2, dn2, dl2, n2, li2, tt2, ys2, fr2, to2, xa2, xm2, xc2, da2, dm2, dc2, ya2, ym2, yc2, rfl, hv2, hc2, hx2, hd2, hy2, hop2⟩ := (HM.out.keep (opRd_ok _) (Fix.of_below HB.out)).op i (by have := HM.out.len; omega)
            have HE : Hid (oneB (l[i]'(by have := HL.out.len; omega)) (m[i]'(by have := HM.out.len; omega)) = oneB ((wh1, at1), (ki1, (kn1, kd1), tx1, (ow1, oa1), xs1), (e1, DescV.mk dk1 dn1 dl1, n1, li1, tt1, ys1), fr1, to1) ((wh2, at2), (ki2, (kn2, kd2), tx2, (ow2, oa2), xs2), (e2, DescV.mk dk2 dn2 dl2, n2, li2, tt2, ys2), fr2, to2)) := Lib.hid (by rw [hv1, hv2])
            rw [HE.out] at HST
            have HO1 := Lib.hid hop1
            have HO2 := Lib.hid hop2
            have HS : Hid (∀ W, Below wo.heap.size wo W → W.rangeAt b1 (o1 + i * 19) [.int .i64 wh1, .int .i64 at1, .int .i64 ki1, .int .i64 kn1, .int .i64 kd1, .string tx1, .int .i64 ow1, .int .i64 oa1, .slice xa1 xm1 xc1, .int .i64 e1, .int .i64 dk1, .int .i64 dn1, .slice da1 dm1 dc1, .int .i64 n1, .int .i64 li1, .string tt1, .slice ya1 ym1 yc1, .int .i64 fr1, .int .i64 to1] ∧ W.rangeAt b2 (o2 + i * 19) [.int .i64 wh2, .int .i64 at2, .int .i64 ki2, .int .i64 kn2, .int .i64 kd2, .string tx2, .int .i64 ow2, .int .i64 oa2, .slice xa2 xm2 xc2, .int .i64 e2, .int .i64 dk2, .int .i64 dn2, .slice da2 dm2 dc2, .int .i64 n2, .int .i64 li2, .string tt2, .slice ya2 ym2 yc2, .int .i64 fr2, .int .i64 to2]) := Lib.hid fun W hb => ⟨fun j u hu => (hb.cell (p := ⟨b1, o1 + i * 19 + j, none⟩) hb1).trans (hc1 j u hu), fun j u hu => (hb.cell (p := ⟨b2, o2 + i * 19 + j, none⟩) hb2).trans (hc2 j u hu)⟩
            clear hv1 hv2 hc1 hc2 hx1 hx2 hd1 hd2 hy1 hy2 hop1 hop2
            have HCALL : Hid (∀ W, Below wo.heap.size wo W → Calls Try.prog 26 #[.agg #[.int .i64 wh1, .int .i64 at1, .int .i64 ki1, .int .i64 kn1, .int .i64 kd1, .string tx1, .int .i64 ow1, .int .i64 oa1, .slice xa1 xm1 xc1, .int .i64 e1, .int .i64 dk1, .int .i64 dn1, .slice da1 dm1 dc1, .int .i64 n1, .int .i64 li1, .string tt1, .slice ya1 ym1 yc1, .int .i64 fr1, .int .i64 to1], .agg #[.int .i64 wh2, .int .i64 at2, .int .i64 ki2, .int .i64 kn2, .int .i64 kd2, .string tx2, .int .i64 ow2, .int .i64 oa2, .slice xa2 xm2 xc2, .int .i64 e2, .int .i64 dk2, .int .i64 dn2, .slice da2 dm2 dc2, .int .i64 n2, .int .i64 li2, .string tt2, .slice ya2 ym2 yc2, .int .i64 fr2, .int .i64 to2]] W fun e w' => e = .returned (.bool (oneB ((wh1, at1), (ki1, (kn1, kd1), tx1, (ow1, oa1), xs1), (e1, DescV.mk dk1 dn1 dl1, n1, li1, tt1, ys1), fr1, to1) ((wh2, at2), (ki2, (kn2, kd2), tx2, (ow2, oa2), xs2), (e2, DescV.mk dk2 dn2 dl2, n2, li2, tt2, ys2), fr2, to2))) ∧ Below W.heap.size W w') := Lib.hid fun W hb => dclo_any k wh1 at1 fr1 to1 ki1 kn1 kd1 ow1 oa1 e1 dk1 dn1 n1 li1 wh2 at2 fr2 to2 ki2 kn2 kd2 ow2 oa2 e2 dk2 dn2 n2 li2 tx1 tx2 tt1 tt2 dl1 dl2 xs1 xs2 ys1 ys2 xa1 xa2 da1 da2 ya1 ya2 xm1 xc1 dm1 dc1 ym1 yc1 xm2 xc2 dm2 dc2 ym2 yc2 W ((opRd_ok k).keep HO1.out (Fix.of_below hb)) ((opRd_ok k).keep HO2.out (Fix.of_below hb))
            have hi1 : (Try.prog.info? 81).map (·.size) = some ([.int .i64 wh1, .int .i64 at1, .int .i64 ki1, .int .i64 kn1, .int .i64 kd1, .string tx1, .int .i64 ow1, .int .i64 oa1, .slice xa1 xm1 xc1, .int .i64 e1, .int .i64 dk1, .int .i64 dn1, .slice da1 dm1 dc1, .int .i64 n1, .int .i64 li1, .string tt1, .slice ya1 ym1 yc1, .int .i64 fr1, .int .i64 to1] : List Value).length := by kernel_rfl
            have hi2 : (Try.prog.info? 81).map (·.size) = some ([.int .i64 wh2, .int .i64 at2, .int .i64 ki2, .int .i64 kn2, .int .i64 kd2, .string tx2, .int .i64 ow2, .int .i64 oa2, .slice xa2 xm2 xc2, .int .i64 e2, .int .i64 dk2, .int .i64 dn2, .slice da2 dm2 dc2, .int .i64 n2, .int .i64 li2, .string tt2, .slice ya2 ym2 yc2, .int .i64 fr2, .int .i64 to2] : List Value).length := by kernel_rfl
            have HI1 := Lib.hid hi1
            have HI2 := Lib.hid hi2
            clear HO1 HO2 hi1 hi2
            generalize ([.int .i64 wh1, .int .i64 at1, .int .i64 ki1, .int .i64 kn1, .int .i64 kd1, .string tx1, .int .i64 ow1, .int .i64 oa1, .slice xa1 xm1 xc1, .int .i64 e1, .int .i64 dk1, .int .i64 dn1, .slice da1 dm1 dc1, .int .i64 n1, .int .i64 li1, .string tt1, .slice ya1 ym1 yc1, .int .i64 fr1, .int .i64 to1] : List Value) = L1 at *
            generalize ([.int .i64 wh2, .int .i64 at2, .int .i64 ki2, .int .i64 kn2, .int .i64 kd2, .string tx2, .int .i64 ow2, .int .i64 oa2, .slice xa2 xm2 xc2, .int .i64 e2, .int .i64 dk2, .int .i64 dn2, .slice da2 dm2 dc2, .int .i64 n2, .int .i64 li2, .string tt2, .slice ya2 ym2 yc2, .int .i64 fr2, .int .i64 to2] : List Value) = L2 at *
            generalize oneB ((wh1, at1), (ki1, (kn1, kd1), tx1, (ow1, oa1), xs1), (e1, DescV.mk dk1 dn1 dl1, n1, li1, tt1, ys1), fr1, to1) ((wh2, at2), (ki2, (kn2, kd2), tx2, (ow2, oa2), xs2), (e2, DescV.mk dk2 dn2 dl2, n2, li2, tt2, ys2), fr2, to2) = r at *
            have hbz := Below.refl wo.heap.size wo
            have h1' : ¬ n ≤ i := by omega
            have h2' : ¬ n' ≤ i := by omega
            go_wp2_with fail
            have hbw : Below wo.heap.size wo wo.drew := (Below.refl _ _).drew
            have HR9 := Lib.hid (HS.out _ hbw)
            have HCL := Lib.hid (HCALL.out _ hbw)
            go_still_tail 20, (by kernel_rfl)
            repeat (first
              | (refine wpStill_load (by rfl) 81 _ rfl b1 (o1 + i * 19) rfl L1 _ HR9.out.1 hu rfl HI1.out ?_)
              | (refine wpStill_load (by rfl) 81 _ rfl b2 (o2 + i * 19) rfl L2 _ HR9.out.2 hu rfl HI2.out ?_)
              | still_step)
            refine wpStill_nil ?_
            change wpList _ _ _ _ _ wo.drew
            generalize wo.drew = w9 at *
            cases r
            · go_wp2_with (go_at_call 26; (with_reducible refine HCL.out.mono ?_); rintro e w2 ⟨rfl, hb2⟩; have HB2 : Hid (Below wo.heap.size wo w2) := Lib.hid (Below.trans hbw (Below.mono hb2 hbw.size)); clear hb2)
              go_ret
              exact ⟨by rw [HC.out, HST.out]; rfl, HB.out.trans (HB2.out.mono HB.out.size)⟩
            · go_wp2_with (go_at_call 26; (with_reducible refine HCL.out.mono ?_); rintro e w2 ⟨rfl, hb2⟩; have HB2 : Hid (Below wo.heap.size wo w2) := Lib.hid (Below.trans hbw (Below.mono hb2 hbw.size)); clear hb2)
              go_roundg (n' - (i + 1))
              case measure => omega
              case rel => exact ⟨i + 1, by omega, rfl, by go_num, by rw [HC.out, HST.out]; rfl, HB.out.trans (HB2.out.mono HB.out.size)⟩
          · have h1' : ¬ n ≤ i := by omega
            have h2' : n' ≤ i := by omega
            have HST := Lib.hid (diffI_right (l := l) (m := m) (i := i) (by have := HL.out.len; omega) (by have := HM.out.len; omega))
            go_wp2_with fail
            go_quiet (fail)
            go_wp2_with fail
            go_ret
            exact ⟨by rw [HC.out, HST.out]; rfl, below_drewN HB.out _⟩
        · have h1' : n ≤ i := by omega
          have h2 : i < n' := by omega
          have HST := Lib.hid (diffI_left (l := l) (m := m) (i := i) (by have := HL.out.len; omega) (by have := HM.out.len; omega))
          go_wp2_with fail
          go_quiet (fail)
          go_wp2_with fail
          go_ret
          exact ⟨by rw [HC.out, HST.out]; rfl, below_drewN HB.out _⟩
      · have HST := Lib.hid (diffI_end (l := l) (m := m) (i := i) (by have := HL.out.len; omega) (by have := HM.out.len; omega))
        go_wp2_with fail
        go_ret
        exact ⟨by rw [HC.out, HST.out]; rfl, HB.out⟩
set_option maxHeartbeats 1000000 in
theorem diff_any (k : Nat) (l m : List OpV) (a b : Option Addr) (n n' c c' : Nat) (w : World) (hl : RowOf (opRd k) 19 216 All w a n c l) (hm : RowOf (opRd k) 19 216 All w b n' c' m) :
    Calls Try.prog 18 #[.slice a n c, .slice b n' c'] w fun e w' => e = .returned (.int .i64 (diffI l m 0)) ∧ Below w.heap.size w w' := by
  have HL := Lib.hid hl
  have HM := Lib.hid hm
  clear hl hm
  go_enter Try.func18, Try.ntmps18
  go_wp2_with (go_at_call 25; (with_reducible refine (first_any k l m a b n n' c c' _ HL.out HM.out).mono ?_); rintro e w2 ⟨rfl, hb2⟩)
  go_ret
  exact ⟨rfl, hb2⟩
end Go.Proofs.Ytbijacoiblbnfaa
