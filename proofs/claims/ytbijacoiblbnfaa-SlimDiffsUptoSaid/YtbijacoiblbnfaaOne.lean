/- Two calls with all that belongs to them, compared (printed by tools/mk_one.py). -/
import Derived.Test.YtbijacoiblbnfaaAlike
import Derived.Deep.DeepCutAuto
namespace Go.Proofs.Ytbijacoiblbnfaa
open Go.RowKit
set_option linter.unusedSimpArgs false
set_option linter.unusedVariables false
/-- A call with all that belongs to it: ref, call, told, from, to. -/
abbrev OpV := (Int × Int) × (Int × (Int × Int) × ByteArray × (Int × Int) × List Int) × ToldV × Int × Int
def oneB (x y : OpV) : Bool := decide (x.1 = y.1) && (decide (x.2.2.2 = y.2.2.2) && (decide (x.2.1 = y.2.1) && alikeB x.2.2.1 y.2.2.1))
theorem oneB_self (x : OpV) : oneB x x = true := by simp [oneB, alikeB_self]
set_option maxRecDepth 100000 in
set_option maxHeartbeats 16000000 in
theorem rone_any (k : Nat) (F G : Foot) (wh1 at1 fr1 to1 ki1 kn1 kd1 ow1 oa1 e1 dk1 dn1 n1 li1 wh2 at2 fr2 to2 ki2 kn2 kd2 ow2 oa2 e2 dk2 dn2 n2 li2 : Int) (tx1 tx2 tt1 tt2 : ByteArray) (dl1 dl2 : List DescV) (xs1 xs2 ys1 ys2 : List Int) (xa1 xa2 da1 da2 ya1 ya2 : Option Addr) (xm1 xc1 dm1 dc1 ym1 yc1 xm2 xc2 dm2 dc2 ym2 yc2 : Nat) (w : World)
    (hx1 : RowOf (Rd.int .u64) 1 8 F w xa1 xm1 xc1 xs1) (hd1 : RowOf (descRd k) 3 40 F w da1 dm1 dc1 dl1) (hy1 : RowOf (Rd.int .u64) 1 8 F w ya1 ym1 yc1 ys1)
    (hx2 : RowOf (Rd.int .u64) 1 8 G w xa2 xm2 xc2 xs2) (hd2 : RowOf (descRd k) 3 40 G w da2 dm2 dc2 dl2) (hy2 : RowOf (Rd.int .u64) 1 8 G w ya2 ym2 yc2 ys2) :
    Calls Try.prog 23 #[.agg #[.int .i64 wh1, .int .i64 at1, .int .i64 ki1, .int .i64 kn1, .int .i64 kd1, .string tx1, .int .i64 ow1, .int .i64 oa1, .slice xa1 xm1 xc1, .int .i64 e1, .int .i64 dk1, .int .i64 dn1, .slice da1 dm1 dc1, .int .i64 n1, .int .i64 li1, .string tt1, .slice ya1 ym1 yc1, .int .i64 fr1, .int .i64 to1], .agg #[.int .i64 wh2, .int .i64 at2, .int .i64 ki2, .int .i64 kn2, .int .i64 kd2, .string tx2, .int .i64 ow2, .int .i64 oa2, .slice xa2 xm2 xc2, .int .i64 e2, .int .i64 dk2, .int .i64 dn2, .slice da2 dm2 dc2, .int .i64 n2, .int .i64 li2, .string tt2, .slice ya2 ym2 yc2, .int .i64 fr2, .int .i64 to2]] w fun e w' => e = .returned (.bool (oneB ((wh1, at1), (ki1, (kn1, kd1), tx1, (ow1, oa1), xs1), (e1, DescV.mk dk1 dn1 dl1, n1, li1, tt1, ys1), fr1, to1) ((wh2, at2), (ki2, (kn2, kd2), tx2, (ow2, oa2), xs2), (e2, DescV.mk dk2 dn2 dl2, n2, li2, tt2, ys2), fr2, to2))) ∧ Below w.heap.size w w' := by
  have hb0 : Below w.heap.size w ((w.alloc (.cells #[.int .i64 wh1, .int .i64 at1, .int .i64 ki1, .int .i64 kn1, .int .i64 kd1, .string tx1, .int .i64 ow1, .int .i64 oa1, .slice xa1 xm1 xc1, .int .i64 e1, .int .i64 dk1, .int .i64 dn1, .slice da1 dm1 dc1, .int .i64 n1, .int .i64 li1, .string tt1, .slice ya1 ym1 yc1, .int .i64 fr1, .int .i64 to1] 81)).alloc (.cells #[.int .i64 wh2, .int .i64 at2, .int .i64 ki2, .int .i64 kn2, .int .i64 kd2, .string tx2, .int .i64 ow2, .int .i64 oa2, .slice xa2 xm2 xc2, .int .i64 e2, .int .i64 dk2, .int .i64 dn2, .slice da2 dm2 dc2, .int .i64 n2, .int .i64 li2, .string tt2, .slice ya2 ym2 yc2, .int .i64 fr2, .int .i64 to2] 81)) := ((Below.refl _ _).alloc (Nat.le_refl _) _).alloc (by simp) _
  have HX1 := Lib.hid (hx1.keep (Rd.int_ok _) (Fix.of_below hb0))
  have HX2 := Lib.hid (hx2.keep (Rd.int_ok _) (Fix.of_below hb0))
  have HD1 := Lib.hid (hd1.keep (descRd_ok _) (Fix.of_below hb0))
  have HD2 := Lib.hid (hd2.keep (descRd_ok _) (Fix.of_below hb0))
  have HY1 := Lib.hid (hy1.keep (Rd.int_ok _) (Fix.of_below hb0))
  have HY2 := Lib.hid (hy2.keep (Rd.int_ok _) (Fix.of_below hb0))
  have HB := Lib.hid hb0
  clear hx1 hx2 hd1 hd2 hy1 hy2 hb0
  by_cases qwh : wh1 = wh2
  · subst qwh
    by_cases qat : at1 = at2
    · subst qat
      by_cases qfr : fr1 = fr2
      · subst qfr
        by_cases qto : to1 = to2
        · subst qto
          by_cases qki : ki1 = ki2
          · subst qki
            by_cases qkn : kn1 = kn2
            · subst qkn
              by_cases qkd : kd1 = kd2
              · subst qkd
                by_cases qtx : tx1 = tx2
                · subst qtx
                  by_cases qow : ow1 = ow2
                  · subst qow
                    by_cases qoa : oa1 = oa2
                    · subst qoa
                      by_cases hxs : xs1 = xs2
                      · have HXS := Lib.hid hxs
                        clear hxs
                        have HR : Hid (oneB ((wh1, at1), (ki1, (kn1, kd1), tx1, (ow1, oa1), xs1), (e1, DescV.mk dk1 dn1 dl1, n1, li1, tt1, ys1), fr1, to1) ((wh1, at1), (ki1, (kn1, kd1), tx1, (ow1, oa1), xs2), (e2, DescV.mk dk2 dn2 dl2, n2, li2, tt2, ys2), fr1, to1) = alikeB (e1, DescV.mk dk1 dn1 dl1, n1, li1, tt1, ys1) (e2, DescV.mk dk2 dn2 dl2, n2, li2, tt2, ys2)) := Lib.hid (by simp [oneB, HXS.out])
                        go_enter Try.func23, Try.ntmps23
                        go_upto_region 1 with (fail)
                        simp only [List.append_eq, List.cons_append, List.nil_append]
                        go_wp2_with (first | (go_at_call 36; (with_reducible refine (fsame_any xs1 xs2 F G xa1 xa2 xm1 xm2 xc1 xc2 _ HX1.out HX2.out).mono ?_); rintro e w2 ⟨he, d, rfl⟩; rw [decide_eq_true HXS.out] at he; subst he) | (go_at_call 37; (with_reducible refine (ralike_any k F G e1 dk1 dn1 n1 li1 e2 dk2 dn2 n2 li2 dl1 dl2 tt1 tt2 ys1 ys2 da1 da2 ya1 ya2 dm1 dc1 ym1 yc1 dm2 dc2 ym2 yc2 _ (HD1.out.keep (descRd_ok _) (Fix.drewN _ _ _)) (HY1.out.keep (Rd.int_ok _) (Fix.drewN _ _ _)) (HD2.out.keep (descRd_ok _) (Fix.drewN _ _ _)) (HY2.out.keep (Rd.int_ok _) (Fix.drewN _ _ _))).mono ?_); rintro e w3 ⟨rfl, hb3⟩; have HB3 := Lib.hid hb3; clear hb3))
                        go_ret
                        exact ⟨by rw [HR.out]; rfl, (below_drewN HB.out _).trans (HB3.out.mono HB.out.size)⟩
                      · have HXS := Lib.hid hxs
                        have HR : Hid (oneB ((wh1, at1), (ki1, (kn1, kd1), tx1, (ow1, oa1), xs1), (e1, DescV.mk dk1 dn1 dl1, n1, li1, tt1, ys1), fr1, to1) ((wh1, at1), (ki1, (kn1, kd1), tx1, (ow1, oa1), xs2), (e2, DescV.mk dk2 dn2 dl2, n2, li2, tt2, ys2), fr1, to1) = false) := Lib.hid (by simp [oneB, hxs])
                        clear hxs
                        go_enter Try.func23, Try.ntmps23
                        go_upto_region 1 with (fail)
                        simp only [List.append_eq, List.cons_append, List.nil_append]
                        go_wp2_with (go_at_call 36; (with_reducible refine (fsame_any xs1 xs2 F G xa1 xa2 xm1 xm2 xc1 xc2 _ HX1.out HX2.out).mono ?_); rintro e w2 ⟨he, d, rfl⟩; rw [decide_eq_false HXS.out] at he; subst he)
                        go_ret
                        exact ⟨by rw [HR.out]; rfl, below_drewN HB.out _⟩
                    · have HR : Hid (oneB ((wh1, at1), (ki1, (kn1, kd1), tx1, (ow1, oa1), xs1), (e1, DescV.mk dk1 dn1 dl1, n1, li1, tt1, ys1), fr1, to1) ((wh1, at1), (ki1, (kn1, kd1), tx1, (ow1, oa2), xs2), (e2, DescV.mk dk2 dn2 dl2, n2, li2, tt2, ys2), fr1, to1) = false) := Lib.hid (by simp [oneB, qoa])
                      have hb : (oa1 == oa2) = false := by simpa using qoa
                      clear HX1 HX2 HD1 HD2 HY1 HY2
                      go_enter Try.func23, Try.ntmps23
                      go_upto_region 1 with (fail)
                      simp only [List.append_eq, List.cons_append, List.nil_append]
                      go_wp2_with fail
                      go_ret
                      exact ⟨by rw [HR.out]; rfl, HB.out⟩
                  · have HR : Hid (oneB ((wh1, at1), (ki1, (kn1, kd1), tx1, (ow1, oa1), xs1), (e1, DescV.mk dk1 dn1 dl1, n1, li1, tt1, ys1), fr1, to1) ((wh1, at1), (ki1, (kn1, kd1), tx1, (ow2, oa2), xs2), (e2, DescV.mk dk2 dn2 dl2, n2, li2, tt2, ys2), fr1, to1) = false) := Lib.hid (by simp [oneB, qow])
                    have hb : (ow1 == ow2) = false := by simpa using qow
                    clear HX1 HX2 HD1 HD2 HY1 HY2
                    go_enter Try.func23, Try.ntmps23
                    go_upto_region 1 with (fail)
                    simp only [List.append_eq, List.cons_append, List.nil_append]
                    go_wp2_with fail
                    go_ret
                    exact ⟨by rw [HR.out]; rfl, HB.out⟩
                · have HR : Hid (oneB ((wh1, at1), (ki1, (kn1, kd1), tx1, (ow1, oa1), xs1), (e1, DescV.mk dk1 dn1 dl1, n1, li1, tt1, ys1), fr1, to1) ((wh1, at1), (ki1, (kn1, kd1), tx2, (ow2, oa2), xs2), (e2, DescV.mk dk2 dn2 dl2, n2, li2, tt2, ys2), fr1, to1) = false) := Lib.hid (by simp [oneB, qtx])
                  have hb := bytes_ne qtx
                  clear HX1 HX2 HD1 HD2 HY1 HY2
                  go_enter Try.func23, Try.ntmps23
                  go_upto_region 1 with (fail)
                  simp only [List.append_eq, List.cons_append, List.nil_append]
                  go_wp2_with fail
                  go_ret
                  exact ⟨by rw [HR.out]; rfl, HB.out⟩
              · have HR : Hid (oneB ((wh1, at1), (ki1, (kn1, kd1), tx1, (ow1, oa1), xs1), (e1, DescV.mk dk1 dn1 dl1, n1, li1, tt1, ys1), fr1, to1) ((wh1, at1), (ki1, (kn1, kd2), tx2, (ow2, oa2), xs2), (e2, DescV.mk dk2 dn2 dl2, n2, li2, tt2, ys2), fr1, to1) = false) := Lib.hid (by simp [oneB, qkd])
                have hb : (kd1 == kd2) = false := by simpa using qkd
                clear HX1 HX2 HD1 HD2 HY1 HY2
                go_enter Try.func23, Try.ntmps23
                go_upto_region 1 with (fail)
                simp only [List.append_eq, List.cons_append, List.nil_append]
                go_wp2_with fail
                go_ret
                exact ⟨by rw [HR.out]; rfl, HB.out⟩
            · have HR : Hid (oneB ((wh1, at1), (ki1, (kn1, kd1), tx1, (ow1, oa1), xs1), (e1, DescV.mk dk1 dn1 dl1, n1, li1, tt1, ys1), fr1, to1) ((wh1, at1), (ki1, (kn2, kd2), tx2, (ow2, oa2), xs2), (e2, DescV.mk dk2 dn2 dl2, n2, li2, tt2, ys2), fr1, to1) = false) := Lib.hid (by simp [oneB, qkn])
              have hb : (kn1 == kn2) = false := by simpa using qkn
              clear HX1 HX2 HD1 HD2 HY1 HY2
              go_enter Try.func23, Try.ntmps23
              go_upto_region 1 with (fail)
              simp only [List.append_eq, List.cons_append, List.nil_append]
              go_wp2_with fail
              go_ret
              exact ⟨by rw [HR.out]; rfl, HB.out⟩
          · have HR : Hid (oneB ((wh1, at1), (ki1, (kn1, kd1), tx1, (ow1, oa1), xs1), (e1, DescV.mk dk1 dn1 dl1, n1, li1, tt1, ys1), fr1, to1) ((wh1, at1), (ki2, (kn2, kd2), tx2, (ow2, oa2), xs2), (e2, DescV.mk dk2 dn2 dl2, n2, li2, tt2, ys2), fr1, to1) = false) := Lib.hid (by simp [oneB, qki])
            have hb : (ki1 == ki2) = false := by simpa using qki
            clear HX1 HX2 HD1 HD2 HY1 HY2
            go_enter Try.func23, Try.ntmps23
            go_upto_region 1 with (fail)
            simp only [List.append_eq, List.cons_append, List.nil_append]
            go_wp2_with fail
            go_ret
            exact ⟨by rw [HR.out]; rfl, HB.out⟩
        · have HR : Hid (oneB ((wh1, at1), (ki1, (kn1, kd1), tx1, (ow1, oa1), xs1), (e1, DescV.mk dk1 dn1 dl1, n1, li1, tt1, ys1), fr1, to1) ((wh1, at1), (ki2, (kn2, kd2), tx2, (ow2, oa2), xs2), (e2, DescV.mk dk2 dn2 dl2, n2, li2, tt2, ys2), fr1, to2) = false) := Lib.hid (by simp [oneB, qto])
          have hb : (to1 == to2) = false := by simpa using qto
          clear HX1 HX2 HD1 HD2 HY1 HY2
          go_enter Try.func23, Try.ntmps23
          go_upto_region 1 with (fail)
          simp only [List.append_eq, List.cons_append, List.nil_append]
          go_wp2_with fail
          go_ret
          exact ⟨by rw [HR.out]; rfl, HB.out⟩
      · have HR : Hid (oneB ((wh1, at1), (ki1, (kn1, kd1), tx1, (ow1, oa1), xs1), (e1, DescV.mk dk1 dn1 dl1, n1, li1, tt1, ys1), fr1, to1) ((wh1, at1), (ki2, (kn2, kd2), tx2, (ow2, oa2), xs2), (e2, DescV.mk dk2 dn2 dl2, n2, li2, tt2, ys2), fr2, to2) = false) := Lib.hid (by simp [oneB, qfr])
        have hb : (fr1 == fr2) = false := by simpa using qfr
        clear HX1 HX2 HD1 HD2 HY1 HY2
        go_enter Try.func23, Try.ntmps23
        go_upto_region 1 with (fail)
        simp only [List.append_eq, List.cons_append, List.nil_append]
        go_wp2_with fail
        go_ret
        exact ⟨by rw [HR.out]; rfl, HB.out⟩
    · have HR : Hid (oneB ((wh1, at1), (ki1, (kn1, kd1), tx1, (ow1, oa1), xs1), (e1, DescV.mk dk1 dn1 dl1, n1, li1, tt1, ys1), fr1, to1) ((wh1, at2), (ki2, (kn2, kd2), tx2, (ow2, oa2), xs2), (e2, DescV.mk dk2 dn2 dl2, n2, li2, tt2, ys2), fr2, to2) = false) := Lib.hid (by simp [oneB, qat])
      have hb : (at1 == at2) = false := by simpa using qat
      clear HX1 HX2 HD1 HD2 HY1 HY2
      go_enter Try.func23, Try.ntmps23
      go_upto_region 1 with (fail)
      simp only [List.append_eq, List.cons_append, List.nil_append]
      go_wp2_with fail
      go_ret
      exact ⟨by rw [HR.out]; rfl, HB.out⟩
  · have HR : Hid (oneB ((wh1, at1), (ki1, (kn1, kd1), tx1, (ow1, oa1), xs1), (e1, DescV.mk dk1 dn1 dl1, n1, li1, tt1, ys1), fr1, to1) ((wh2, at2), (ki2, (kn2, kd2), tx2, (ow2, oa2), xs2), (e2, DescV.mk dk2 dn2 dl2, n2, li2, tt2, ys2), fr2, to2) = false) := Lib.hid (by simp [oneB, qwh])
    have hb : (wh1 == wh2) = false := by simpa using qwh
    clear HX1 HX2 HD1 HD2 HY1 HY2
    go_enter Try.func23, Try.ntmps23
    go_upto_region 1 with (fail)
    simp only [List.append_eq, List.cons_append, List.nil_append]
    go_wp2_with fail
    go_ret
    exact ⟨by rw [HR.out]; rfl, HB.out⟩
end Go.Proofs.Ytbijacoiblbnfaa
