/- Two calls compared by the closure of hist.Same (printed by tools/mk_one.py). -/
import Derived.Test.YtbijacoiblbnfaaOne
import Derived.Deep.RegionHeld3
namespace Go.Proofs.Ytbijacoiblbnfaa
open Go.RowKit
set_option linter.unusedSimpArgs false
set_option linter.unusedVariables false
theorem alloc2_fst (W : World) (o1 o2 : Obj) : ((W.alloc o1).alloc o2).drew.heap[W.heap.size]? = some o1 := by
  show ((W.alloc o1).alloc o2).heap[W.heap.size]? = _
  rw [Lib.alloc_old _ _ _ (by simp)]
  exact heap_alloc_new W o1
theorem alloc2_snd (W : World) (o1 o2 : Obj) : ((W.alloc o1).alloc o2).drew.heap[W.heap.size + 1]? = some o2 := by
  show ((W.alloc o1).alloc o2).heap[W.heap.size + 1]? = _
  have := heap_alloc_new (W.alloc o1) o2
  simpa using this
/-- Behind the two copies of calls. -/
def Two (W0 : World) (c d : Array Value) (v5 v6 : Value) (wx : World) : Prop :=
  ∃ C D, v5 = .pointer (some ⟨C, 0, none⟩) ∧ v6 = .pointer (some ⟨D, 0, none⟩) ∧ wx.heap[C]? = some (.cells c 73 (0, 0)) ∧ wx.heap[D]? = some (.cells d 73 (0, 0)) ∧ Below W0.heap.size W0 wx
set_option maxRecDepth 100000 in
set_option maxHeartbeats 16000000 in
theorem hone_any (k : Nat) (F G : Foot) (wh1 at1 fr1 to1 ki1 kn1 kd1 ow1 oa1 e1 dk1 dn1 n1 li1 wh2 at2 fr2 to2 ki2 kn2 kd2 ow2 oa2 e2 dk2 dn2 n2 li2 : Int) (tx1 tx2 tt1 tt2 : ByteArray) (dl1 dl2 : List DescV) (xs1 xs2 ys1 ys2 : List Int) (xa1 xa2 da1 da2 ya1 ya2 : Option Addr) (xm1 xc1 dm1 dc1 ym1 yc1 xm2 xc2 dm2 dc2 ym2 yc2 : Nat) (w : World)
    (hx1 : RowOf (Rd.int .u64) 1 8 F w xa1 xm1 xc1 xs1) (hd1 : RowOf (descRd k) 3 40 F w da1 dm1 dc1 dl1) (hy1 : RowOf (Rd.int .u64) 1 8 F w ya1 ym1 yc1 ys1)
    (hx2 : RowOf (Rd.int .u64) 1 8 G w xa2 xm2 xc2 xs2) (hd2 : RowOf (descRd k) 3 40 G w da2 dm2 dc2 dl2) (hy2 : RowOf (Rd.int .u64) 1 8 G w ya2 ym2 yc2 ys2) :
    Calls Try.prog 39 #[.agg #[.int .i64 wh1, .int .i64 at1, .int .i64 ki1, .int .i64 kn1, .int .i64 kd1, .string tx1, .int .i64 ow1, .int .i64 oa1, .slice xa1 xm1 xc1, .int .i64 e1, .int .i64 dk1, .int .i64 dn1, .slice da1 dm1 dc1, .int .i64 n1, .int .i64 li1, .string tt1, .slice ya1 ym1 yc1, .int .i64 fr1, .int .i64 to1], .agg #[.int .i64 wh2, .int .i64 at2, .int .i64 ki2, .int .i64 kn2, .int .i64 kd2, .string tx2, .int .i64 ow2, .int .i64 oa2, .slice xa2 xm2 xc2, .int .i64 e2, .int .i64 dk2, .int .i64 dn2, .slice da2 dm2 dc2, .int .i64 n2, .int .i64 li2, .string tt2, .slice ya2 ym2 yc2, .int .i64 fr2, .int .i64 to2]] w fun e w' => e = .returned (.bool (oneB ((wh1, at1), (ki1, (kn1, kd1), tx1, (ow1, oa1), xs1), (e1, DescV.mk dk1 dn1 dl1, n1, li1, tt1, ys1), fr1, to1) ((wh2, at2), (ki2, (kn2, kd2), tx2, (ow2, oa2), xs2), (e2, DescV.mk dk2 dn2 dl2, n2, li2, tt2, ys2), fr2, to2))) ∧ Below w.heap.size w w' := by
  obtain ⟨W0, hW0⟩ : ∃ W0, W0 = (w.alloc (.cells #[.int .i64 wh1, .int .i64 at1, .int .i64 ki1, .int .i64 kn1, .int .i64 kd1, .string tx1, .int .i64 ow1, .int .i64 oa1, .slice xa1 xm1 xc1, .int .i64 e1, .int .i64 dk1, .int .i64 dn1, .slice da1 dm1 dc1, .int .i64 n1, .int .i64 li1, .string tt1, .slice ya1 ym1 yc1, .int .i64 fr1, .int .i64 to1] 81)).alloc (.cells #[.int .i64 wh2, .int .i64 at2, .int .i64 ki2, .int .i64 kn2, .int .i64 kd2, .string tx2, .int .i64 ow2, .int .i64 oa2, .slice xa2 xm2 xc2, .int .i64 e2, .int .i64 dk2, .int .i64 dn2, .slice da2 dm2 dc2, .int .i64 n2, .int .i64 li2, .string tt2, .slice ya2 ym2 yc2, .int .i64 fr2, .int .i64 to2] 81) := ⟨_, rfl⟩
  have hb0 : Below w.heap.size w W0 := by rw [hW0]; exact ((Below.refl _ _).alloc (Nat.le_refl _) _).alloc (by simp) _
  have hz : W0.heap.size = w.heap.size + 1 + 1 := by rw [hW0]; simp
  have g0 : W0.heap[w.heap.size]? = some (.cells #[.int .i64 wh1, .int .i64 at1, .int .i64 ki1, .int .i64 kn1, .int .i64 kd1, .string tx1, .int .i64 ow1, .int .i64 oa1, .slice xa1 xm1 xc1, .int .i64 e1, .int .i64 dk1, .int .i64 dn1, .slice da1 dm1 dc1, .int .i64 n1, .int .i64 li1, .string tt1, .slice ya1 ym1 yc1, .int .i64 fr1, .int .i64 to1] 81 (0, 0)) := by
    rw [hW0, Lib.alloc_old _ _ _ (by simp)]
    exact heap_alloc_new w _
  have g1 : W0.heap[w.heap.size + 1]? = some (.cells #[.int .i64 wh2, .int .i64 at2, .int .i64 ki2, .int .i64 kn2, .int .i64 kd2, .string tx2, .int .i64 ow2, .int .i64 oa2, .slice xa2 xm2 xc2, .int .i64 e2, .int .i64 dk2, .int .i64 dn2, .slice da2 dm2 dc2, .int .i64 n2, .int .i64 li2, .string tt2, .slice ya2 ym2 yc2, .int .i64 fr2, .int .i64 to2] 81 (0, 0)) := by
    rw [hW0]
    have := heap_alloc_new (w.alloc (.cells #[.int .i64 wh1, .int .i64 at1, .int .i64 ki1, .int .i64 kn1, .int .i64 kd1, .string tx1, .int .i64 ow1, .int .i64 oa1, .slice xa1 xm1 xc1, .int .i64 e1, .int .i64 dk1, .int .i64 dn1, .slice da1 dm1 dc1, .int .i64 n1, .int .i64 li1, .string tt1, .slice ya1 ym1 yc1, .int .i64 fr1, .int .i64 to1] 81)) (.cells #[.int .i64 wh2, .int .i64 at2, .int .i64 ki2, .int .i64 kn2, .int .i64 kd2, .string tx2, .int .i64 ow2, .int .i64 oa2, .slice xa2 xm2 xc2, .int .i64 e2, .int .i64 dk2, .int .i64 dn2, .slice da2 dm2 dc2, .int .i64 n2, .int .i64 li2, .string tt2, .slice ya2 ym2 yc2, .int .i64 fr2, .int .i64 to2] 81)
    simpa using this
  have HX1 := Lib.hid (hx1.keep (Rd.int_ok _) (Fix.of_below hb0))
  have HX2 := Lib.hid (hx2.keep (Rd.int_ok _) (Fix.of_below hb0))
  have HD1 := Lib.hid (hd1.keep (descRd_ok _) (Fix.of_below hb0))
  have HD2 := Lib.hid (hd2.keep (descRd_ok _) (Fix.of_below hb0))
  have HY1 := Lib.hid (hy1.keep (Rd.int_ok _) (Fix.of_below hb0))
  have HY2 := Lib.hid (hy2.keep (Rd.int_ok _) (Fix.of_below hb0))
  have HB := Lib.hid hb0
  clear hx1 hx2 hd1 hd2 hy1 hy2
  have HG : Hid (∀ W, Below W0.heap.size W0 W → W.heap[w.heap.size]? = some (.cells #[.int .i64 wh1, .int .i64 at1, .int .i64 ki1, .int .i64 kn1, .int .i64 kd1, .string tx1, .int .i64 ow1, .int .i64 oa1, .slice xa1 xm1 xc1, .int .i64 e1, .int .i64 dk1, .int .i64 dn1, .slice da1 dm1 dc1, .int .i64 n1, .int .i64 li1, .string tt1, .slice ya1 ym1 yc1, .int .i64 fr1, .int .i64 to1] 81 (0, 0)) ∧ W.heap[w.heap.size + 1]? = some (.cells #[.int .i64 wh2, .int .i64 at2, .int .i64 ki2, .int .i64 kn2, .int .i64 kd2, .string tx2, .int .i64 ow2, .int .i64 oa2, .slice xa2 xm2 xc2, .int .i64 e2, .int .i64 dk2, .int .i64 dn2, .slice da2 dm2 dc2, .int .i64 n2, .int .i64 li2, .string tt2, .slice ya2 ym2 yc2, .int .i64 fr2, .int .i64 to2] 81 (0, 0))) := Lib.hid fun W hb => ⟨(hb.block _ (by omega)).trans g0, (hb.block _ (by omega)).trans g1⟩
  have HS : Hid (∀ W, Below W0.heap.size W0 W → (W.cell? ⟨w.heap.size, 2, none⟩ = some (.int .i64 ki1) ∧ W.cell? ⟨w.heap.size, 3, none⟩ = some (.int .i64 kn1) ∧ W.cell? ⟨w.heap.size, 4, none⟩ = some (.int .i64 kd1) ∧ W.cell? ⟨w.heap.size, 5, none⟩ = some (.string tx1) ∧ W.cell? ⟨w.heap.size, 6, none⟩ = some (.int .i64 ow1) ∧ W.cell? ⟨w.heap.size, 7, none⟩ = some (.int .i64 oa1) ∧ W.cell? ⟨w.heap.size, 8, none⟩ = some (.slice xa1 xm1 xc1)) ∧ (W.cell? ⟨w.heap.size + 1, 2, none⟩ = some (.int .i64 ki2) ∧ W.cell? ⟨w.heap.size + 1, 3, none⟩ = some (.int .i64 kn2) ∧ W.cell? ⟨w.heap.size + 1, 4, none⟩ = some (.int .i64 kd2) ∧ W.cell? ⟨w.heap.size + 1, 5, none⟩ = some (.string tx2) ∧ W.cell? ⟨w.heap.size + 1, 6, none⟩ = some (.int .i64 ow2) ∧ W.cell? ⟨w.heap.size + 1, 7, none⟩ = some (.int .i64 oa2) ∧ W.cell? ⟨w.heap.size + 1, 8, none⟩ = some (.slice xa2 xm2 xc2))) := Lib.hid fun W hb => by
    obtain ⟨e0, e1⟩ := HG.out W hb
    exact ⟨⟨cell_at (o := 2) e0 rfl, cell_at (o := 3) e0 rfl, cell_at (o := 4) e0 rfl, cell_at (o := 5) e0 rfl, cell_at (o := 6) e0 rfl, cell_at (o := 7) e0 rfl, cell_at (o := 8) e0 rfl⟩, cell_at (o := 2) e1 rfl, cell_at (o := 3) e1 rfl, cell_at (o := 4) e1 rfl, cell_at (o := 5) e1 rfl, cell_at (o := 6) e1 rfl, cell_at (o := 7) e1 rfl, cell_at (o := 8) e1 rfl⟩
  have hbz := Below.refl W0.heap.size W0
  clear hb0 g0 g1 hz
  go_enter Try.func39, Try.ntmps39
  go_upto_region 1 with (fail)
  rw [← hW0]
  clear hW0
  go_cut [5, 6] (fun v5 v6 wx => Two W0 #[.int .i64 ki1, .int .i64 kn1, .int .i64 kd1, .string tx1, .int .i64 ow1, .int .i64 oa1, .slice xa1 xm1 xc1] #[.int .i64 ki2, .int .i64 kn2, .int .i64 kd2, .string tx2, .int .i64 ow2, .int .i64 oa2, .slice xa2 xm2 xc2] v5 v6 wx)
  case first =>
    go_region_held3 (fun W => (W.cell? ⟨w.heap.size, 2, none⟩ = some (.int .i64 ki1) ∧ W.cell? ⟨w.heap.size, 3, none⟩ = some (.int .i64 kn1) ∧ W.cell? ⟨w.heap.size, 4, none⟩ = some (.int .i64 kd1) ∧ W.cell? ⟨w.heap.size, 5, none⟩ = some (.string tx1) ∧ W.cell? ⟨w.heap.size, 6, none⟩ = some (.int .i64 ow1) ∧ W.cell? ⟨w.heap.size, 7, none⟩ = some (.int .i64 oa1) ∧ W.cell? ⟨w.heap.size, 8, none⟩ = some (.slice xa1 xm1 xc1)) ∧ (W.cell? ⟨w.heap.size + 1, 2, none⟩ = some (.int .i64 ki2) ∧ W.cell? ⟨w.heap.size + 1, 3, none⟩ = some (.int .i64 kn2) ∧ W.cell? ⟨w.heap.size + 1, 4, none⟩ = some (.int .i64 kd2) ∧ W.cell? ⟨w.heap.size + 1, 5, none⟩ = some (.string tx2) ∧ W.cell? ⟨w.heap.size + 1, 6, none⟩ = some (.int .i64 ow2) ∧ W.cell? ⟨w.heap.size + 1, 7, none⟩ = some (.int .i64 oa2) ∧ W.cell? ⟨w.heap.size + 1, 8, none⟩ = some (.slice xa2 xm2 xc2))) ((refine HS.out _ ?_; ((repeat' (first | with_reducible assumption | with_reducible refine Below.drew ?_ | (with_reducible refine Below.alloc ?_ ?_ _) | (with_reducible refine Below.setCell ?_ ?_ _))) <;> first | assumption | (simp; done) | (simp; omega)))) (fail)
    all_goals
      go_wp2_with fail
      go_meet
      first
      | exact ⟨_, _, rfl, rfl, alloc2_fst _ _ _, alloc2_snd _ _ _, by ((repeat' (first | with_reducible assumption | with_reducible refine Below.drew ?_ | (with_reducible refine Below.alloc ?_ ?_ _) | (with_reducible refine Below.setCell ?_ ?_ _))) <;> first | assumption | (simp; done) | (simp; omega))⟩
      | exact ⟨_, _, rfl, rfl, alloc2_snd _ _ _, alloc2_fst _ _ _, by ((repeat' (first | with_reducible assumption | with_reducible refine Below.drew ?_ | (with_reducible refine Below.alloc ?_ ?_ _) | (with_reducible refine Below.setCell ?_ ?_ _))) <;> first | assumption | (simp; done) | (simp; omega))⟩
  case rest =>
    obtain ⟨NC, ND, rfl, rfl, gc, gd, hbx⟩ := hcut
    obtain ⟨wx, rfl⟩ : ∃ wx : World, wx = wc := ⟨_, rfl⟩
    obtain ⟨ga, gb⟩ := HG.out wx hbx
    have p0 := cell_at (o := 0) ga rfl
    have p1 := cell_at (o := 1) ga rfl
    have p9 := cell_at (o := 9) ga rfl
    have p10 := cell_at (o := 10) ga rfl
    have p11 := cell_at (o := 11) ga rfl
    have p12 := cell_at (o := 12) ga rfl
    have p13 := cell_at (o := 13) ga rfl
    have p14 := cell_at (o := 14) ga rfl
    have p15 := cell_at (o := 15) ga rfl
    have p16 := cell_at (o := 16) ga rfl
    have p17 := cell_at (o := 17) ga rfl
    have p18 := cell_at (o := 18) ga rfl
    have r0 := cell_at (o := 0) gb rfl
    have r1 := cell_at (o := 1) gb rfl
    have r9 := cell_at (o := 9) gb rfl
    have r10 := cell_at (o := 10) gb rfl
    have r11 := cell_at (o := 11) gb rfl
    have r12 := cell_at (o := 12) gb rfl
    have r13 := cell_at (o := 13) gb rfl
    have r14 := cell_at (o := 14) gb rfl
    have r15 := cell_at (o := 15) gb rfl
    have r16 := cell_at (o := 16) gb rfl
    have r17 := cell_at (o := 17) gb rfl
    have r18 := cell_at (o := 18) gb rfl
    have s0 := cell_at (o := 0) gc rfl
    have s1 := cell_at (o := 1) gc rfl
    have s2 := cell_at (o := 2) gc rfl
    have s3 := cell_at (o := 3) gc rfl
    have s4 := cell_at (o := 4) gc rfl
    have s5 := cell_at (o := 5) gc rfl
    have s6 := cell_at (o := 6) gc rfl
    have t0 := cell_at (o := 0) gd rfl
    have t1 := cell_at (o := 1) gd rfl
    have t2 := cell_at (o := 2) gd rfl
    have t3 := cell_at (o := 3) gd rfl
    have t4 := cell_at (o := 4) gd rfl
    have t5 := cell_at (o := 5) gd rfl
    have t6 := cell_at (o := 6) gd rfl
    replace HX1 := Lib.hid (HX1.out.keep (Rd.int_ok _) (Fix.of_below hbx))
    replace HX2 := Lib.hid (HX2.out.keep (Rd.int_ok _) (Fix.of_below hbx))
    replace HD1 := Lib.hid (HD1.out.keep (descRd_ok _) (Fix.of_below hbx))
    replace HD2 := Lib.hid (HD2.out.keep (descRd_ok _) (Fix.of_below hbx))
    replace HY1 := Lib.hid (HY1.out.keep (Rd.int_ok _) (Fix.of_below hbx))
    replace HY2 := Lib.hid (HY2.out.keep (Rd.int_ok _) (Fix.of_below hbx))
    have HBX := Lib.hid hbx
    clear hbx hbz ga gb gc gd HG HS
    by_cases qwh : wh1 = wh2
    · subst qwh
      by_cases qat : at1 = at2
      · subst qat
        by_cases qfr : fr1 = fr2
        · subst qfr
          by_cases qto : to1 = to2
          · subst qto
            by_cases qki : ki1 = ki2
            · subst qki
              by_cases qkn : kn1 = kn2
              · subst qkn
                by_cases qkd : kd1 = kd2
                · subst qkd
                  by_cases qtx : tx1 = tx2
                  · subst qtx
                    by_cases qow : ow1 = ow2
                    · subst qow
                      by_cases qoa : oa1 = oa2
                      · subst qoa
                        by_cases hxs : xs1 = xs2
                        · have HXS := Lib.hid hxs
                          clear hxs
                          have HR : Hid (oneB ((wh1, at1), (ki1, (kn1, kd1), tx1, (ow1, oa1), xs1), (e1, DescV.mk dk1 dn1 dl1, n1, li1, tt1, ys1), fr1, to1) ((wh1, at1), (ki1, (kn1, kd1), tx1, (ow1, oa1), xs2), (e2, DescV.mk dk2 dn2 dl2, n2, li2, tt2, ys2), fr1, to1) = alikeB (e1, DescV.mk dk1 dn1 dl1, n1, li1, tt1, ys1) (e2, DescV.mk dk2 dn2 dl2, n2, li2, tt2, ys2)) := Lib.hid (by simp [oneB, HXS.out])
                          go_wp2_with (first | (go_at_call 40; (with_reducible refine (equalU_any xs1 xs2 F G xa1 xa2 xm1 xm2 xc1 xc2 _ HX1.out HX2.out).mono ?_); rintro e w2 ⟨he, d, rfl⟩; rw [decide_eq_true HXS.out] at he; subst he) | (go_at_call 41; (with_reducible refine (malike_any k F G e1 dk1 dn1 n1 li1 e2 dk2 dn2 n2 li2 dl1 dl2 tt1 tt2 ys1 ys2 da1 da2 ya1 ya2 dm1 dc1 ym1 yc1 dm2 dc2 ym2 yc2 _ (HD1.out.keep (descRd_ok _) (Fix.drewN _ _ _)) (HY1.out.keep (Rd.int_ok _) (Fix.drewN _ _ _)) (HD2.out.keep (descRd_ok _) (Fix.drewN _ _ _)) (HY2.out.keep (Rd.int_ok _) (Fix.drewN _ _ _))).mono ?_); rintro e w3 ⟨rfl, hb3⟩; have HB3 := Lib.hid hb3; clear hb3))
                          go_ret
                          exact ⟨by rw [HR.out]; rfl, (below_drewN (HB.out.trans (HBX.out.mono HB.out.size)) _).trans (HB3.out.mono (Nat.le_trans HB.out.size HBX.out.size))⟩
                        · have HXS := Lib.hid hxs
                          have HR : Hid (oneB ((wh1, at1), (ki1, (kn1, kd1), tx1, (ow1, oa1), xs1), (e1, DescV.mk dk1 dn1 dl1, n1, li1, tt1, ys1), fr1, to1) ((wh1, at1), (ki1, (kn1, kd1), tx1, (ow1, oa1), xs2), (e2, DescV.mk dk2 dn2 dl2, n2, li2, tt2, ys2), fr1, to1) = false) := Lib.hid (by simp [oneB, hxs])
                          clear hxs
                          go_wp2_with (go_at_call 40; (with_reducible refine (equalU_any xs1 xs2 F G xa1 xa2 xm1 xm2 xc1 xc2 _ HX1.out HX2.out).mono ?_); rintro e w2 ⟨he, d, rfl⟩; rw [decide_eq_false HXS.out] at he; subst he)
                          go_ret
                          exact ⟨by rw [HR.out]; rfl, below_drewN (HB.out.trans (HBX.out.mono HB.out.size)) _⟩
                      · have HR : Hid (oneB ((wh1, at1), (ki1, (kn1, kd1), tx1, (ow1, oa1), xs1), (e1, DescV.mk dk1 dn1 dl1, n1, li1, tt1, ys1), fr1, to1) ((wh1, at1), (ki1, (kn1, kd1), tx1, (ow1, oa2), xs2), (e2, DescV.mk dk2 dn2 dl2, n2, li2, tt2, ys2), fr1, to1) = false) := Lib.hid (by simp [oneB, qoa])
                        have hb : (oa1 == oa2) = false := by simpa using qoa
                        clear HX1 HX2 HD1 HD2 HY1 HY2
                        go_wp2_with fail
                        go_ret
                        exact ⟨by rw [HR.out]; rfl, HB.out.trans (HBX.out.mono HB.out.size)⟩
                    · have HR : Hid (oneB ((wh1, at1), (ki1, (kn1, kd1), tx1, (ow1, oa1), xs1), (e1, DescV.mk dk1 dn1 dl1, n1, li1, tt1, ys1), fr1, to1) ((wh1, at1), (ki1, (kn1, kd1), tx1, (ow2, oa2), xs2), (e2, DescV.mk dk2 dn2 dl2, n2, li2, tt2, ys2), fr1, to1) = false) := Lib.hid (by simp [oneB, qow])
                      have hb : (ow1 == ow2) = false := by simpa using qow
                      clear HX1 HX2 HD1 HD2 HY1 HY2
                      go_wp2_with fail
                      go_ret
                      exact ⟨by rw [HR.out]; rfl, HB.out.trans (HBX.out.mono HB.out.size)⟩
                  · have HR : Hid (oneB ((wh1, at1), (ki1, (kn1, kd1), tx1, (ow1, oa1), xs1), (e1, DescV.mk dk1 dn1 dl1, n1, li1, tt1, ys1), fr1, to1) ((wh1, at1), (ki1, (kn1, kd1), tx2, (ow2, oa2), xs2), (e2, DescV.mk dk2 dn2 dl2, n2, li2, tt2, ys2), fr1, to1) = false) := Lib.hid (by simp [oneB, qtx])
                    have hb := bytes_ne qtx
                    clear HX1 HX2 HD1 HD2 HY1 HY2
                    go_wp2_with fail
                    go_ret
                    exact ⟨by rw [HR.out]; rfl, HB.out.trans (HBX.out.mono HB.out.size)⟩
                · have HR : Hid (oneB ((wh1, at1), (ki1, (kn1, kd1), tx1, (ow1, oa1), xs1), (e1, DescV.mk dk1 dn1 dl1, n1, li1, tt1, ys1), fr1, to1) ((wh1, at1), (ki1, (kn1, kd2), tx2, (ow2, oa2), xs2), (e2, DescV.mk dk2 dn2 dl2, n2, li2, tt2, ys2), fr1, to1) = false) := Lib.hid (by simp [oneB, qkd])
                  have hb : (kd1 == kd2) = false := by simpa using qkd
                  clear HX1 HX2 HD1 HD2 HY1 HY2
                  go_wp2_with fail
                  go_ret
                  exact ⟨by rw [HR.out]; rfl, HB.out.trans (HBX.out.mono HB.out.size)⟩
              · have HR : Hid (oneB ((wh1, at1), (ki1, (kn1, kd1), tx1, (ow1, oa1), xs1), (e1, DescV.mk dk1 dn1 dl1, n1, li1, tt1, ys1), fr1, to1) ((wh1, at1), (ki1, (kn2, kd2), tx2, (ow2, oa2), xs2), (e2, DescV.mk dk2 dn2 dl2, n2, li2, tt2, ys2), fr1, to1) = false) := Lib.hid (by simp [oneB, qkn])
                have hb : (kn1 == kn2) = false := by simpa using qkn
                clear HX1 HX2 HD1 HD2 HY1 HY2
                go_wp2_with fail
                go_ret
                exact ⟨by rw [HR.out]; rfl, HB.out.trans (HBX.out.mono HB.out.size)⟩
            · have HR : Hid (oneB ((wh1, at1), (ki1, (kn1, kd1), tx1, (ow1, oa1), xs1), (e1, DescV.mk dk1 dn1 dl1, n1, li1, tt1, ys1), fr1, to1) ((wh1, at1), (ki2, (kn2, kd2), tx2, (ow2, oa2), xs2), (e2, DescV.mk dk2 dn2 dl2, n2, li2, tt2, ys2), fr1, to1) = false) := Lib.hid (by simp [oneB, qki])
              have hb : (ki1 == ki2) = false := by simpa using qki
              clear HX1 HX2 HD1 HD2 HY1 HY2
              go_wp2_with fail
              go_ret
              exact ⟨by rw [HR.out]; rfl, HB.out.trans (HBX.out.mono HB.out.size)⟩
          · have HR : Hid (oneB ((wh1, at1), (ki1, (kn1, kd1), tx1, (ow1, oa1), xs1), (e1, DescV.mk dk1 dn1 dl1, n1, li1, tt1, ys1), fr1, to1) ((wh1, at1), (ki2, (kn2, kd2), tx2, (ow2, oa2), xs2), (e2, DescV.mk dk2 dn2 dl2, n2, li2, tt2, ys2), fr1, to2) = false) := Lib.hid (by simp [oneB, qto])
            have hb : (to1 == to2) = false := by simpa using qto
            clear HX1 HX2 HD1 HD2 HY1 HY2
            go_wp2_with fail
            go_ret
            exact ⟨by rw [HR.out]; rfl, HB.out.trans (HBX.out.mono HB.out.size)⟩
        · have HR : Hid (oneB ((wh1, at1), (ki1, (kn1, kd1), tx1, (ow1, oa1), xs1), (e1, DescV.mk dk1 dn1 dl1, n1, li1, tt1, ys1), fr1, to1) ((wh1, at1), (ki2, (kn2, kd2), tx2, (ow2, oa2), xs2), (e2, DescV.mk dk2 dn2 dl2, n2, li2, tt2, ys2), fr2, to2) = false) := Lib.hid (by simp [oneB, qfr])
          have hb : (fr1 == fr2) = false := by simpa using qfr
          clear HX1 HX2 HD1 HD2 HY1 HY2
          go_wp2_with fail
          go_ret
          exact ⟨by rw [HR.out]; rfl, HB.out.trans (HBX.out.mono HB.out.size)⟩
      · have HR : Hid (oneB ((wh1, at1), (ki1, (kn1, kd1), tx1, (ow1, oa1), xs1), (e1, DescV.mk dk1 dn1 dl1, n1, li1, tt1, ys1), fr1, to1) ((wh1, at2), (ki2, (kn2, kd2), tx2, (ow2, oa2), xs2), (e2, DescV.mk dk2 dn2 dl2, n2, li2, tt2, ys2), fr2, to2) = false) := Lib.hid (by simp [oneB, qat])
        have hb : (at1 == at2) = false := by simpa using qat
        clear HX1 HX2 HD1 HD2 HY1 HY2
        go_wp2_with fail
        go_ret
        exact ⟨by rw [HR.out]; rfl, HB.out.trans (HBX.out.mono HB.out.size)⟩
    · have HR : Hid (oneB ((wh1, at1), (ki1, (kn1, kd1), tx1, (ow1, oa1), xs1), (e1, DescV.mk dk1 dn1 dl1, n1, li1, tt1, ys1), fr1, to1) ((wh2, at2), (ki2, (kn2, kd2), tx2, (ow2, oa2), xs2), (e2, DescV.mk dk2 dn2 dl2, n2, li2, tt2, ys2), fr2, to2) = false) := Lib.hid (by simp [oneB, qwh])
      have hb : (wh1 == wh2) = false := by simpa using qwh
      clear HX1 HX2 HD1 HD2 HY1 HY2
      go_wp2_with fail
      go_ret
      exact ⟨by rw [HR.out]; rfl, HB.out.trans (HBX.out.mono HB.out.size)⟩
end Go.Proofs.Ytbijacoiblbnfaa
