/- What two calls told, compared (printed by tools/mk_alike.py). -/
import Derived.Test.YtbijacoiblbnfaaDescR
import Derived.Test.YtbijacoiblbnfaaEq
namespace Go.Proofs.Ytbijacoiblbnfaa
open Go.RowKit
set_option linter.unusedSimpArgs false
set_option linter.unusedVariables false
/-- What a call told, as memory shows it: error, plan, number, line, text, numbers. -/
abbrev ToldV := Int × DescV × Int × Int × ByteArray × List Int
abbrev toldRd (k : Nat) : Rd ToldV := .pair (.int .i64) (.pair (descRd k) (.pair (.int .i64) (.pair (.int .i64) (.pair .str (.slice (.int .u64) 1 8)))))
theorem toldRd_ok (k : Nat) : (toldRd k).Ok 8 := Rd.pair_ok (Rd.int_ok _) (Rd.pair_ok (descRd_ok k) (Rd.pair_ok (Rd.int_ok _) (Rd.pair_ok (Rd.int_ok _) (Rd.pair_ok Rd.str_ok (Rd.slice_ok (Rd.int_ok _) 8)))))
theorem bytes_ne {a b : ByteArray} (h : ¬ a = b) : (a.toList == b.toList) = false := by
  rw [ByteArray.toList_eq, ByteArray.toList_eq, beq_eq_false_iff_ne]
  intro e
  refine h ?_
  obtain ⟨a⟩ := a
  obtain ⟨b⟩ := b
  exact congrArg ByteArray.mk (Array.toList_inj.1 e)
def alikeB (x y : ToldV) : Bool := decide (x.1 = y.1) && (decide (x.2.2.1 = y.2.2.1) && (decide (x.2.2.2.1 = y.2.2.2.1) && (decide (x.2.2.2.2.1 = y.2.2.2.2.1) && (decide (cmpD x.2.1 y.2.1 = 0) && decide (x.2.2.2.2.2 = y.2.2.2.2.2)))))
theorem alikeB_self (x : ToldV) : alikeB x x = true := by simp [alikeB, cmpD_self]
set_option maxRecDepth 100000 in
set_option maxHeartbeats 4000000 in
theorem ralike_any (k : Nat) (F G : Foot) (e1 dk1 dn1 n1 li1 e2 dk2 dn2 n2 li2 : Int) (dl1 dl2 : List DescV) (tx1 tx2 : ByteArray) (ys1 ys2 : List Int) (da1 da2 ya1 ya2 : Option Addr) (dm1 dc1 ym1 yc1 dm2 dc2 ym2 yc2 : Nat) (w : World)
    (hd1 : RowOf (descRd k) 3 40 F w da1 dm1 dc1 dl1) (hy1 : RowOf (Rd.int .u64) 1 8 F w ya1 ym1 yc1 ys1) (hd2 : RowOf (descRd k) 3 40 G w da2 dm2 dc2 dl2) (hy2 : RowOf (Rd.int .u64) 1 8 G w ya2 ym2 yc2 ys2) :
    Calls Try.prog 37 #[.agg #[.int .i64 e1, .int .i64 dk1, .int .i64 dn1, .slice da1 dm1 dc1, .int .i64 n1, .int .i64 li1, .string tx1, .slice ya1 ym1 yc1], .agg #[.int .i64 e2, .int .i64 dk2, .int .i64 dn2, .slice da2 dm2 dc2, .int .i64 n2, .int .i64 li2, .string tx2, .slice ya2 ym2 yc2]] w fun e w' => e = .returned (.bool (alikeB (e1, .mk dk1 dn1 dl1, n1, li1, tx1, ys1) (e2, .mk dk2 dn2 dl2, n2, li2, tx2, ys2))) ∧ Below w.heap.size w w' := by
  have hb0 : Below w.heap.size w ((w.alloc (.cells #[.int .i64 e1, .int .i64 dk1, .int .i64 dn1, .slice da1 dm1 dc1, .int .i64 n1, .int .i64 li1, .string tx1, .slice ya1 ym1 yc1] 79)).alloc (.cells #[.int .i64 e2, .int .i64 dk2, .int .i64 dn2, .slice da2 dm2 dc2, .int .i64 n2, .int .i64 li2, .string tx2, .slice ya2 ym2 yc2] 79)) := ((Below.refl _ _).alloc (Nat.le_refl _) _).alloc (by simp) _
  have HD1 := Lib.hid (hd1.keep (descRd_ok _) (Fix.of_below hb0))
  have HD2 := Lib.hid (hd2.keep (descRd_ok _) (Fix.of_below hb0))
  have HY1 := Lib.hid (hy1.keep (Rd.int_ok _) (Fix.of_below hb0))
  have HY2 := Lib.hid (hy2.keep (Rd.int_ok _) (Fix.of_below hb0))
  have HB := Lib.hid hb0
  clear hd1 hd2 hy1 hy2 hb0
  by_cases qe : e1 = e2
  · subst qe
    by_cases qn : n1 = n2
    · subst qn
      by_cases qli : li1 = li2
      · subst qli
        by_cases qtx : tx1 = tx2
        · subst qtx
          by_cases hz : cmpD (.mk dk1 dn1 dl1) (.mk dk2 dn2 dl2) = 0
          · have HZ := Lib.hid hz
            clear hz
            go_enter Try.func37, Try.ntmps37
            go_wp2_with (first
              | (go_at_call 43; (with_reducible refine (rsame_any k F G dk1 dn1 dk2 dn2 dl1 dl2 da1 da2 dm1 dm2 dc1 dc2 _ HD1.out HD2.out).mono ?_); rintro e w2 ⟨he, hb2⟩; rw [decide_eq_true HZ.out] at he; subst he; obtain ⟨kc, kf⟩ := bcell hb2; have HB2 := Lib.hid hb2; clear hb2)
              | (go_at_call 36; (with_reducible refine (fsame_any ys1 ys2 F G ya1 ya2 ym1 ym2 yc1 yc2 _ (HY1.out.keep (Rd.int_ok _) (Fix.of_below HB2.out)) (HY2.out.keep (Rd.int_ok _) (Fix.of_below HB2.out))).mono ?_); rintro e w3 ⟨rfl, d, rfl⟩))
            go_ret
            exact ⟨by rw [show alikeB (e1, DescV.mk dk1 dn1 dl1, n1, li1, tx1, ys1) (e1, DescV.mk dk2 dn2 dl2, n1, li1, tx1, ys2) = decide (ys1 = ys2) by simp [alikeB, HZ.out]]; rfl, below_drewN (HB.out.trans (HB2.out.mono HB.out.size)) _⟩
          · have HR : Hid (alikeB (e1, DescV.mk dk1 dn1 dl1, n1, li1, tx1, ys1) (e1, DescV.mk dk2 dn2 dl2, n1, li1, tx1, ys2) = false) := Lib.hid (by simp [alikeB, hz])
            have HZ := Lib.hid hz
            clear hz
            go_enter Try.func37, Try.ntmps37
            go_wp2_with (go_at_call 43; (with_reducible refine (rsame_any k F G dk1 dn1 dk2 dn2 dl1 dl2 da1 da2 dm1 dm2 dc1 dc2 _ HD1.out HD2.out).mono ?_); rintro e w2 ⟨he, hb2⟩; rw [decide_eq_false HZ.out] at he; subst he; have HB2 := Lib.hid hb2; clear hb2)
            go_ret
            exact ⟨by rw [HR.out]; rfl, HB.out.trans (HB2.out.mono HB.out.size)⟩
        · have HR : Hid (alikeB (e1, .mk dk1 dn1 dl1, n1, li1, tx1, ys1) (e1, .mk dk2 dn2 dl2, n1, li1, tx2, ys2) = false) := Lib.hid (by simp [alikeB, qtx])
          have hb := bytes_ne qtx
          clear HD1 HD2 HY1 HY2
          go_enter Try.func37, Try.ntmps37
          go_wp2_with fail
          go_ret
          exact ⟨by rw [HR.out]; rfl, HB.out⟩
      · have HR : Hid (alikeB (e1, .mk dk1 dn1 dl1, n1, li1, tx1, ys1) (e1, .mk dk2 dn2 dl2, n1, li2, tx2, ys2) = false) := Lib.hid (by simp [alikeB, qli])
        have hb : (li1 == li2) = false := by simpa using qli
        clear HD1 HD2 HY1 HY2
        go_enter Try.func37, Try.ntmps37
        go_wp2_with fail
        go_ret
        exact ⟨by rw [HR.out]; rfl, HB.out⟩
    · have HR : Hid (alikeB (e1, .mk dk1 dn1 dl1, n1, li1, tx1, ys1) (e1, .mk dk2 dn2 dl2, n2, li2, tx2, ys2) = false) := Lib.hid (by simp [alikeB, qn])
      have hb : (n1 == n2) = false := by simpa using qn
      clear HD1 HD2 HY1 HY2
      go_enter Try.func37, Try.ntmps37
      go_wp2_with fail
      go_ret
      exact ⟨by rw [HR.out]; rfl, HB.out⟩
  · have HR : Hid (alikeB (e1, .mk dk1 dn1 dl1, n1, li1, tx1, ys1) (e2, .mk dk2 dn2 dl2, n2, li2, tx2, ys2) = false) := Lib.hid (by simp [alikeB, qe])
    have hb : (e1 == e2) = false := by simpa using qe
    clear HD1 HD2 HY1 HY2
    go_enter Try.func37, Try.ntmps37
    go_wp2_with fail
    go_ret
    exact ⟨by rw [HR.out]; rfl, HB.out⟩
set_option maxRecDepth 100000 in
set_option maxHeartbeats 4000000 in
theorem malike_any (k : Nat) (F G : Foot) (e1 dk1 dn1 n1 li1 e2 dk2 dn2 n2 li2 : Int) (dl1 dl2 : List DescV) (tx1 tx2 : ByteArray) (ys1 ys2 : List Int) (da1 da2 ya1 ya2 : Option Addr) (dm1 dc1 ym1 yc1 dm2 dc2 ym2 yc2 : Nat) (w : World)
    (hd1 : RowOf (descRd k) 3 40 F w da1 dm1 dc1 dl1) (hy1 : RowOf (Rd.int .u64) 1 8 F w ya1 ym1 yc1 ys1) (hd2 : RowOf (descRd k) 3 40 G w da2 dm2 dc2 dl2) (hy2 : RowOf (Rd.int .u64) 1 8 G w ya2 ym2 yc2 ys2) :
    Calls Try.prog 41 #[.agg #[.int .i64 e1, .int .i64 dk1, .int .i64 dn1, .slice da1 dm1 dc1, .int .i64 n1, .int .i64 li1, .string tx1, .slice ya1 ym1 yc1], .agg #[.int .i64 e2, .int .i64 dk2, .int .i64 dn2, .slice da2 dm2 dc2, .int .i64 n2, .int .i64 li2, .string tx2, .slice ya2 ym2 yc2]] w fun e w' => e = .returned (.bool (alikeB (e1, .mk dk1 dn1 dl1, n1, li1, tx1, ys1) (e2, .mk dk2 dn2 dl2, n2, li2, tx2, ys2))) ∧ Below w.heap.size w w' := by
  have hb0 : Below w.heap.size w ((w.alloc (.cells #[.int .i64 e1, .int .i64 dk1, .int .i64 dn1, .slice da1 dm1 dc1, .int .i64 n1, .int .i64 li1, .string tx1, .slice ya1 ym1 yc1] 79)).alloc (.cells #[.int .i64 e2, .int .i64 dk2, .int .i64 dn2, .slice da2 dm2 dc2, .int .i64 n2, .int .i64 li2, .string tx2, .slice ya2 ym2 yc2] 79)) := ((Below.refl _ _).alloc (Nat.le_refl _) _).alloc (by simp) _
  have HD1 := Lib.hid (hd1.keep (descRd_ok _) (Fix.of_below hb0))
  have HD2 := Lib.hid (hd2.keep (descRd_ok _) (Fix.of_below hb0))
  have HY1 := Lib.hid (hy1.keep (Rd.int_ok _) (Fix.of_below hb0))
  have HY2 := Lib.hid (hy2.keep (Rd.int_ok _) (Fix.of_below hb0))
  have HB := Lib.hid hb0
  clear hd1 hd2 hy1 hy2 hb0
  by_cases qe : e1 = e2
  · subst qe
    by_cases qn : n1 = n2
    · subst qn
      by_cases qli : li1 = li2
      · subst qli
        by_cases qtx : tx1 = tx2
        · subst qtx
          by_cases hz : cmpD (.mk dk1 dn1 dl1) (.mk dk2 dn2 dl2) = 0
          · have HZ := Lib.hid hz
            clear hz
            go_enter Try.func41, Try.ntmps41
            go_wp2_with (first
              | (go_at_call 42; (with_reducible refine (dsame_any k F G dk1 dn1 dk2 dn2 dl1 dl2 da1 da2 dm1 dm2 dc1 dc2 _ HD1.out HD2.out).mono ?_); rintro e w2 ⟨he, hb2⟩; rw [decide_eq_true HZ.out] at he; subst he; obtain ⟨kc, kf⟩ := bcell hb2; have HB2 := Lib.hid hb2; clear hb2)
              | (go_at_call 40; (with_reducible refine (equalU_any ys1 ys2 F G ya1 ya2 ym1 ym2 yc1 yc2 _ (HY1.out.keep (Rd.int_ok _) (Fix.of_below HB2.out)) (HY2.out.keep (Rd.int_ok _) (Fix.of_below HB2.out))).mono ?_); rintro e w3 ⟨rfl, d, rfl⟩))
            go_ret
            exact ⟨by rw [show alikeB (e1, DescV.mk dk1 dn1 dl1, n1, li1, tx1, ys1) (e1, DescV.mk dk2 dn2 dl2, n1, li1, tx1, ys2) = decide (ys1 = ys2) by simp [alikeB, HZ.out]]; rfl, below_drewN (HB.out.trans (HB2.out.mono HB.out.size)) _⟩
          · have HR : Hid (alikeB (e1, DescV.mk dk1 dn1 dl1, n1, li1, tx1, ys1) (e1, DescV.mk dk2 dn2 dl2, n1, li1, tx1, ys2) = false) := Lib.hid (by simp [alikeB, hz])
            have HZ := Lib.hid hz
            clear hz
            go_enter Try.func41, Try.ntmps41
            go_wp2_with (go_at_call 42; (with_reducible refine (dsame_any k F G dk1 dn1 dk2 dn2 dl1 dl2 da1 da2 dm1 dm2 dc1 dc2 _ HD1.out HD2.out).mono ?_); rintro e w2 ⟨he, hb2⟩; rw [decide_eq_false HZ.out] at he; subst he; have HB2 := Lib.hid hb2; clear hb2)
            go_ret
            exact ⟨by rw [HR.out]; rfl, HB.out.trans (HB2.out.mono HB.out.size)⟩
        · have HR : Hid (alikeB (e1, .mk dk1 dn1 dl1, n1, li1, tx1, ys1) (e1, .mk dk2 dn2 dl2, n1, li1, tx2, ys2) = false) := Lib.hid (by simp [alikeB, qtx])
          have hb := bytes_ne qtx
          clear HD1 HD2 HY1 HY2
          go_enter Try.func41, Try.ntmps41
          go_wp2_with fail
          go_ret
          exact ⟨by rw [HR.out]; rfl, HB.out⟩
      · have HR : Hid (alikeB (e1, .mk dk1 dn1 dl1, n1, li1, tx1, ys1) (e1, .mk dk2 dn2 dl2, n1, li2, tx2, ys2) = false) := Lib.hid (by simp [alikeB, qli])
        have hb : (li1 == li2) = false := by simpa using qli
        clear HD1 HD2 HY1 HY2
        go_enter Try.func41, Try.ntmps41
        go_wp2_with fail
        go_ret
        exact ⟨by rw [HR.out]; rfl, HB.out⟩
    · have HR : Hid (alikeB (e1, .mk dk1 dn1 dl1, n1, li1, tx1, ys1) (e1, .mk dk2 dn2 dl2, n2, li2, tx2, ys2) = false) := Lib.hid (by simp [alikeB, qn])
      have hb : (n1 == n2) = false := by simpa using qn
      clear HD1 HD2 HY1 HY2
      go_enter Try.func41, Try.ntmps41
      go_wp2_with fail
      go_ret
      exact ⟨by rw [HR.out]; rfl, HB.out⟩
  · have HR : Hid (alikeB (e1, .mk dk1 dn1 dl1, n1, li1, tx1, ys1) (e2, .mk dk2 dn2 dl2, n2, li2, tx2, ys2) = false) := Lib.hid (by simp [alikeB, qe])
    have hb : (e1 == e2) = false := by simpa using qe
    clear HD1 HD2 HY1 HY2
    go_enter Try.func41, Try.ntmps41
    go_wp2_with fail
    go_ret
    exact ⟨by rw [HR.out]; rfl, HB.out⟩
end Go.Proofs.Ytbijacoiblbnfaa
