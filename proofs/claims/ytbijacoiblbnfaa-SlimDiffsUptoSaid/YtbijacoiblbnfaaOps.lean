/- Rows of calls: read, compared (printed by tools/mk_ops.py). -/
import Derived.Test.YtbijacoiblbnfaaOneH
import Derived.Test.YtbijacoiblbnfaaRow
import Derived.Deep.MidRow
import Derived.KernelRfl
namespace Go.Proofs.Ytbijacoiblbnfaa
open Go.RowKit
set_option linter.unusedSimpArgs false
set_option linter.unusedVariables false
abbrev callR : Rd (Int × (Int × Int) × ByteArray × (Int × Int) × List Int) := .pair (.int .i64) (.pair (.pair (.int .i64) (.int .i64)) (.pair .str (.pair (.pair (.int .i64) (.int .i64)) (.slice (.int .u64) 1 8))))
theorem callR_ok : callR.Ok 7 := Rd.pair_ok (Rd.int_ok _) (Rd.pair_ok (Rd.pair_ok (Rd.int_ok _) (Rd.int_ok _)) (Rd.pair_ok Rd.str_ok (Rd.pair_ok (Rd.pair_ok (Rd.int_ok _) (Rd.int_ok _)) (Rd.slice_ok (Rd.int_ok _) 8))))
abbrev opRd (k : Nat) : Rd OpV := .pair (.pair (.int .i64) (.int .i64)) (.pair callR (.pair (toldRd k) (.pair (.int .i64) (.int .i64))))
theorem opRd_ok (k : Nat) : (opRd k).Ok 19 := Rd.pair_ok (Rd.pair_ok (Rd.int_ok _) (Rd.int_ok _)) (Rd.pair_ok callR_ok (Rd.pair_ok (toldRd_ok k) (Rd.pair_ok (Rd.int_ok _) (Rd.int_ok _))))
theorem descRd_cells {k : Nat} {F : Foot} {w : World} {cs : List Value} {d : DescV} (h : descRd k F w cs d) : ∃ a n c, cs = [.int .i64 d.kind, .int .i64 d.n, .slice a n c] ∧ RowOf (descRd k) 3 40 F w a n c d.kids := by
  cases k with
  | zero => exact h.elim
  | succ k =>
    obtain ⟨a, n, c, h1, _, _, h4⟩ := h
    exact ⟨a, n, c, h1, h4.imp fun _ _ h => descRd_succ k h⟩
set_option maxRecDepth 100000 in
/-- An element of a row of calls. -/
theorem RowOf.op {k : Nat} {F : Foot} {w : World} {a : Option Addr} {n cap : Nat} {l : List OpV} (h : RowOf (opRd k) 19 216 F w a n cap l) (i : Nat) (hi : i < l.length) :
    ∃ b o, b < w.heap.size ∧ F b ∧ ∃ wh1 at1 ki1 kn1 kd1 tx1 ow1 oa1 xs1 e1 dk1 dn1 dl1 n1 li1 tt1 ys1 fr1 to1 xa1 xm1 xc1 da1 dm1 dc1 ya1 ym1 yc1, a = some ⟨b, o, none⟩ ∧ l[i] = ((wh1, at1), (ki1, (kn1, kd1), tx1, (ow1, oa1), xs1), (e1, DescV.mk dk1 dn1 dl1, n1, li1, tt1, ys1), fr1, to1) ∧
      (∀ j u, ([.int .i64 wh1, .int .i64 at1, .int .i64 ki1, .int .i64 kn1, .int .i64 kd1, .string tx1, .int .i64 ow1, .int .i64 oa1, .slice xa1 xm1 xc1, .int .i64 e1, .int .i64 dk1, .int .i64 dn1, .slice da1 dm1 dc1, .int .i64 n1, .int .i64 li1, .string tt1, .slice ya1 ym1 yc1, .int .i64 fr1, .int .i64 to1] : List Value)[j]? = some u → w.cell? ⟨b, o + i * 19 + j, none⟩ = some u) ∧ RowOf (Rd.int .u64) 1 8 F w xa1 xm1 xc1 xs1 ∧ RowOf (descRd k) 3 40 F w da1 dm1 dc1 dl1 ∧ RowOf (Rd.int .u64) 1 8 F w ya1 ym1 yc1 ys1 ∧ opRd k F w [.int .i64 wh1, .int .i64 at1, .int .i64 ki1, .int .i64 kn1, .int .i64 kd1, .string tx1, .int .i64 ow1, .int .i64 oa1, .slice xa1 xm1 xc1, .int .i64 e1, .int .i64 dk1, .int .i64 dn1, .slice da1 dm1 dc1, .int .i64 n1, .int .i64 li1, .string tt1, .slice ya1 ym1 yc1, .int .i64 fr1, .int .i64 to1] ((wh1, at1), (ki1, (kn1, kd1), tx1, (ow1, oa1), xs1), (e1, DescV.mk dk1 dn1 dl1, n1, li1, tt1, ys1), fr1, to1) := by
  obtain ⟨b, o, cs, h1, h2, hF, _, h4, h5⟩ := h.at_ i _ (List.getElem?_eq_getElem hi)
  generalize l[i] = x at h5
  obtain ⟨⟨wh, at'⟩, ⟨ki, ⟨kn, kd⟩, tx, ⟨ow, oa⟩, xs⟩, ⟨e, d, n, li, tt, ys⟩, fr, tz⟩ := x
  have h6 := h5
  obtain ⟨_, _, rfl, ⟨_, _, rfl, ⟨rfl, _⟩, rfl, _⟩, _, _, rfl, ⟨_, _, rfl, ⟨rfl, _⟩, _, _, rfl, ⟨_, _, rfl, ⟨rfl, _⟩, rfl, _⟩, _, _, rfl, ⟨rfl, _⟩, _, _, rfl, ⟨_, _, rfl, ⟨rfl, _⟩, rfl, _⟩, xa, xm, xc, rfl, hx⟩, _, _, rfl, ⟨_, _, rfl, ⟨rfl, _⟩, _, _, rfl, hd, _, _, rfl, ⟨rfl, _⟩, _, _, rfl, ⟨rfl, _⟩, _, _, rfl, ⟨rfl, _⟩, ya, ym, yc, rfl, hy⟩, _, _, rfl, ⟨rfl, _⟩, rfl, _⟩ := h5
  obtain ⟨da, dm, dc, rfl, hk⟩ := descRd_cells hd
  obtain ⟨dk, dn, dl⟩ := d
  exact ⟨b, o, h2, hF, wh, at', ki, kn, kd, tx, ow, oa, xs, e, dk, dn, dl, n, li, tt, ys, fr, tz, xa, xm, xc, da, dm, dc, ya, ym, yc, h1, rfl, fun j u hu => h4 j u hu, hx, hk, hy, h6⟩
theorem one19 {wh at' ki kn kd ow oa e dk dn n li fr tz : Int} {tx tt : ByteArray} {xa da ya : Option Addr} {xm xc dm dc ym yc : Nat} :
    ∀ v ∈ [Value.int .i64 wh, .int .i64 at', .int .i64 ki, .int .i64 kn, .int .i64 kd, .string tx, .int .i64 ow, .int .i64 oa, .slice xa xm xc, .int .i64 e, .int .i64 dk, .int .i64 dn, .slice da dm dc, .int .i64 n, .int .i64 li, .string tt, .slice ya ym yc, .int .i64 fr, .int .i64 tz], v.oneCell' = true := by
  intro v hv
  simp only [List.mem_cons, List.not_mem_nil, or_false] at hv
  rcases hv with rfl | rfl | rfl | rfl | rfl | rfl | rfl | rfl | rfl | rfl | rfl | rfl | rfl | rfl | rfl | rfl | rfl | rfl | rfl <;> rfl
def opsB : List OpV → List OpV → Bool
  | [], [] => true
  | a :: l, b :: m => oneB a b && opsB l m
  | _, _ => false
theorem opsB_len : ∀ {l m : List OpV}, l.length ≠ m.length → opsB l m = false
  | [], [], h => absurd rfl h
  | _ :: _, [], _ => rfl
  | [], _ :: _, _ => rfl
  | a :: l, b :: m, h => by rw [opsB, opsB_len (l := l) (m := m) (by simpa using h)]; simp
theorem opsB_drop {l m : List OpV} {i : Nat} (h : i < l.length) (h' : i < m.length) : opsB (l.drop i) (m.drop i) = (oneB l[i] m[i] && opsB (l.drop (i + 1)) (m.drop (i + 1))) := by
  rw [List.drop_eq_getElem_cons h, List.drop_eq_getElem_cons h', opsB]
theorem opsB_end {l m : List OpV} {i : Nat} (h : l.length ≤ i) (h' : m.length ≤ i) : opsB (l.drop i) (m.drop i) = true := by
  rw [List.drop_of_length_le h, List.drop_of_length_le h', opsB]
set_option maxRecDepth 100000 in
set_option maxHeartbeats 16000000 in
theorem eqf_any (k : Nat) (F G : Foot) (l m : List OpV) (a b : Option Addr) (n n' c c' : Nat) (w : World) (hl : RowOf (opRd k) 19 216 F w a n c l) (hm : RowOf (opRd k) 19 216 G w b n' c' m) :
    Calls Try.prog 38 #[.slice a n c, .slice b n' c', .func (.func 39) #[] #[]] w fun e w' => e = .returned (.bool (opsB l m)) ∧ Below w.heap.size w w' := by
  have hn := hl.room
  have HL := Lib.hid hl
  have HM := Lib.hid hm
  by_cases hnn : n = n'
  · subst hnn
    clear hl hm
    go_enter Try.func38, Try.ntmps38
    go_wp2_with fail
    go_loopg [17] n (fun g iv wr => ∃ i : Nat, i ≤ n ∧ g = n - i ∧ iv = .int .i64 i ∧ opsB l m = opsB (l.drop i) (m.drop i) ∧ Below w.heap.size w wr)
    case atStart => exact ⟨0, by omega, rfl, rfl, rfl, Below.refl _ _⟩
    case round =>
      obtain ⟨i, hi, rfl, rfl, hc, hB⟩ := hrel
      obtain ⟨wo, rfl⟩ : ∃ wo : World, wo = wr := ⟨_, rfl⟩
      have HC := Lib.hid hc
      have HB := Lib.hid hB
      clear hc hB
      by_cases hlt : i < n
      · have HST := Lib.hid (opsB_drop (l := l) (m := m) (i := i) (by have := HL.out.len; omega) (by have := HM.out.len; omega))
        obtain ⟨b1, o1, hb1, _, wh1, at1, ki1, kn1, kd1, tx1, ow1, oa1, xs1, e1, dk1, dn1, dl1, n1, li1, tt1, ys1, fr1, to1, xa1, xm1, xc1, da1, dm1, dc1, ya1, ym1, yc1, rfl, hv1, hc1, hx1, hd1, hy1, _⟩ := (HL.out.keep (opRd_ok _) (Fix.of_below HB.out)).op i (by have := HL.out.len; omega)
        have HV1 := Lib.hid hv1
        have HX1 := Lib.hid hx1
        have HD1 := Lib.hid hd1
        have HY1 := Lib.hid hy1
        have hr1 : wo.rangeAt b1 (o1 + i * 19) [.int .i64 wh1, .int .i64 at1, .int .i64 ki1, .int .i64 kn1, .int .i64 kd1, .string tx1, .int .i64 ow1, .int .i64 oa1, .slice xa1 xm1 xc1, .int .i64 e1, .int .i64 dk1, .int .i64 dn1, .slice da1 dm1 dc1, .int .i64 n1, .int .i64 li1, .string tt1, .slice ya1 ym1 yc1, .int .i64 fr1, .int .i64 to1] := fun j u hu => hc1 j u hu
        clear hv1 hx1 hd1 hy1 hc1
        obtain ⟨b2, o2, hb2, _, wh2, at2, ki2, kn2, kd2, tx2, ow2, oa2, xs2, e2, dk2, dn2, dl2, n2, li2, tt2, ys2, fr2, to2, xa2, xm2, xc2, da2, dm2, dc2, ya2, ym2, yc2, rfl, hv2, hc2, hx2, hd2, hy2, _⟩ := (HM.out.keep (opRd_ok _) (Fix.of_below HB.out)).op i (by have := HM.out.len; omega)
        have HV2 := Lib.hid hv2
        have HX2 := Lib.hid hx2
        have HD2 := Lib.hid hd2
        have HY2 := Lib.hid hy2
        have hr2 : wo.rangeAt b2 (o2 + i * 19) [.int .i64 wh2, .int .i64 at2, .int .i64 ki2, .int .i64 kn2, .int .i64 kd2, .string tx2, .int .i64 ow2, .int .i64 oa2, .slice xa2 xm2 xc2, .int .i64 e2, .int .i64 dk2, .int .i64 dn2, .slice da2 dm2 dc2, .int .i64 n2, .int .i64 li2, .string tt2, .slice ya2 ym2 yc2, .int .i64 fr2, .int .i64 to2] := fun j u hu => hc2 j u hu
        clear hv2 hx2 hd2 hy2 hc2
        have HE : Hid (oneB (l[i]'(by have := HL.out.len; omega)) (m[i]'(by have := HM.out.len; omega)) = oneB ((wh1, at1), (ki1, (kn1, kd1), tx1, (ow1, oa1), xs1), (e1, DescV.mk dk1 dn1 dl1, n1, li1, tt1, ys1), fr1, to1) ((wh2, at2), (ki2, (kn2, kd2), tx2, (ow2, oa2), xs2), (e2, DescV.mk dk2 dn2 dl2, n2, li2, tt2, ys2), fr2, to2)) := Lib.hid (by rw [HV1.out, HV2.out])
        rw [HE.out] at HST
        have HR1 := Lib.hid hr1
        have HR2 : Hid ((wo.alloc (.cells #[.int .i64 wh1, .int .i64 at1, .int .i64 ki1, .int .i64 kn1, .int .i64 kd1, .string tx1, .int .i64 ow1, .int .i64 oa1, .slice xa1 xm1 xc1, .int .i64 e1, .int .i64 dk1, .int .i64 dn1, .slice da1 dm1 dc1, .int .i64 n1, .int .i64 li1, .string tt1, .slice ya1 ym1 yc1, .int .i64 fr1, .int .i64 to1] 81)).rangeAt b2 (o2 + i * 19) [.int .i64 wh2, .int .i64 at2, .int .i64 ki2, .int .i64 kn2, .int .i64 kd2, .string tx2, .int .i64 ow2, .int .i64 oa2, .slice xa2 xm2 xc2, .int .i64 e2, .int .i64 dk2, .int .i64 dn2, .slice da2 dm2 dc2, .int .i64 n2, .int .i64 li2, .string tt2, .slice ya2 ym2 yc2, .int .i64 fr2, .int .i64 to2]) := Lib.hid fun j u hu => (Below.cell ((Below.refl _ _).alloc (Nat.le_refl _) _) (p := ⟨b2, o2 + i * 19 + j, none⟩) hb2).trans (hr2 j u hu)
        have HR3 : Hid (((wo.alloc (.cells #[.int .i64 wh1, .int .i64 at1, .int .i64 ki1, .int .i64 kn1, .int .i64 kd1, .string tx1, .int .i64 ow1, .int .i64 oa1, .slice xa1 xm1 xc1, .int .i64 e1, .int .i64 dk1, .int .i64 dn1, .slice da1 dm1 dc1, .int .i64 n1, .int .i64 li1, .string tt1, .slice ya1 ym1 yc1, .int .i64 fr1, .int .i64 to1] 81)).alloc (.cells #[.int .i64 wh2, .int .i64 at2, .int .i64 ki2, .int .i64 kn2, .int .i64 kd2, .string tx2, .int .i64 ow2, .int .i64 oa2, .slice xa2 xm2 xc2, .int .i64 e2, .int .i64 dk2, .int .i64 dn2, .slice da2 dm2 dc2, .int .i64 n2, .int .i64 li2, .string tt2, .slice ya2 ym2 yc2, .int .i64 fr2, .int .i64 to2] 81)).rangeAt wo.heap.size 0 [.int .i64 wh1, .int .i64 at1, .int .i64 ki1, .int .i64 kn1, .int .i64 kd1, .string tx1, .int .i64 ow1, .int .i64 oa1, .slice xa1 xm1 xc1, .int .i64 e1, .int .i64 dk1, .int .i64 dn1, .slice da1 dm1 dc1, .int .i64 n1, .int .i64 li1, .string tt1, .slice ya1 ym1 yc1, .int .i64 fr1, .int .i64 to1]) := Lib.hid fun j u hu => by
          rw [Nat.zero_add]
          refine cell_at (o := j) ((Lib.alloc_old _ _ _ (by simp)).trans (heap_alloc_new wo _)) ?_
          simpa using hu
        have HR4 : Hid (((wo.alloc (.cells #[.int .i64 wh1, .int .i64 at1, .int .i64 ki1, .int .i64 kn1, .int .i64 kd1, .string tx1, .int .i64 ow1, .int .i64 oa1, .slice xa1 xm1 xc1, .int .i64 e1, .int .i64 dk1, .int .i64 dn1, .slice da1 dm1 dc1, .int .i64 n1, .int .i64 li1, .string tt1, .slice ya1 ym1 yc1, .int .i64 fr1, .int .i64 to1] 81)).alloc (.cells #[.int .i64 wh2, .int .i64 at2, .int .i64 ki2, .int .i64 kn2, .int .i64 kd2, .string tx2, .int .i64 ow2, .int .i64 oa2, .slice xa2 xm2 xc2, .int .i64 e2, .int .i64 dk2, .int .i64 dn2, .slice da2 dm2 dc2, .int .i64 n2, .int .i64 li2, .string tt2, .slice ya2 ym2 yc2, .int .i64 fr2, .int .i64 to2] 81)).rangeAt (wo.heap.size + 1) 0 [.int .i64 wh2, .int .i64 at2, .int .i64 ki2, .int .i64 kn2, .int .i64 kd2, .string tx2, .int .i64 ow2, .int .i64 oa2, .slice xa2 xm2 xc2, .int .i64 e2, .int .i64 dk2, .int .i64 dn2, .slice da2 dm2 dc2, .int .i64 n2, .int .i64 li2, .string tt2, .slice ya2 ym2 yc2, .int .i64 fr2, .int .i64 to2]) := Lib.hid fun j u hu => by
          rw [Nat.zero_add]
          have h := heap_alloc_new (wo.alloc (.cells #[.int .i64 wh1, .int .i64 at1, .int .i64 ki1, .int .i64 kn1, .int .i64 kd1, .string tx1, .int .i64 ow1, .int .i64 oa1, .slice xa1 xm1 xc1, .int .i64 e1, .int .i64 dk1, .int .i64 dn1, .slice da1 dm1 dc1, .int .i64 n1, .int .i64 li1, .string tt1, .slice ya1 ym1 yc1, .int .i64 fr1, .int .i64 to1] 81)) (.cells #[.int .i64 wh2, .int .i64 at2, .int .i64 ki2, .int .i64 kn2, .int .i64 kd2, .string tx2, .int .i64 ow2, .int .i64 oa2, .slice xa2 xm2 xc2, .int .i64 e2, .int .i64 dk2, .int .i64 dn2, .slice da2 dm2 dc2, .int .i64 n2, .int .i64 li2, .string tt2, .slice ya2 ym2 yc2, .int .i64 fr2, .int .i64 to2] 81)
          rw [show (wo.alloc (.cells #[.int .i64 wh1, .int .i64 at1, .int .i64 ki1, .int .i64 kn1, .int .i64 kd1, .string tx1, .int .i64 ow1, .int .i64 oa1, .slice xa1 xm1 xc1, .int .i64 e1, .int .i64 dk1, .int .i64 dn1, .slice da1 dm1 dc1, .int .i64 n1, .int .i64 li1, .string tt1, .slice ya1 ym1 yc1, .int .i64 fr1, .int .i64 to1] 81)).heap.size = wo.heap.size + 1 by simp] at h
          refine cell_at (o := j) h ?_
          simpa using hu
        clear hr1 hr2
        by_cases hz : oneB ((wh1, at1), (ki1, (kn1, kd1), tx1, (ow1, oa1), xs1), (e1, DescV.mk dk1 dn1 dl1, n1, li1, tt1, ys1), fr1, to1) ((wh2, at2), (ki2, (kn2, kd2), tx2, (ow2, oa2), xs2), (e2, DescV.mk dk2 dn2 dl2, n2, li2, tt2, ys2), fr2, to2) = true
        · as_aux_lemma =>
          have HZ := Lib.hid hz
          clear hz
          go_wp2_with (first | (refine wpList_store_new rfl 81 _ _ rfl wo.heap.size rfl [.int .i64 wh1, .int .i64 at1, .int .i64 ki1, .int .i64 kn1, .int .i64 kd1, .string tx1, .int .i64 ow1, .int .i64 oa1, .slice xa1 xm1 xc1, .int .i64 e1, .int .i64 dk1, .int .i64 dn1, .slice da1 dm1 dc1, .int .i64 n1, .int .i64 li1, .string tt1, .slice ya1 ym1 yc1, .int .i64 fr1, .int .i64 to1] rfl rfl rfl (by kernel_rfl) one19 ?_) | (refine wpList_store_new rfl 81 _ _ rfl (wo.heap.size + 1) (by simp) [.int .i64 wh2, .int .i64 at2, .int .i64 ki2, .int .i64 kn2, .int .i64 kd2, .string tx2, .int .i64 ow2, .int .i64 oa2, .slice xa2 xm2 xc2, .int .i64 e2, .int .i64 dk2, .int .i64 dn2, .slice da2 dm2 dc2, .int .i64 n2, .int .i64 li2, .string tt2, .slice ya2 ym2 yc2, .int .i64 fr2, .int .i64 to2] rfl rfl rfl (by kernel_rfl) one19 ?_) | (refine wpList_load_mid rfl 81 _ rfl b1 (o1 + i * 19) rfl [.int .i64 wh1, .int .i64 at1, .int .i64 ki1, .int .i64 kn1, .int .i64 kd1, .string tx1, .int .i64 ow1, .int .i64 oa1, .slice xa1 xm1 xc1, .int .i64 e1, .int .i64 dk1, .int .i64 dn1, .slice da1 dm1 dc1, .int .i64 n1, .int .i64 li1, .string tt1, .slice ya1 ym1 yc1, .int .i64 fr1, .int .i64 to1] _ HR1.out Try.underlying81 rfl (by kernel_rfl) ?_) | (refine wpList_load_mid rfl 81 _ rfl b2 (o2 + i * 19) rfl [.int .i64 wh2, .int .i64 at2, .int .i64 ki2, .int .i64 kn2, .int .i64 kd2, .string tx2, .int .i64 ow2, .int .i64 oa2, .slice xa2 xm2 xc2, .int .i64 e2, .int .i64 dk2, .int .i64 dn2, .slice da2 dm2 dc2, .int .i64 n2, .int .i64 li2, .string tt2, .slice ya2 ym2 yc2, .int .i64 fr2, .int .i64 to2] _ HR2.out Try.underlying81 rfl (by kernel_rfl) ?_) | (refine wpList_load_mid rfl 81 _ rfl wo.heap.size 0 rfl [.int .i64 wh1, .int .i64 at1, .int .i64 ki1, .int .i64 kn1, .int .i64 kd1, .string tx1, .int .i64 ow1, .int .i64 oa1, .slice xa1 xm1 xc1, .int .i64 e1, .int .i64 dk1, .int .i64 dn1, .slice da1 dm1 dc1, .int .i64 n1, .int .i64 li1, .string tt1, .slice ya1 ym1 yc1, .int .i64 fr1, .int .i64 to1] _ HR3.out Try.underlying81 rfl (by kernel_rfl) ?_) | (refine wpList_load_mid rfl 81 _ rfl (wo.heap.size + 1) 0 rfl [.int .i64 wh2, .int .i64 at2, .int .i64 ki2, .int .i64 kn2, .int .i64 kd2, .string tx2, .int .i64 ow2, .int .i64 oa2, .slice xa2 xm2 xc2, .int .i64 e2, .int .i64 dk2, .int .i64 dn2, .slice da2 dm2 dc2, .int .i64 n2, .int .i64 li2, .string tt2, .slice ya2 ym2 yc2, .int .i64 fr2, .int .i64 to2] _ HR4.out Try.underlying81 rfl (by kernel_rfl) ?_) | (go_at_call 39; (with_reducible refine (hone_any k F G wh1 at1 fr1 to1 ki1 kn1 kd1 ow1 oa1 e1 dk1 dn1 n1 li1 wh2 at2 fr2 to2 ki2 kn2 kd2 ow2 oa2 e2 dk2 dn2 n2 li2 tx1 tx2 tt1 tt2 dl1 dl2 xs1 xs2 ys1 ys2 xa1 xa2 da1 da2 ya1 ya2 xm1 xc1 dm1 dc1 ym1 yc1 xm2 xc2 dm2 dc2 ym2 yc2 _ (HX1.out.keep (Rd.int_ok _) ((Fix.alloc _ _ _).trans (Fix.alloc _ _ _))) (HD1.out.keep (descRd_ok _) ((Fix.alloc _ _ _).trans (Fix.alloc _ _ _))) (HY1.out.keep (Rd.int_ok _) ((Fix.alloc _ _ _).trans (Fix.alloc _ _ _))) (HX2.out.keep (Rd.int_ok _) ((Fix.alloc _ _ _).trans (Fix.alloc _ _ _))) (HD2.out.keep (descRd_ok _) ((Fix.alloc _ _ _).trans (Fix.alloc _ _ _))) (HY2.out.keep (Rd.int_ok _) ((Fix.alloc _ _ _).trans (Fix.alloc _ _ _)))).mono ?_); rintro e w2 ⟨he, hb2⟩; rw [HZ.out] at he; subst he; have HB2 := Lib.hid hb2; clear hb2))
          go_roundg (n - (i + 1))
          case measure => omega
          case rel => exact ⟨i + 1, by omega, rfl, by go_num, by rw [HC.out, HST.out, HZ.out]; rfl, HB.out.trans ((((Below.refl _ _).alloc (Nat.le_refl _) _).alloc (by simp) _).trans (HB2.out.mono (by simp; omega)) |>.mono HB.out.size)⟩
        · as_aux_lemma =>
          have HZ := Lib.hid (Bool.eq_false_iff.2 hz)
          clear hz
          go_wp2_with (first | (refine wpList_store_new rfl 81 _ _ rfl wo.heap.size rfl [.int .i64 wh1, .int .i64 at1, .int .i64 ki1, .int .i64 kn1, .int .i64 kd1, .string tx1, .int .i64 ow1, .int .i64 oa1, .slice xa1 xm1 xc1, .int .i64 e1, .int .i64 dk1, .int .i64 dn1, .slice da1 dm1 dc1, .int .i64 n1, .int .i64 li1, .string tt1, .slice ya1 ym1 yc1, .int .i64 fr1, .int .i64 to1] rfl rfl rfl (by kernel_rfl) one19 ?_) | (refine wpList_store_new rfl 81 _ _ rfl (wo.heap.size + 1) (by simp) [.int .i64 wh2, .int .i64 at2, .int .i64 ki2, .int .i64 kn2, .int .i64 kd2, .string tx2, .int .i64 ow2, .int .i64 oa2, .slice xa2 xm2 xc2, .int .i64 e2, .int .i64 dk2, .int .i64 dn2, .slice da2 dm2 dc2, .int .i64 n2, .int .i64 li2, .string tt2, .slice ya2 ym2 yc2, .int .i64 fr2, .int .i64 to2] rfl rfl rfl (by kernel_rfl) one19 ?_) | (refine wpList_load_mid rfl 81 _ rfl b1 (o1 + i * 19) rfl [.int .i64 wh1, .int .i64 at1, .int .i64 ki1, .int .i64 kn1, .int .i64 kd1, .string tx1, .int .i64 ow1, .int .i64 oa1, .slice xa1 xm1 xc1, .int .i64 e1, .int .i64 dk1, .int .i64 dn1, .slice da1 dm1 dc1, .int .i64 n1, .int .i64 li1, .string tt1, .slice ya1 ym1 yc1, .int .i64 fr1, .int .i64 to1] _ HR1.out Try.underlying81 rfl (by kernel_rfl) ?_) | (refine wpList_load_mid rfl 81 _ rfl b2 (o2 + i * 19) rfl [.int .i64 wh2, .int .i64 at2, .int .i64 ki2, .int .i64 kn2, .int .i64 kd2, .string tx2, .int .i64 ow2, .int .i64 oa2, .slice xa2 xm2 xc2, .int .i64 e2, .int .i64 dk2, .int .i64 dn2, .slice da2 dm2 dc2, .int .i64 n2, .int .i64 li2, .string tt2, .slice ya2 ym2 yc2, .int .i64 fr2, .int .i64 to2] _ HR2.out Try.underlying81 rfl (by kernel_rfl) ?_) | (refine wpList_load_mid rfl 81 _ rfl wo.heap.size 0 rfl [.int .i64 wh1, .int .i64 at1, .int .i64 ki1, .int .i64 kn1, .int .i64 kd1, .string tx1, .int .i64 ow1, .int .i64 oa1, .slice xa1 xm1 xc1, .int .i64 e1, .int .i64 dk1, .int .i64 dn1, .slice da1 dm1 dc1, .int .i64 n1, .int .i64 li1, .string tt1, .slice ya1 ym1 yc1, .int .i64 fr1, .int .i64 to1] _ HR3.out Try.underlying81 rfl (by kernel_rfl) ?_) | (refine wpList_load_mid rfl 81 _ rfl (wo.heap.size + 1) 0 rfl [.int .i64 wh2, .int .i64 at2, .int .i64 ki2, .int .i64 kn2, .int .i64 kd2, .string tx2, .int .i64 ow2, .int .i64 oa2, .slice xa2 xm2 xc2, .int .i64 e2, .int .i64 dk2, .int .i64 dn2, .slice da2 dm2 dc2, .int .i64 n2, .int .i64 li2, .string tt2, .slice ya2 ym2 yc2, .int .i64 fr2, .int .i64 to2] _ HR4.out Try.underlying81 rfl (by kernel_rfl) ?_) | (go_at_call 39; (with_reducible refine (hone_any k F G wh1 at1 fr1 to1 ki1 kn1 kd1 ow1 oa1 e1 dk1 dn1 n1 li1 wh2 at2 fr2 to2 ki2 kn2 kd2 ow2 oa2 e2 dk2 dn2 n2 li2 tx1 tx2 tt1 tt2 dl1 dl2 xs1 xs2 ys1 ys2 xa1 xa2 da1 da2 ya1 ya2 xm1 xc1 dm1 dc1 ym1 yc1 xm2 xc2 dm2 dc2 ym2 yc2 _ (HX1.out.keep (Rd.int_ok _) ((Fix.alloc _ _ _).trans (Fix.alloc _ _ _))) (HD1.out.keep (descRd_ok _) ((Fix.alloc _ _ _).trans (Fix.alloc _ _ _))) (HY1.out.keep (Rd.int_ok _) ((Fix.alloc _ _ _).trans (Fix.alloc _ _ _))) (HX2.out.keep (Rd.int_ok _) ((Fix.alloc _ _ _).trans (Fix.alloc _ _ _))) (HD2.out.keep (descRd_ok _) ((Fix.alloc _ _ _).trans (Fix.alloc _ _ _))) (HY2.out.keep (Rd.int_ok _) ((Fix.alloc _ _ _).trans (Fix.alloc _ _ _)))).mono ?_); rintro e w2 ⟨he, hb2⟩; rw [HZ.out] at he; subst he; have HB2 := Lib.hid hb2; clear hb2))
          go_ret
          exact ⟨by rw [HC.out, HST.out, HZ.out]; rfl, HB.out.trans ((((Below.refl _ _).alloc (Nat.le_refl _) _).alloc (by simp) _).trans (HB2.out.mono (by simp; omega)) |>.mono HB.out.size)⟩
      · go_wp2_with fail
        go_ret
        exact ⟨by rw [HC.out, opsB_end (by have := HL.out.len; omega) (by have := HM.out.len; omega)]; rfl, HB.out⟩
  · have hb : decide (n = n') = false := by simpa using hnn
    have hb2 : ((n : Int) != (n' : Int)) = true := by simp; omega
    have HR : Hid (opsB l m = false) := Lib.hid (opsB_len (by rw [hl.len, hm.len]; exact hnn))
    clear hl hm hn
    go_enter Try.func38, Try.ntmps38
    go_wp2_with fail
    go_ret
    exact ⟨by rw [HR.out]; rfl, Below.refl _ _⟩
set_option maxHeartbeats 1000000 in
theorem hsame_any (k : Nat) (F G : Foot) (l m : List OpV) (a b : Option Addr) (n n' c c' : Nat) (w : World) (hl : RowOf (opRd k) 19 216 F w a n c l) (hm : RowOf (opRd k) 19 216 G w b n' c' m) :
    Calls Try.prog 27 #[.slice a n c, .slice b n' c'] w fun e w' => e = .returned (.bool (opsB l m)) ∧ Below w.heap.size w w' := by
  have HL := Lib.hid hl
  have HM := Lib.hid hm
  clear hl hm
  go_enter Try.func27, Try.ntmps27
  go_wp2_with (go_at_call 38; (with_reducible refine (eqf_any k F G l m a b n n' c c' _ HL.out HM.out).mono ?_); rintro e w2 ⟨rfl, hb2⟩)
  go_ret
  exact ⟨rfl, hb2⟩
end Go.Proofs.Ytbijacoiblbnfaa
