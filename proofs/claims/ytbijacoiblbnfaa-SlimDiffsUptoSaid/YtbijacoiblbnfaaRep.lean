/- Two reports compared by slim.Same (printed by tools/mk_rep.py). -/
import Derived.Test.YtbijacoiblbnfaaDiff3
import Derived.Test.YtbijacoiblbnfaaFirstE
import Derived.Test.YtbijacoiblbnfaaFirstK
import Derived.Test.YtbijacoiblbnfaaFirstH
import Derived.Deep.DeepCutAuto
namespace Go.Proofs.Ytbijacoiblbnfaa
open Go.RowKit
set_option linter.unusedSimpArgs false
set_option linter.unusedVariables false
set_option maxRecDepth 100000 in
set_option maxHeartbeats 4000000 in
/-- The pending ones differ. -/
theorem rep_pend (p1 p2 : Int) (oa ob ka qa ra ta ua va hb : Option Addr) (on oc om od kn kc qn qc rn rc tn tc un uc vn vc hn hc : Nat) (w : World) (hp : p1 ≠ p2) :
    Calls Try.prog 19 #[.agg #[.slice oa on oc, .slice none 0 0, .int .i64 p1, .slice ka kn kc, .slice qa qn qc, .slice ta tn tc, .slice ua un uc, .int .i64 0, .int .i64 0, .int .i64 0, .int .i64 0, .slice none 0 0], .agg #[.slice ob om od, .slice none 0 0, .int .i64 p2, .slice ka kn kc, .slice ra rn rc, .slice ta tn tc, .slice va vn vc, .int .i64 0, .int .i64 0, .int .i64 0, .int .i64 0, .slice hb hn hc]] w fun e w' => e = .returned (.bool false) ∧ Below w.heap.size w w' := by
  have hb1 : (p1 != p2) = true := by simpa using hp
  go_enter Try.func19, Try.ntmps19
  go_wp2_with fail
  go_ret
  exact ⟨rfl, ((Below.refl _ _).alloc (Nat.le_refl _) _).alloc (by simp) _⟩
set_option maxRecDepth 100000 in
set_option maxHeartbeats 8000000 in
/-- The calls differ, or nothing else does but uses, kept, handles. -/
theorem rep_rest (k : Nat) (p1 : Int) (oa ob ka qa ra ta ua va hb : Option Addr) (on oc om od kn kc qn qc rn rc tn tc un uc vn vc hn hc : Nat) (lo lp : List OpV) (le : List EntryV) (lq lr : List (List KeyV)) (lt : List NameV) (lu lv : List Int) (w : World)
    (ho1 : RowOf (opRd k) 19 216 All w oa on oc lo) (ho2 : RowOf (opRd k) 19 216 All w ob om od lp) (hd : ¬ diffI lo lp 0 < 0) :
    Calls Try.prog 19 #[.agg #[.slice oa on oc, .slice none 0 0, .int .i64 p1, .slice ka kn kc, .slice qa qn qc, .slice ta tn tc, .slice ua un uc, .int .i64 0, .int .i64 0, .int .i64 0, .int .i64 0, .slice none 0 0], .agg #[.slice ob om od, .slice none 0 0, .int .i64 p1, .slice ka kn kc, .slice ra rn rc, .slice ta tn tc, .slice va vn vc, .int .i64 0, .int .i64 0, .int .i64 0, .int .i64 0, .slice hb hn hc]] w fun e w' => e = .returned (.bool false) ∧ Below w.heap.size w w' := by
  have hb0 : Below w.heap.size w ((w.alloc (.cells #[.slice oa on oc, .slice none 0 0, .int .i64 p1, .slice ka kn kc, .slice qa qn qc, .slice ta tn tc, .slice ua un uc, .int .i64 0, .int .i64 0, .int .i64 0, .int .i64 0, .slice none 0 0] 61)).alloc (.cells #[.slice ob om od, .slice none 0 0, .int .i64 p1, .slice ka kn kc, .slice ra rn rc, .slice ta tn tc, .slice va vn vc, .int .i64 0, .int .i64 0, .int .i64 0, .int .i64 0, .slice hb hn hc] 61)) := ((Below.refl _ _).alloc (Nat.le_refl _) _).alloc (by simp) _
  have HO1 := Lib.hid (ho1.keep (opRd_ok _) (Fix.of_below hb0))
  have HO2 := Lib.hid (ho2.keep (opRd_ok _) (Fix.of_below hb0))
  have HB := Lib.hid hb0
  have hge : 0 ≤ diffI lo lp 0 := by omega
  clear ho1 ho2 hb0 hd
  go_enter Try.func19, Try.ntmps19
  go_wp2_with (go_at_call 18; (with_reducible refine (diff_any k lo lp oa ob on om oc od _ HO1.out HO2.out).mono ?_); rintro e w2 ⟨rfl, hb2⟩; have HB2 := Lib.hid hb2; clear hb2)
  go_ret
  exact ⟨rfl, HB.out.trans (HB2.out.mono HB.out.size)⟩
set_option maxRecDepth 100000 in
set_option maxHeartbeats 8000000 in
/-- The uses differ. -/
theorem rep_uses (k : Nat) (p1 : Int) (oa ob ka qa ra ta ua va hb : Option Addr) (on oc om od kn kc qn qc rn rc tn tc un uc vn vc hc : Nat) (lo lp : List OpV) (le : List EntryV) (lq lr : List (List KeyV)) (lt : List NameV) (lu lv : List Int) (w : World)
    (ho1 : RowOf (opRd k) 19 216 All w oa on oc lo) (ho2 : RowOf (opRd k) 19 216 All w ob om od lp) (hk : RowOf (entryRd k) 5 56 All w ka kn kc le) (hq : RowOf rowK 1 24 All w qa qn qc lq) (hr : RowOf rowK 1 24 All w ra rn rc lr) (ht : RowOf nameRd 4 32 All w ta tn tc lt)
    (hu : RowOf (Rd.int .i64) 1 8 All w ua un uc lu) (hv : RowOf (Rd.int .i64) 1 8 All w va vn vc lv) (hd : diffI lo lp 0 < 0) (hx : lu ≠ lv) :
    Calls Try.prog 19 #[.agg #[.slice oa on oc, .slice none 0 0, .int .i64 p1, .slice ka kn kc, .slice qa qn qc, .slice ta tn tc, .slice ua un uc, .int .i64 0, .int .i64 0, .int .i64 0, .int .i64 0, .slice none 0 0], .agg #[.slice ob om od, .slice none 0 0, .int .i64 p1, .slice ka kn kc, .slice ra rn rc, .slice ta tn tc, .slice va vn vc, .int .i64 0, .int .i64 0, .int .i64 0, .int .i64 0, .slice none 0 0]] w fun e w' => e = .returned (.bool false) ∧ Below w.heap.size w w' := by
  obtain ⟨W0, hW0⟩ : ∃ W0, W0 = (w.alloc (.cells #[.slice oa on oc, .slice none 0 0, .int .i64 p1, .slice ka kn kc, .slice qa qn qc, .slice ta tn tc, .slice ua un uc, .int .i64 0, .int .i64 0, .int .i64 0, .int .i64 0, .slice none 0 0] 61)).alloc (.cells #[.slice ob om od, .slice none 0 0, .int .i64 p1, .slice ka kn kc, .slice ra rn rc, .slice ta tn tc, .slice va vn vc, .int .i64 0, .int .i64 0, .int .i64 0, .int .i64 0, .slice none 0 0] 61) := ⟨_, rfl⟩
  have hb0 : Below w.heap.size w W0 := by rw [hW0]; exact ((Below.refl _ _).alloc (Nat.le_refl _) _).alloc (by simp) _
  have hz : W0.heap.size = w.heap.size + 1 + 1 := by rw [hW0]; simp
  have g0 : W0.heap[w.heap.size]? = some (.cells #[.slice oa on oc, .slice none 0 0, .int .i64 p1, .slice ka kn kc, .slice qa qn qc, .slice ta tn tc, .slice ua un uc, .int .i64 0, .int .i64 0, .int .i64 0, .int .i64 0, .slice none 0 0] 61 (0, 0)) := by
    rw [hW0, Lib.alloc_old _ _ _ (by simp)]
    exact heap_alloc_new w _
  have g1 : W0.heap[w.heap.size + 1]? = some (.cells #[.slice ob om od, .slice none 0 0, .int .i64 p1, .slice ka kn kc, .slice ra rn rc, .slice ta tn tc, .slice va vn vc, .int .i64 0, .int .i64 0, .int .i64 0, .int .i64 0, .slice none 0 0] 61 (0, 0)) := by
    rw [hW0]
    have := heap_alloc_new (w.alloc (.cells #[.slice oa on oc, .slice none 0 0, .int .i64 p1, .slice ka kn kc, .slice qa qn qc, .slice ta tn tc, .slice ua un uc, .int .i64 0, .int .i64 0, .int .i64 0, .int .i64 0, .slice none 0 0] 61)) (.cells #[.slice ob om od, .slice none 0 0, .int .i64 p1, .slice ka kn kc, .slice ra rn rc, .slice ta tn tc, .slice va vn vc, .int .i64 0, .int .i64 0, .int .i64 0, .int .i64 0, .slice none 0 0] 61)
    simpa using this
  have hz1 : w.heap.size < W0.heap.size := by omega
  have hz2 : w.heap.size + 1 < W0.heap.size := by omega
  have x0 := cell_at (o := 0) g0 rfl
  have y0 := cell_at (o := 0) g1 rfl
  have x1 := cell_at (o := 1) g0 rfl
  have y1 := cell_at (o := 1) g1 rfl
  have x2 := cell_at (o := 2) g0 rfl
  have y2 := cell_at (o := 2) g1 rfl
  have x3 := cell_at (o := 3) g0 rfl
  have y3 := cell_at (o := 3) g1 rfl
  have x4 := cell_at (o := 4) g0 rfl
  have y4 := cell_at (o := 4) g1 rfl
  have x5 := cell_at (o := 5) g0 rfl
  have y5 := cell_at (o := 5) g1 rfl
  have x6 := cell_at (o := 6) g0 rfl
  have y6 := cell_at (o := 6) g1 rfl
  have x7 := cell_at (o := 7) g0 rfl
  have y7 := cell_at (o := 7) g1 rfl
  have x8 := cell_at (o := 8) g0 rfl
  have y8 := cell_at (o := 8) g1 rfl
  have x9 := cell_at (o := 9) g0 rfl
  have y9 := cell_at (o := 9) g1 rfl
  have x10 := cell_at (o := 10) g0 rfl
  have y10 := cell_at (o := 10) g1 rfl
  have x11 := cell_at (o := 11) g0 rfl
  have y11 := cell_at (o := 11) g1 rfl
  have HO1 := Lib.hid (ho1.keep (opRd_ok _) (Fix.of_below hb0))
  have HO2 := Lib.hid (ho2.keep (opRd_ok _) (Fix.of_below hb0))
  have HK := Lib.hid (hk.keep (entryRd_ok _) (Fix.of_below hb0))
  have HQ := Lib.hid (hq.keep rowK_ok (Fix.of_below hb0))
  have HR := Lib.hid (hr.keep rowK_ok (Fix.of_below hb0))
  have HT := Lib.hid (ht.keep nameRd_ok (Fix.of_below hb0))
  have HU := Lib.hid (hu.keep (Rd.int_ok _) (Fix.of_below hb0))
  have HV := Lib.hid (hv.keep (Rd.int_ok _) (Fix.of_below hb0))
  have HB := Lib.hid hb0
  have hlt : ¬ 0 ≤ diffI lo lp 0 := by omega
  have hbz := Below.refl W0.heap.size W0
  have HX := Lib.hid hx
  clear hx
  clear ho1 ho2 hk hq hr ht hu hv hb0 g0 g1 hz hd
  go_enter Try.func19, Try.ntmps19
  go_upto_region 1 with (fail)
  rw [← hW0]
  clear hW0
  go_wp2_with (first
    | (go_at_call 18; (with_reducible refine (diff_any k lo lp oa ob on om oc od _ HO1.out HO2.out).mono ?_); rintro e w2 ⟨rfl, hb2⟩; have HB2 : Below W0.heap.size W0 w2 := Below.trans (by ((repeat' (first | with_reducible assumption | with_reducible refine Below.drew ?_ | with_reducible refine below_drewN ?_ _ | (with_reducible refine Below.alloc ?_ ?_ _))) <;> first | assumption | (simp; done) | (simp; omega))) (Below.mono hb2 (Below.size (show Below W0.heap.size W0 _ from by ((repeat' (first | with_reducible assumption | with_reducible refine Below.drew ?_ | with_reducible refine below_drewN ?_ _ | (with_reducible refine Below.alloc ?_ ?_ _))) <;> first | assumption | (simp; done) | (simp; omega))))); obtain ⟨kc2, kf2⟩ := bcell HB2; clear hb2)
    | (go_at_call 28; (with_reducible refine (equalI_any [] [] All All none none 0 0 0 0 _ (RowOf.empty _ _ _ _ _) (RowOf.empty _ _ _ _ _)).mono ?_); rintro e w3 ⟨he, d3, rfl⟩; rw [decide_eq_true rfl] at he; subst he)
    | (go_at_call 29; (with_reducible refine (equalN_any lt lt All All ta ta tn tn tc tc _ (HT.out.keep nameRd_ok (Fix.of_below (by ((repeat' (first | with_reducible assumption | with_reducible refine Below.drew ?_ | with_reducible refine below_drewN ?_ _ | (with_reducible refine Below.alloc ?_ ?_ _))) <;> first | assumption | (simp; done) | (simp; omega))))) (HT.out.keep nameRd_ok (Fix.of_below (by ((repeat' (first | with_reducible assumption | with_reducible refine Below.drew ?_ | with_reducible refine below_drewN ?_ _ | (with_reducible refine Below.alloc ?_ ?_ _))) <;> first | assumption | (simp; done) | (simp; omega)))))).mono ?_); rintro e w4 ⟨he, d4, rfl⟩; rw [decide_eq_true rfl] at he; subst he)
    | (go_at_call 28; (with_reducible refine (equalI_any lu lv All All ua va un vn uc vc _ (HU.out.keep (Rd.int_ok _) (Fix.of_below (by ((repeat' (first | with_reducible assumption | with_reducible refine Below.drew ?_ | with_reducible refine below_drewN ?_ _ | (with_reducible refine Below.alloc ?_ ?_ _))) <;> first | assumption | (simp; done) | (simp; omega))))) (HV.out.keep (Rd.int_ok _) (Fix.of_below (by ((repeat' (first | with_reducible assumption | with_reducible refine Below.drew ?_ | with_reducible refine below_drewN ?_ _ | (with_reducible refine Below.alloc ?_ ?_ _))) <;> first | assumption | (simp; done) | (simp; omega)))))).mono ?_); rintro e w5 ⟨he, d5, rfl⟩; rw [decide_eq_false HX.out] at he; subst he))
  go_ret
  exact ⟨rfl, HB.out.trans (Below.mono (show Below W0.heap.size W0 _ from by ((repeat' (first | with_reducible assumption | with_reducible refine Below.drew ?_ | with_reducible refine below_drewN ?_ _ | (with_reducible refine Below.alloc ?_ ?_ _))) <;> first | assumption | (simp; done) | (simp; omega))) HB.out.size)⟩
set_option maxRecDepth 100000 in
set_option maxHeartbeats 8000000 in
/-- What is kept differs. -/
theorem rep_kept (k : Nat) (p1 : Int) (oa ob ka qa ra ta ua va hb : Option Addr) (on oc om od kn kc qn qc rn rc tn tc un uc vn vc hc : Nat) (lo lp : List OpV) (le : List EntryV) (lq lr : List (List KeyV)) (lt : List NameV) (lu lv : List Int) (w : World)
    (ho1 : RowOf (opRd k) 19 216 All w oa on oc lo) (ho2 : RowOf (opRd k) 19 216 All w ob om od lp) (hk : RowOf (entryRd k) 5 56 All w ka kn kc le) (hq : RowOf rowK 1 24 All w qa qn qc lq) (hr : RowOf rowK 1 24 All w ra rn rc lr) (ht : RowOf nameRd 4 32 All w ta tn tc lt)
    (hu : RowOf (Rd.int .i64) 1 8 All w ua un uc lu) (hv : RowOf (Rd.int .i64) 1 8 All w va vn vc lv) (hd : diffI lo lp 0 < 0) (hx : lu = lv) (hy : 0 ≤ firstI lq lr 0) :
    Calls Try.prog 19 #[.agg #[.slice oa on oc, .slice none 0 0, .int .i64 p1, .slice ka kn kc, .slice qa qn qc, .slice ta tn tc, .slice ua un uc, .int .i64 0, .int .i64 0, .int .i64 0, .int .i64 0, .slice none 0 0], .agg #[.slice ob om od, .slice none 0 0, .int .i64 p1, .slice ka kn kc, .slice ra rn rc, .slice ta tn tc, .slice va vn vc, .int .i64 0, .int .i64 0, .int .i64 0, .int .i64 0, .slice none 0 0]] w fun e w' => e = .returned (.bool false) ∧ Below w.heap.size w w' := by
  obtain ⟨W0, hW0⟩ : ∃ W0, W0 = (w.alloc (.cells #[.slice oa on oc, .slice none 0 0, .int .i64 p1, .slice ka kn kc, .slice qa qn qc, .slice ta tn tc, .slice ua un uc, .int .i64 0, .int .i64 0, .int .i64 0, .int .i64 0, .slice none 0 0] 61)).alloc (.cells #[.slice ob om od, .slice none 0 0, .int .i64 p1, .slice ka kn kc, .slice ra rn rc, .slice ta tn tc, .slice va vn vc, .int .i64 0, .int .i64 0, .int .i64 0, .int .i64 0, .slice none 0 0] 61) := ⟨_, rfl⟩
  have hb0 : Below w.heap.size w W0 := by rw [hW0]; exact ((Below.refl _ _).alloc (Nat.le_refl _) _).alloc (by simp) _
  have hz : W0.heap.size = w.heap.size + 1 + 1 := by rw [hW0]; simp
  have g0 : W0.heap[w.heap.size]? = some (.cells #[.slice oa on oc, .slice none 0 0, .int .i64 p1, .slice ka kn kc, .slice qa qn qc, .slice ta tn tc, .slice ua un uc, .int .i64 0, .int .i64 0, .int .i64 0, .int .i64 0, .slice none 0 0] 61 (0, 0)) := by
    rw [hW0, Lib.alloc_old _ _ _ (by simp)]
    exact heap_alloc_new w _
  have g1 : W0.heap[w.heap.size + 1]? = some (.cells #[.slice ob om od, .slice none 0 0, .int .i64 p1, .slice ka kn kc, .slice ra rn rc, .slice ta tn tc, .slice va vn vc, .int .i64 0, .int .i64 0, .int .i64 0, .int .i64 0, .slice none 0 0] 61 (0, 0)) := by
    rw [hW0]
    have := heap_alloc_new (w.alloc (.cells #[.slice oa on oc, .slice none 0 0, .int .i64 p1, .slice ka kn kc, .slice qa qn qc, .slice ta tn tc, .slice ua un uc, .int .i64 0, .int .i64 0, .int .i64 0, .int .i64 0, .slice none 0 0] 61)) (.cells #[.slice ob om od, .slice none 0 0, .int .i64 p1, .slice ka kn kc, .slice ra rn rc, .slice ta tn tc, .slice va vn vc, .int .i64 0, .int .i64 0, .int .i64 0, .int .i64 0, .slice none 0 0] 61)
    simpa using this
  have hz1 : w.heap.size < W0.heap.size := by omega
  have hz2 : w.heap.size + 1 < W0.heap.size := by omega
  have x0 := cell_at (o := 0) g0 rfl
  have y0 := cell_at (o := 0) g1 rfl
  have x1 := cell_at (o := 1) g0 rfl
  have y1 := cell_at (o := 1) g1 rfl
  have x2 := cell_at (o := 2) g0 rfl
  have y2 := cell_at (o := 2) g1 rfl
  have x3 := cell_at (o := 3) g0 rfl
  have y3 := cell_at (o := 3) g1 rfl
  have x4 := cell_at (o := 4) g0 rfl
  have y4 := cell_at (o := 4) g1 rfl
  have x5 := cell_at (o := 5) g0 rfl
  have y5 := cell_at (o := 5) g1 rfl
  have x6 := cell_at (o := 6) g0 rfl
  have y6 := cell_at (o := 6) g1 rfl
  have x7 := cell_at (o := 7) g0 rfl
  have y7 := cell_at (o := 7) g1 rfl
  have x8 := cell_at (o := 8) g0 rfl
  have y8 := cell_at (o := 8) g1 rfl
  have x9 := cell_at (o := 9) g0 rfl
  have y9 := cell_at (o := 9) g1 rfl
  have x10 := cell_at (o := 10) g0 rfl
  have y10 := cell_at (o := 10) g1 rfl
  have x11 := cell_at (o := 11) g0 rfl
  have y11 := cell_at (o := 11) g1 rfl
  have HO1 := Lib.hid (ho1.keep (opRd_ok _) (Fix.of_below hb0))
  have HO2 := Lib.hid (ho2.keep (opRd_ok _) (Fix.of_below hb0))
  have HK := Lib.hid (hk.keep (entryRd_ok _) (Fix.of_below hb0))
  have HQ := Lib.hid (hq.keep rowK_ok (Fix.of_below hb0))
  have HR := Lib.hid (hr.keep rowK_ok (Fix.of_below hb0))
  have HT := Lib.hid (ht.keep nameRd_ok (Fix.of_below hb0))
  have HU := Lib.hid (hu.keep (Rd.int_ok _) (Fix.of_below hb0))
  have HV := Lib.hid (hv.keep (Rd.int_ok _) (Fix.of_below hb0))
  have HB := Lib.hid hb0
  have hlt : ¬ 0 ≤ diffI lo lp 0 := by omega
  have hbz := Below.refl W0.heap.size W0
  have HX := Lib.hid hx
  have hy2 : ¬ firstI lq lr 0 < 0 := by omega
  clear hx hy
  clear ho1 ho2 hk hq hr ht hu hv hb0 g0 g1 hz hd
  go_enter Try.func19, Try.ntmps19
  go_upto_region 1 with (fail)
  rw [← hW0]
  clear hW0
  go_wp2_with (first
    | (go_at_call 18; (with_reducible refine (diff_any k lo lp oa ob on om oc od _ HO1.out HO2.out).mono ?_); rintro e w2 ⟨rfl, hb2⟩; have HB2 : Below W0.heap.size W0 w2 := Below.trans (by ((repeat' (first | with_reducible assumption | with_reducible refine Below.drew ?_ | with_reducible refine below_drewN ?_ _ | (with_reducible refine Below.alloc ?_ ?_ _))) <;> first | assumption | (simp; done) | (simp; omega))) (Below.mono hb2 (Below.size (show Below W0.heap.size W0 _ from by ((repeat' (first | with_reducible assumption | with_reducible refine Below.drew ?_ | with_reducible refine below_drewN ?_ _ | (with_reducible refine Below.alloc ?_ ?_ _))) <;> first | assumption | (simp; done) | (simp; omega))))); obtain ⟨kc2, kf2⟩ := bcell HB2; clear hb2)
    | (go_at_call 28; (with_reducible refine (equalI_any [] [] All All none none 0 0 0 0 _ (RowOf.empty _ _ _ _ _) (RowOf.empty _ _ _ _ _)).mono ?_); rintro e w3 ⟨he, d3, rfl⟩; rw [decide_eq_true rfl] at he; subst he)
    | (go_at_call 29; (with_reducible refine (equalN_any lt lt All All ta ta tn tn tc tc _ (HT.out.keep nameRd_ok (Fix.of_below (by ((repeat' (first | with_reducible assumption | with_reducible refine Below.drew ?_ | with_reducible refine below_drewN ?_ _ | (with_reducible refine Below.alloc ?_ ?_ _))) <;> first | assumption | (simp; done) | (simp; omega))))) (HT.out.keep nameRd_ok (Fix.of_below (by ((repeat' (first | with_reducible assumption | with_reducible refine Below.drew ?_ | with_reducible refine below_drewN ?_ _ | (with_reducible refine Below.alloc ?_ ?_ _))) <;> first | assumption | (simp; done) | (simp; omega)))))).mono ?_); rintro e w4 ⟨he, d4, rfl⟩; rw [decide_eq_true rfl] at he; subst he)
    | (go_at_call 28; (with_reducible refine (equalI_any lu lv All All ua va un vn uc vc _ (HU.out.keep (Rd.int_ok _) (Fix.of_below (by ((repeat' (first | with_reducible assumption | with_reducible refine Below.drew ?_ | with_reducible refine below_drewN ?_ _ | (with_reducible refine Below.alloc ?_ ?_ _))) <;> first | assumption | (simp; done) | (simp; omega))))) (HV.out.keep (Rd.int_ok _) (Fix.of_below (by ((repeat' (first | with_reducible assumption | with_reducible refine Below.drew ?_ | with_reducible refine below_drewN ?_ _ | (with_reducible refine Below.alloc ?_ ?_ _))) <;> first | assumption | (simp; done) | (simp; omega)))))).mono ?_); rintro e w5 ⟨he, d5, rfl⟩; rw [decide_eq_true HX.out] at he; subst he)
    | (go_at_call 30; (with_reducible refine (firstE_eq k All le ka kn kc _ (HK.out.keep (entryRd_ok _) (Fix.of_below (by ((repeat' (first | with_reducible assumption | with_reducible refine Below.drew ?_ | with_reducible refine below_drewN ?_ _ | (with_reducible refine Below.alloc ?_ ?_ _))) <;> first | assumption | (simp; done) | (simp; omega)))))).mono ?_); rintro e w6 ⟨rfl, hb6⟩; have HB6 : Below W0.heap.size W0 w6 := Below.trans (by ((repeat' (first | with_reducible assumption | with_reducible refine Below.drew ?_ | with_reducible refine below_drewN ?_ _ | (with_reducible refine Below.alloc ?_ ?_ _))) <;> first | assumption | (simp; done) | (simp; omega))) (Below.mono hb6 (Below.size (show Below W0.heap.size W0 _ from by ((repeat' (first | with_reducible assumption | with_reducible refine Below.drew ?_ | with_reducible refine below_drewN ?_ _ | (with_reducible refine Below.alloc ?_ ?_ _))) <;> first | assumption | (simp; done) | (simp; omega))))); obtain ⟨kc6, kf6⟩ := bcell HB6; clear hb6)
    | (go_at_call 32; (with_reducible refine (firstk_any lq lr qa ra qn rn qc rc _ (HQ.out.keep rowK_ok (Fix.of_below (by ((repeat' (first | with_reducible assumption | with_reducible refine Below.drew ?_ | with_reducible refine below_drewN ?_ _ | (with_reducible refine Below.alloc ?_ ?_ _))) <;> first | assumption | (simp; done) | (simp; omega))))) (HR.out.keep rowK_ok (Fix.of_below (by ((repeat' (first | with_reducible assumption | with_reducible refine Below.drew ?_ | with_reducible refine below_drewN ?_ _ | (with_reducible refine Below.alloc ?_ ?_ _))) <;> first | assumption | (simp; done) | (simp; omega)))))).mono ?_); rintro e w7 ⟨rfl, hb7⟩; have HB7 : Below W0.heap.size W0 w7 := Below.trans (by ((repeat' (first | with_reducible assumption | with_reducible refine Below.drew ?_ | with_reducible refine below_drewN ?_ _ | (with_reducible refine Below.alloc ?_ ?_ _))) <;> first | assumption | (simp; done) | (simp; omega))) (Below.mono hb7 (Below.size (show Below W0.heap.size W0 _ from by ((repeat' (first | with_reducible assumption | with_reducible refine Below.drew ?_ | with_reducible refine below_drewN ?_ _ | (with_reducible refine Below.alloc ?_ ?_ _))) <;> first | assumption | (simp; done) | (simp; omega))))); obtain ⟨kc7, kf7⟩ := bcell HB7; clear hb7))
  go_ret
  exact ⟨rfl, HB.out.trans (Below.mono (show Below W0.heap.size W0 _ from by ((repeat' (first | with_reducible assumption | with_reducible refine Below.drew ?_ | with_reducible refine below_drewN ?_ _ | (with_reducible refine Below.alloc ?_ ?_ _))) <;> first | assumption | (simp; done) | (simp; omega))) HB.out.size)⟩
set_option maxRecDepth 100000 in
set_option maxHeartbeats 8000000 in
/-- One has a handle. -/
theorem rep_hand (k : Nat) (p1 : Int) (oa ob ka qa ra ta ua va hb : Option Addr) (on oc om od kn kc qn qc rn rc tn tc un uc vn vc hc : Nat) (lo lp : List OpV) (le : List EntryV) (lq lr : List (List KeyV)) (lt : List NameV) (lu lv : List Int) (w : World)
    (ho1 : RowOf (opRd k) 19 216 All w oa on oc lo) (ho2 : RowOf (opRd k) 19 216 All w ob om od lp) (hk : RowOf (entryRd k) 5 56 All w ka kn kc le) (hq : RowOf rowK 1 24 All w qa qn qc lq) (hr : RowOf rowK 1 24 All w ra rn rc lr) (ht : RowOf nameRd 4 32 All w ta tn tc lt)
    (hu : RowOf (Rd.int .i64) 1 8 All w ua un uc lu) (hv : RowOf (Rd.int .i64) 1 8 All w va vn vc lv) (hd : diffI lo lp 0 < 0) (hx : lu = lv) (hy : firstI lq lr 0 < 0) :
    Calls Try.prog 19 #[.agg #[.slice oa on oc, .slice none 0 0, .int .i64 p1, .slice ka kn kc, .slice qa qn qc, .slice ta tn tc, .slice ua un uc, .int .i64 0, .int .i64 0, .int .i64 0, .int .i64 0, .slice none 0 0], .agg #[.slice ob om od, .slice none 0 0, .int .i64 p1, .slice ka kn kc, .slice ra rn rc, .slice ta tn tc, .slice va vn vc, .int .i64 0, .int .i64 0, .int .i64 0, .int .i64 0, .slice hb 1 hc]] w fun e w' => e = .returned (.bool false) ∧ Below w.heap.size w w' := by
  obtain ⟨W0, hW0⟩ : ∃ W0, W0 = (w.alloc (.cells #[.slice oa on oc, .slice none 0 0, .int .i64 p1, .slice ka kn kc, .slice qa qn qc, .slice ta tn tc, .slice ua un uc, .int .i64 0, .int .i64 0, .int .i64 0, .int .i64 0, .slice none 0 0] 61)).alloc (.cells #[.slice ob om od, .slice none 0 0, .int .i64 p1, .slice ka kn kc, .slice ra rn rc, .slice ta tn tc, .slice va vn vc, .int .i64 0, .int .i64 0, .int .i64 0, .int .i64 0, .slice hb 1 hc] 61) := ⟨_, rfl⟩
  have hb0 : Below w.heap.size w W0 := by rw [hW0]; exact ((Below.refl _ _).alloc (Nat.le_refl _) _).alloc (by simp) _
  have hz : W0.heap.size = w.heap.size + 1 + 1 := by rw [hW0]; simp
  have g0 : W0.heap[w.heap.size]? = some (.cells #[.slice oa on oc, .slice none 0 0, .int .i64 p1, .slice ka kn kc, .slice qa qn qc, .slice ta tn tc, .slice ua un uc, .int .i64 0, .int .i64 0, .int .i64 0, .int .i64 0, .slice none 0 0] 61 (0, 0)) := by
    rw [hW0, Lib.alloc_old _ _ _ (by simp)]
    exact heap_alloc_new w _
  have g1 : W0.heap[w.heap.size + 1]? = some (.cells #[.slice ob om od, .slice none 0 0, .int .i64 p1, .slice ka kn kc, .slice ra rn rc, .slice ta tn tc, .slice va vn vc, .int .i64 0, .int .i64 0, .int .i64 0, .int .i64 0, .slice hb 1 hc] 61 (0, 0)) := by
    rw [hW0]
    have := heap_alloc_new (w.alloc (.cells #[.slice oa on oc, .slice none 0 0, .int .i64 p1, .slice ka kn kc, .slice qa qn qc, .slice ta tn tc, .slice ua un uc, .int .i64 0, .int .i64 0, .int .i64 0, .int .i64 0, .slice none 0 0] 61)) (.cells #[.slice ob om od, .slice none 0 0, .int .i64 p1, .slice ka kn kc, .slice ra rn rc, .slice ta tn tc, .slice va vn vc, .int .i64 0, .int .i64 0, .int .i64 0, .int .i64 0, .slice hb 1 hc] 61)
    simpa using this
  have hz1 : w.heap.size < W0.heap.size := by omega
  have hz2 : w.heap.size + 1 < W0.heap.size := by omega
  have x0 := cell_at (o := 0) g0 rfl
  have y0 := cell_at (o := 0) g1 rfl
  have x1 := cell_at (o := 1) g0 rfl
  have y1 := cell_at (o := 1) g1 rfl
  have x2 := cell_at (o := 2) g0 rfl
  have y2 := cell_at (o := 2) g1 rfl
  have x3 := cell_at (o := 3) g0 rfl
  have y3 := cell_at (o := 3) g1 rfl
  have x4 := cell_at (o := 4) g0 rfl
  have y4 := cell_at (o := 4) g1 rfl
  have x5 := cell_at (o := 5) g0 rfl
  have y5 := cell_at (o := 5) g1 rfl
  have x6 := cell_at (o := 6) g0 rfl
  have y6 := cell_at (o := 6) g1 rfl
  have x7 := cell_at (o := 7) g0 rfl
  have y7 := cell_at (o := 7) g1 rfl
  have x8 := cell_at (o := 8) g0 rfl
  have y8 := cell_at (o := 8) g1 rfl
  have x9 := cell_at (o := 9) g0 rfl
  have y9 := cell_at (o := 9) g1 rfl
  have x10 := cell_at (o := 10) g0 rfl
  have y10 := cell_at (o := 10) g1 rfl
  have x11 := cell_at (o := 11) g0 rfl
  have y11 := cell_at (o := 11) g1 rfl
  have HO1 := Lib.hid (ho1.keep (opRd_ok _) (Fix.of_below hb0))
  have HO2 := Lib.hid (ho2.keep (opRd_ok _) (Fix.of_below hb0))
  have HK := Lib.hid (hk.keep (entryRd_ok _) (Fix.of_below hb0))
  have HQ := Lib.hid (hq.keep rowK_ok (Fix.of_below hb0))
  have HR := Lib.hid (hr.keep rowK_ok (Fix.of_below hb0))
  have HT := Lib.hid (ht.keep nameRd_ok (Fix.of_below hb0))
  have HU := Lib.hid (hu.keep (Rd.int_ok _) (Fix.of_below hb0))
  have HV := Lib.hid (hv.keep (Rd.int_ok _) (Fix.of_below hb0))
  have HB := Lib.hid hb0
  have hlt : ¬ 0 ≤ diffI lo lp 0 := by omega
  have hbz := Below.refl W0.heap.size W0
  have HX := Lib.hid hx
  clear hx
  clear ho1 ho2 hk hq hr ht hu hv hb0 g0 g1 hz hd
  go_enter Try.func19, Try.ntmps19
  go_upto_region 1 with (fail)
  rw [← hW0]
  clear hW0
  go_wp2_with (first
    | (go_at_call 18; (with_reducible refine (diff_any k lo lp oa ob on om oc od _ HO1.out HO2.out).mono ?_); rintro e w2 ⟨rfl, hb2⟩; have HB2 : Below W0.heap.size W0 w2 := Below.trans (by ((repeat' (first | with_reducible assumption | with_reducible refine Below.drew ?_ | with_reducible refine below_drewN ?_ _ | (with_reducible refine Below.alloc ?_ ?_ _))) <;> first | assumption | (simp; done) | (simp; omega))) (Below.mono hb2 (Below.size (show Below W0.heap.size W0 _ from by ((repeat' (first | with_reducible assumption | with_reducible refine Below.drew ?_ | with_reducible refine below_drewN ?_ _ | (with_reducible refine Below.alloc ?_ ?_ _))) <;> first | assumption | (simp; done) | (simp; omega))))); obtain ⟨kc2, kf2⟩ := bcell HB2; clear hb2)
    | (go_at_call 28; (with_reducible refine (equalI_any [] [] All All none none 0 0 0 0 _ (RowOf.empty _ _ _ _ _) (RowOf.empty _ _ _ _ _)).mono ?_); rintro e w3 ⟨he, d3, rfl⟩; rw [decide_eq_true rfl] at he; subst he)
    | (go_at_call 29; (with_reducible refine (equalN_any lt lt All All ta ta tn tn tc tc _ (HT.out.keep nameRd_ok (Fix.of_below (by ((repeat' (first | with_reducible assumption | with_reducible refine Below.drew ?_ | with_reducible refine below_drewN ?_ _ | (with_reducible refine Below.alloc ?_ ?_ _))) <;> first | assumption | (simp; done) | (simp; omega))))) (HT.out.keep nameRd_ok (Fix.of_below (by ((repeat' (first | with_reducible assumption | with_reducible refine Below.drew ?_ | with_reducible refine below_drewN ?_ _ | (with_reducible refine Below.alloc ?_ ?_ _))) <;> first | assumption | (simp; done) | (simp; omega)))))).mono ?_); rintro e w4 ⟨he, d4, rfl⟩; rw [decide_eq_true rfl] at he; subst he)
    | (go_at_call 28; (with_reducible refine (equalI_any lu lv All All ua va un vn uc vc _ (HU.out.keep (Rd.int_ok _) (Fix.of_below (by ((repeat' (first | with_reducible assumption | with_reducible refine Below.drew ?_ | with_reducible refine below_drewN ?_ _ | (with_reducible refine Below.alloc ?_ ?_ _))) <;> first | assumption | (simp; done) | (simp; omega))))) (HV.out.keep (Rd.int_ok _) (Fix.of_below (by ((repeat' (first | with_reducible assumption | with_reducible refine Below.drew ?_ | with_reducible refine below_drewN ?_ _ | (with_reducible refine Below.alloc ?_ ?_ _))) <;> first | assumption | (simp; done) | (simp; omega)))))).mono ?_); rintro e w5 ⟨he, d5, rfl⟩; rw [decide_eq_true HX.out] at he; subst he)
    | (go_at_call 30; (with_reducible refine (firstE_eq k All le ka kn kc _ (HK.out.keep (entryRd_ok _) (Fix.of_below (by ((repeat' (first | with_reducible assumption | with_reducible refine Below.drew ?_ | with_reducible refine below_drewN ?_ _ | (with_reducible refine Below.alloc ?_ ?_ _))) <;> first | assumption | (simp; done) | (simp; omega)))))).mono ?_); rintro e w6 ⟨rfl, hb6⟩; have HB6 : Below W0.heap.size W0 w6 := Below.trans (by ((repeat' (first | with_reducible assumption | with_reducible refine Below.drew ?_ | with_reducible refine below_drewN ?_ _ | (with_reducible refine Below.alloc ?_ ?_ _))) <;> first | assumption | (simp; done) | (simp; omega))) (Below.mono hb6 (Below.size (show Below W0.heap.size W0 _ from by ((repeat' (first | with_reducible assumption | with_reducible refine Below.drew ?_ | with_reducible refine below_drewN ?_ _ | (with_reducible refine Below.alloc ?_ ?_ _))) <;> first | assumption | (simp; done) | (simp; omega))))); obtain ⟨kc6, kf6⟩ := bcell HB6; clear hb6)
    | (go_at_call 32; (with_reducible refine (firstk_any lq lr qa ra qn rn qc rc _ (HQ.out.keep rowK_ok (Fix.of_below (by ((repeat' (first | with_reducible assumption | with_reducible refine Below.drew ?_ | with_reducible refine below_drewN ?_ _ | (with_reducible refine Below.alloc ?_ ?_ _))) <;> first | assumption | (simp; done) | (simp; omega))))) (HR.out.keep rowK_ok (Fix.of_below (by ((repeat' (first | with_reducible assumption | with_reducible refine Below.drew ?_ | with_reducible refine below_drewN ?_ _ | (with_reducible refine Below.alloc ?_ ?_ _))) <;> first | assumption | (simp; done) | (simp; omega)))))).mono ?_); rintro e w7 ⟨rfl, hb7⟩; have HB7 : Below W0.heap.size W0 w7 := Below.trans (by ((repeat' (first | with_reducible assumption | with_reducible refine Below.drew ?_ | with_reducible refine below_drewN ?_ _ | (with_reducible refine Below.alloc ?_ ?_ _))) <;> first | assumption | (simp; done) | (simp; omega))) (Below.mono hb7 (Below.size (show Below W0.heap.size W0 _ from by ((repeat' (first | with_reducible assumption | with_reducible refine Below.drew ?_ | with_reducible refine below_drewN ?_ _ | (with_reducible refine Below.alloc ?_ ?_ _))) <;> first | assumption | (simp; done) | (simp; omega))))); obtain ⟨kc7, kf7⟩ := bcell HB7; clear hb7)
    | (go_at_call 34; (with_reducible refine (firsth_one hb hc _ _).mono ?_); rintro e w8 ⟨rfl, d8, rfl⟩))
  go_ret
  exact ⟨rfl, HB.out.trans (Below.mono (show Below W0.heap.size W0 _ from by ((repeat' (first | with_reducible assumption | with_reducible refine Below.drew ?_ | with_reducible refine below_drewN ?_ _ | (with_reducible refine Below.alloc ?_ ?_ _))) <;> first | assumption | (simp; done) | (simp; omega))) HB.out.size)⟩
set_option maxRecDepth 100000 in
set_option maxHeartbeats 8000000 in
/-- All is the same. -/
theorem rep_yes (k : Nat) (p1 : Int) (oa ob ka qa ra ta ua va hb : Option Addr) (on oc om od kn kc qn qc rn rc tn tc un uc vn vc hc : Nat) (lo lp : List OpV) (le : List EntryV) (lq lr : List (List KeyV)) (lt : List NameV) (lu lv : List Int) (w : World)
    (ho1 : RowOf (opRd k) 19 216 All w oa on oc lo) (ho2 : RowOf (opRd k) 19 216 All w ob om od lp) (hk : RowOf (entryRd k) 5 56 All w ka kn kc le) (hq : RowOf rowK 1 24 All w qa qn qc lq) (hr : RowOf rowK 1 24 All w ra rn rc lr) (ht : RowOf nameRd 4 32 All w ta tn tc lt)
    (hu : RowOf (Rd.int .i64) 1 8 All w ua un uc lu) (hv : RowOf (Rd.int .i64) 1 8 All w va vn vc lv) (hd : diffI lo lp 0 < 0) (hx : lu = lv) (hy : firstI lq lr 0 < 0) :
    Calls Try.prog 19 #[.agg #[.slice oa on oc, .slice none 0 0, .int .i64 p1, .slice ka kn kc, .slice qa qn qc, .slice ta tn tc, .slice ua un uc, .int .i64 0, .int .i64 0, .int .i64 0, .int .i64 0, .slice none 0 0], .agg #[.slice ob om od, .slice none 0 0, .int .i64 p1, .slice ka kn kc, .slice ra rn rc, .slice ta tn tc, .slice va vn vc, .int .i64 0, .int .i64 0, .int .i64 0, .int .i64 0, .slice none 0 0]] w fun e w' => e = .returned (.bool true) ∧ Below w.heap.size w w' := by
  obtain ⟨W0, hW0⟩ : ∃ W0, W0 = (w.alloc (.cells #[.slice oa on oc, .slice none 0 0, .int .i64 p1, .slice ka kn kc, .slice qa qn qc, .slice ta tn tc, .slice ua un uc, .int .i64 0, .int .i64 0, .int .i64 0, .int .i64 0, .slice none 0 0] 61)).alloc (.cells #[.slice ob om od, .slice none 0 0, .int .i64 p1, .slice ka kn kc, .slice ra rn rc, .slice ta tn tc, .slice va vn vc, .int .i64 0, .int .i64 0, .int .i64 0, .int .i64 0, .slice none 0 0] 61) := ⟨_, rfl⟩
  have hb0 : Below w.heap.size w W0 := by rw [hW0]; exact ((Below.refl _ _).alloc (Nat.le_refl _) _).alloc (by simp) _
  have hz : W0.heap.size = w.heap.size + 1 + 1 := by rw [hW0]; simp
  have g0 : W0.heap[w.heap.size]? = some (.cells #[.slice oa on oc, .slice none 0 0, .int .i64 p1, .slice ka kn kc, .slice qa qn qc, .slice ta tn tc, .slice ua un uc, .int .i64 0, .int .i64 0, .int .i64 0, .int .i64 0, .slice none 0 0] 61 (0, 0)) := by
    rw [hW0, Lib.alloc_old _ _ _ (by simp)]
    exact heap_alloc_new w _
  have g1 : W0.heap[w.heap.size + 1]? = some (.cells #[.slice ob om od, .slice none 0 0, .int .i64 p1, .slice ka kn kc, .slice ra rn rc, .slice ta tn tc, .slice va vn vc, .int .i64 0, .int .i64 0, .int .i64 0, .int .i64 0, .slice none 0 0] 61 (0, 0)) := by
    rw [hW0]
    have := heap_alloc_new (w.alloc (.cells #[.slice oa on oc, .slice none 0 0, .int .i64 p1, .slice ka kn kc, .slice qa qn qc, .slice ta tn tc, .slice ua un uc, .int .i64 0, .int .i64 0, .int .i64 0, .int .i64 0, .slice none 0 0] 61)) (.cells #[.slice ob om od, .slice none 0 0, .int .i64 p1, .slice ka kn kc, .slice ra rn rc, .slice ta tn tc, .slice va vn vc, .int .i64 0, .int .i64 0, .int .i64 0, .int .i64 0, .slice none 0 0] 61)
    simpa using this
  have hz1 : w.heap.size < W0.heap.size := by omega
  have hz2 : w.heap.size + 1 < W0.heap.size := by omega
  have x0 := cell_at (o := 0) g0 rfl
  have y0 := cell_at (o := 0) g1 rfl
  have x1 := cell_at (o := 1) g0 rfl
  have y1 := cell_at (o := 1) g1 rfl
  have x2 := cell_at (o := 2) g0 rfl
  have y2 := cell_at (o := 2) g1 rfl
  have x3 := cell_at (o := 3) g0 rfl
  have y3 := cell_at (o := 3) g1 rfl
  have x4 := cell_at (o := 4) g0 rfl
  have y4 := cell_at (o := 4) g1 rfl
  have x5 := cell_at (o := 5) g0 rfl
  have y5 := cell_at (o := 5) g1 rfl
  have x6 := cell_at (o := 6) g0 rfl
  have y6 := cell_at (o := 6) g1 rfl
  have x7 := cell_at (o := 7) g0 rfl
  have y7 := cell_at (o := 7) g1 rfl
  have x8 := cell_at (o := 8) g0 rfl
  have y8 := cell_at (o := 8) g1 rfl
  have x9 := cell_at (o := 9) g0 rfl
  have y9 := cell_at (o := 9) g1 rfl
  have x10 := cell_at (o := 10) g0 rfl
  have y10 := cell_at (o := 10) g1 rfl
  have x11 := cell_at (o := 11) g0 rfl
  have y11 := cell_at (o := 11) g1 rfl
  have HO1 := Lib.hid (ho1.keep (opRd_ok _) (Fix.of_below hb0))
  have HO2 := Lib.hid (ho2.keep (opRd_ok _) (Fix.of_below hb0))
  have HK := Lib.hid (hk.keep (entryRd_ok _) (Fix.of_below hb0))
  have HQ := Lib.hid (hq.keep rowK_ok (Fix.of_below hb0))
  have HR := Lib.hid (hr.keep rowK_ok (Fix.of_below hb0))
  have HT := Lib.hid (ht.keep nameRd_ok (Fix.of_below hb0))
  have HU := Lib.hid (hu.keep (Rd.int_ok _) (Fix.of_below hb0))
  have HV := Lib.hid (hv.keep (Rd.int_ok _) (Fix.of_below hb0))
  have HB := Lib.hid hb0
  have hlt : ¬ 0 ≤ diffI lo lp 0 := by omega
  have hbz := Below.refl W0.heap.size W0
  have HX := Lib.hid hx
  clear hx
  clear ho1 ho2 hk hq hr ht hu hv hb0 g0 g1 hz hd
  go_enter Try.func19, Try.ntmps19
  go_upto_region 1 with (fail)
  rw [← hW0]
  clear hW0
  go_wp2_with (first
    | (go_at_call 18; (with_reducible refine (diff_any k lo lp oa ob on om oc od _ HO1.out HO2.out).mono ?_); rintro e w2 ⟨rfl, hb2⟩; have HB2 : Below W0.heap.size W0 w2 := Below.trans (by ((repeat' (first | with_reducible assumption | with_reducible refine Below.drew ?_ | with_reducible refine below_drewN ?_ _ | (with_reducible refine Below.alloc ?_ ?_ _))) <;> first | assumption | (simp; done) | (simp; omega))) (Below.mono hb2 (Below.size (show Below W0.heap.size W0 _ from by ((repeat' (first | with_reducible assumption | with_reducible refine Below.drew ?_ | with_reducible refine below_drewN ?_ _ | (with_reducible refine Below.alloc ?_ ?_ _))) <;> first | assumption | (simp; done) | (simp; omega))))); obtain ⟨kc2, kf2⟩ := bcell HB2; clear hb2)
    | (go_at_call 28; (with_reducible refine (equalI_any [] [] All All none none 0 0 0 0 _ (RowOf.empty _ _ _ _ _) (RowOf.empty _ _ _ _ _)).mono ?_); rintro e w3 ⟨he, d3, rfl⟩; rw [decide_eq_true rfl] at he; subst he)
    | (go_at_call 29; (with_reducible refine (equalN_any lt lt All All ta ta tn tn tc tc _ (HT.out.keep nameRd_ok (Fix.of_below (by ((repeat' (first | with_reducible assumption | with_reducible refine Below.drew ?_ | with_reducible refine below_drewN ?_ _ | (with_reducible refine Below.alloc ?_ ?_ _))) <;> first | assumption | (simp; done) | (simp; omega))))) (HT.out.keep nameRd_ok (Fix.of_below (by ((repeat' (first | with_reducible assumption | with_reducible refine Below.drew ?_ | with_reducible refine below_drewN ?_ _ | (with_reducible refine Below.alloc ?_ ?_ _))) <;> first | assumption | (simp; done) | (simp; omega)))))).mono ?_); rintro e w4 ⟨he, d4, rfl⟩; rw [decide_eq_true rfl] at he; subst he)
    | (go_at_call 28; (with_reducible refine (equalI_any lu lv All All ua va un vn uc vc _ (HU.out.keep (Rd.int_ok _) (Fix.of_below (by ((repeat' (first | with_reducible assumption | with_reducible refine Below.drew ?_ | with_reducible refine below_drewN ?_ _ | (with_reducible refine Below.alloc ?_ ?_ _))) <;> first | assumption | (simp; done) | (simp; omega))))) (HV.out.keep (Rd.int_ok _) (Fix.of_below (by ((repeat' (first | with_reducible assumption | with_reducible refine Below.drew ?_ | with_reducible refine below_drewN ?_ _ | (with_reducible refine Below.alloc ?_ ?_ _))) <;> first | assumption | (simp; done) | (simp; omega)))))).mono ?_); rintro e w5 ⟨he, d5, rfl⟩; rw [decide_eq_true HX.out] at he; subst he)
    | (go_at_call 30; (with_reducible refine (firstE_eq k All le ka kn kc _ (HK.out.keep (entryRd_ok _) (Fix.of_below (by ((repeat' (first | with_reducible assumption | with_reducible refine Below.drew ?_ | with_reducible refine below_drewN ?_ _ | (with_reducible refine Below.alloc ?_ ?_ _))) <;> first | assumption | (simp; done) | (simp; omega)))))).mono ?_); rintro e w6 ⟨rfl, hb6⟩; have HB6 : Below W0.heap.size W0 w6 := Below.trans (by ((repeat' (first | with_reducible assumption | with_reducible refine Below.drew ?_ | with_reducible refine below_drewN ?_ _ | (with_reducible refine Below.alloc ?_ ?_ _))) <;> first | assumption | (simp; done) | (simp; omega))) (Below.mono hb6 (Below.size (show Below W0.heap.size W0 _ from by ((repeat' (first | with_reducible assumption | with_reducible refine Below.drew ?_ | with_reducible refine below_drewN ?_ _ | (with_reducible refine Below.alloc ?_ ?_ _))) <;> first | assumption | (simp; done) | (simp; omega))))); obtain ⟨kc6, kf6⟩ := bcell HB6; clear hb6)
    | (go_at_call 32; (with_reducible refine (firstk_any lq lr qa ra qn rn qc rc _ (HQ.out.keep rowK_ok (Fix.of_below (by ((repeat' (first | with_reducible assumption | with_reducible refine Below.drew ?_ | with_reducible refine below_drewN ?_ _ | (with_reducible refine Below.alloc ?_ ?_ _))) <;> first | assumption | (simp; done) | (simp; omega))))) (HR.out.keep rowK_ok (Fix.of_below (by ((repeat' (first | with_reducible assumption | with_reducible refine Below.drew ?_ | with_reducible refine below_drewN ?_ _ | (with_reducible refine Below.alloc ?_ ?_ _))) <;> first | assumption | (simp; done) | (simp; omega)))))).mono ?_); rintro e w7 ⟨rfl, hb7⟩; have HB7 : Below W0.heap.size W0 w7 := Below.trans (by ((repeat' (first | with_reducible assumption | with_reducible refine Below.drew ?_ | with_reducible refine below_drewN ?_ _ | (with_reducible refine Below.alloc ?_ ?_ _))) <;> first | assumption | (simp; done) | (simp; omega))) (Below.mono hb7 (Below.size (show Below W0.heap.size W0 _ from by ((repeat' (first | with_reducible assumption | with_reducible refine Below.drew ?_ | with_reducible refine below_drewN ?_ _ | (with_reducible refine Below.alloc ?_ ?_ _))) <;> first | assumption | (simp; done) | (simp; omega))))); obtain ⟨kc7, kf7⟩ := bcell HB7; clear hb7)
    | (go_at_call 34; (with_reducible refine (firsth_nil _ _).mono ?_); rintro e w8 ⟨rfl, rfl⟩))
  go_ret
  exact ⟨rfl, HB.out.trans (Below.mono (show Below W0.heap.size W0 _ from by ((repeat' (first | with_reducible assumption | with_reducible refine Below.drew ?_ | with_reducible refine below_drewN ?_ _ | (with_reducible refine Below.alloc ?_ ?_ _))) <;> first | assumption | (simp; done) | (simp; omega))) HB.out.size)⟩
end Go.Proofs.Ytbijacoiblbnfaa
