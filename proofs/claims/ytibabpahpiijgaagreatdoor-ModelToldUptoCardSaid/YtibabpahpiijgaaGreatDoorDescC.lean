/- Trees compared: the program's and the reference's. -/
import Derived.Test.YtibabpahpiijgaaGreatDoorDescM
import Derived.Deep.RegionHeld3
import Derived.Deep.DeepCutAuto
namespace Go.Proofs.YtibabpahpiijgaaGreatDoor
open Go.RowKit
set_option linter.unusedSimpArgs false
set_option linter.unusedVariables false
def c3 (x y : Int) : Int := if x < y then -1 else if y < x then 1 else 0
theorem c3_lt {x y : Int} (h : x < y) : c3 x y = -1 := by unfold c3; rw [if_pos h]
theorem c3_gt {x y : Int} (h : y < x) : c3 x y = 1 := by unfold c3; rw [if_neg (by omega), if_pos h]
theorem c3_self (x : Int) : c3 x x = 0 := by unfold c3; simp
theorem c3_zero {x y : Int} (h : c3 x y = 0) : x = y := by
  unfold c3 at h
  split at h
  · omega
  · split at h <;> omega
theorem c3_ways (x y : Int) : (x < y ∧ c3 x y = -1) ∨ (y < x ∧ c3 x y = 1) ∨ (x = y ∧ c3 x y = 0) := by
  rcases (by omega : x < y ∨ y < x ∨ x = y) with h | h | h
  · exact .inl ⟨h, c3_lt h⟩
  · exact .inr (.inl ⟨h, c3_gt h⟩)
  · exact .inr (.inr ⟨h, by subst h; exact c3_self x⟩)
def or2 (x y : Int) : Int := if x = 0 then y else x
mutual
def cmpD : DescV → DescV → Int
  | .mk k n l, .mk k' n' l' => or2 (c3 k k') (or2 (c3 n n') (or2 (c3 l.length l'.length) (cmpL l l')))
def cmpL : List DescV → List DescV → Int
  | [], _ => 0
  | _ :: _, [] => 1
  | a :: l, b :: m => or2 (cmpD a b) (cmpL l m)
end
mutual
theorem cmpD_self : ∀ d : DescV, cmpD d d = 0
  | .mk k n l => by rw [cmpD, c3_self, c3_self, c3_self, cmpL_self l]; rfl
theorem cmpL_self : ∀ l : List DescV, cmpL l l = 0
  | [] => by rw [cmpL]
  | a :: l => by rw [cmpL, cmpD_self a, cmpL_self l]; rfl
end
theorem cmpL_drop {l m : List DescV} {i : Nat} (h : i < l.length) (h' : i < m.length) : cmpL (l.drop i) (m.drop i) = or2 (cmpD l[i] m[i]) (cmpL (l.drop (i + 1)) (m.drop (i + 1))) := by
  rw [List.drop_eq_getElem_cons h, List.drop_eq_getElem_cons h', cmpL]
theorem cmpL_end {l m : List DescV} {i : Nat} (h : l.length ≤ i) : cmpL (l.drop i) (m.drop i) = 0 := by
  rw [List.drop_of_length_le h, cmpL]
set_option maxHeartbeats 1000000 in
theorem nan_any (x : Int) (w : World) : Calls Tryz.prog 67 #[.int .i64 x] w fun e w' => e = .returned (.bool false) ∧ w = w' := by
  have hx : (x != x) = false := by simp
  go_enter Tryz.func67, Tryz.ntmps67
  go_wp2_with fail
  go_ret
  exact ⟨by simp, rfl⟩
set_option maxHeartbeats 1000000 in
theorem compare_any (x y : Int) (w : World) : Calls Tryz.prog 39 #[.int .i64 x, .int .i64 y] w fun e w' => e = .returned (.int .i64 (c3 x y)) ∧ w = w' := by
  rcases c3_ways x y with ⟨h, hc⟩ | ⟨h, hc⟩ | ⟨h, hc⟩
  · have HC := Lib.hid hc
    clear hc
    go_enter Tryz.func39, Tryz.ntmps39
    go_wp2_with (go_at_call 67; (with_reducible refine (nan_any _ _).mono ?_); rintro e w' ⟨rfl, rfl⟩)
    go_ret
    exact ⟨by rw [HC.out]; rfl, rfl⟩
  · have HC := Lib.hid hc
    clear hc
    have h2 : ¬ x < y := by omega
    go_enter Tryz.func39, Tryz.ntmps39
    go_wp2_with (go_at_call 67; (with_reducible refine (nan_any _ _).mono ?_); rintro e w' ⟨rfl, rfl⟩)
    go_ret
    exact ⟨by rw [HC.out]; rfl, rfl⟩
  · subst h
    have HC := Lib.hid hc
    clear hc
    go_enter Tryz.func39, Tryz.ntmps39
    go_wp2_with (go_at_call 67; (with_reducible refine (nan_any _ _).mono ?_); rintro e w' ⟨rfl, rfl⟩)
    go_ret
    exact ⟨by rw [HC.out]; rfl, rfl⟩
set_option maxRecDepth 100000 in
set_option maxHeartbeats 1000000 in
theorem or_three (x y z : Int) (g : Nat) (w : World) (h0 : w.cell? ⟨g, 0, none⟩ = some (.int .i64 x)) (h1 : w.cell? ⟨g, 1, none⟩ = some (.int .i64 y)) (h2 : w.cell? ⟨g, 2, none⟩ = some (.int .i64 z)) :
    Calls Tryz.prog 38 #[.slice (some ⟨g, 0, none⟩) 3 3] w fun e w' => e = .returned (.int .i64 (or2 x (or2 y z))) ∧ w = w' := by
  by_cases hx : x = 0
  · subst hx
    by_cases hy : y = 0
    · subst hy
      by_cases hz : z = 0
      · subst hz
        go_enter Tryz.func38, Tryz.ntmps38
        go_wp2_with fail
        refine wp_loop_rounds 4 ?_
        rw [rounds_succ]
        go_wp2_with fail
        rw [rounds_succ]
        go_wp2_with fail
        rw [rounds_succ]
        go_wp2_with fail
        rw [rounds_succ]
        go_wp2_with fail
        go_ret
        exact ⟨by simp [or2], rfl⟩
      · have hb : (z != 0) = true := by simpa using hz
        go_enter Tryz.func38, Tryz.ntmps38
        go_wp2_with fail
        refine wp_loop_rounds 3 ?_
        rw [rounds_succ]
        go_wp2_with fail
        rw [rounds_succ]
        go_wp2_with fail
        rw [rounds_succ]
        go_wp2_with fail
        go_ret
        exact ⟨by simp [or2], rfl⟩
    · have hb : (y != 0) = true := by simpa using hy
      go_enter Tryz.func38, Tryz.ntmps38
      go_wp2_with fail
      refine wp_loop_rounds 2 ?_
      rw [rounds_succ]
      go_wp2_with fail
      rw [rounds_succ]
      go_wp2_with fail
      go_ret
      exact ⟨by simp [or2, hy], rfl⟩
  · have hb : (x != 0) = true := by simpa using hx
    go_enter Tryz.func38, Tryz.ntmps38
    go_wp2_with fail
    refine wp_loop_rounds 1 ?_
    rw [rounds_succ]
    go_wp2_with fail
    go_ret
    exact ⟨by simp [or2, hx], rfl⟩
/-- What two trees' comparing promises at so many floors. -/
abbrev CmpAt (k : Nat) : Prop := ∀ (F G : Foot) (kd nd kd' nd' : Int) (l m : List DescV) (a b : Option Addr) (n n' c c' : Nat) (w : World), RowOf (descRd k) 3 40 F w a n c l → RowOf (descRd k) 3 40 G w b n' c' m →
  Calls Tryz.prog 20 #[.agg #[.int .i64 kd, .int .i64 nd, .slice a n c], .agg #[.int .i64 kd', .int .i64 nd', .slice b n' c']] w fun e w' => e = .returned (.int .i64 (cmpD (.mk kd nd l) (.mk kd' nd' m))) ∧ Below w.heap.size w w'
theorem row_succ {k : Nat} {F : Foot} {w : World} {a : Option Addr} {n c : Nat} {l : List DescV} (h : RowOf (descRd k) 3 40 F w a n c l) {i : Nat} (hi : i < n) : ∃ j, k = j + 1 := by
  cases k with
  | zero =>
    have e := row_no_zero h
    have := h.len
    rw [e] at this
    simp at this
    omega
  | succ j => exact ⟨j, rfl⟩
set_option maxRecDepth 100000 in
set_option maxHeartbeats 4000000 in
theorem cmpf_any (k : Nat) (ih : ∀ j, k = j + 1 → CmpAt j) (F G : Foot) (l m : List DescV) (a b : Option Addr) (n c c' : Nat) (w : World) (hl : RowOf (descRd k) 3 40 F w a n c l) (hm : RowOf (descRd k) 3 40 G w b n c' m) :
    Calls Tryz.prog 40 #[.slice a n c, .slice b n c', .func (.func 20) #[] #[]] w fun e w' => e = .returned (.int .i64 (cmpL l m)) ∧ Below w.heap.size w w' := by
  have hn := hl.room
  have HIH := Lib.hid ih
  have HL := Lib.hid hl
  have HM := Lib.hid hm
  clear hl hm ih
  go_enter Tryz.func40, Tryz.ntmps40
  go_wp2_with fail
  go_loopg [13] n (fun g iv wr => ∃ i : Nat, i ≤ n ∧ g = n - i ∧ iv = .int .i64 i ∧ cmpL l m = cmpL (l.drop i) (m.drop i) ∧ Below w.heap.size w wr)
  case atStart => exact ⟨0, by omega, rfl, rfl, rfl, Below.refl _ _⟩
  case round =>
    obtain ⟨i, hi, rfl, rfl, hc, hB⟩ := hrel
    obtain ⟨wo, rfl⟩ : ∃ wo : World, wo = wr := ⟨_, rfl⟩
    have HC := Lib.hid hc
    have HB := Lib.hid hB
    clear hc hB
    by_cases hlt : i < n
    · obtain ⟨k, rfl⟩ := row_succ HL.out hlt
      obtain ⟨b1, o1, ax, nx, cx, rfl, hb1, _, _, _, hk, p0, p1, p2⟩ := (HL.out.keep (descRd_ok _) (Fix.of_below HB.out)).desc i (by have := HL.out.len; omega)
      obtain ⟨b2, o2, bx, ny, cy, rfl, hb2, _, _, _, hk', q0, q1, q2⟩ := (HM.out.keep (descRd_ok _) (Fix.of_below HB.out)).desc i (by have := HM.out.len; omega)
      have HST := Lib.hid (cmpL_drop (l := l) (m := m) (i := i) (by have := HL.out.len; omega) (by have := HM.out.len; omega))
      generalize l[i]'_ = d at *
      generalize m[i]'_ = d' at *
      obtain ⟨dk, dn, dl⟩ := d
      obtain ⟨dk', dn', dl'⟩ := d'
      simp only [DescV.kind, DescV.n, DescV.kids] at p0 p1 p2 hk q0 q1 q2 hk'
      have HK := Lib.hid hk
      have HK' := Lib.hid hk'
      clear hk hk'
      have hle : ¬ n ≤ i := by omega
      by_cases hz : cmpD (.mk dk dn dl) (.mk dk' dn' dl') = 0
      · go_wp2_with (go_at_call 20; (with_reducible refine (HIH.out k rfl F G dk dn dk' dn' dl dl' ax bx nx ny cx cy _ (HK.out.keep (descRd_ok _) ((Fix.alloc _ _ _).trans (Fix.alloc _ _ _))) (HK'.out.keep (descRd_ok _) ((Fix.alloc _ _ _).trans (Fix.alloc _ _ _)))).mono ?_); rintro e w2 ⟨rfl, hb2⟩; have HB2 := Lib.hid hb2; clear hb2)
        go_roundg (n - (i + 1))
        case measure => omega
        case rel => exact ⟨i + 1, by omega, rfl, by go_num, by rw [HC.out, HST.out, hz]; rfl, HB.out.trans ((((Below.refl _ _).alloc (Nat.le_refl _) _).alloc (by simp) _).trans (HB2.out.mono (by simp; omega)) |>.mono HB.out.size)⟩
      · have hz' : (cmpD (.mk dk dn dl) (.mk dk' dn' dl') != 0) = true := by simpa using hz
        go_wp2_with (go_at_call 20; (with_reducible refine (HIH.out k rfl F G dk dn dk' dn' dl dl' ax bx nx ny cx cy _ (HK.out.keep (descRd_ok _) ((Fix.alloc _ _ _).trans (Fix.alloc _ _ _))) (HK'.out.keep (descRd_ok _) ((Fix.alloc _ _ _).trans (Fix.alloc _ _ _)))).mono ?_); rintro e w2 ⟨rfl, hb2⟩; have HB2 := Lib.hid hb2; clear hb2)
        go_ret
        exact ⟨by rw [HC.out, HST.out]; simp [or2, hz], HB.out.trans ((((Below.refl _ _).alloc (Nat.le_refl _) _).alloc (by simp) _).trans (HB2.out.mono (by simp; omega)) |>.mono HB.out.size)⟩
    · have hln : ¬ n < n := by omega
      go_wp2_with fail
      go_ret
      exact ⟨by rw [HC.out, cmpL_end (by have := HL.out.len; omega)]; rfl, HB.out⟩
theorem or2_zero {x y : Int} (h : or2 x y = 0) : x = 0 ∧ y = 0 := by
  unfold or2 at h
  split at h
  · exact ⟨‹_›, h⟩
  · exact absurd h ‹_›
theorem or2_assoc (x y z t : Int) : or2 (or2 x (or2 y z)) t = or2 x (or2 y (or2 z t)) := by
  unfold or2
  by_cases hx : x = 0 <;> by_cases hy : y = 0 <;> by_cases hz : z = 0 <;> simp [hx, hy, hz]
set_option maxRecDepth 100000 in
set_option maxHeartbeats 4000000 in
theorem dcmp_step (k : Nat) (ih : ∀ j, k = j + 1 → CmpAt j) : CmpAt k := by
  intro F G kd nd kd' nd' l m a b n n' c c' w hl hm
  obtain ⟨W0, hW0⟩ : ∃ W0, W0 = (w.alloc (.cells #[.int .i64 kd, .int .i64 nd, .slice a n c] 25)).alloc (.cells #[.int .i64 kd', .int .i64 nd', .slice b n' c'] 25) := ⟨_, rfl⟩
  have hb0 : Below w.heap.size w W0 := by rw [hW0]; exact ((Below.refl _ _).alloc (Nat.le_refl _) _).alloc (by simp) _
  have hz : W0.heap.size = w.heap.size + 1 + 1 := by rw [hW0]; simp
  have g0 : W0.heap[w.heap.size]? = some (.cells #[.int .i64 kd, .int .i64 nd, .slice a n c] 25 (0, 0)) := by
    rw [hW0, Lib.alloc_old _ _ _ (by simp)]
    exact heap_alloc_new w _
  have g1 : W0.heap[w.heap.size + 1]? = some (.cells #[.int .i64 kd', .int .i64 nd', .slice b n' c'] 25 (0, 0)) := by
    rw [hW0]
    have := heap_alloc_new (w.alloc (.cells #[.int .i64 kd, .int .i64 nd, .slice a n c] 25)) (.cells #[.int .i64 kd', .int .i64 nd', .slice b n' c'] 25)
    simpa using this
  have HS : Hid (∀ W, Below W0.heap.size W0 W → (W.cell? ⟨w.heap.size, 0, none⟩ = some (.int .i64 kd) ∧ W.cell? ⟨w.heap.size, 1, none⟩ = some (.int .i64 nd) ∧ W.cell? ⟨w.heap.size, 2, none⟩ = some (.slice a n c)) ∧ (W.cell? ⟨w.heap.size + 1, 0, none⟩ = some (.int .i64 kd') ∧ W.cell? ⟨w.heap.size + 1, 1, none⟩ = some (.int .i64 nd') ∧ W.cell? ⟨w.heap.size + 1, 2, none⟩ = some (.slice b n' c'))) := Lib.hid fun W hb => by
    have e0 : W.heap[w.heap.size]? = _ := (hb.block _ (by omega)).trans g0
    have e1 : W.heap[w.heap.size + 1]? = _ := (hb.block _ (by omega)).trans g1
    exact ⟨⟨cell_at (o := 0) e0 rfl, cell_at (o := 1) e0 rfl, cell_at (o := 2) e0 rfl⟩, cell_at (o := 0) e1 rfl, cell_at (o := 1) e1 rfl, cell_at (o := 2) e1 rfl⟩
  have HL := Lib.hid (hl.keep (descRd_ok _) (Fix.of_below hb0))
  have HM := Lib.hid (hm.keep (descRd_ok _) (Fix.of_below hb0))
  have HB0 := Lib.hid hb0
  have HIH := Lib.hid ih
  have HZ := Lib.hid hz
  have hbz := Below.refl W0.heap.size W0
  have HD : Hid (cmpD (.mk kd nd l) (.mk kd' nd' m) = or2 (or2 (c3 kd kd') (or2 (c3 nd nd') (c3 n n'))) (cmpL l m)) := Lib.hid (by rw [cmpD, or2_assoc, hl.len, hm.len])
  by_cases hc : or2 (c3 kd kd') (or2 (c3 nd nd') (c3 n n')) = 0
  · have hnn : n = n' := by have := c3_zero (or2_zero (or2_zero hc).2).2; omega
    subst hnn
    have HC := Lib.hid hc
    clear hl hm ih hb0 hz g0 g1 hc
    go_enter Tryz.func20, Tryz.ntmps20
    go_upto_region 1 with (fail)
    rw [← hW0]
    clear hW0
    go_cut [5] (fun v wx => v = .int .i64 (or2 (c3 kd kd') (or2 (c3 nd nd') (c3 n n))) ∧ Below W0.heap.size W0 wx)
    case first =>
      go_region_held3 (fun W => (W.cell? ⟨w.heap.size, 0, none⟩ = some (.int .i64 kd) ∧ W.cell? ⟨w.heap.size, 1, none⟩ = some (.int .i64 nd) ∧ W.cell? ⟨w.heap.size, 2, none⟩ = some (.slice a n c)) ∧ (W.cell? ⟨w.heap.size + 1, 0, none⟩ = some (.int .i64 kd') ∧ W.cell? ⟨w.heap.size + 1, 1, none⟩ = some (.int .i64 nd') ∧ W.cell? ⟨w.heap.size + 1, 2, none⟩ = some (.slice b n c'))) ((refine HS.out _ ?_; ((repeat' (first | with_reducible assumption | with_reducible refine Below.drew ?_ | (with_reducible refine Below.alloc ?_ ?_ _))) <;> first | assumption | (simp; done) | (simp; omega))))
       (first
        | (go_at_call 39; (with_reducible refine (compare_any _ _ _).mono ?_); rintro e w1 ⟨rfl, rfl⟩)
        | (go_at_call 38; (with_reducible refine (or_three _ _ _ _ _ (by first | exact cell_at (heap_alloc_new _ _) rfl | (simp [go_sem]; done)) (by first | exact cell_at (heap_alloc_new _ _) rfl | (simp [go_sem]; done)) (by first | exact cell_at (heap_alloc_new _ _) rfl | (simp [go_sem]; done))).mono ?_); rintro e w1 ⟨rfl, rfl⟩))
      all_goals
        go_wp2_with fail
        go_meet
        exact ⟨rfl, by ((repeat' (first | with_reducible assumption | with_reducible refine Below.drew ?_ | (with_reducible refine Below.alloc ?_ ?_ _))) <;> first | assumption | (simp; done) | (simp; omega))⟩
    case rest =>
      obtain ⟨rfl, hby⟩ := hcut
      obtain ⟨wx, rfl⟩ : ∃ wx : World, wx = wc := ⟨_, rfl⟩
      obtain ⟨⟨_, _, p2⟩, _, _, q2⟩ := HS.out wx hby
      have HBY := Lib.hid hby
      clear hby hbz
      rw [HC.out]
      go_wp2_with (go_at_call 40; (with_reducible refine (cmpf_any k HIH.out F G l m a b n c c' _ (HL.out.keep (descRd_ok _) (Fix.of_below HBY.out)) (HM.out.keep (descRd_ok _) (Fix.of_below HBY.out))).mono ?_); rintro e w2 ⟨rfl, hb2⟩; have HB2 := Lib.hid hb2; clear hb2)
      go_ret
      exact ⟨by rw [HD.out, HC.out]; rfl, HB0.out.trans ((HBY.out.trans (HB2.out.mono HBY.out.size)).mono HB0.out.size)⟩
  · have hcb : (or2 (c3 kd kd') (or2 (c3 nd nd') (c3 n n')) != 0) = true := by simpa using hc
    have HC := Lib.hid hc
    have HCB := Lib.hid hcb
    clear hl hm ih hb0 hz g0 g1 hc hcb
    go_enter Tryz.func20, Tryz.ntmps20
    go_upto_region 1 with (fail)
    rw [← hW0]
    clear hW0
    go_cut [5] (fun v wx => v = .int .i64 (or2 (c3 kd kd') (or2 (c3 nd nd') (c3 n n'))) ∧ Below W0.heap.size W0 wx)
    case first =>
      go_region_held3 (fun W => (W.cell? ⟨w.heap.size, 0, none⟩ = some (.int .i64 kd) ∧ W.cell? ⟨w.heap.size, 1, none⟩ = some (.int .i64 nd) ∧ W.cell? ⟨w.heap.size, 2, none⟩ = some (.slice a n c)) ∧ (W.cell? ⟨w.heap.size + 1, 0, none⟩ = some (.int .i64 kd') ∧ W.cell? ⟨w.heap.size + 1, 1, none⟩ = some (.int .i64 nd') ∧ W.cell? ⟨w.heap.size + 1, 2, none⟩ = some (.slice b n' c'))) ((refine HS.out _ ?_; ((repeat' (first | with_reducible assumption | with_reducible refine Below.drew ?_ | (with_reducible refine Below.alloc ?_ ?_ _))) <;> first | assumption | (simp; done) | (simp; omega))))
       (first
        | (go_at_call 39; (with_reducible refine (compare_any _ _ _).mono ?_); rintro e w1 ⟨rfl, rfl⟩)
        | (go_at_call 38; (with_reducible refine (or_three _ _ _ _ _ (by first | exact cell_at (heap_alloc_new _ _) rfl | (simp [go_sem]; done)) (by first | exact cell_at (heap_alloc_new _ _) rfl | (simp [go_sem]; done)) (by first | exact cell_at (heap_alloc_new _ _) rfl | (simp [go_sem]; done))).mono ?_); rintro e w1 ⟨rfl, rfl⟩))
      all_goals
        go_wp2_with fail
        go_meet
        exact ⟨rfl, by ((repeat' (first | with_reducible assumption | with_reducible refine Below.drew ?_ | (with_reducible refine Below.alloc ?_ ?_ _))) <;> first | assumption | (simp; done) | (simp; omega))⟩
    case rest =>
      obtain ⟨rfl, hby⟩ := hcut
      obtain ⟨wx, rfl⟩ : ∃ wx : World, wx = wc := ⟨_, rfl⟩
      have HBY := Lib.hid hby
      have hcb := HCB.out
      have hD : cmpD (.mk kd nd l) (.mk kd' nd' m) = or2 (c3 kd kd') (or2 (c3 nd nd') (c3 n n')) := by rw [HD.out]; exact if_neg HC.out
      have HD2 := Lib.hid hD
      clear hby hbz hD
      generalize or2 (c3 kd kd') (or2 (c3 nd nd') (c3 n n')) = r at *
      go_wp2_with fail
      go_ret
      exact ⟨by rw [HD2.out]; rfl, HB0.out.trans (HBY.out.mono HB0.out.size)⟩
theorem dcmp_any : ∀ k, CmpAt k
  | 0 => dcmp_step 0 fun j h => by omega
  | k + 1 => dcmp_step (k + 1) fun j h => by
    obtain rfl : k = j := by omega
    exact dcmp_any k
end Go.Proofs.YtibabpahpiijgaaGreatDoor
