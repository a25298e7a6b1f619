/- Trees compared by the reference; are two the same? -/
import Derived.Test.YtibabpahpiijgaaGreatDoorDescC
namespace Go.Proofs.YtibabpahpiijgaaGreatDoor
open Go.RowKit
set_option linter.unusedSimpArgs false
set_option linter.unusedVariables false
abbrev RCmpAt (k : Nat) : Prop := ∀ (F G : Foot) (kd nd kd' nd' : Int) (l m : List DescV) (a b : Option Addr) (n n' c c' : Nat) (w : World), RowOf (descRd k) 3 40 F w a n c l → RowOf (descRd k) 3 40 G w b n' c' m →
  Calls Tryz.prog 21 #[.agg #[.int .i64 kd, .int .i64 nd, .slice a n c], .agg #[.int .i64 kd', .int .i64 nd', .slice b n' c']] w fun e w' => e = .returned (.int .i64 (cmpD (.mk kd nd l) (.mk kd' nd' m))) ∧ Below w.heap.size w w'
def Pre3 (X Y : Nat → Int) (i : Nat) : Prop := ∀ j, j < i → X j = Y j
theorem pre3_succ {X Y : Nat → Int} {i : Nat} (h : Pre3 X Y i) (e : X i = Y i) : Pre3 X Y (i + 1) := fun j hj => by
  by_cases hji : j = i
  · subst hji; exact e
  · exact h j (by omega)
def or3 (X Y : Nat → Int) : Int := or2 (c3 (X 0) (Y 0)) (or2 (c3 (X 1) (Y 1)) (c3 (X 2) (Y 2)))
theorem or3_at {X Y : Nat → Int} {i : Nat} (hi : i < 3) (h : Pre3 X Y i) (e : X i ≠ Y i) : or3 X Y = c3 (X i) (Y i) := by
  have hc : c3 (X i) (Y i) ≠ 0 := fun z => e (c3_zero z)
  unfold or3
  rcases (by omega : i = 0 ∨ i = 1 ∨ i = 2) with rfl | rfl | rfl
  · exact if_neg hc
  · rw [h 0 (by omega), c3_self]
    simp only [or2, if_true]
    exact if_neg hc
  · rw [h 0 (by omega), h 1 (by omega), c3_self, c3_self]
    simp [or2]
theorem or3_end {X Y : Nat → Int} (h : Pre3 X Y 3) : or3 X Y = 0 := by
  unfold or3
  rw [h 0 (by omega), h 1 (by omega), h 2 (by omega), c3_self, c3_self, c3_self]
  rfl
set_option maxRecDepth 100000 in
set_option maxHeartbeats 8000000 in
theorem rcmp_step (k : Nat) (ih : ∀ j, k = j + 1 → RCmpAt j) : RCmpAt k := by
  intro F G kd nd kd' nd' l m a b n n' c c' w hl hm
  obtain ⟨W0, hW0⟩ : ∃ W0, W0 = (w.alloc (.cells #[.int .i64 kd, .int .i64 nd, .slice a n c] 25)).alloc (.cells #[.int .i64 kd', .int .i64 nd', .slice b n' c'] 25) := ⟨_, rfl⟩
  obtain ⟨W1, hW1⟩ : ∃ W1, W1 = (W0.alloc (.cells #[.int .i64 kd, .int .i64 nd, .int .i64 n] 3)).alloc (.cells #[.int .i64 kd', .int .i64 nd', .int .i64 n'] 3) := ⟨_, rfl⟩
  have hb0 : Below w.heap.size w W0 := by rw [hW0]; exact ((Below.refl _ _).alloc (Nat.le_refl _) _).alloc (by simp) _
  have hz : W0.heap.size = w.heap.size + 1 + 1 := by rw [hW0]; simp
  have hb1 : Below W0.heap.size W0 W1 := by rw [hW1]; exact ((Below.refl _ _).alloc (Nat.le_refl _) _).alloc (by simp) _
  have g0 : W0.heap[w.heap.size]? = some (.cells #[.int .i64 kd, .int .i64 nd, .slice a n c] 25 (0, 0)) := by
    rw [hW0, Lib.alloc_old _ _ _ (by simp)]
    exact heap_alloc_new w _
  have g1 : W0.heap[w.heap.size + 1]? = some (.cells #[.int .i64 kd', .int .i64 nd', .slice b n' c'] 25 (0, 0)) := by
    rw [hW0]
    have := heap_alloc_new (w.alloc (.cells #[.int .i64 kd, .int .i64 nd, .slice a n c] 25)) (.cells #[.int .i64 kd', .int .i64 nd', .slice b n' c'] 25)
    simpa using this
  have g2 : W1.heap[W0.heap.size]? = some (.cells #[.int .i64 kd, .int .i64 nd, .int .i64 n] 3 (0, 0)) := by
    rw [hW1, Lib.alloc_old _ _ _ (by simp)]
    exact heap_alloc_new W0 _
  have g3 : W1.heap[W0.heap.size + 1]? = some (.cells #[.int .i64 kd', .int .i64 nd', .int .i64 n'] 3 (0, 0)) := by
    rw [hW1]
    have := heap_alloc_new (W0.alloc (.cells #[.int .i64 kd, .int .i64 nd, .int .i64 n] 3)) (.cells #[.int .i64 kd', .int .i64 nd', .int .i64 n'] 3)
    simpa using this
  obtain ⟨X, hX⟩ : ∃ X : Nat → Int, X = fun i => if i = 0 then kd else if i = 1 then nd else n := ⟨_, rfl⟩
  obtain ⟨Y, hY⟩ : ∃ Y : Nat → Int, Y = fun i => if i = 0 then kd' else if i = 1 then nd' else n' := ⟨_, rfl⟩
  have HXC : Hid (∀ i, i < 3 → W1.cell? ⟨W0.heap.size, i, none⟩ = some (.int .i64 (X i))) := Lib.hid fun i hi => by
    rcases (by omega : i = 0 ∨ i = 1 ∨ i = 2) with rfl | rfl | rfl <;> rw [hX] <;> exact cell_at g2 rfl
  have HYC : Hid (∀ i, i < 3 → W1.cell? ⟨W0.heap.size + 1, i, none⟩ = some (.int .i64 (Y i))) := Lib.hid fun i hi => by
    rcases (by omega : i = 0 ∨ i = 1 ∨ i = 2) with rfl | rfl | rfl <;> rw [hY] <;> exact cell_at g3 rfl
  have HN : Hid (X 2 = n ∧ Y 2 = n') := Lib.hid (by rw [hX, hY]; exact ⟨rfl, rfl⟩)
  have HO : Hid (or2 (c3 kd kd') (or2 (c3 nd nd') (c3 n n')) = or3 X Y) := Lib.hid (by rw [hX, hY]; rfl)
  have t0 := cell_at (o := 0) g0 rfl
  have t1 := cell_at (o := 1) g0 rfl
  have t2 := cell_at (o := 2) g0 rfl
  have u0 := cell_at (o := 0) g1 rfl
  have u1 := cell_at (o := 1) g1 rfl
  have u2 := cell_at (o := 2) g1 rfl
  have HT : Hid (∀ W, Below W1.heap.size W1 W → W.cell? ⟨w.heap.size, 2, none⟩ = some (.slice a n c) ∧ W.cell? ⟨w.heap.size + 1, 2, none⟩ = some (.slice b n' c')) := Lib.hid fun W hb => by
    have hbb : Below W0.heap.size W0 W := hb1.trans (hb.mono hb1.size)
    exact ⟨(hbb.cell (p := ⟨w.heap.size, 2, none⟩) (by show w.heap.size < _; omega)).trans t2, (hbb.cell (p := ⟨w.heap.size + 1, 2, none⟩) (by show w.heap.size + 1 < _; omega)).trans u2⟩
  have HL := Lib.hid (hl.keep (descRd_ok _) (Fix.of_below (hb0.trans (hb1.mono hb0.size))))
  have HM := Lib.hid (hm.keep (descRd_ok _) (Fix.of_below (hb0.trans (hb1.mono hb0.size))))
  have HB1 := Lib.hid (hb0.trans (hb1.mono hb0.size))
  have HIH := Lib.hid ih
  have HZ := Lib.hid hz
  have HD : Hid (cmpD (.mk kd nd l) (.mk kd' nd' m) = or2 (or2 (c3 kd kd') (or2 (c3 nd nd') (c3 n n'))) (cmpL l m)) := Lib.hid (by rw [cmpD, or2_assoc, hl.len, hm.len])
  have hnn := hl.room
  clear hl hm ih hb0 hb1 g0 g1 g2 g3 hX hY
  go_enter Tryz.func21, Tryz.ntmps21
  go_wp2_with fail
  rw [← hW0, ← hz, ← hW1]
  clear hW0 hW1 hz t0 t1 t2 u0 u1 u2
  go_loopg [7] 3 (fun g iv wr => ∃ i d : Nat, i ≤ 3 ∧ g = 3 - i ∧ iv = .int .i64 i ∧ Pre3 X Y i ∧ wr = W1.drewN d)
  case atStart => exact ⟨0, 0, by omega, rfl, rfl, fun j hj => by omega, rfl⟩
  case round =>
    obtain ⟨i, d, hi, rfl, rfl, hp, rfl⟩ := hrel
    have HP := Lib.hid hp
    clear hp
    by_cases hlt : i < 3
    · have x0 := HXC.out i hlt
      have y0 := HYC.out i hlt
      rcases (by omega : X i < Y i ∨ Y i < X i ∨ X i = Y i) with h | h | h
      · have HE := Lib.hid (or3_at hlt HP.out (by omega : X i ≠ Y i))
        have HCC := Lib.hid (c3_lt h)
        generalize X i = x at *
        generalize Y i = y at *
        go_wp2_with fail
        go_quiet (fail)
        go_wp2_with fail
        go_ret
        exact ⟨by rw [HD.out, HO.out, HE.out, HCC.out]; rfl, by first | exact below_drewN HB1.out _ | exact below_drewN (below_drewN HB1.out _) _ | exact below_drewN (below_drewN (below_drewN HB1.out _) _) _⟩
      · have HE := Lib.hid (or3_at hlt HP.out (by omega : X i ≠ Y i))
        have HCC := Lib.hid (c3_gt h)
        have h' : ¬ X i < Y i := by omega
        generalize X i = x at *
        generalize Y i = y at *
        go_wp2_with fail
        go_quiet (fail)
        go_wp2_with fail
        go_quiet (fail)
        go_wp2_with fail
        go_ret
        exact ⟨by rw [HD.out, HO.out, HE.out, HCC.out]; rfl, by first | exact below_drewN HB1.out _ | exact below_drewN (below_drewN HB1.out _) _ | exact below_drewN (below_drewN (below_drewN HB1.out _) _) _⟩
      · have HPN := Lib.hid (pre3_succ HP.out h)
        rw [← h] at y0
        clear h
        generalize X i = x at *
        go_wp2_with fail
        go_quiet (fail)
        go_wp2_with fail
        go_quiet (fail)
        go_wp2_with fail
        go_roundg (3 - (i + 1))
        case measure => omega
        case rel => exact ⟨i + 1, _, by omega, rfl, by go_num, HPN.out, rfl⟩
    · obtain rfl : i = 3 := by omega
      have HE : Hid (or3 X Y = 0) := Lib.hid (or3_end HP.out)
      have hnn2 : n = n' := by have h := HP.out 2 (by omega); rw [HN.out.1, HN.out.2] at h; omega
      subst hnn2
      have hby : Below W1.heap.size W1 (W1.drewN d) := below_drewN (Below.refl _ _) _
      clear hlt hi
      go_wp2_with fail
      generalize W1.drewN d = W2 at *
      have HBY := Lib.hid hby
      clear hby
      go_loopg [8, 9] n (fun g iv tv wr => ∃ i : Nat, i ≤ n ∧ g = n - i ∧ iv = .int .i64 i ∧ cmpL l m = cmpL (l.drop i) (m.drop i) ∧ Below W1.heap.size W1 wr)
      case atStart => exact ⟨0, by omega, rfl, rfl, rfl, HBY.out⟩
      case round =>
        obtain ⟨i, hi, rfl, rfl, hc, hB⟩ := hrel
        obtain ⟨wo, rfl⟩ : ∃ wo : World, wo = wr := ⟨_, rfl⟩
        have HC := Lib.hid hc
        obtain ⟨t2, u2⟩ := HT.out wo hB
        have HB := Lib.hid hB
        clear hc hB
        by_cases hlt : i < n
        · obtain ⟨k, rfl⟩ := row_succ HL.out hlt
          obtain ⟨b1, o1, ax, nx, cx, rfl, hb1, _, _, _, hk, p0, p1, p2⟩ := (HL.out.keep (descRd_ok _) (Fix.of_below HB.out)).desc i (by have := HL.out.len; omega)
          obtain ⟨b2, o2, bx, ny, cy, rfl, hb2, _, _, _, hk', q0, q1, q2⟩ := (HM.out.keep (descRd_ok _) (Fix.of_below HB.out)).desc i (by have := HM.out.len; omega)
          have HST := Lib.hid (cmpL_drop (l := l) (m := m) (i := i) (by have := HL.out.len; omega) (by have := HM.out.len; omega))
          generalize l[i]'_ = dd at *
          generalize m[i]'_ = dd' at *
          obtain ⟨dk, dn, dl⟩ := dd
          obtain ⟨dk', dn', dl'⟩ := dd'
          simp only [DescV.kind, DescV.n, DescV.kids] at p0 p1 p2 hk q0 q1 q2 hk'
          have HK := Lib.hid hk
          have HK' := Lib.hid hk'
          have HS : Hid (∀ W, Below wo.heap.size wo W → W.cell? ⟨w.heap.size, 2, none⟩ = some (.slice (some ⟨b1, o1, none⟩) n c) ∧ W.cell? ⟨w.heap.size + 1, 2, none⟩ = some (.slice (some ⟨b2, o2, none⟩) n c') ∧ W.cell? ⟨b1, o1 + i * 3, none⟩ = some (.int .i64 dk) ∧ W.cell? ⟨b1, o1 + i * 3 + 1, none⟩ = some (.int .i64 dn) ∧ W.cell? ⟨b1, o1 + i * 3 + 2, none⟩ = some (.slice ax nx cx) ∧ W.cell? ⟨b2, o2 + i * 3, none⟩ = some (.int .i64 dk') ∧ W.cell? ⟨b2, o2 + i * 3 + 1, none⟩ = some (.int .i64 dn') ∧ W.cell? ⟨b2, o2 + i * 3 + 2, none⟩ = some (.slice bx ny cy)) := Lib.hid fun W hb => by
            have e : ∀ g o, g < wo.heap.size → W.cell? ⟨g, o, none⟩ = wo.cell? ⟨g, o, none⟩ := fun g o h => hb.cell (p := ⟨g, o, none⟩) h
            have z1 : w.heap.size < wo.heap.size := World.block_lt_of_cell? wo _ t2
            have z2 : w.heap.size + 1 < wo.heap.size := World.block_lt_of_cell? wo _ u2
            simp only [e _ _ z1, e _ _ z2, e _ _ hb1, e _ _ hb2]
            exact ⟨t2, u2, p0, p1, p2, q0, q1, q2⟩
          have hbz := Below.refl wo.heap.size wo
          clear hk hk'
          by_cases hz : cmpD (.mk dk dn dl) (.mk dk' dn' dl') = 0
          · have HZZ := Lib.hid hz
            clear hz
            go_wp2_with fail
            clear t2 u2 p0 p1 p2 q0 q1 q2
            go_region_held3 (fun W => W.cell? ⟨w.heap.size, 2, none⟩ = some (.slice (some ⟨b1, o1, none⟩) n c) ∧ W.cell? ⟨w.heap.size + 1, 2, none⟩ = some (.slice (some ⟨b2, o2, none⟩) n c') ∧ W.cell? ⟨b1, o1 + i * 3, none⟩ = some (.int .i64 dk) ∧ W.cell? ⟨b1, o1 + i * 3 + 1, none⟩ = some (.int .i64 dn) ∧ W.cell? ⟨b1, o1 + i * 3 + 2, none⟩ = some (.slice ax nx cx) ∧ W.cell? ⟨b2, o2 + i * 3, none⟩ = some (.int .i64 dk') ∧ W.cell? ⟨b2, o2 + i * 3 + 1, none⟩ = some (.int .i64 dn') ∧ W.cell? ⟨b2, o2 + i * 3 + 2, none⟩ = some (.slice bx ny cy)) ((refine HS.out _ ?_; ((repeat' (first | with_reducible assumption | with_reducible refine Below.drew ?_ | (with_reducible refine Below.alloc ?_ ?_ _))) <;> first | assumption | (simp; done) | (simp; omega))))
             ((go_at_call 21; (with_reducible refine (HIH.out k rfl F G dk dn dk' dn' dl dl' ax bx nx ny cx cy _ (HK.out.keep (descRd_ok _) (Fix.of_below (by ((repeat' (first | with_reducible assumption | with_reducible refine Below.drew ?_ | (with_reducible refine Below.alloc ?_ ?_ _))) <;> first | assumption | (simp; done) | (simp; omega))))) (HK'.out.keep (descRd_ok _) (Fix.of_below (by ((repeat' (first | with_reducible assumption | with_reducible refine Below.drew ?_ | (with_reducible refine Below.alloc ?_ ?_ _))) <;> first | assumption | (simp; done) | (simp; omega)))))).mono ?_); rintro e w2 ⟨rfl, hb2⟩; have HB2 : Below wo.heap.size wo w2 := Below.trans (by ((repeat' (first | with_reducible assumption | with_reducible refine Below.drew ?_ | (with_reducible refine Below.alloc ?_ ?_ _))) <;> first | assumption | (simp; done) | (simp; omega))) (Below.mono hb2 (Below.size (show Below wo.heap.size wo _ from by ((repeat' (first | with_reducible assumption | with_reducible refine Below.drew ?_ | (with_reducible refine Below.alloc ?_ ?_ _))) <;> first | assumption | (simp; done) | (simp; omega))))); clear hb2))
            all_goals
              rw [HZZ.out]
              go_wp2_with fail
              go_roundg (n - (i + 1))
              case measure => omega
              case rel => exact ⟨i + 1, by omega, rfl, by go_num, by rw [HC.out, HST.out, HZZ.out]; rfl, HB.out.trans (Below.mono (show Below wo.heap.size wo _ from by ((repeat' (first | with_reducible assumption | with_reducible refine Below.drew ?_ | (with_reducible refine Below.alloc ?_ ?_ _))) <;> first | assumption | (simp; done) | (simp; omega))) HB.out.size)⟩
          · have hz' : (cmpD (.mk dk dn dl) (.mk dk' dn' dl') != 0) = true := by simpa using hz
            have HZZ : Hid (cmpL l m = cmpD (.mk dk dn dl) (.mk dk' dn' dl')) := Lib.hid (by rw [HC.out, HST.out]; exact if_neg hz)
            have HZ2 := Lib.hid hz'
            clear hz hz'
            go_wp2_with fail
            clear t2 u2 p0 p1 p2 q0 q1 q2
            go_region_held3 (fun W => W.cell? ⟨w.heap.size, 2, none⟩ = some (.slice (some ⟨b1, o1, none⟩) n c) ∧ W.cell? ⟨w.heap.size + 1, 2, none⟩ = some (.slice (some ⟨b2, o2, none⟩) n c') ∧ W.cell? ⟨b1, o1 + i * 3, none⟩ = some (.int .i64 dk) ∧ W.cell? ⟨b1, o1 + i * 3 + 1, none⟩ = some (.int .i64 dn) ∧ W.cell? ⟨b1, o1 + i * 3 + 2, none⟩ = some (.slice ax nx cx) ∧ W.cell? ⟨b2, o2 + i * 3, none⟩ = some (.int .i64 dk') ∧ W.cell? ⟨b2, o2 + i * 3 + 1, none⟩ = some (.int .i64 dn') ∧ W.cell? ⟨b2, o2 + i * 3 + 2, none⟩ = some (.slice bx ny cy)) ((refine HS.out _ ?_; ((repeat' (first | with_reducible assumption | with_reducible refine Below.drew ?_ | (with_reducible refine Below.alloc ?_ ?_ _))) <;> first | assumption | (simp; done) | (simp; omega))))
             ((go_at_call 21; (with_reducible refine (HIH.out k rfl F G dk dn dk' dn' dl dl' ax bx nx ny cx cy _ (HK.out.keep (descRd_ok _) (Fix.of_below (by ((repeat' (first | with_reducible assumption | with_reducible refine Below.drew ?_ | (with_reducible refine Below.alloc ?_ ?_ _))) <;> first | assumption | (simp; done) | (simp; omega))))) (HK'.out.keep (descRd_ok _) (Fix.of_below (by ((repeat' (first | with_reducible assumption | with_reducible refine Below.drew ?_ | (with_reducible refine Below.alloc ?_ ?_ _))) <;> first | assumption | (simp; done) | (simp; omega)))))).mono ?_); rintro e w2 ⟨rfl, hb2⟩; have HB2 : Below wo.heap.size wo w2 := Below.trans (by ((repeat' (first | with_reducible assumption | with_reducible refine Below.drew ?_ | (with_reducible refine Below.alloc ?_ ?_ _))) <;> first | assumption | (simp; done) | (simp; omega))) (Below.mono hb2 (Below.size (show Below wo.heap.size wo _ from by ((repeat' (first | with_reducible assumption | with_reducible refine Below.drew ?_ | (with_reducible refine Below.alloc ?_ ?_ _))) <;> first | assumption | (simp; done) | (simp; omega))))); clear hb2))
            all_goals
              have hz' := HZ2.out
              go_wp2_with fail
              go_ret
              exact ⟨by rw [HD.out, HO.out, HE.out, HZZ.out]; rfl, HB1.out.trans ((HB.out.trans (Below.mono (show Below wo.heap.size wo _ from by ((repeat' (first | with_reducible assumption | with_reducible refine Below.drew ?_ | (with_reducible refine Below.alloc ?_ ?_ _))) <;> first | assumption | (simp; done) | (simp; omega))) HB.out.size)).mono HB1.out.size)⟩
        · go_wp2_with fail
          go_ret
          exact ⟨by rw [HD.out, HO.out, HE.out, HC.out, cmpL_end (by have := HL.out.len; omega)]; rfl, HB1.out.trans (HB.out.mono HB1.out.size)⟩
theorem rcmp_any : ∀ k, RCmpAt k
  | 0 => rcmp_step 0 fun j h => by omega
  | k + 1 => rcmp_step (k + 1) fun j h => by
    obtain rfl : k = j := by omega
    exact rcmp_any k
set_option maxRecDepth 100000 in
set_option maxHeartbeats 4000000 in
theorem dsame_any (k : Nat) (F G : Foot) (kd nd kd' nd' : Int) (l m : List DescV) (a b : Option Addr) (n n' c c' : Nat) (w : World) (hl : RowOf (descRd k) 3 40 F w a n c l) (hm : RowOf (descRd k) 3 40 G w b n' c' m) :
    Calls Tryz.prog 12 #[.agg #[.int .i64 kd, .int .i64 nd, .slice a n c], .agg #[.int .i64 kd', .int .i64 nd', .slice b n' c']] w fun e w' => e = .returned (.bool (decide (cmpD (.mk kd nd l) (.mk kd' nd' m) = 0))) ∧ Below w.heap.size w w' := by
  have hb0 : Below w.heap.size w ((w.alloc (.cells #[.int .i64 kd, .int .i64 nd, .slice a n c] 25)).alloc (.cells #[.int .i64 kd', .int .i64 nd', .slice b n' c'] 25)) := ((Below.refl _ _).alloc (Nat.le_refl _) _).alloc (by simp) _
  have HL := Lib.hid (hl.keep (descRd_ok _) (Fix.of_below hb0))
  have HM := Lib.hid (hm.keep (descRd_ok _) (Fix.of_below hb0))
  have HB0 := Lib.hid hb0
  clear hl hm hb0
  go_enter Tryz.func12, Tryz.ntmps12
  go_wp2_with (go_at_call 20; (with_reducible refine (dcmp_any k F G kd nd kd' nd' l m a b n n' c c' _ HL.out HM.out).mono ?_); rintro e w2 ⟨rfl, hb2⟩; have HB2 := Lib.hid (HB0.out.trans (hb2.mono HB0.out.size)); clear hb2)
  go_ret
  exact ⟨rfl, HB2.out⟩
set_option maxRecDepth 100000 in
set_option maxHeartbeats 4000000 in
theorem rsame_any (k : Nat) (F G : Foot) (kd nd kd' nd' : Int) (l m : List DescV) (a b : Option Addr) (n n' c c' : Nat) (w : World) (hl : RowOf (descRd k) 3 40 F w a n c l) (hm : RowOf (descRd k) 3 40 G w b n' c' m) :
    Calls Tryz.prog 14 #[.agg #[.int .i64 kd, .int .i64 nd, .slice a n c], .agg #[.int .i64 kd', .int .i64 nd', .slice b n' c']] w fun e w' => e = .returned (.bool (decide (cmpD (.mk kd nd l) (.mk kd' nd' m) = 0))) ∧ Below w.heap.size w w' := by
  have hb0 : Below w.heap.size w ((w.alloc (.cells #[.int .i64 kd, .int .i64 nd, .slice a n c] 25)).alloc (.cells #[.int .i64 kd', .int .i64 nd', .slice b n' c'] 25)) := ((Below.refl _ _).alloc (Nat.le_refl _) _).alloc (by simp) _
  have HL := Lib.hid (hl.keep (descRd_ok _) (Fix.of_below hb0))
  have HM := Lib.hid (hm.keep (descRd_ok _) (Fix.of_below hb0))
  have HB0 := Lib.hid hb0
  clear hl hm hb0
  go_enter Tryz.func14, Tryz.ntmps14
  go_wp2_with (go_at_call 21; (with_reducible refine (rcmp_any k F G kd nd kd' nd' l m a b n n' c c' _ HL.out HM.out).mono ?_); rintro e w2 ⟨rfl, hb2⟩; have HB2 := Lib.hid (HB0.out.trans (hb2.mono HB0.out.size)); clear hb2)
  go_ret
  exact ⟨rfl, HB2.out⟩
end Go.Proofs.YtibabpahpiijgaaGreatDoor
