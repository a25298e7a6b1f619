/- Which trees are too big, and which may be printed. -/
import Derived.Test.YthjcmcgmalnfpaaGreatDoorGTree
import Derived.Test.YthjcmcgmalnfpaaGreatDoorGLex
namespace Go.Proofs.YthjcmcgmalnfpaaGreatDoor.Lex
open Go.RowKit
set_option linter.unusedSimpArgs false
set_option linter.unusedVariables false
theorem desc_box (kd nd : Int) (a : Option Addr) (n cap : Nat) (w : World) :
    let W0 := w.alloc (.cells #[.int .i64 kd, .int .i64 nd, .slice a n cap] 54)
    Below w.heap.size w W0 ∧ w.heap.size < W0.heap.size ∧ ∀ W, Below W0.heap.size W0 W → W.cell? ⟨w.heap.size, 0, none⟩ = some (.int .i64 kd) ∧ W.cell? ⟨w.heap.size, 1, none⟩ = some (.int .i64 nd) ∧ W.cell? ⟨w.heap.size, 2, none⟩ = some (.slice a n cap) := by
  have g0 := heap_alloc_new w (.cells #[.int .i64 kd, .int .i64 nd, .slice a n cap] 54)
  have hz : w.heap.size < (w.alloc (.cells #[.int .i64 kd, .int .i64 nd, .slice a n cap] 54)).heap.size := by simp
  refine ⟨(Below.refl _ _).alloc (Nat.le_refl _) _, hz, fun W hb => ?_⟩
  have g := (hb.block _ hz).trans g0
  exact ⟨cell_at g rfl, cell_at g rfl, cell_at g rfl⟩
set_option maxRecDepth 100000 in
set_option maxHeartbeats 1000000 in
theorem big_any (k : Nat) (F : Foot) (kd nd : Int) (l : List DescV) (a : Option Addr) (n cap : Nat) (w : World) (hl : RowOf (descRd k) 3 40 F w a n cap l) (hm : DescV.nodesL l < 1048576) :
    Calls Tryz.prog 51 #[.agg #[.int .i64 kd, .int .i64 nd, .slice a n cap]] w fun e w' => e = .returned (.bool (bigD (.mk kd nd l))) ∧ Below w.heap.size w w' := by
  obtain ⟨hb0, hz0, hc⟩ := desc_box kd nd a n cap w
  obtain ⟨W0, hW0⟩ : ∃ W0, W0 = w.alloc (.cells #[.int .i64 kd, .int .i64 nd, .slice a n cap] 54) := ⟨_, rfl⟩
  rw [← hW0] at hb0 hz0 hc
  have H1 := Lib.hid (nodes_any k F kd nd l a n cap W0 (hl.keep (descRd_ok _) (Fix.of_below hb0)) hm)
  have H2 : Hid (∀ W, Below W0.heap.size W0 W → Calls Tryz.prog 75 #[.agg #[.int .i64 kd, .int .i64 nd, .slice a n cap]] W fun e w' => e = .returned (.int .i64 ((DescV.depthL l + 1 : Nat) : Int)) ∧ Below W0.heap.size W0 w') := Lib.hid fun W hb =>
    (depth_any k F kd nd l a n cap W (hl.keep (descRd_ok _) (Fix.of_below (hb0.trans (hb.mono hb0.size)))) hm).mono fun e w' h => ⟨h.1, hb.trans (h.2.mono hb.size)⟩
  have HC := Lib.hid hc
  have HB0 := Lib.hid hb0
  have t0 := hc W0 (Below.refl _ _)
  obtain ⟨t00, t01, t02⟩ := t0
  have hE : bigD (.mk kd nd l) = decide (60 < (DescV.mk kd nd l).nodes ∨ 12 < DescV.depthL l + 1) := rfl
  rw [hE]
  clear hl hm hb0 hz0 hc hE
  generalize (DescV.mk kd nd l).nodes = N at *
  generalize DescV.depthL l + 1 = D at *
  by_cases hN : 60 < N
  · have hN' : (60 : Int) < N := by omega
    have HE : Hid (decide (60 < N ∨ 12 < D) = true) := Lib.hid (by simp [hN])
    clear hN
    go_enter Tryz.func51, Tryz.ntmps51
    go_wp2_with (rw [← hW0]; (go_at_call 74; (with_reducible refine H1.out.mono ?_); rintro e w1 ⟨rfl, hb1⟩; have HB1 := Lib.hid hb1; clear hb1))
    go_ret
    exact ⟨by rw [HE.out]; rfl, HB0.out.trans (HB1.out.mono HB0.out.size)⟩
  · have hN' : ¬ (60 : Int) < N := by omega
    by_cases hD : 12 < D
    · have hD' : (12 : Int) < D := by omega
      have HE : Hid (decide (60 < N ∨ 12 < D) = true) := Lib.hid (by simp [hD])
      clear hN hD
      go_enter Tryz.func51, Tryz.ntmps51
      go_wp2_with (first
        | (rw [← hW0]; (go_at_call 74; (with_reducible refine H1.out.mono ?_); rintro e w1 ⟨rfl, hb1⟩; have HB1 := Lib.hid hb1; obtain ⟨t10, t11, t12⟩ := HC.out w1 hb1; clear hb1))
        | (go_at_call 75; (with_reducible refine (H2.out _ HB1.out).mono ?_); rintro e w2 ⟨rfl, hb2⟩; have HB2 := Lib.hid hb2; clear hb2))
      go_ret
      exact ⟨by rw [HE.out]; rfl, HB0.out.trans (HB2.out.mono HB0.out.size)⟩
    · have hD' : ¬ (12 : Int) < D := by omega
      have HE : Hid (decide (60 < N ∨ 12 < D) = false) := Lib.hid (by simp; omega)
      clear hN hD
      go_enter Tryz.func51, Tryz.ntmps51
      go_wp2_with (first
        | (rw [← hW0]; (go_at_call 74; (with_reducible refine H1.out.mono ?_); rintro e w1 ⟨rfl, hb1⟩; have HB1 := Lib.hid hb1; obtain ⟨t10, t11, t12⟩ := HC.out w1 hb1; clear hb1))
        | (go_at_call 75; (with_reducible refine (H2.out _ HB1.out).mono ?_); rintro e w2 ⟨rfl, hb2⟩; have HB2 := Lib.hid hb2; clear hb2))
      go_ret
      exact ⟨by rw [HE.out]; simp [hN', hD'], HB0.out.trans (HB2.out.mono HB0.out.size)⟩
set_option maxRecDepth 100000 in
set_option maxHeartbeats 1000000 in
theorem rbig_any (k : Nat) (F : Foot) (kd nd : Int) (l : List DescV) (a : Option Addr) (n cap : Nat) (w : World) (hl : RowOf (descRd k) 3 40 F w a n cap l) (hm : DescV.nodesL l < 1048576) :
    Calls Tryz.prog 69 #[.agg #[.int .i64 kd, .int .i64 nd, .slice a n cap]] w fun e w' => e = .returned (.bool (bigD (.mk kd nd l))) ∧ Below w.heap.size w w' := by
  obtain ⟨hb0, hz0, hc⟩ := desc_box kd nd a n cap w
  obtain ⟨W0, hW0⟩ : ∃ W0, W0 = w.alloc (.cells #[.int .i64 kd, .int .i64 nd, .slice a n cap] 54) := ⟨_, rfl⟩
  rw [← hW0] at hb0 hz0 hc
  have H1 := Lib.hid (list_any k F kd nd l a n cap W0 (hl.keep (descRd_ok _) (Fix.of_below hb0)) hm)
  have H2 : Hid (∀ W, Below W0.heap.size W0 W → Calls Tryz.prog 91 #[.agg #[.int .i64 kd, .int .i64 nd, .slice a n cap]] W fun e w' => e = .returned (.int .i64 ((DescV.depthL l + 1 : Nat) : Int)) ∧ Below W0.heap.size W0 w') := Lib.hid fun W hb =>
    (rdepth_any k F kd nd l a n cap W (hl.keep (descRd_ok _) (Fix.of_below (hb0.trans (hb.mono hb0.size)))) hm).mono fun e w' h => ⟨h.1, hb.trans (h.2.mono hb.size)⟩
  have HC := Lib.hid hc
  have HB0 := Lib.hid hb0
  have t0 := hc W0 (Below.refl _ _)
  obtain ⟨t00, t01, t02⟩ := t0
  have hE : bigD (.mk kd nd l) = decide (60 < 1 + DescV.nodesL l ∨ 12 < DescV.depthL l + 1) := by unfold bigD; rw [DescV.nodes_kids, DescV.depth_kids]; simp only [DescV.kids, Nat.add_comm]
  rw [hE]
  clear hl hm hb0 hz0 hc hE
  generalize 1 + DescV.nodesL l = N at *
  generalize DescV.depthL l + 1 = D at *
  by_cases hN : 60 < N
  · have hN' : (60 : Int) < N := by omega
    have HE : Hid (decide (60 < N ∨ 12 < D) = true) := Lib.hid (by simp [hN])
    go_enter Tryz.func69, Tryz.ntmps69
    go_wp2_with (rw [← hW0]; (go_at_call 21; (with_reducible refine H1.out.mono ?_); rintro e w1 ⟨a1, c1, x1, rfl, _, _, _, hb1⟩; have HB1 := Lib.hid hb1; clear hb1))
    go_ret
    exact ⟨by rw [HE.out]; simp [hN'], HB0.out.trans (HB1.out.mono HB0.out.size)⟩
  · have hN' : ¬ (60 : Int) < N := by omega
    by_cases hD : 12 < D
    · have hD' : (12 : Int) < D := by omega
      have HE : Hid (decide (60 < N ∨ 12 < D) = true) := Lib.hid (by simp [hD])
      go_enter Tryz.func69, Tryz.ntmps69
      go_wp2_with (first
        | (rw [← hW0]; (go_at_call 21; (with_reducible refine H1.out.mono ?_); rintro e w1 ⟨a1, c1, x1, rfl, _, _, _, hb1⟩; have HB1 := Lib.hid hb1; obtain ⟨t10, t11, t12⟩ := HC.out w1 hb1; clear hb1))
        | (go_at_call 91; (with_reducible refine (H2.out _ HB1.out).mono ?_); rintro e w2 ⟨rfl, hb2⟩; have HB2 := Lib.hid hb2; clear hb2))
      go_ret
      exact ⟨by rw [HE.out]; simp [hN', hD'], HB0.out.trans (HB2.out.mono HB0.out.size)⟩
    · have hD' : ¬ (12 : Int) < D := by omega
      have HE : Hid (decide (60 < N ∨ 12 < D) = false) := Lib.hid (by simp; omega)
      go_enter Tryz.func69, Tryz.ntmps69
      go_wp2_with (first
        | (rw [← hW0]; (go_at_call 21; (with_reducible refine H1.out.mono ?_); rintro e w1 ⟨a1, c1, x1, rfl, _, _, _, hb1⟩; have HB1 := Lib.hid hb1; obtain ⟨t10, t11, t12⟩ := HC.out w1 hb1; clear hb1))
        | (go_at_call 91; (with_reducible refine (H2.out _ HB1.out).mono ?_); rintro e w2 ⟨rfl, hb2⟩; have HB2 := Lib.hid hb2; clear hb2))
      go_ret
      exact ⟨by rw [HE.out]; simp [hN', hD'], HB0.out.trans (HB2.out.mono HB0.out.size)⟩
def okH (p : Int × Int) : Bool := decide (1 ≤ p.1 ∧ p.1 ≤ 7 ∧ 0 ≤ p.2 ∧ p.2 ≤ 999999999)
/-- The error of a tree that is to be printed. -/
def chkD (d : DescV) : Int := if bigD d = true then 12 else if d.heads.all okH = true then 0 else 8
set_option maxRecDepth 100000 in
set_option maxHeartbeats 4000000 in
theorem check_any (k : Nat) (F : Foot) (kd nd : Int) (l : List DescV) (a : Option Addr) (n cap : Nat) (w : World) (hl : RowOf (descRd k) 3 40 F w a n cap l) (hm : DescV.nodesL l < 1048576) :
    Calls Tryz.prog 48 #[.agg #[.int .i64 kd, .int .i64 nd, .slice a n cap]] w fun e w' => e = .returned (.int .i64 (chkD (.mk kd nd l))) ∧ Below w.heap.size w w' := by
  obtain ⟨hb0, hz0, hc⟩ := desc_box kd nd a n cap w
  obtain ⟨W0, hW0⟩ : ∃ W0, W0 = w.alloc (.cells #[.int .i64 kd, .int .i64 nd, .slice a n cap] 54) := ⟨_, rfl⟩
  rw [← hW0] at hb0 hz0 hc
  have H1 := Lib.hid (rbig_any k F kd nd l a n cap W0 (hl.keep (descRd_ok _) (Fix.of_below hb0)) hm)
  have H2 : Hid (∀ W, Below W0.heap.size W0 W → Calls Tryz.prog 21 #[.agg #[.int .i64 kd, .int .i64 nd, .slice a n cap]] W (ListPost (1 + DescV.nodesL l) ((kd, nd) :: DescV.headsL l) W)) := Lib.hid fun W hb =>
    (list_any k F kd nd l a n cap W (hl.keep (descRd_ok _) (Fix.of_below (hb0.trans (hb.mono hb0.size)))) hm)
  have HC := Lib.hid hc
  have HB0 := Lib.hid hb0
  have t0 := hc W0 (Below.refl _ _)
  obtain ⟨t00, t01, t02⟩ := t0
  have HLN : Hid (((kd, nd) :: DescV.headsL l).length = 1 + DescV.nodesL l) := Lib.hid (by rw [List.length_cons, DescV.headsL_len]; omega)
  have hm' : 1 + DescV.nodesL l ≤ 1048576 := by omega
  have hp' : 0 < 1 + DescV.nodesL l := by omega
  have hE : chkD (.mk kd nd l) = if bigD (.mk kd nd l) = true then 12 else if ((kd, nd) :: DescV.headsL l).all okH = true then 0 else 8 := rfl
  rw [hE]
  clear hl hm hb0 hz0 hc hE
  generalize (kd, nd) :: DescV.headsL l = ps at *
  generalize 1 + DescV.nodesL l = N at *
  generalize bigD (.mk kd nd l) = B at *
  obtain ⟨X, hX⟩ : ∃ X : Int, (if B = true then 12 else if ps.all okH = true then 0 else 8) = X := ⟨_, rfl⟩
  rw [hX]
  have HX := Lib.hid hX
  clear hX
  cases B with
  | true =>
    clear H2
    go_enter Tryz.func48, Tryz.ntmps48
    go_wp2_with (rw [← hW0]; (go_at_call 69; (with_reducible refine H1.out.mono ?_); rintro e w1 ⟨rfl, hb1⟩; have HB1 := Lib.hid hb1; clear hb1))
    go_ret
    exact ⟨by rw [← HX.out]; rfl, HB0.out.trans (HB1.out.mono HB0.out.size)⟩
  | false =>
    go_enter Tryz.func48, Tryz.ntmps48
    go_wp2_with (first
      | (rw [← hW0]; (go_at_call 69; (with_reducible refine H1.out.mono ?_); rintro e w1 ⟨rfl, hb1⟩; have HB1 := Lib.hid hb1; obtain ⟨t10, t11, t12⟩ := HC.out w1 hb1; clear hb1))
      | (go_at_call 21; (with_reducible refine (H2.out _ HB1.out).mono ?_); rintro e w2 ⟨a2, c2, xs, rfl, ho2, _, hh2, hb2⟩; obtain ⟨g2, c2', hv2, hg2, hlt2, hcl2, hcm2⟩ := own_some ho2 hp'; cases hv2; have HB2 := Lib.hid (HB1.out.trans (hb2.mono HB1.out.size)); have HO2 := Lib.hid ho2; have HH2 := Lib.hid hh2; clear hb2 ho2 hh2))
    go_loopg [4] N (fun g iv wr => ∃ j : Nat, j ≤ N ∧ g = N - j ∧ iv = .int .i64 (j : Int) ∧ (ps.take j).all okH = true ∧ wr = w2)
    case atStart => exact ⟨0, by omega, rfl, rfl, rfl, rfl⟩
    case round =>
      obtain ⟨j, hj, rfl, rfl, hok, rfl⟩ := hrel
      have HOK := Lib.hid hok
      clear hok t00 t01 t02 t10 t11 t12
      by_cases hlt : j < N
      · have hjl : j < ps.length := by have := HLN.out; omega
        obtain ⟨p0', p1'⟩ := HH2.out.get (List.getElem?_eq_getElem hjl)
        have p0 := (own_cell HO2.out p0').1
        have p1 := (own_cell HO2.out p1').1
        have HTK := Lib.hid (List.take_succ_eq_append_getElem hjl)
        have HMEM : Hid (okH (ps[j]'hjl) = false → ps.all okH = false) := Lib.hid fun h => by
          rw [Bool.eq_false_iff]
          intro hall
          have := List.all_eq_true.1 hall _ (List.getElem_mem hjl)
          rw [h] at this
          cases this
        generalize ps[j]'hjl = p at *
        obtain ⟨pk, pn⟩ := p
        simp only at p0 p1
        clear p0' p1'
        by_cases h1 : pk < 1
        · have HBAD := Lib.hid (HMEM.out (by unfold okH; simp; omega))
          go_wp2_with fail
          go_ret
          exact ⟨by rw [← HX.out, HBAD.out]; rfl, HB0.out.trans (HB2.out.mono HB0.out.size)⟩
        by_cases h2 : 7 < pk
        · have HBAD := Lib.hid (HMEM.out (by unfold okH; simp; omega))
          go_wp2_with fail
          go_ret
          exact ⟨by rw [← HX.out, HBAD.out]; rfl, HB0.out.trans (HB2.out.mono HB0.out.size)⟩
        by_cases h3 : pn < 0
        · have HBAD := Lib.hid (HMEM.out (by unfold okH; simp; omega))
          go_wp2_with fail
          go_ret
          exact ⟨by rw [← HX.out, HBAD.out]; rfl, HB0.out.trans (HB2.out.mono HB0.out.size)⟩
        by_cases h4 : 999999999 < pn
        · have HBAD := Lib.hid (HMEM.out (by unfold okH; simp; omega))
          go_wp2_with fail
          go_ret
          exact ⟨by rw [← HX.out, HBAD.out]; rfl, HB0.out.trans (HB2.out.mono HB0.out.size)⟩
        have HOKP : Hid (okH (pk, pn) = true) := Lib.hid (by unfold okH; simp; omega)
        go_wp2_with fail
        go_roundg (N - (j + 1))
        case measure => omega
        case rel => exact ⟨j + 1, by omega, rfl, by go_num, by rw [HTK.out, List.all_append, HOK.out]; simp [HOKP.out], rfl⟩
      · obtain rfl : j = N := by omega
        have HALL : Hid (ps.all okH = true) := Lib.hid (by have := HOK.out; rwa [List.take_of_length_le (by have := HLN.out; omega)] at this)
        go_wp2_with fail
        go_ret
        exact ⟨by rw [← HX.out, HALL.out]; rfl, HB0.out.trans (HB2.out.mono HB0.out.size)⟩
end Go.Proofs.YthjcmcgmalnfpaaGreatDoor.Lex
