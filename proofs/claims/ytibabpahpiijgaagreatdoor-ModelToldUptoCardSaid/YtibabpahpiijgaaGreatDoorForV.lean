/- valid.Check, valid.For. -/
import Derived.Test.YtibabpahpiijgaaGreatDoorWrong
import Derived.Test.YtibabpahpiijgaaGreatDoorBigV
namespace Go.Proofs.YtibabpahpiijgaaGreatDoor
open Go.RowKit
set_option linter.unusedSimpArgs false
set_option linter.unusedVariables false
def checkE (d : DescV) : Int := if bigD d then 12 else if d.rightD then 0 else 8
def forE (kn kd : Int) (d : DescV) : Int := if hasB kn then (if kd = 0 ∨ kd = 1 then (if checkE d = 0 then (if d.n = kn then 0 else 8) else checkE d) else 2) else 4
/-- valid.big tells of this tree what it should. -/
def BigAt (k : Nat) (kd nd : Int) (l : List DescV) : Prop := ∀ (F : Foot) (a : Option Addr) (n cap : Nat) (w : World), RowOf (descRd k) 3 40 F w a n cap l →
  Calls Tryz.prog 69 #[.agg #[.int .i64 kd, .int .i64 nd, .slice a n cap]] w fun e w' => e = .returned (.bool (bigD (.mk kd nd l))) ∧ Below w.heap.size w w'
theorem bigAt_small {k : Nat} {kd nd : Int} {l : List DescV} (h : (DescV.mk kd nd l).nodes ≤ 60) : BigAt k kd nd l := fun F a n cap w hl => by
  have hn : (DescV.mk kd nd l).nodes = DescV.nodesL l + 1 := DescV.nodes_kids _
  have := Lex.bigV_small k F kd nd l a n cap w hl (by omega)
  have e : bigD (.mk kd nd l) = decide (12 < DescV.depthL l + 1) := by
    unfold bigD
    rw [DescV.depth_kids]
    exact decide_eq_decide.2 ⟨fun h => h.resolve_left (by omega), .inr⟩
  rw [e]
  exact this
set_option maxRecDepth 100000 in
set_option maxHeartbeats 2000000 in
theorem checkV_any (k : Nat) (F : Foot) (kd nd : Int) (l : List DescV) (a : Option Addr) (n cap : Nat) (w : World) (hl : RowOf (descRd k) 3 40 F w a n cap l) (hk : k ≤ 1048576) (hbg : BigAt k kd nd l) :
    Calls Tryz.prog 46 #[.agg #[.int .i64 kd, .int .i64 nd, .slice a n cap]] w fun e w' => e = .returned (.int .i64 (checkE (.mk kd nd l))) ∧ Below w.heap.size w w' := by
  obtain ⟨W1, hW1⟩ : ∃ W1, W1 = w.alloc (.cells #[.int .i64 kd, .int .i64 nd, .slice a n cap] 25) := ⟨_, rfl⟩
  have hb1 : Below w.heap.size w W1 := by rw [hW1]; exact (Below.refl _ _).alloc (Nat.le_refl _) _
  have g1 : W1.heap[w.heap.size]? = some (.cells #[.int .i64 kd, .int .i64 nd, .slice a n cap] 25 (0, 0)) := by rw [hW1]; exact heap_alloc_new w _
  have hz1 : w.heap.size < W1.heap.size := by rw [hW1]; simp
  have c0 : W1.cell? ⟨w.heap.size, 0, none⟩ = some (.int .i64 kd) := cell_at (o := 0) g1 rfl
  have c1 : W1.cell? ⟨w.heap.size, 1, none⟩ = some (.int .i64 nd) := cell_at (o := 1) g1 rfl
  have c2 : W1.cell? ⟨w.heap.size, 2, none⟩ = some (.slice a n cap) := cell_at (o := 2) g1 rfl
  have hl1 := hl.keep (descRd_ok _) (Fix.of_below hb1)
  have HB := Lib.hid hb1
  have HL := Lib.hid hl1
  have HBG := Lib.hid (hbg F a n cap W1 hl1)
  have HT : Hid (∀ w2, Below W1.heap.size W1 w2 → w2.cell? ⟨w.heap.size, 0, none⟩ = some (.int .i64 kd) ∧ w2.cell? ⟨w.heap.size, 1, none⟩ = some (.int .i64 nd) ∧ w2.cell? ⟨w.heap.size, 2, none⟩ = some (.slice a n cap)) := Lib.hid fun w2 hb => by
    have g := (hb.block _ hz1).trans g1
    exact ⟨cell_at g rfl, cell_at g rfl, cell_at g rfl⟩
  clear hl hl1 hb1 g1 hbg
  cases hb : bigD (.mk kd nd l) with
  | true =>
    have HBV := Lib.hid hb
    have HC : Hid (checkE (.mk kd nd l) = 12) := Lib.hid (by unfold checkE; rw [hb]; rfl)
    clear hb
    go_enter Tryz.func46, Tryz.ntmps46
    go_upto_region 1 with fail
    rw [← hW1]
    clear hW1
    go_wp2_with (go_at_call 69; (with_reducible refine HBG.out.mono ?_); rintro e w2 ⟨rfl, hb2⟩; rw [HBV.out]; have HB2 := Lib.hid (HB.out.trans (hb2.mono HB.out.size)); clear hb2)
    go_ret
    exact ⟨by rw [HC.out]; rfl, HB2.out⟩
  | false =>
    have HBV := Lib.hid hb
    cases hr : (DescV.mk kd nd l).rightD with
    | true =>
      have HR := Lib.hid hr
      have HC : Hid (checkE (.mk kd nd l) = 0) := Lib.hid (by unfold checkE; rw [hb, hr]; rfl)
      clear hb hr
      go_enter Tryz.func46, Tryz.ntmps46
      go_upto_region 1 with fail
      rw [← hW1]
      clear hW1
      go_wp2_with (first | (go_at_call 69; (with_reducible refine HBG.out.mono ?_); rintro e w2 ⟨rfl, hb2⟩; rw [HBV.out]; have HB2 := Lib.hid hb2; clear c0 c1 c2; obtain ⟨c0, c1, c2⟩ := HT.out w2 hb2; clear hb2) | (go_at_call 70; (with_reducible refine (wrongW_any k F kd nd l a n cap _ (HL.out.keep (descRd_ok _) (Fix.of_below HB2.out)) hk).mono ?_); rintro e w3 ⟨ao, m, c, rfl, hb3⟩; rw [HR.out]; have HB3 := Lib.hid (HB.out.trans ((HB2.out.trans (hb3.mono HB2.out.size)).mono HB.out.size)); clear hb3))
      go_ret
      exact ⟨by rw [HC.out]; rfl, HB3.out⟩
    | false =>
      have HR := Lib.hid hr
      have HC : Hid (checkE (.mk kd nd l) = 8) := Lib.hid (by unfold checkE; rw [hb, hr]; rfl)
      clear hb hr
      go_enter Tryz.func46, Tryz.ntmps46
      go_upto_region 1 with fail
      rw [← hW1]
      clear hW1
      go_wp2_with (first | (go_at_call 69; (with_reducible refine HBG.out.mono ?_); rintro e w2 ⟨rfl, hb2⟩; rw [HBV.out]; have HB2 := Lib.hid hb2; clear c0 c1 c2; obtain ⟨c0, c1, c2⟩ := HT.out w2 hb2; clear hb2) | (go_at_call 70; (with_reducible refine (wrongW_any k F kd nd l a n cap _ (HL.out.keep (descRd_ok _) (Fix.of_below HB2.out)) hk).mono ?_); rintro e w3 ⟨ao, m, c, rfl, hb3⟩; rw [HR.out]; have HB3 := Lib.hid (HB.out.trans ((HB2.out.trans (hb3.mono HB2.out.size)).mono HB.out.size)); clear hb3))
      go_ret
      exact ⟨by rw [HC.out]; rfl, HB3.out⟩
set_option maxRecDepth 100000 in
set_option maxHeartbeats 4000000 in
theorem for_any (k : Nat) (F : Foot) (kn kr kd nd : Int) (l : List DescV) (a : Option Addr) (n cap : Nat) (w : World) (hl : RowOf (descRd k) 3 40 F w a n cap l) (hk : k ≤ 1048576) (hbg : BigAt k kd nd l) :
    Calls Tryz.prog 26 #[.agg #[.int .i64 kn, .int .i64 kr], .agg #[.int .i64 kd, .int .i64 nd, .slice a n cap]] w fun e w' => e = .returned (.int .i64 (forE kn kr (.mk kd nd l))) ∧ Below w.heap.size w w' := by
  obtain ⟨W1, hW1⟩ : ∃ W1, W1 = (w.alloc (.cells #[.int .i64 kn, .int .i64 kr] 41)).alloc (.cells #[.int .i64 kd, .int .i64 nd, .slice a n cap] 25) := ⟨_, rfl⟩
  have hb1 : Below w.heap.size w W1 := by rw [hW1]; exact ((Below.refl _ _).alloc (Nat.le_refl _) _).alloc (by simp) _
  have gs : W1.heap[w.heap.size]? = some (.cells #[.int .i64 kn, .int .i64 kr] 41 (0, 0)) ∧ W1.heap[w.heap.size + 1]? = some (.cells #[.int .i64 kd, .int .i64 nd, .slice a n cap] 25 (0, 0)) := by
    rw [hW1]
    simp only [heap_alloc_iff, World.size_alloc]
    refine ⟨?_, ?_⟩ <;> simp
  obtain ⟨g0, g1⟩ := gs
  have hz1 : W1.heap.size = w.heap.size + 2 := by rw [hW1]; simp
  have c0 : W1.cell? ⟨w.heap.size + 1, 0, none⟩ = some (.int .i64 kd) := cell_at (o := 0) g1 rfl
  have c1 : W1.cell? ⟨w.heap.size + 1, 1, none⟩ = some (.int .i64 nd) := cell_at (o := 1) g1 rfl
  have c2 : W1.cell? ⟨w.heap.size + 1, 2, none⟩ = some (.slice a n cap) := cell_at (o := 2) g1 rfl
  have k0 : W1.cell? ⟨w.heap.size, 0, none⟩ = some (.int .i64 kn) := cell_at (o := 0) g0 rfl
  have k1 : W1.cell? ⟨w.heap.size, 1, none⟩ = some (.int .i64 kr) := cell_at (o := 1) g0 rfl
  have HB := Lib.hid hb1
  have HC := Lib.hid (checkV_any k F kd nd l a n cap W1 (hl.keep (descRd_ok _) (Fix.of_below hb1)) hk hbg)
  have HT : Hid (∀ w2, Below W1.heap.size W1 w2 → w2.cell? ⟨w.heap.size + 1, 1, none⟩ = some (.int .i64 nd) ∧ w2.cell? ⟨w.heap.size, 0, none⟩ = some (.int .i64 kn)) := Lib.hid fun w2 hb => ⟨cell_at ((hb.block _ (by omega)).trans g1) rfl, cell_at ((hb.block _ (by omega)).trans g0) rfl⟩
  clear hl hb1 g0 g1 hbg hz1
  cases hh : hasB kn with
  | false =>
    have HH := Lib.hid hh
    have HF : Hid (forE kn kr (.mk kd nd l) = 4) := Lib.hid (by unfold forE; rw [hh]; rfl)
    clear hh
    go_enter Tryz.func26, Tryz.ntmps26
    go_upto_region 1 with fail
    rw [← hW1]
    clear hW1
    go_wp2_with (go_at_call 41; (with_reducible refine (has_any _ _).mono ?_); rintro e w' ⟨rfl, rfl⟩; rw [HH.out])
    go_ret
    exact ⟨by rw [HF.out]; rfl, HB.out⟩
  | true =>
    have HH := Lib.hid hh
    by_cases hr : kr = 0 ∨ kr = 1
    · have HF0 : Hid (forE kn kr (.mk kd nd l) = if checkE (.mk kd nd l) = 0 then (if nd = kn then 0 else 8) else checkE (.mk kd nd l)) := Lib.hid (by unfold forE; rw [hh, if_pos hr]; rfl)
      have hr' : Hid (kr = 0 ∨ kr = 1) := Lib.hid hr
      clear hh hr
      by_cases hc : checkE (.mk kd nd l) = 0
      · have HCC := Lib.hid hc
        by_cases hn : nd = kn
        · have HF : Hid (forE kn kr (.mk kd nd l) = 0) := Lib.hid (by rw [HF0.out, if_pos hc, if_pos hn])
          subst hn
          clear hc
          rcases hr'.out with rfl | rfl
          all_goals
            go_enter Tryz.func26, Tryz.ntmps26
            go_upto_region 1 with fail
            rw [← hW1]
            clear hW1
            go_wp2_with (first | (go_at_call 41; (with_reducible refine (has_any _ _).mono ?_); rintro e w' ⟨rfl, rfl⟩; rw [HH.out]) | (go_at_call 46; (with_reducible refine HC.out.mono ?_); rintro e w2 ⟨rfl, hb2⟩; rw [HCC.out]; have HB2 := Lib.hid (HB.out.trans (hb2.mono HB.out.size)); clear c0 c1 c2 k0 k1; obtain ⟨c1, k0⟩ := HT.out w2 hb2; clear hb2))
            go_ret
            exact ⟨by rw [HF.out]; rfl, HB2.out⟩
        · have HF : Hid (forE kn kr (.mk kd nd l) = 8) := Lib.hid (by rw [HF0.out, if_pos hc, if_neg hn])
          have hnb : (nd != kn) = true := by simpa using hn
          have hnb2 : (nd == kn) = false := by simpa using hn
          clear hc hn
          rcases hr'.out with rfl | rfl
          all_goals
            go_enter Tryz.func26, Tryz.ntmps26
            go_upto_region 1 with fail
            rw [← hW1]
            clear hW1
            go_wp2_with (first | (go_at_call 41; (with_reducible refine (has_any _ _).mono ?_); rintro e w' ⟨rfl, rfl⟩; rw [HH.out]) | (go_at_call 46; (with_reducible refine HC.out.mono ?_); rintro e w2 ⟨rfl, hb2⟩; rw [HCC.out]; have HB2 := Lib.hid (HB.out.trans (hb2.mono HB.out.size)); clear c0 c1 c2 k0 k1; obtain ⟨c1, k0⟩ := HT.out w2 hb2; clear hb2))
            go_ret
            exact ⟨by rw [HF.out]; rfl, HB2.out⟩
      · have HF : Hid (forE kn kr (.mk kd nd l) = checkE (.mk kd nd l)) := Lib.hid (by rw [HF0.out, if_neg hc])
        generalize checkE (.mk kd nd l) = ce at *
        have hcb : (ce != 0) = true := by simpa using hc
        rcases hr'.out with rfl | rfl
        all_goals
          go_enter Tryz.func26, Tryz.ntmps26
          go_upto_region 1 with fail
          rw [← hW1]
          clear hW1
          go_wp2_with (first | (go_at_call 41; (with_reducible refine (has_any _ _).mono ?_); rintro e w' ⟨rfl, rfl⟩; rw [HH.out]) | (go_at_call 46; (with_reducible refine HC.out.mono ?_); rintro e w2 ⟨rfl, hb2⟩; have HB2 := Lib.hid (HB.out.trans (hb2.mono HB.out.size)); clear c0 c1 c2 k0 k1; obtain ⟨c1, k0⟩ := HT.out w2 hb2; clear hb2))
          go_ret
          exact ⟨by rw [HF.out]; rfl, HB2.out⟩
    · have HF : Hid (forE kn kr (.mk kd nd l) = 2) := Lib.hid (by unfold forE; rw [hh, if_neg hr]; rfl)
      have hr0 : ¬ kr = 0 := fun h => hr (.inl h)
      have hr1 : ¬ kr = 1 := fun h => hr (.inr h)
      have b0 : (kr != 0) = true := by simpa using hr0
      have b1 : (kr != 1) = true := by simpa using hr1
      clear hh hr
      go_enter Tryz.func26, Tryz.ntmps26
      go_upto_region 1 with fail
      rw [← hW1]
      clear hW1
      go_wp2_with (go_at_call 41; (with_reducible refine (has_any _ _).mono ?_); rintro e w' ⟨rfl, rfl⟩; rw [HH.out])
      go_ret
      exact ⟨by rw [HF.out]; rfl, HB.out⟩
end Go.Proofs.YtibabpahpiijgaaGreatDoor
