/- entry.Cmp: keys held against each other; the closure that entries are sorted by. -/
import Derived.Test.YtdhkndoglcnllaaDoorEnt
import Derived.Test.YtdhkndoglcnllaaDoorStaE
import Derived.Deep.RegionHeld3
import Derived.Deep.DeepCutAuto
namespace Go.Proofs.YtdhkndoglcnllaaDoor.Stab
open Go Go.RowKit
set_option linter.unusedSimpArgs false
set_option linter.unusedVariables false
set_option maxHeartbeats 1000000 in
theorem nanE (x : Int) (w : World) : Calls Tryd.prog 26 #[.int .i64 x] w fun e w' => e = .returned (.bool false) ∧ w = w' := by
  have hx : (x != x) = false := by simp
  go_enter Tryd.func26, Tryd.ntmps26
  go_wp2_with fail
  go_ret
  exact ⟨by simp, rfl⟩
set_option maxHeartbeats 1000000 in
theorem compareE (x y : Int) (w : World) : Calls Tryd.prog 16 #[.int .i64 x, .int .i64 y] w fun e w' => e = .returned (.int .i64 (c3 x y)) ∧ w = w' := by
  rcases c3_ways x y with ⟨h, hc⟩ | ⟨h, hc⟩ | ⟨h, hc⟩
  · have HC := Lib.hid hc
    clear hc
    go_enter Tryd.func16, Tryd.ntmps16
    go_wp2_with (go_at_call 26; (with_reducible refine (nanE _ _).mono ?_); rintro e w' ⟨rfl, rfl⟩)
    go_ret
    exact ⟨by rw [HC.out]; rfl, rfl⟩
  · have HC := Lib.hid hc
    clear hc
    have h2 : ¬ x < y := by omega
    go_enter Tryd.func16, Tryd.ntmps16
    go_wp2_with (go_at_call 26; (with_reducible refine (nanE _ _).mono ?_); rintro e w' ⟨rfl, rfl⟩)
    go_ret
    exact ⟨by rw [HC.out]; rfl, rfl⟩
  · subst h
    have HC := Lib.hid hc
    clear hc
    go_enter Tryd.func16, Tryd.ntmps16
    go_wp2_with (go_at_call 26; (with_reducible refine (nanE _ _).mono ?_); rintro e w' ⟨rfl, rfl⟩)
    go_ret
    exact ⟨by rw [HC.out]; rfl, rfl⟩
set_option maxRecDepth 100000 in
set_option maxHeartbeats 1000000 in
theorem orTwo (x y : Int) (g : Nat) (w : World) (h0 : w.cell? ⟨g, 0, none⟩ = some (.int .i64 x)) (h1 : w.cell? ⟨g, 1, none⟩ = some (.int .i64 y)) :
    Calls Tryd.prog 15 #[.slice (some ⟨g, 0, none⟩) 2 2] w fun e w' => e = .returned (.int .i64 (or2 x y)) ∧ w = w' := by
  by_cases hx : x = 0
  · subst hx
    by_cases hy : y = 0
    · subst hy
      go_enter Tryd.func15, Tryd.ntmps15
      go_wp2_with fail
      refine wp_loop_rounds 3 ?_
      rw [rounds_succ]
      go_wp2_with fail
      rw [rounds_succ]
      go_wp2_with fail
      rw [rounds_succ]
      go_wp2_with fail
      go_ret
      exact ⟨by simp [or2], rfl⟩
    · have hb : (y != 0) = true := by simpa using hy
      go_enter Tryd.func15, Tryd.ntmps15
      go_wp2_with fail
      refine wp_loop_rounds 2 ?_
      rw [rounds_succ]
      go_wp2_with fail
      rw [rounds_succ]
      go_wp2_with fail
      go_ret
      exact ⟨by simp [or2, hy], rfl⟩
  · have hb : (x != 0) = true := by simpa using hx
    go_enter Tryd.func15, Tryd.ntmps15
    go_wp2_with fail
    refine wp_loop_rounds 1 ?_
    rw [rounds_succ]
    go_wp2_with fail
    go_ret
    exact ⟨by simp [or2, hx], rfl⟩
set_option maxRecDepth 100000 in
set_option maxHeartbeats 4000000 in
theorem ecmp_any (a1 a2 b1 b2 : Int) (w : World) :
    Calls Tryd.prog 10 #[.agg #[.int .i64 a1, .int .i64 a2], .agg #[.int .i64 b1, .int .i64 b2]] w fun e w' => e = .returned (.int .i64 (cmpK (a1, a2) (b1, b2))) ∧ Below w.heap.size w w' := by
  obtain ⟨W0, hW0⟩ : ∃ W0, W0 = (w.alloc (.cells #[.int .i64 a1, .int .i64 a2] 24)).alloc (.cells #[.int .i64 b1, .int .i64 b2] 24) := ⟨_, rfl⟩
  have hb0 : Below w.heap.size w W0 := by rw [hW0]; exact ((Below.refl _ _).alloc (Nat.le_refl _) _).alloc (by simp) _
  have hz : W0.heap.size = w.heap.size + 1 + 1 := by rw [hW0]; simp
  have g0 : W0.heap[w.heap.size]? = some (.cells #[.int .i64 a1, .int .i64 a2] 24 (0, 0)) := by
    rw [hW0, Lib.alloc_old _ _ _ (by simp)]
    exact heap_alloc_new w _
  have g1 : W0.heap[w.heap.size + 1]? = some (.cells #[.int .i64 b1, .int .i64 b2] 24 (0, 0)) := by
    rw [hW0]
    have := heap_alloc_new (w.alloc (.cells #[.int .i64 a1, .int .i64 a2] 24)) (.cells #[.int .i64 b1, .int .i64 b2] 24)
    simpa using this
  have HS : Hid (∀ W, Below W0.heap.size W0 W → (W.cell? ⟨w.heap.size, 0, none⟩ = some (.int .i64 a1) ∧ W.cell? ⟨w.heap.size, 1, none⟩ = some (.int .i64 a2)) ∧ (W.cell? ⟨w.heap.size + 1, 0, none⟩ = some (.int .i64 b1) ∧ W.cell? ⟨w.heap.size + 1, 1, none⟩ = some (.int .i64 b2))) := Lib.hid fun W hb => by
    have e0 : W.heap[w.heap.size]? = _ := (hb.block _ (by omega)).trans g0
    have e1 : W.heap[w.heap.size + 1]? = _ := (hb.block _ (by omega)).trans g1
    exact ⟨⟨cell_at (o := 0) e0 rfl, cell_at (o := 1) e0 rfl⟩, cell_at (o := 0) e1 rfl, cell_at (o := 1) e1 rfl⟩
  have HB0 := Lib.hid hb0
  have hbz := Below.refl W0.heap.size W0
  clear hb0 hz g0 g1
  go_enter Tryd.func10, Tryd.ntmps10
  go_upto_region 1 with (fail)
  rw [← hW0]
  clear hW0
  go_region_held3 (fun W => (W.cell? ⟨w.heap.size, 0, none⟩ = some (.int .i64 a1) ∧ W.cell? ⟨w.heap.size, 1, none⟩ = some (.int .i64 a2)) ∧ (W.cell? ⟨w.heap.size + 1, 0, none⟩ = some (.int .i64 b1) ∧ W.cell? ⟨w.heap.size + 1, 1, none⟩ = some (.int .i64 b2))) ((refine HS.out _ ?_; ((repeat' (first | with_reducible assumption | with_reducible refine Below.drew ?_ | (with_reducible refine Below.alloc ?_ ?_ _))) <;> first | assumption | (simp; done) | (simp; omega))))
   (first
    | (go_at_call 16; (with_reducible refine (compareE _ _ _).mono ?_); rintro e w1 ⟨rfl, rfl⟩)
    | (go_at_call 15; (with_reducible refine (orTwo _ _ _ _ (by first | exact cell_at (heap_alloc_new _ _) rfl | (simp [go_sem]; done)) (by first | exact cell_at (heap_alloc_new _ _) rfl | (simp [go_sem]; done))).mono ?_); rintro e w1 ⟨rfl, rfl⟩))
  all_goals
    go_wp2_with fail
    go_ret
    exact ⟨rfl, HB0.out.trans (Below.mono (show Below W0.heap.size W0 _ from by ((repeat' (first | with_reducible assumption | with_reducible refine Below.drew ?_ | (with_reducible refine Below.alloc ?_ ?_ _))) <;> first | assumption | (simp; done) | (simp; omega))) HB0.out.size)⟩
/-- How entries are held against each other. -/
def cfE (x y : EC) : Int := cmpK (x.kn, x.kd) (y.kn, y.kd)
theorem cfE_ord : Ord fun x y => decide (cfE x y < 0) := ord_by ltK_ord fun x : EC => (x.kn, x.kd)
set_option maxRecDepth 100000 in
set_option maxHeartbeats 4000000 in
theorem clo_any (x y : EC) (g : Nat) (w : World) (hg : w.cell? ⟨g, 1, none⟩ = some (.func (.func 10) #[] #[])) :
    Calls Tryd.prog 25 #[x.val, y.val, .pointer (some ⟨g, 0, none⟩)] w fun e w' => e = .returned (.int .i64 (cfE x y)) ∧ Below w.heap.size w w' := by
  obtain ⟨a1, a2, a3, a4, a5, a6, a7⟩ := x
  obtain ⟨b1, b2, b3, b4, b5, b6, b7⟩ := y
  unfold EC.val
  dsimp only
  have hgz : g < w.heap.size := World.block_lt_of_cell? w _ hg
  go_enter Tryd.func25, Tryd.ntmps25
  go_upto_region 1 with (fail)
  obtain ⟨W0, hW0⟩ : ∃ W0, W0 = (w.alloc (.cells #[.int .i64 a1, .int .i64 a2, .int .i64 a3, .int .i64 a4, .slice a5 a6 a7] 37)).alloc (.cells #[.int .i64 b1, .int .i64 b2, .int .i64 b3, .int .i64 b4, .slice b5 b6 b7] 37) := ⟨_, rfl⟩
  have hb0 : Below w.heap.size w W0 := by rw [hW0]; exact ((Below.refl _ _).alloc (Nat.le_refl _) _).alloc (by simp) _
  subst hW0
  have HB0 := Lib.hid hb0
  clear hb0
  go_wp2_with (go_at_call 10; (with_reducible refine (ecmp_any _ _ _ _ _).mono ?_); rintro e w2 ⟨rfl, hb2⟩; have HB2 := Lib.hid hb2; clear hb2)
  go_ret
  exact ⟨rfl, HB0.out.trans (HB2.out.mono HB0.out.size)⟩
end Go.Proofs.YtdhkndoglcnllaaDoor.Stab
