/- The statement TickLaps, walked: the law. -/
import Derived.Test.YtjlpafpedoancaaTick4
namespace Go.Proofs.Ytjlpafpedoancaa.Tick
open Go.RowKit
theorem heap_alloc_iff (w : World) (o : Obj) (k : Nat) : (w.alloc o).heap[k]? = if k = w.heap.size then some o else w.heap[k]? := by
  show (w.heap.push o)[k]? = _
  rw [Array.getElem?_push]
theorem env0 (w : World) (x y : Int) : Env (((((w.alloc (.cells #[.int .i64 x, .int .i64 y] 3)).alloc (.cells #[.slice (some ⟨w.heap.size, 0, none⟩) 2 2, .int .i64 0] 38)).alloc (.cells #[.pointer (some ⟨w.heap.size + 1, 0, none⟩)] 36)).alloc (.cells #[.int .i64 0] 3)).alloc (.cells #[.int .i64 (-1)] 3)) w.heap.size x y 0 0 (-1) := by
  refine ⟨?_, ?_, ?_, ?_, ?_⟩ <;> simp only [heap_alloc_iff, World.size_alloc] <;> (repeat' split) <;> first | rfl | omega | simp_all
theorem below0 (w : World) (x y : Int) : Below w.heap.size w (((((w.alloc (.cells #[.int .i64 x, .int .i64 y] 3)).alloc (.cells #[.slice (some ⟨w.heap.size, 0, none⟩) 2 2, .int .i64 0] 38)).alloc (.cells #[.pointer (some ⟨w.heap.size + 1, 0, none⟩)] 36)).alloc (.cells #[.int .i64 0] 3)).alloc (.cells #[.int .i64 (-1)] 3)) :=
  (((((Below.refl _ _).alloc (Nat.le_refl _) _).alloc (by simp) _).alloc (by simp; omega) _).alloc (by simp; omega) _).alloc (by simp; omega) _
set_option maxRecDepth 100000 in
set_option maxHeartbeats 2000000 in
theorem lapsT (x y : Int) (w : World) (hx : -9223372036854775808 ≤ x ∧ x ≤ 9223372036854775807) (hy : -9223372036854775808 ≤ y ∧ y ≤ 9223372036854775807) :
    Calls Try.prog 5 #[.int .i64 x, .int .i64 y, .bool true] w fun e w' => e = .returned (.bool true) ∧ Below w.heap.size w w' := by
  by_cases c1 : y ≤ x
  · have hv := lapv_no c1
    go_enter Try.func5, Try.ntmps5
    go_wp2_with (first | (go_at_call 24; (with_reducible refine (lap_cn _ w.heap.size x y 0 (-1) hx hy (env0 w x y)).mono ?_); rintro e w' ⟨rfl, he, hb⟩; have hB := (below0 w x y).trans hb; have g1 : w'.cell? ⟨w.heap.size + 1, 1, none⟩ = some (.int .i64 2) := cell_at he.h1 rfl; have g2 : w'.cell? ⟨w.heap.size + 1 + 1, 0, none⟩ = some (.pointer (some ⟨w.heap.size + 1, 0, none⟩)) := cell_at he.h2 rfl; have g3 : w'.cell? ⟨w.heap.size + 1 + 1 + 1, 0, none⟩ = some (.int .i64 0) := cell_at he.h3 rfl; have g4 : w'.cell? ⟨w.heap.size + 1 + 1 + 1 + 1, 0, none⟩ = some (.int .i64 (-1)) := cell_at he.h4 rfl) | (go_at_call 24; (with_reducible refine (lap_nf _ w.heap.size x y 2 (-1) he).mono ?_); rintro e w' ⟨rfl, he, hb⟩; have hB := hB.trans hb; have g1 : w'.cell? ⟨w.heap.size + 1, 1, none⟩ = some (.int .i64 2) := cell_at he.h1 rfl; have g2 : w'.cell? ⟨w.heap.size + 1 + 1, 0, none⟩ = some (.pointer (some ⟨w.heap.size + 1, 0, none⟩)) := cell_at he.h2 rfl; have g3 : w'.cell? ⟨w.heap.size + 1 + 1 + 1, 0, none⟩ = some (.int .i64 1) := cell_at he.h3 rfl; have g4 : w'.cell? ⟨w.heap.size + 1 + 1 + 1 + 1, 0, none⟩ = some (.int .i64 (2)) := cell_at he.h4 rfl) | (go_at_call 24; (with_reducible refine (lap_nn _).mono ?_); rintro e w' ⟨rfl, rfl⟩) | (go_at_call 18; (with_reducible refine (live _).mono ?_); rintro e w' ⟨rfl, hL⟩; have hB := hB.trans (hL.mono hB.size)))
    go_ret
    exact ⟨rfl, hB⟩
  · have c2 : x < y := by omega
    have hw := lapv_yes c2
    clear c1
    by_cases c3 : 0 ≤ x
    · by_cases c4 : y - x < 1152921504606846976
      · have hv : lapv x y = y - x := by omega
        clear hw
        go_enter Try.func5, Try.ntmps5
        go_wp2_with (first | (go_at_call 24; (with_reducible refine (lap_cn _ w.heap.size x y 0 (-1) hx hy (env0 w x y)).mono ?_); rintro e w' ⟨rfl, he, hb⟩; have hB := (below0 w x y).trans hb; have g1 : w'.cell? ⟨w.heap.size + 1, 1, none⟩ = some (.int .i64 2) := cell_at he.h1 rfl; have g2 : w'.cell? ⟨w.heap.size + 1 + 1, 0, none⟩ = some (.pointer (some ⟨w.heap.size + 1, 0, none⟩)) := cell_at he.h2 rfl; have g3 : w'.cell? ⟨w.heap.size + 1 + 1 + 1, 0, none⟩ = some (.int .i64 0) := cell_at he.h3 rfl; have g4 : w'.cell? ⟨w.heap.size + 1 + 1 + 1 + 1, 0, none⟩ = some (.int .i64 (-1)) := cell_at he.h4 rfl) | (go_at_call 24; (with_reducible refine (lap_nf _ w.heap.size x y 2 (-1) he).mono ?_); rintro e w' ⟨rfl, he, hb⟩; have hB := hB.trans hb; have g1 : w'.cell? ⟨w.heap.size + 1, 1, none⟩ = some (.int .i64 2) := cell_at he.h1 rfl; have g2 : w'.cell? ⟨w.heap.size + 1 + 1, 0, none⟩ = some (.pointer (some ⟨w.heap.size + 1, 0, none⟩)) := cell_at he.h2 rfl; have g3 : w'.cell? ⟨w.heap.size + 1 + 1 + 1, 0, none⟩ = some (.int .i64 1) := cell_at he.h3 rfl; have g4 : w'.cell? ⟨w.heap.size + 1 + 1 + 1 + 1, 0, none⟩ = some (.int .i64 (2)) := cell_at he.h4 rfl) | (go_at_call 24; (with_reducible refine (lap_nn _).mono ?_); rintro e w' ⟨rfl, rfl⟩) | (go_at_call 18; (with_reducible refine (live _).mono ?_); rintro e w' ⟨rfl, hL⟩; have hB := hB.trans (hL.mono hB.size)))
        go_ret
        exact ⟨rfl, hB⟩
      · have hv : lapv x y = 1152921504606846976 := by omega
        clear hw
        go_enter Try.func5, Try.ntmps5
        go_wp2_with (first | (go_at_call 24; (with_reducible refine (lap_cn _ w.heap.size x y 0 (-1) hx hy (env0 w x y)).mono ?_); rintro e w' ⟨rfl, he, hb⟩; have hB := (below0 w x y).trans hb; have g1 : w'.cell? ⟨w.heap.size + 1, 1, none⟩ = some (.int .i64 2) := cell_at he.h1 rfl; have g2 : w'.cell? ⟨w.heap.size + 1 + 1, 0, none⟩ = some (.pointer (some ⟨w.heap.size + 1, 0, none⟩)) := cell_at he.h2 rfl; have g3 : w'.cell? ⟨w.heap.size + 1 + 1 + 1, 0, none⟩ = some (.int .i64 0) := cell_at he.h3 rfl; have g4 : w'.cell? ⟨w.heap.size + 1 + 1 + 1 + 1, 0, none⟩ = some (.int .i64 (-1)) := cell_at he.h4 rfl) | (go_at_call 24; (with_reducible refine (lap_nf _ w.heap.size x y 2 (-1) he).mono ?_); rintro e w' ⟨rfl, he, hb⟩; have hB := hB.trans hb; have g1 : w'.cell? ⟨w.heap.size + 1, 1, none⟩ = some (.int .i64 2) := cell_at he.h1 rfl; have g2 : w'.cell? ⟨w.heap.size + 1 + 1, 0, none⟩ = some (.pointer (some ⟨w.heap.size + 1, 0, none⟩)) := cell_at he.h2 rfl; have g3 : w'.cell? ⟨w.heap.size + 1 + 1 + 1, 0, none⟩ = some (.int .i64 1) := cell_at he.h3 rfl; have g4 : w'.cell? ⟨w.heap.size + 1 + 1 + 1 + 1, 0, none⟩ = some (.int .i64 (2)) := cell_at he.h4 rfl) | (go_at_call 24; (with_reducible refine (lap_nn _).mono ?_); rintro e w' ⟨rfl, rfl⟩) | (go_at_call 18; (with_reducible refine (live _).mono ?_); rintro e w' ⟨rfl, hL⟩; have hB := hB.trans (hL.mono hB.size)))
        go_ret
        exact ⟨rfl, hB⟩
    · by_cases c4 : y < 1152921504606846976 + x
      · have hv : lapv x y = y - x := by omega
        clear hw
        go_enter Try.func5, Try.ntmps5
        go_wp2_with (first | (go_at_call 24; (with_reducible refine (lap_cn _ w.heap.size x y 0 (-1) hx hy (env0 w x y)).mono ?_); rintro e w' ⟨rfl, he, hb⟩; have hB := (below0 w x y).trans hb; have g1 : w'.cell? ⟨w.heap.size + 1, 1, none⟩ = some (.int .i64 2) := cell_at he.h1 rfl; have g2 : w'.cell? ⟨w.heap.size + 1 + 1, 0, none⟩ = some (.pointer (some ⟨w.heap.size + 1, 0, none⟩)) := cell_at he.h2 rfl; have g3 : w'.cell? ⟨w.heap.size + 1 + 1 + 1, 0, none⟩ = some (.int .i64 0) := cell_at he.h3 rfl; have g4 : w'.cell? ⟨w.heap.size + 1 + 1 + 1 + 1, 0, none⟩ = some (.int .i64 (-1)) := cell_at he.h4 rfl) | (go_at_call 24; (with_reducible refine (lap_nf _ w.heap.size x y 2 (-1) he).mono ?_); rintro e w' ⟨rfl, he, hb⟩; have hB := hB.trans hb; have g1 : w'.cell? ⟨w.heap.size + 1, 1, none⟩ = some (.int .i64 2) := cell_at he.h1 rfl; have g2 : w'.cell? ⟨w.heap.size + 1 + 1, 0, none⟩ = some (.pointer (some ⟨w.heap.size + 1, 0, none⟩)) := cell_at he.h2 rfl; have g3 : w'.cell? ⟨w.heap.size + 1 + 1 + 1, 0, none⟩ = some (.int .i64 1) := cell_at he.h3 rfl; have g4 : w'.cell? ⟨w.heap.size + 1 + 1 + 1 + 1, 0, none⟩ = some (.int .i64 (2)) := cell_at he.h4 rfl) | (go_at_call 24; (with_reducible refine (lap_nn _).mono ?_); rintro e w' ⟨rfl, rfl⟩) | (go_at_call 18; (with_reducible refine (live _).mono ?_); rintro e w' ⟨rfl, hL⟩; have hB := hB.trans (hL.mono hB.size)))
        go_ret
        exact ⟨rfl, hB⟩
      · have hv : lapv x y = 1152921504606846976 := by omega
        clear hw
        go_enter Try.func5, Try.ntmps5
        go_wp2_with (first | (go_at_call 24; (with_reducible refine (lap_cn _ w.heap.size x y 0 (-1) hx hy (env0 w x y)).mono ?_); rintro e w' ⟨rfl, he, hb⟩; have hB := (below0 w x y).trans hb; have g1 : w'.cell? ⟨w.heap.size + 1, 1, none⟩ = some (.int .i64 2) := cell_at he.h1 rfl; have g2 : w'.cell? ⟨w.heap.size + 1 + 1, 0, none⟩ = some (.pointer (some ⟨w.heap.size + 1, 0, none⟩)) := cell_at he.h2 rfl; have g3 : w'.cell? ⟨w.heap.size + 1 + 1 + 1, 0, none⟩ = some (.int .i64 0) := cell_at he.h3 rfl; have g4 : w'.cell? ⟨w.heap.size + 1 + 1 + 1 + 1, 0, none⟩ = some (.int .i64 (-1)) := cell_at he.h4 rfl) | (go_at_call 24; (with_reducible refine (lap_nf _ w.heap.size x y 2 (-1) he).mono ?_); rintro e w' ⟨rfl, he, hb⟩; have hB := hB.trans hb; have g1 : w'.cell? ⟨w.heap.size + 1, 1, none⟩ = some (.int .i64 2) := cell_at he.h1 rfl; have g2 : w'.cell? ⟨w.heap.size + 1 + 1, 0, none⟩ = some (.pointer (some ⟨w.heap.size + 1, 0, none⟩)) := cell_at he.h2 rfl; have g3 : w'.cell? ⟨w.heap.size + 1 + 1 + 1, 0, none⟩ = some (.int .i64 1) := cell_at he.h3 rfl; have g4 : w'.cell? ⟨w.heap.size + 1 + 1 + 1 + 1, 0, none⟩ = some (.int .i64 (2)) := cell_at he.h4 rfl) | (go_at_call 24; (with_reducible refine (lap_nn _).mono ?_); rintro e w' ⟨rfl, rfl⟩) | (go_at_call 18; (with_reducible refine (live _).mono ?_); rintro e w' ⟨rfl, hL⟩; have hB := hB.trans (hL.mono hB.size)))
        go_ret
        exact ⟨rfl, hB⟩
set_option maxRecDepth 100000 in
set_option maxHeartbeats 2000000 in
theorem lapsF (x y : Int) (w : World) (hx : -9223372036854775808 ≤ x ∧ x ≤ 9223372036854775807) (hy : -9223372036854775808 ≤ y ∧ y ≤ 9223372036854775807) :
    Calls Try.prog 5 #[.int .i64 x, .int .i64 y, .bool false] w fun e w' => e = .returned (.bool true) ∧ Below w.heap.size w w' := by
  by_cases c1 : y ≤ x
  · have hv := lapv_no c1
    go_enter Try.func5, Try.ntmps5
    go_wp2_with (first | (go_at_call 24; (with_reducible refine (lap_cf _ w.heap.size x y (-1) hx hy (env0 w x y)).mono ?_); rintro e w' ⟨rfl, he, hb⟩; have hB := (below0 w x y).trans hb; have g1 : w'.cell? ⟨w.heap.size + 1, 1, none⟩ = some (.int .i64 2) := cell_at he.h1 rfl; have g2 : w'.cell? ⟨w.heap.size + 1 + 1, 0, none⟩ = some (.pointer (some ⟨w.heap.size + 1, 0, none⟩)) := cell_at he.h2 rfl; have g3 : w'.cell? ⟨w.heap.size + 1 + 1 + 1, 0, none⟩ = some (.int .i64 1) := cell_at he.h3 rfl; have g4 : w'.cell? ⟨w.heap.size + 1 + 1 + 1 + 1, 0, none⟩ = some (.int .i64 (1)) := cell_at he.h4 rfl) | (go_at_call 18; (with_reducible refine (live _).mono ?_); rintro e w' ⟨rfl, hL⟩; have hB := hB.trans (hL.mono hB.size)))
    go_ret
    exact ⟨rfl, hB⟩
  · have c2 : x < y := by omega
    have hw := lapv_yes c2
    clear c1
    by_cases c3 : 0 ≤ x
    · by_cases c4 : y - x < 1152921504606846976
      · have hv : lapv x y = y - x := by omega
        clear hw
        go_enter Try.func5, Try.ntmps5
        go_wp2_with (first | (go_at_call 24; (with_reducible refine (lap_cf _ w.heap.size x y (-1) hx hy (env0 w x y)).mono ?_); rintro e w' ⟨rfl, he, hb⟩; have hB := (below0 w x y).trans hb; have g1 : w'.cell? ⟨w.heap.size + 1, 1, none⟩ = some (.int .i64 2) := cell_at he.h1 rfl; have g2 : w'.cell? ⟨w.heap.size + 1 + 1, 0, none⟩ = some (.pointer (some ⟨w.heap.size + 1, 0, none⟩)) := cell_at he.h2 rfl; have g3 : w'.cell? ⟨w.heap.size + 1 + 1 + 1, 0, none⟩ = some (.int .i64 1) := cell_at he.h3 rfl; have g4 : w'.cell? ⟨w.heap.size + 1 + 1 + 1 + 1, 0, none⟩ = some (.int .i64 (1)) := cell_at he.h4 rfl) | (go_at_call 18; (with_reducible refine (live _).mono ?_); rintro e w' ⟨rfl, hL⟩; have hB := hB.trans (hL.mono hB.size)))
        go_ret
        exact ⟨rfl, hB⟩
      · have hv : lapv x y = 1152921504606846976 := by omega
        clear hw
        go_enter Try.func5, Try.ntmps5
        go_wp2_with (first | (go_at_call 24; (with_reducible refine (lap_cf _ w.heap.size x y (-1) hx hy (env0 w x y)).mono ?_); rintro e w' ⟨rfl, he, hb⟩; have hB := (below0 w x y).trans hb; have g1 : w'.cell? ⟨w.heap.size + 1, 1, none⟩ = some (.int .i64 2) := cell_at he.h1 rfl; have g2 : w'.cell? ⟨w.heap.size + 1 + 1, 0, none⟩ = some (.pointer (some ⟨w.heap.size + 1, 0, none⟩)) := cell_at he.h2 rfl; have g3 : w'.cell? ⟨w.heap.size + 1 + 1 + 1, 0, none⟩ = some (.int .i64 1) := cell_at he.h3 rfl; have g4 : w'.cell? ⟨w.heap.size + 1 + 1 + 1 + 1, 0, none⟩ = some (.int .i64 (1)) := cell_at he.h4 rfl) | (go_at_call 18; (with_reducible refine (live _).mono ?_); rintro e w' ⟨rfl, hL⟩; have hB := hB.trans (hL.mono hB.size)))
        go_ret
        exact ⟨rfl, hB⟩
    · by_cases c4 : y < 1152921504606846976 + x
      · have hv : lapv x y = y - x := by omega
        clear hw
        go_enter Try.func5, Try.ntmps5
        go_wp2_with (first | (go_at_call 24; (with_reducible refine (lap_cf _ w.heap.size x y (-1) hx hy (env0 w x y)).mono ?_); rintro e w' ⟨rfl, he, hb⟩; have hB := (below0 w x y).trans hb; have g1 : w'.cell? ⟨w.heap.size + 1, 1, none⟩ = some (.int .i64 2) := cell_at he.h1 rfl; have g2 : w'.cell? ⟨w.heap.size + 1 + 1, 0, none⟩ = some (.pointer (some ⟨w.heap.size + 1, 0, none⟩)) := cell_at he.h2 rfl; have g3 : w'.cell? ⟨w.heap.size + 1 + 1 + 1, 0, none⟩ = some (.int .i64 1) := cell_at he.h3 rfl; have g4 : w'.cell? ⟨w.heap.size + 1 + 1 + 1 + 1, 0, none⟩ = some (.int .i64 (1)) := cell_at he.h4 rfl) | (go_at_call 18; (with_reducible refine (live _).mono ?_); rintro e w' ⟨rfl, hL⟩; have hB := hB.trans (hL.mono hB.size)))
        go_ret
        exact ⟨rfl, hB⟩
      · have hv : lapv x y = 1152921504606846976 := by omega
        clear hw
        go_enter Try.func5, Try.ntmps5
        go_wp2_with (first | (go_at_call 24; (with_reducible refine (lap_cf _ w.heap.size x y (-1) hx hy (env0 w x y)).mono ?_); rintro e w' ⟨rfl, he, hb⟩; have hB := (below0 w x y).trans hb; have g1 : w'.cell? ⟨w.heap.size + 1, 1, none⟩ = some (.int .i64 2) := cell_at he.h1 rfl; have g2 : w'.cell? ⟨w.heap.size + 1 + 1, 0, none⟩ = some (.pointer (some ⟨w.heap.size + 1, 0, none⟩)) := cell_at he.h2 rfl; have g3 : w'.cell? ⟨w.heap.size + 1 + 1 + 1, 0, none⟩ = some (.int .i64 1) := cell_at he.h3 rfl; have g4 : w'.cell? ⟨w.heap.size + 1 + 1 + 1 + 1, 0, none⟩ = some (.int .i64 (1)) := cell_at he.h4 rfl) | (go_at_call 18; (with_reducible refine (live _).mono ?_); rintro e w' ⟨rfl, hL⟩; have hB := hB.trans (hL.mono hB.size)))
        go_ret
        exact ⟨rfl, hB⟩
end Go.Proofs.Ytjlpafpedoancaa.Tick
