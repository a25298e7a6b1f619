/- script.Own at kind 6. -/
import Derived.Test.YtplhmcmfdcklaaaDoorU64
import Derived.Test.YtplhmcmfdcklaaaDoorScrLive
import Derived.Deep.RegionHeld3
namespace Go.Proofs.YtplhmcmfdcklaaaDoor.Lex
open Go.RowKit
set_option linter.unusedSimpArgs false
set_option linter.unusedVariables false
theorem clone_nil (w : World) : Calls Tryd.prog 19 #[.slice none 0 0] w fun e w' => e = .returned (.slice none 0 0) ∧ w = w' := by
  have he : ∀ (w : World), (binOp .eql 26 (.slice none 0 0) (.slice none 0 0)).run Tryd.prog w = .ok (.bool true) w := fun w => by rw [Lib.run_eql_slice_nil w 26 57 none 0 0 0 0 Tryd.underlying26]; rfl
  go_enter Tryd.func19, Tryd.ntmps19
  go_wp2_with fail
  go_ret
  exact ⟨rfl, rfl⟩
theorem clone_all (xs : List Nat) (a : Option Addr) (cap : Nat) (w : World) (hn : xs.length ≤ 4194304) (h : U64s w a xs) (hc : xs.length ≤ cap) (hnil : a = none → cap = 0) :
    Calls Tryd.prog 19 #[.slice a xs.length cap] w fun e w' => ∃ a' cap', e = .returned (.slice a' xs.length cap') ∧ U64s w' a' xs ∧ xs.length ≤ cap' ∧ (a' = none → cap' = 0) ∧ (∀ g o, a' = some ⟨g, o, none⟩ → w.heap.size ≤ g) ∧ Below w.heap.size w w' := by
  cases a with
  | some x => exact clone_some xs x cap w hn h hc
  | none =>
    obtain rfl := hnil rfl
    obtain rfl : xs = [] := List.eq_nil_of_length_eq_zero (by omega)
    exact (clone_nil w).mono fun e w' ⟨h1, h2⟩ => by subst h2; exact ⟨none, 0, h1, h, Nat.le_refl _, fun _ => rfl, fun _ _ e => (nomatch e), Below.refl _ _⟩
theorem cell_set_far {w : World} {g b o i : Nat} {v : Value} (h : g ≠ b) : (w.setCell ⟨b, i, none⟩ v).cell? ⟨g, o, none⟩ = w.cell? ⟨g, o, none⟩ := World.cell?_setCell_other _ _ _ _ (by intro e; apply h; injection e with e1; omega)
def Own6 (who at' : Int) (xs : List Nat) (w : World) (e : Ending) (w' : World) : Prop := ∃ a' cap', e = .returned (.agg #[.int .i64 6, .int .i64 0, .int .i64 0, .string ⟨#[]⟩, .int .i64 who, .int .i64 at', .slice a' xs.length cap']) ∧ U64s w' a' xs ∧ xs.length ≤ cap' ∧ (a' = none → cap' = 0) ∧ Below w.heap.size w w'
set_option maxRecDepth 100000 in
set_option maxHeartbeats 8000000 in
theorem own_6 (n dir who at' : Int) (text : ByteArray) (a : Option Addr) (xs : List Nat) (cap : Nat) (w : World) (hn : xs.length ≤ 4194304) (h : U64s w a xs) (hc : xs.length ≤ cap) (hnil : a = none → cap = 0) :
    Calls Tryd.prog 8 #[.agg #[.int .i64 6, .int .i64 n, .int .i64 dir, .string text, .int .i64 who, .int .i64 at', .slice a xs.length cap]] w (Own6 who at' xs w) := by
  obtain ⟨W0, hW0⟩ : ∃ W0, W0 = ((w.alloc (.cells #[.int .i64 6, .int .i64 n, .int .i64 dir, .string text, .int .i64 who, .int .i64 at', .slice a xs.length cap] 28)).alloc (.cells #[.int .i64 0, .int .i64 0, .int .i64 0, .string ⟨#[]⟩, .int .i64 0, .int .i64 0, .slice none 0 0] 28)).alloc (.cells #[.int .i64 6, .int .i64 0, .int .i64 0, .string ⟨#[]⟩, .int .i64 0, .int .i64 0, .slice none 0 0] 28) := ⟨_, rfl⟩
  have HB0 : Hid (Below w.heap.size w W0) := Lib.hid (by rw [hW0]; exact (((Below.refl _ _).alloc (Nat.le_refl _) _).alloc (by simp) _).alloc (by simp; omega) _)
  have hz : W0.heap.size = w.heap.size + 1 + 1 + 1 := by rw [hW0]; simp
  have g0 : W0.heap[w.heap.size]? = some (.cells #[.int .i64 6, .int .i64 n, .int .i64 dir, .string text, .int .i64 who, .int .i64 at', .slice a xs.length cap] 28 (0, 0)) := by
    rw [hW0, Lib.alloc_old _ _ _ (by simp; omega), Lib.alloc_old _ _ _ (by simp)]
    exact heap_alloc_new w _
  have g1 : W0.heap[w.heap.size + 1]? = some (.cells #[.int .i64 0, .int .i64 0, .int .i64 0, .string ⟨#[]⟩, .int .i64 0, .int .i64 0, .slice none 0 0] 28 (0, 0)) := by
    rw [hW0, Lib.alloc_old _ _ _ (by simp)]
    have := heap_alloc_new (w.alloc (.cells #[.int .i64 6, .int .i64 n, .int .i64 dir, .string text, .int .i64 who, .int .i64 at', .slice a xs.length cap] 28)) (.cells #[.int .i64 0, .int .i64 0, .int .i64 0, .string ⟨#[]⟩, .int .i64 0, .int .i64 0, .slice none 0 0] 28)
    simpa using this
  have g2 : W0.heap[w.heap.size + 1 + 1]? = some (.cells #[.int .i64 6, .int .i64 0, .int .i64 0, .string ⟨#[]⟩, .int .i64 0, .int .i64 0, .slice none 0 0] 28 (0, 0)) := by
    rw [hW0]
    have := heap_alloc_new ((w.alloc (.cells #[.int .i64 6, .int .i64 n, .int .i64 dir, .string text, .int .i64 who, .int .i64 at', .slice a xs.length cap] 28)).alloc (.cells #[.int .i64 0, .int .i64 0, .int .i64 0, .string ⟨#[]⟩, .int .i64 0, .int .i64 0, .slice none 0 0] 28)) (.cells #[.int .i64 6, .int .i64 0, .int .i64 0, .string ⟨#[]⟩, .int .i64 0, .int .i64 0, .slice none 0 0] 28)
    simpa using this
  have c4 := cell_at (o := 4) g0 rfl
  have c5 := cell_at (o := 5) g0 rfl
  have c6 := cell_at (o := 6) g0 rfl
  have HU := Lib.hid (h.keep HB0.out)
  have HS : Hid (∀ W, Below W0.heap.size W0 W → W.cell? ⟨w.heap.size, 4, none⟩ = some (.int .i64 who) ∧ W.cell? ⟨w.heap.size, 5, none⟩ = some (.int .i64 at') ∧ W.cell? ⟨w.heap.size, 6, none⟩ = some (.slice a xs.length cap)) := Lib.hid fun W hb => by
    have e : ∀ o, W.cell? ⟨w.heap.size, o, none⟩ = W0.cell? ⟨w.heap.size, o, none⟩ := fun o => hb.cell (p := ⟨w.heap.size, o, none⟩) (by show w.heap.size < _; omega)
    simp only [e]
    exact ⟨c4, c5, c6⟩
  have HG1 : Hid (∀ W, Below W0.heap.size W0 W → W.heap[w.heap.size + 1]? = some (.cells #[.int .i64 0, .int .i64 0, .int .i64 0, .string ⟨#[]⟩, .int .i64 0, .int .i64 0, .slice none 0 0] 28 (0, 0))) := Lib.hid fun W hb => (hb.block _ (by omega)).trans g1
  have HG2 : Hid (∀ W, Below W0.heap.size W0 W → W.heap[w.heap.size + 1 + 1]? = some (.cells #[.int .i64 6, .int .i64 0, .int .i64 0, .string ⟨#[]⟩, .int .i64 0, .int .i64 0, .slice none 0 0] 28 (0, 0))) := Lib.hid fun W hb => (hb.block _ (by omega)).trans g2
  have HZ := Lib.hid hz
  have hbz := Below.refl W0.heap.size W0
  have HNIL := Lib.hid hnil
  clear h hz hnil
  go_enter Tryd.func8, Tryd.ntmps8
  go_wp2_with fail
  rw [← hW0]
  clear hW0 g0 g1 g2 c4 c5 c6
  go_region_held3 (fun W => W.cell? ⟨w.heap.size, 4, none⟩ = some (.int .i64 who) ∧ W.cell? ⟨w.heap.size, 5, none⟩ = some (.int .i64 at') ∧ W.cell? ⟨w.heap.size, 6, none⟩ = some (.slice a xs.length cap)) (first | (refine HS.out _ ?_; ((repeat' (first | with_reducible assumption | with_reducible refine Below.drew ?_)) <;> fail)) | (refine ⟨?_, ?_, ?_⟩ <;> (simp only [cell_set_far (show w.heap.size ≠ w.heap.size + 1 + 1 by omega)]; assumption)))
    ((go_at_call 19; (with_reducible refine (clone_all xs a cap _ hn (HU.out.keep (by ((repeat' (first | with_reducible assumption | with_reducible refine Below.drew ?_)) <;> fail))) hc HNIL.out).mono ?_); rintro e w1 ⟨a', cap', rfl, hu, q1, q2, q3, hb1⟩; have HQ3 : Hid (∀ g o, a' = some ⟨g, o, none⟩ → W0.heap.size ≤ g) := Lib.hid q3; have HB : Below W0.heap.size W0 w1 := below_next (by ((repeat' (first | with_reducible assumption | with_reducible refine Below.drew ?_)) <;> fail)) hb1 (Nat.le_refl _); have HU1 := Lib.hid hu; have HQ1 := Lib.hid q1; have HQ2 := Lib.hid q2; clear hb1 hu q1 q2 q3; obtain ⟨n4, n5, n6⟩ := HS.out _ HB; have g := HG2.out _ HB; have k := HG1.out _ HB; have d0 := cell_at (o := 0) g rfl; have d1 := cell_at (o := 1) g rfl; have d2 := cell_at (o := 2) g rfl; have d3 := cell_at (o := 3) g rfl; have d4 := cell_at (o := 4) g rfl; have d5 := cell_at (o := 5) g rfl; have d6 := cell_at (o := 6) g rfl; have f4 := free_at (o := 4) g; have f5 := free_at (o := 5) g; have f6 := free_at (o := 6) g; have j0 := cell_at (o := 0) k rfl; have j1 := cell_at (o := 1) k rfl; have j2 := cell_at (o := 2) k rfl; have j3 := cell_at (o := 3) k rfl; have j4 := cell_at (o := 4) k rfl; have j5 := cell_at (o := 5) k rfl; have j6 := cell_at (o := 6) k rfl; have i0 := free_at (o := 0) k; have i1 := free_at (o := 1) k; have i2 := free_at (o := 2) k; have i3 := free_at (o := 3) k; have i4 := free_at (o := 4) k; have i5 := free_at (o := 5) k; have i6 := free_at (o := 6) k; clear g k))
  all_goals
    go_wp2_with fail
    refine bodyPost_ret (v := .agg #[.int .i64 6, .int .i64 0, .int .i64 0, .string ⟨#[]⟩, .int .i64 who, .int .i64 at', .slice a' xs.length cap']) (by simp [results, Tryd.results8, j0, j1, j2, j3, j4, j5, j6, go_sem]) rfl ⟨a', cap', rfl, fun i hi => ?_, HQ1.out, HQ2.out, ?_⟩
    · obtain ⟨g, o, e1, e2, e3, e4⟩ := HU1.out i hi
      have hg := HQ3.out g o e1
      have hz := HZ.out
      refine ⟨g, o, e1, by simpa [World.setCell] using e2, ?_, e4⟩
      rw [← e3]
      simp only [cell_set_far (show g ≠ w.heap.size + 1 by omega), cell_set_far (show g ≠ w.heap.size + 1 + 1 by omega)]
    · have hz := HZ.out
      have hB : Below w.heap.size w w1 := HB0.out.trans (HB.mono (by omega))
      exact (((((((((hB.setCell (by simp; omega) _).setCell (by simp; omega) _).setCell (by simp; omega) _).setCell (by simp) _).setCell (by simp) _).setCell (by simp) _).setCell (by simp) _).setCell (by simp) _).setCell (by simp) _).setCell (by simp) _
end Go.Proofs.YtplhmcmfdcklaaaDoor.Lex
