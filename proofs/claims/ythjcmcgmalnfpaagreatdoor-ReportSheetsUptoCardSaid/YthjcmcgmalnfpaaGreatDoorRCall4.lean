/- The reference's line of a call. -/
import Derived.Test.YthjcmcgmalnfpaaGreatDoorRInts
import Derived.Deep.RegionHeld3
namespace Go.Proofs.YthjcmcgmalnfpaaGreatDoor.Lex
open Go.RowKit
set_option linter.unusedSimpArgs false
set_option linter.unusedVariables false
abbrev nmCells : Array Value := #[.string ⟨#[]⟩, .string ⟨#[103, 101, 116]⟩, .string ⟨#[108, 111, 111, 107, 117, 112]⟩, .string ⟨#[101, 118, 105, 99, 116]⟩, .string ⟨#[105, 109, 112, 111, 114, 116]⟩, .string ⟨#[101, 120, 112, 111, 114, 116]⟩, .string ⟨#[101, 120, 101, 99, 117, 116, 101]⟩, .string ⟨#[114, 101, 108, 101, 97, 115, 101]⟩]
set_option maxRecDepth 100000 in
theorem rnm_any (w : World) : Calls Tryz.prog 66 #[] w fun e w' => e = .returned (.slice (some ⟨w.heap.size, 0, none⟩) 8 8) ∧ Below w.heap.size w w' ∧ w'.heap[w.heap.size]? = some (.cells nmCells 9 (0, 0)) := by
  go_enter Tryz.func66, Tryz.ntmps66
  go_wp2_with fail
  go_ret
  exact ⟨rfl, (Below.refl _ _).alloc (Nat.le_refl _) _, heap_alloc_new w _⟩
/-- Two numbers behind a word. -/
theorem rints_two (word : List UInt8) (x y : Int) (g off cap : Nat) (w : World) (hw : word.length ≤ 1048576) (hx : InI x) (hy : InI y) (hg : g < w.heap.size) (c0 : w.cell? ⟨g, off, none⟩ = some (.int .i64 x)) (c1 : w.cell? ⟨g, off + 1, none⟩ = some (.int .i64 y)) :
    Calls Tryz.prog 67 #[.string (bs word), .slice (some ⟨g, off, none⟩) 2 cap] w fun e w' => e = .returned (.string (bs (glue (word :: [Lib.itoa x, Lib.itoa y])))) ∧ w' = w := by
  refine rints_any word [x, y] (some ⟨g, off, none⟩) cap w hw (by simp) fun i hi => ?_
  have h2 : i < 2 := hi
  rcases (by omega : i = 0 ∨ i = 1) with rfl | rfl
  · exact ⟨g, off, rfl, hg, c0, hx.1, hx.2⟩
  · exact ⟨g, off, rfl, hg, c1, hy.1, hy.2⟩
theorem rints_new (word : List UInt8) (x y : Int) (W : World) (hw : word.length ≤ 1048576) (hx : InI x) (hy : InI y) :
    Calls Tryz.prog 67 #[.string (bs word), .slice (some ⟨W.heap.size, 0, none⟩) 2 2] (W.alloc (.cells #[.int .i64 x, .int .i64 y] 3)) fun e w' => e = .returned (.string (bs (glue (word :: [Lib.itoa x, Lib.itoa y])))) ∧ w' = W.alloc (.cells #[.int .i64 x, .int .i64 y] 3) := by
  have g := heap_alloc_new W (.cells #[.int .i64 x, .int .i64 y] 3)
  exact rints_two word x y _ 0 2 _ hw hx hy (by simp) (cell_at g rfl) (cell_at g rfl)
theorem rints_newB (word : List UInt8) (x y : Int) (W : World) (hw : word.length ≤ 1048576) (hx : InI x) (hy : InI y) :
    Calls Tryz.prog 67 #[.string (bs word), .slice (some ⟨W.heap.size, 0, none⟩) 2 2] (W.alloc (.cells #[.int .i64 x, .int .i64 y] 3)) fun e w' => e = .returned (.string (bs (glue (word :: [Lib.itoa x, Lib.itoa y])))) ∧ Below W.heap.size W w' := by
  refine (rints_new word x y W hw hx hy).mono ?_
  rintro e w' ⟨rfl, rfl⟩
  exact ⟨rfl, (Below.refl _ _).alloc (Nat.le_refl _) _⟩
/-- A call's line, without its end. -/
def lineC (c : CallV) : List UInt8 := match callW c with | none => [] | some ws => glue ws
def RCallP (c : CallV) (w : World) (e : Ending) (w' : World) : Prop := e = .returned (.string (bs (lineC c))) ∧ Below w.heap.size w w'
set_option maxRecDepth 100000 in
set_option maxHeartbeats 8000000 in
theorem rcall_1 (n dir who at' : Int) (text : ByteArray) (xs : List Nat) (a : Option Addr) (cap : Nat) (w : World) (hf : CallV.Fits ⟨1, n, dir, text, who, at', xs⟩) (hu : U64s w a xs) :
    Calls Tryz.prog 46 #[.agg #[.int .i64 1, .int .i64 n, .int .i64 dir, .string text, .int .i64 who, .int .i64 at', .slice a xs.length cap]] w (RCallP ⟨1, n, dir, text, who, at', xs⟩ w) := by
  obtain ⟨W0, hW0⟩ : ∃ W0, W0 = w.alloc (.cells #[.int .i64 1, .int .i64 n, .int .i64 dir, .string text, .int .i64 who, .int .i64 at', .slice a xs.length cap] 50) := ⟨_, rfl⟩
  have hb0 : Below w.heap.size w W0 := by rw [hW0]; exact (Below.refl _ _).alloc (Nat.le_refl _) _
  have g0 : W0.heap[w.heap.size]? = some (.cells #[.int .i64 1, .int .i64 n, .int .i64 dir, .string text, .int .i64 who, .int .i64 at', .slice a xs.length cap] 50 (0, 0)) := by rw [hW0]; exact heap_alloc_new w _
  have hz0 : w.heap.size < W0.heap.size := by rw [hW0]; simp
  have HU := Lib.hid (hu.keep hb0)
  have HB0 := Lib.hid hb0
  have HF := Lib.hid hf
  have hbz := Below.refl W0.heap.size W0
  have HS : Hid (∀ W, Below W0.heap.size W0 W → W.cell? ⟨w.heap.size, 0, none⟩ = some (.int .i64 1) ∧ W.cell? ⟨w.heap.size, 1, none⟩ = some (.int .i64 n) ∧ W.cell? ⟨w.heap.size, 2, none⟩ = some (.int .i64 dir) ∧ W.cell? ⟨w.heap.size, 3, none⟩ = some (.string text) ∧ W.cell? ⟨w.heap.size, 4, none⟩ = some (.int .i64 who) ∧ W.cell? ⟨w.heap.size, 5, none⟩ = some (.int .i64 at') ∧ W.cell? ⟨w.heap.size, 6, none⟩ = some (.slice a xs.length cap)) := Lib.hid fun W hb => by
    have g := (hb.block w.heap.size hz0).trans g0
    exact ⟨cell_at g rfl, cell_at g rfl, cell_at g rfl, cell_at g rfl, cell_at g rfl, cell_at g rfl, cell_at g rfl⟩
  clear hu hb0 g0 hf
  go_enter Tryz.func46, Tryz.ntmps46
  go_upto_region 1 with fail
  rw [← hW0]
  clear hW0
  obtain ⟨c0, -, -, -, -, -, -⟩ := HS.out _ hbz
  go_region_with (go_at_call 66; (with_reducible refine (rnm_any _).mono ?_); rintro e w1 ⟨rfl, hb1, hn1⟩; have hb1w : Below W0.heap.size W0 w1 := Below.trans (by (repeat' (first | with_reducible assumption | with_reducible refine Below.drew ?_ | (with_reducible refine Below.alloc ?_ (by first | assumption | (simp; done) | (simp; omega)) _)))) hb1; have nc : w1.cell? ⟨W0.heap.size, 1, none⟩ = some (.string (bs [103, 101, 116])) := cell_at hn1 rfl; have HB1 : Hid (Below W0.heap.size W0 w1) := Lib.hid hb1w; have hz1 := hb1w.size; obtain ⟨b0, b1, b2, b3, b4, b5, b6⟩ := HS.out _ hb1w; clear hb1 hn1)
  all_goals
    go_wp2_with (go_at_call 67; (with_reducible refine (rints_newB [103, 101, 116] n dir _ (by simp) HF.out.n HF.out.dir).mono ?_); rintro e w2 ⟨rfl, hb2⟩; have HB2 : Hid (Below W0.heap.size W0 w2) := Lib.hid (HB1.out.trans (hb2.mono hz1)); clear hb2)
    refine bodyPost_ret (v := .string (bs (glue ([103, 101, 116] :: [Lib.itoa n, Lib.itoa dir])))) (by simp [results, Tryz.results46, go_sem, *]) rfl ⟨rfl, HB0.out.trans (HB2.out.mono HB0.out.size)⟩
set_option maxRecDepth 100000 in
set_option maxHeartbeats 8000000 in
theorem rcall_2 (n dir who at' : Int) (text : ByteArray) (xs : List Nat) (a : Option Addr) (cap : Nat) (w : World) (hf : CallV.Fits ⟨2, n, dir, text, who, at', xs⟩) (hu : U64s w a xs) :
    Calls Tryz.prog 46 #[.agg #[.int .i64 2, .int .i64 n, .int .i64 dir, .string text, .int .i64 who, .int .i64 at', .slice a xs.length cap]] w (RCallP ⟨2, n, dir, text, who, at', xs⟩ w) := by
  obtain ⟨W0, hW0⟩ : ∃ W0, W0 = w.alloc (.cells #[.int .i64 2, .int .i64 n, .int .i64 dir, .string text, .int .i64 who, .int .i64 at', .slice a xs.length cap] 50) := ⟨_, rfl⟩
  have hb0 : Below w.heap.size w W0 := by rw [hW0]; exact (Below.refl _ _).alloc (Nat.le_refl _) _
  have g0 : W0.heap[w.heap.size]? = some (.cells #[.int .i64 2, .int .i64 n, .int .i64 dir, .string text, .int .i64 who, .int .i64 at', .slice a xs.length cap] 50 (0, 0)) := by rw [hW0]; exact heap_alloc_new w _
  have hz0 : w.heap.size < W0.heap.size := by rw [hW0]; simp
  have HU := Lib.hid (hu.keep hb0)
  have HB0 := Lib.hid hb0
  have HF := Lib.hid hf
  have hbz := Below.refl W0.heap.size W0
  have HS : Hid (∀ W, Below W0.heap.size W0 W → W.cell? ⟨w.heap.size, 0, none⟩ = some (.int .i64 2) ∧ W.cell? ⟨w.heap.size, 1, none⟩ = some (.int .i64 n) ∧ W.cell? ⟨w.heap.size, 2, none⟩ = some (.int .i64 dir) ∧ W.cell? ⟨w.heap.size, 3, none⟩ = some (.string text) ∧ W.cell? ⟨w.heap.size, 4, none⟩ = some (.int .i64 who) ∧ W.cell? ⟨w.heap.size, 5, none⟩ = some (.int .i64 at') ∧ W.cell? ⟨w.heap.size, 6, none⟩ = some (.slice a xs.length cap)) := Lib.hid fun W hb => by
    have g := (hb.block w.heap.size hz0).trans g0
    exact ⟨cell_at g rfl, cell_at g rfl, cell_at g rfl, cell_at g rfl, cell_at g rfl, cell_at g rfl, cell_at g rfl⟩
  clear hu hb0 g0 hf
  go_enter Tryz.func46, Tryz.ntmps46
  go_upto_region 1 with fail
  rw [← hW0]
  clear hW0
  obtain ⟨c0, -, -, -, -, -, -⟩ := HS.out _ hbz
  go_region_with (go_at_call 66; (with_reducible refine (rnm_any _).mono ?_); rintro e w1 ⟨rfl, hb1, hn1⟩; have hb1w : Below W0.heap.size W0 w1 := Below.trans (by (repeat' (first | with_reducible assumption | with_reducible refine Below.drew ?_ | (with_reducible refine Below.alloc ?_ (by first | assumption | (simp; done) | (simp; omega)) _)))) hb1; have nc : w1.cell? ⟨W0.heap.size, 2, none⟩ = some (.string (bs [108, 111, 111, 107, 117, 112])) := cell_at hn1 rfl; have HB1 : Hid (Below W0.heap.size W0 w1) := Lib.hid hb1w; have hz1 := hb1w.size; obtain ⟨b0, b1, b2, b3, b4, b5, b6⟩ := HS.out _ hb1w; clear hb1 hn1)
  all_goals
    go_wp2_with (go_at_call 67; (with_reducible refine (rints_newB [108, 111, 111, 107, 117, 112] n dir _ (by simp) HF.out.n HF.out.dir).mono ?_); rintro e w2 ⟨rfl, hb2⟩; have HB2 : Hid (Below W0.heap.size W0 w2) := Lib.hid (HB1.out.trans (hb2.mono hz1)); clear hb2)
    refine bodyPost_ret (v := .string (bs (glue ([108, 111, 111, 107, 117, 112] :: [Lib.itoa n, Lib.itoa dir])))) (by simp [results, Tryz.results46, go_sem, *]) rfl ⟨rfl, HB0.out.trans (HB2.out.mono HB0.out.size)⟩
set_option maxRecDepth 100000 in
set_option maxHeartbeats 8000000 in
theorem rcall_3 (n dir who at' : Int) (text : ByteArray) (xs : List Nat) (a : Option Addr) (cap : Nat) (w : World) (hf : CallV.Fits ⟨3, n, dir, text, who, at', xs⟩) (hu : U64s w a xs) :
    Calls Tryz.prog 46 #[.agg #[.int .i64 3, .int .i64 n, .int .i64 dir, .string text, .int .i64 who, .int .i64 at', .slice a xs.length cap]] w (RCallP ⟨3, n, dir, text, who, at', xs⟩ w) := by
  obtain ⟨W0, hW0⟩ : ∃ W0, W0 = w.alloc (.cells #[.int .i64 3, .int .i64 n, .int .i64 dir, .string text, .int .i64 who, .int .i64 at', .slice a xs.length cap] 50) := ⟨_, rfl⟩
  have hb0 : Below w.heap.size w W0 := by rw [hW0]; exact (Below.refl _ _).alloc (Nat.le_refl _) _
  have g0 : W0.heap[w.heap.size]? = some (.cells #[.int .i64 3, .int .i64 n, .int .i64 dir, .string text, .int .i64 who, .int .i64 at', .slice a xs.length cap] 50 (0, 0)) := by rw [hW0]; exact heap_alloc_new w _
  have hz0 : w.heap.size < W0.heap.size := by rw [hW0]; simp
  have HU := Lib.hid (hu.keep hb0)
  have HB0 := Lib.hid hb0
  have HF := Lib.hid hf
  have hbz := Below.refl W0.heap.size W0
  have HS : Hid (∀ W, Below W0.heap.size W0 W → W.cell? ⟨w.heap.size, 0, none⟩ = some (.int .i64 3) ∧ W.cell? ⟨w.heap.size, 1, none⟩ = some (.int .i64 n) ∧ W.cell? ⟨w.heap.size, 2, none⟩ = some (.int .i64 dir) ∧ W.cell? ⟨w.heap.size, 3, none⟩ = some (.string text) ∧ W.cell? ⟨w.heap.size, 4, none⟩ = some (.int .i64 who) ∧ W.cell? ⟨w.heap.size, 5, none⟩ = some (.int .i64 at') ∧ W.cell? ⟨w.heap.size, 6, none⟩ = some (.slice a xs.length cap)) := Lib.hid fun W hb => by
    have g := (hb.block w.heap.size hz0).trans g0
    exact ⟨cell_at g rfl, cell_at g rfl, cell_at g rfl, cell_at g rfl, cell_at g rfl, cell_at g rfl, cell_at g rfl⟩
  clear hu hb0 g0 hf
  go_enter Tryz.func46, Tryz.ntmps46
  go_upto_region 1 with fail
  rw [← hW0]
  clear hW0
  obtain ⟨c0, -, -, -, -, -, -⟩ := HS.out _ hbz
  go_region_with (go_at_call 66; (with_reducible refine (rnm_any _).mono ?_); rintro e w1 ⟨rfl, hb1, hn1⟩; have hb1w : Below W0.heap.size W0 w1 := Below.trans (by (repeat' (first | with_reducible assumption | with_reducible refine Below.drew ?_ | (with_reducible refine Below.alloc ?_ (by first | assumption | (simp; done) | (simp; omega)) _)))) hb1; have nc : w1.cell? ⟨W0.heap.size, 3, none⟩ = some (.string (bs [101, 118, 105, 99, 116])) := cell_at hn1 rfl; have HB1 : Hid (Below W0.heap.size W0 w1) := Lib.hid hb1w; have hz1 := hb1w.size; obtain ⟨b0, b1, b2, b3, b4, b5, b6⟩ := HS.out _ hb1w; clear hb1 hn1)
  all_goals
    go_wp2_with (go_at_call 67; (with_reducible refine (rints_newB [101, 118, 105, 99, 116] n dir _ (by simp) HF.out.n HF.out.dir).mono ?_); rintro e w2 ⟨rfl, hb2⟩; have HB2 : Hid (Below W0.heap.size W0 w2) := Lib.hid (HB1.out.trans (hb2.mono hz1)); clear hb2)
    refine bodyPost_ret (v := .string (bs (glue ([101, 118, 105, 99, 116] :: [Lib.itoa n, Lib.itoa dir])))) (by simp [results, Tryz.results46, go_sem, *]) rfl ⟨rfl, HB0.out.trans (HB2.out.mono HB0.out.size)⟩
set_option maxRecDepth 100000 in
set_option maxHeartbeats 8000000 in
theorem rcall_40 (n dir who at' : Int) (text : ByteArray) (xs : List Nat) (a : Option Addr) (cap : Nat) (w : World) (hf : CallV.Fits ⟨4, n, dir, text, who, at', xs⟩) (hu : U64s w a xs) (h0 : text.data.toList = []) :
    Calls Tryz.prog 46 #[.agg #[.int .i64 4, .int .i64 n, .int .i64 dir, .string text, .int .i64 who, .int .i64 at', .slice a xs.length cap]] w (RCallP ⟨4, n, dir, text, who, at', xs⟩ w) := by
  obtain ⟨W0, hW0⟩ : ∃ W0, W0 = w.alloc (.cells #[.int .i64 4, .int .i64 n, .int .i64 dir, .string text, .int .i64 who, .int .i64 at', .slice a xs.length cap] 50) := ⟨_, rfl⟩
  have hb0 : Below w.heap.size w W0 := by rw [hW0]; exact (Below.refl _ _).alloc (Nat.le_refl _) _
  have g0 : W0.heap[w.heap.size]? = some (.cells #[.int .i64 4, .int .i64 n, .int .i64 dir, .string text, .int .i64 who, .int .i64 at', .slice a xs.length cap] 50 (0, 0)) := by rw [hW0]; exact heap_alloc_new w _
  have hz0 : w.heap.size < W0.heap.size := by rw [hW0]; simp
  have HU := Lib.hid (hu.keep hb0)
  have HB0 := Lib.hid hb0
  have HF := Lib.hid hf
  have hbz := Below.refl W0.heap.size W0
  have HS : Hid (∀ W, Below W0.heap.size W0 W → W.cell? ⟨w.heap.size, 0, none⟩ = some (.int .i64 4) ∧ W.cell? ⟨w.heap.size, 1, none⟩ = some (.int .i64 n) ∧ W.cell? ⟨w.heap.size, 2, none⟩ = some (.int .i64 dir) ∧ W.cell? ⟨w.heap.size, 3, none⟩ = some (.string text) ∧ W.cell? ⟨w.heap.size, 4, none⟩ = some (.int .i64 who) ∧ W.cell? ⟨w.heap.size, 5, none⟩ = some (.int .i64 at') ∧ W.cell? ⟨w.heap.size, 6, none⟩ = some (.slice a xs.length cap)) := Lib.hid fun W hb => by
    have g := (hb.block w.heap.size hz0).trans g0
    exact ⟨cell_at g rfl, cell_at g rfl, cell_at g rfl, cell_at g rfl, cell_at g rfl, cell_at g rfl, cell_at g rfl⟩
  have h1 : text.toList.isEmpty = true := by rw [Lib.toList_data, h0]; rfl
  have HL : Hid (lineC ⟨4, n, dir, text, who, at', xs⟩ = [105, 109, 112, 111, 114, 116]) := Lib.hid (by simp [lineC, callW, hexW, h0, glue])
  clear h0 hu hb0 g0 hf
  go_enter Tryz.func46, Tryz.ntmps46
  go_upto_region 1 with fail
  rw [← hW0]
  clear hW0
  obtain ⟨c0, -, -, -, -, -, -⟩ := HS.out _ hbz
  go_region_with (go_at_call 66; (with_reducible refine (rnm_any _).mono ?_); rintro e w1 ⟨rfl, hb1, hn1⟩; have hb1w : Below W0.heap.size W0 w1 := Below.trans (by (repeat' (first | with_reducible assumption | with_reducible refine Below.drew ?_ | (with_reducible refine Below.alloc ?_ (by first | assumption | (simp; done) | (simp; omega)) _)))) hb1; have nc : w1.cell? ⟨W0.heap.size, 4, none⟩ = some (.string (bs [105, 109, 112, 111, 114, 116])) := cell_at hn1 rfl; have HB1 : Hid (Below W0.heap.size W0 w1) := Lib.hid hb1w; have hz1 := hb1w.size; obtain ⟨b0, b1, b2, b3, b4, b5, b6⟩ := HS.out _ hb1w; clear hb1 hn1)
  all_goals
    go_wp2_with fail
    refine bodyPost_ret (v := .string (bs [105, 109, 112, 111, 114, 116])) (by simp [results, Tryz.results46, go_sem, *]) rfl ⟨by rw [HL.out], HB0.out.trans (HB1.out.mono HB0.out.size)⟩
set_option maxRecDepth 100000 in
set_option maxHeartbeats 8000000 in
theorem rcall_41 (n dir who at' : Int) (text : ByteArray) (xs : List Nat) (a : Option Addr) (cap : Nat) (w : World) (hf : CallV.Fits ⟨4, n, dir, text, who, at', xs⟩) (hu : U64s w a xs) (h0 : text.data.toList ≠ []) (ht : text.size ≤ 1048576) :
    Calls Tryz.prog 46 #[.agg #[.int .i64 4, .int .i64 n, .int .i64 dir, .string text, .int .i64 who, .int .i64 at', .slice a xs.length cap]] w (RCallP ⟨4, n, dir, text, who, at', xs⟩ w) := by
  obtain ⟨W0, hW0⟩ : ∃ W0, W0 = w.alloc (.cells #[.int .i64 4, .int .i64 n, .int .i64 dir, .string text, .int .i64 who, .int .i64 at', .slice a xs.length cap] 50) := ⟨_, rfl⟩
  have hb0 : Below w.heap.size w W0 := by rw [hW0]; exact (Below.refl _ _).alloc (Nat.le_refl _) _
  have g0 : W0.heap[w.heap.size]? = some (.cells #[.int .i64 4, .int .i64 n, .int .i64 dir, .string text, .int .i64 who, .int .i64 at', .slice a xs.length cap] 50 (0, 0)) := by rw [hW0]; exact heap_alloc_new w _
  have hz0 : w.heap.size < W0.heap.size := by rw [hW0]; simp
  have HU := Lib.hid (hu.keep hb0)
  have HB0 := Lib.hid hb0
  have HF := Lib.hid hf
  have hbz := Below.refl W0.heap.size W0
  have HS : Hid (∀ W, Below W0.heap.size W0 W → W.cell? ⟨w.heap.size, 0, none⟩ = some (.int .i64 4) ∧ W.cell? ⟨w.heap.size, 1, none⟩ = some (.int .i64 n) ∧ W.cell? ⟨w.heap.size, 2, none⟩ = some (.int .i64 dir) ∧ W.cell? ⟨w.heap.size, 3, none⟩ = some (.string text) ∧ W.cell? ⟨w.heap.size, 4, none⟩ = some (.int .i64 who) ∧ W.cell? ⟨w.heap.size, 5, none⟩ = some (.int .i64 at') ∧ W.cell? ⟨w.heap.size, 6, none⟩ = some (.slice a xs.length cap)) := Lib.hid fun W hb => by
    have g := (hb.block w.heap.size hz0).trans g0
    exact ⟨cell_at g rfl, cell_at g rfl, cell_at g rfl, cell_at g rfl, cell_at g rfl, cell_at g rfl, cell_at g rfl⟩
  have h1 : text.toList.isEmpty = false := by rw [Lib.toList_data]; exact (List.isEmpty_eq_false_iff).2 h0
  have HL : Hid (lineC ⟨4, n, dir, text, who, at', xs⟩ = [105, 109, 112, 111, 114, 116] ++ 32 :: hexOf text.data.toList) := Lib.hid (by simp [lineC, callW, hexW, h0, glue])
  have hts : text.size ≤ 1048576 := ht
  have HX : Hid (bs [105, 109, 112, 111, 114, 116] ++ bs [32] ++ bs (hexOf text.data.toList) = bs ([105, 109, 112, 111, 114, 116] ++ 32 :: hexOf text.data.toList)) := Lib.hid (by rw [bs_bs, bs_bs]; simp)
  have hxl : (hexOf text.data.toList).length ≤ 2097152 := by rw [hexOf_len, Array.length_toList]; show 2 * text.size ≤ _; omega
  have z1 : (bs [105, 109, 112, 111, 114, 116]).size = 6 := rfl
  have z2 : (bs (hexOf text.data.toList)).size ≤ 2097152 := by rw [size_bs]; exact hxl
  have z3 : (bs [32]).size = 1 := rfl
  clear h0 hu hb0 g0 hf
  go_enter Tryz.func46, Tryz.ntmps46
  go_upto_region 1 with fail
  rw [← hW0]
  clear hW0
  obtain ⟨c0, -, -, -, -, -, -⟩ := HS.out _ hbz
  go_region_with (go_at_call 66; (with_reducible refine (rnm_any _).mono ?_); rintro e w1 ⟨rfl, hb1, hn1⟩; have hb1w : Below W0.heap.size W0 w1 := Below.trans (by (repeat' (first | with_reducible assumption | with_reducible refine Below.drew ?_ | (with_reducible refine Below.alloc ?_ (by first | assumption | (simp; done) | (simp; omega)) _)))) hb1; have nc : w1.cell? ⟨W0.heap.size, 4, none⟩ = some (.string (bs [105, 109, 112, 111, 114, 116])) := cell_at hn1 rfl; have HB1 : Hid (Below W0.heap.size W0 w1) := Lib.hid hb1w; have hz1 := hb1w.size; obtain ⟨b0, b1, b2, b3, b4, b5, b6⟩ := HS.out _ hb1w; clear hb1 hn1)
  all_goals
    go_wp2_with (go_at_call 68; (with_reducible refine (rhex_any text _ hts).mono ?_); rintro e w2 ⟨rfl, d2, rfl⟩)
    refine bodyPost_ret (v := .string (bs ([105, 109, 112, 111, 114, 116] ++ 32 :: hexOf text.data.toList))) (by simp [results, Tryz.results46, go_sem]; exact HX.out) rfl ⟨by rw [HL.out], below_drewN (HB0.out.trans (HB1.out.mono HB0.out.size)) _⟩
set_option maxRecDepth 100000 in
set_option maxHeartbeats 8000000 in
theorem rcall_5 (n dir who at' : Int) (text : ByteArray) (xs : List Nat) (a : Option Addr) (cap : Nat) (w : World) (hf : CallV.Fits ⟨5, n, dir, text, who, at', xs⟩) (hu : U64s w a xs) :
    Calls Tryz.prog 46 #[.agg #[.int .i64 5, .int .i64 n, .int .i64 dir, .string text, .int .i64 who, .int .i64 at', .slice a xs.length cap]] w (RCallP ⟨5, n, dir, text, who, at', xs⟩ w) := by
  obtain ⟨W0, hW0⟩ : ∃ W0, W0 = w.alloc (.cells #[.int .i64 5, .int .i64 n, .int .i64 dir, .string text, .int .i64 who, .int .i64 at', .slice a xs.length cap] 50) := ⟨_, rfl⟩
  have hb0 : Below w.heap.size w W0 := by rw [hW0]; exact (Below.refl _ _).alloc (Nat.le_refl _) _
  have g0 : W0.heap[w.heap.size]? = some (.cells #[.int .i64 5, .int .i64 n, .int .i64 dir, .string text, .int .i64 who, .int .i64 at', .slice a xs.length cap] 50 (0, 0)) := by rw [hW0]; exact heap_alloc_new w _
  have hz0 : w.heap.size < W0.heap.size := by rw [hW0]; simp
  have HU := Lib.hid (hu.keep hb0)
  have HB0 := Lib.hid hb0
  have HF := Lib.hid hf
  have hbz := Below.refl W0.heap.size W0
  have HS : Hid (∀ W, Below W0.heap.size W0 W → W.cell? ⟨w.heap.size, 0, none⟩ = some (.int .i64 5) ∧ W.cell? ⟨w.heap.size, 1, none⟩ = some (.int .i64 n) ∧ W.cell? ⟨w.heap.size, 2, none⟩ = some (.int .i64 dir) ∧ W.cell? ⟨w.heap.size, 3, none⟩ = some (.string text) ∧ W.cell? ⟨w.heap.size, 4, none⟩ = some (.int .i64 who) ∧ W.cell? ⟨w.heap.size, 5, none⟩ = some (.int .i64 at') ∧ W.cell? ⟨w.heap.size, 6, none⟩ = some (.slice a xs.length cap)) := Lib.hid fun W hb => by
    have g := (hb.block w.heap.size hz0).trans g0
    exact ⟨cell_at g rfl, cell_at g rfl, cell_at g rfl, cell_at g rfl, cell_at g rfl, cell_at g rfl, cell_at g rfl⟩
  clear hu hb0 g0 hf
  go_enter Tryz.func46, Tryz.ntmps46
  go_upto_region 1 with fail
  rw [← hW0]
  clear hW0
  obtain ⟨c0, -, -, -, -, -, -⟩ := HS.out _ hbz
  go_region_with (go_at_call 66; (with_reducible refine (rnm_any _).mono ?_); rintro e w1 ⟨rfl, hb1, hn1⟩; have hb1w : Below W0.heap.size W0 w1 := Below.trans (by (repeat' (first | with_reducible assumption | with_reducible refine Below.drew ?_ | (with_reducible refine Below.alloc ?_ (by first | assumption | (simp; done) | (simp; omega)) _)))) hb1; have nc : w1.cell? ⟨W0.heap.size, 5, none⟩ = some (.string (bs [101, 120, 112, 111, 114, 116])) := cell_at hn1 rfl; have HB1 : Hid (Below W0.heap.size W0 w1) := Lib.hid hb1w; have hz1 := hb1w.size; obtain ⟨b0, b1, b2, b3, b4, b5, b6⟩ := HS.out _ hb1w; clear hb1 hn1)
  all_goals
    go_wp2_with fail
    refine bodyPost_ret (v := .string (bs [101, 120, 112, 111, 114, 116])) (by simp [results, Tryz.results46, go_sem, *]) rfl ⟨rfl, HB0.out.trans (HB1.out.mono HB0.out.size)⟩
set_option maxRecDepth 100000 in
set_option maxHeartbeats 8000000 in
theorem rcall_7 (n dir who at' : Int) (text : ByteArray) (xs : List Nat) (a : Option Addr) (cap : Nat) (w : World) (hf : CallV.Fits ⟨7, n, dir, text, who, at', xs⟩) (hu : U64s w a xs) :
    Calls Tryz.prog 46 #[.agg #[.int .i64 7, .int .i64 n, .int .i64 dir, .string text, .int .i64 who, .int .i64 at', .slice a xs.length cap]] w (RCallP ⟨7, n, dir, text, who, at', xs⟩ w) := by
  obtain ⟨W0, hW0⟩ : ∃ W0, W0 = w.alloc (.cells #[.int .i64 7, .int .i64 n, .int .i64 dir, .string text, .int .i64 who, .int .i64 at', .slice a xs.length cap] 50) := ⟨_, rfl⟩
  have hb0 : Below w.heap.size w W0 := by rw [hW0]; exact (Below.refl _ _).alloc (Nat.le_refl _) _
  have g0 : W0.heap[w.heap.size]? = some (.cells #[.int .i64 7, .int .i64 n, .int .i64 dir, .string text, .int .i64 who, .int .i64 at', .slice a xs.length cap] 50 (0, 0)) := by rw [hW0]; exact heap_alloc_new w _
  have hz0 : w.heap.size < W0.heap.size := by rw [hW0]; simp
  have HU := Lib.hid (hu.keep hb0)
  have HB0 := Lib.hid hb0
  have HF := Lib.hid hf
  have hbz := Below.refl W0.heap.size W0
  have HS : Hid (∀ W, Below W0.heap.size W0 W → W.cell? ⟨w.heap.size, 0, none⟩ = some (.int .i64 7) ∧ W.cell? ⟨w.heap.size, 1, none⟩ = some (.int .i64 n) ∧ W.cell? ⟨w.heap.size, 2, none⟩ = some (.int .i64 dir) ∧ W.cell? ⟨w.heap.size, 3, none⟩ = some (.string text) ∧ W.cell? ⟨w.heap.size, 4, none⟩ = some (.int .i64 who) ∧ W.cell? ⟨w.heap.size, 5, none⟩ = some (.int .i64 at') ∧ W.cell? ⟨w.heap.size, 6, none⟩ = some (.slice a xs.length cap)) := Lib.hid fun W hb => by
    have g := (hb.block w.heap.size hz0).trans g0
    exact ⟨cell_at g rfl, cell_at g rfl, cell_at g rfl, cell_at g rfl, cell_at g rfl, cell_at g rfl, cell_at g rfl⟩
  clear hu hb0 g0 hf
  go_enter Tryz.func46, Tryz.ntmps46
  go_upto_region 1 with fail
  rw [← hW0]
  clear hW0
  obtain ⟨c0, -, -, -, -, -, -⟩ := HS.out _ hbz
  go_region_with (go_at_call 66; (with_reducible refine (rnm_any _).mono ?_); rintro e w1 ⟨rfl, hb1, hn1⟩; have hb1w : Below W0.heap.size W0 w1 := Below.trans (by (repeat' (first | with_reducible assumption | with_reducible refine Below.drew ?_ | (with_reducible refine Below.alloc ?_ (by first | assumption | (simp; done) | (simp; omega)) _)))) hb1; have nc : w1.cell? ⟨W0.heap.size, 7, none⟩ = some (.string (bs [114, 101, 108, 101, 97, 115, 101])) := cell_at hn1 rfl; have HB1 : Hid (Below W0.heap.size W0 w1) := Lib.hid hb1w; have hz1 := hb1w.size; obtain ⟨b0, b1, b2, b3, b4, b5, b6⟩ := HS.out _ hb1w; clear hb1 hn1)
  all_goals
    go_wp2_with (go_at_call 67; (with_reducible refine (rints_newB [114, 101, 108, 101, 97, 115, 101] who at' _ (by simp) HF.out.who HF.out.at_).mono ?_); rintro e w2 ⟨rfl, hb2⟩; have HB2 : Hid (Below W0.heap.size W0 w2) := Lib.hid (HB1.out.trans (hb2.mono hz1)); clear hb2; obtain ⟨d0, -, -, -, -, -, d6⟩ := HS.out _ HB2.out)
    go_loop [3, 4] (fun tv kv => kv = .int .i64 0 ∧ tv = .string (bs (glue ([114, 101, 108, 101, 97, 115, 101] :: [Lib.itoa who, Lib.itoa at'])))) (fun tv kv => 0)
    case atStart => exact ⟨rfl, rfl⟩
    case round =>
      obtain ⟨rfl, rfl⟩ := hrel
      go_wp2_with fail
      refine bodyPost_ret (v := .string (bs (glue ([114, 101, 108, 101, 97, 115, 101] :: [Lib.itoa who, Lib.itoa at'])))) (by simp [results, Tryz.results46, go_sem, *]) rfl ⟨rfl, HB0.out.trans (HB2.out.mono HB0.out.size)⟩
set_option maxRecDepth 100000 in
set_option maxHeartbeats 8000000 in
theorem rcall_6 (n dir who at' : Int) (text : ByteArray) (xs : List Nat) (a : Option Addr) (cap : Nat) (w : World) (hf : CallV.Fits ⟨6, n, dir, text, who, at', xs⟩) (hu : U64s w a xs) :
    Calls Tryz.prog 46 #[.agg #[.int .i64 6, .int .i64 n, .int .i64 dir, .string text, .int .i64 who, .int .i64 at', .slice a xs.length cap]] w (RCallP ⟨6, n, dir, text, who, at', xs⟩ w) := by
  obtain ⟨W0, hW0⟩ : ∃ W0, W0 = w.alloc (.cells #[.int .i64 6, .int .i64 n, .int .i64 dir, .string text, .int .i64 who, .int .i64 at', .slice a xs.length cap] 50) := ⟨_, rfl⟩
  have hb0 : Below w.heap.size w W0 := by rw [hW0]; exact (Below.refl _ _).alloc (Nat.le_refl _) _
  have g0 : W0.heap[w.heap.size]? = some (.cells #[.int .i64 6, .int .i64 n, .int .i64 dir, .string text, .int .i64 who, .int .i64 at', .slice a xs.length cap] 50 (0, 0)) := by rw [hW0]; exact heap_alloc_new w _
  have hz0 : w.heap.size < W0.heap.size := by rw [hW0]; simp
  have HU := Lib.hid (hu.keep hb0)
  have HB0 := Lib.hid hb0
  have HF := Lib.hid hf
  have hbz := Below.refl W0.heap.size W0
  have HS : Hid (∀ W, Below W0.heap.size W0 W → W.cell? ⟨w.heap.size, 0, none⟩ = some (.int .i64 6) ∧ W.cell? ⟨w.heap.size, 1, none⟩ = some (.int .i64 n) ∧ W.cell? ⟨w.heap.size, 2, none⟩ = some (.int .i64 dir) ∧ W.cell? ⟨w.heap.size, 3, none⟩ = some (.string text) ∧ W.cell? ⟨w.heap.size, 4, none⟩ = some (.int .i64 who) ∧ W.cell? ⟨w.heap.size, 5, none⟩ = some (.int .i64 at') ∧ W.cell? ⟨w.heap.size, 6, none⟩ = some (.slice a xs.length cap)) := Lib.hid fun W hb => by
    have g := (hb.block w.heap.size hz0).trans g0
    exact ⟨cell_at g rfl, cell_at g rfl, cell_at g rfl, cell_at g rfl, cell_at g rfl, cell_at g rfl, cell_at g rfl⟩
  have hxl : xs.length ≤ 4194304 := hf.xs
  have i1 := itoa_len hf.who
  have i2 := itoa_len hf.at_
  clear hu hb0 g0 hf
  go_enter Tryz.func46, Tryz.ntmps46
  go_upto_region 1 with fail
  rw [← hW0]
  clear hW0
  obtain ⟨c0, -, -, -, -, -, -⟩ := HS.out _ hbz
  go_region_with (go_at_call 66; (with_reducible refine (rnm_any _).mono ?_); rintro e w1 ⟨rfl, hb1, hn1⟩; have hb1w : Below W0.heap.size W0 w1 := Below.trans (by (repeat' (first | with_reducible assumption | with_reducible refine Below.drew ?_ | (with_reducible refine Below.alloc ?_ (by first | assumption | (simp; done) | (simp; omega)) _)))) hb1; have nc : w1.cell? ⟨W0.heap.size, 6, none⟩ = some (.string (bs [101, 120, 101, 99, 117, 116, 101])) := cell_at hn1 rfl; have HB1 : Hid (Below W0.heap.size W0 w1) := Lib.hid hb1w; have hz1 := hb1w.size; obtain ⟨b0, b1, b2, b3, b4, b5, b6⟩ := HS.out _ hb1w; clear hb1 hn1)
  all_goals
    go_wp2_with (go_at_call 67; (with_reducible refine (rints_newB [101, 120, 101, 99, 117, 116, 101] who at' _ (by simp) HF.out.who HF.out.at_).mono ?_); rintro e w2 ⟨rfl, hb2⟩; have HB2 : Hid (Below W0.heap.size W0 w2) := Lib.hid (HB1.out.trans (hb2.mono hz1)); clear hb2; obtain ⟨d0, -, -, -, -, -, d6⟩ := HS.out _ HB2.out)
    have HUX := Lib.hid (HU.out.keep HB2.out)
    go_loop [3, 4] (fun tv kv => ∃ (k : Nat) (t : List UInt8), k ≤ xs.length ∧ kv = .int .i64 k ∧ tv = .string (bs t) ∧ t = glue ([101, 120, 101, 99, 117, 116, 101] :: Lib.itoa who :: Lib.itoa at' :: (xs.take k).map Lib.decDigits) ∧ t.length ≤ 60 + 21 * k) (fun _ kv => xs.length - (intOf kv).toNat)
    case atStart => exact ⟨0, _, by omega, rfl, rfl, rfl, by simp [glue]; omega⟩
    case round =>
      obtain ⟨k, t, hk, rfl, rfl, ht, htl⟩ := hrel
      by_cases hlt : k < xs.length
      · obtain ⟨g, off, rfl, _, q1, q2⟩ := HUX.out k hlt
        have HNX : Hid (glue ([101, 120, 101, 99, 117, 116, 101] :: Lib.itoa who :: Lib.itoa at' :: (xs.take (k + 1)).map Lib.decDigits) = t ++ 32 :: Lib.decDigits (xs[k]'hlt)) := Lib.hid (by
          rw [List.take_succ_eq_append_getElem hlt, List.map_append, ← List.cons_append, ← List.cons_append, ← List.cons_append, List.map_singleton, glue_snoc _ _ (by simp), ht])
        generalize xs[k]'hlt = z at *
        have hz : z ≤ 18446744073709551615 := by omega
        have HRI := Lib.hid (fun w => rword_any z w hz)
        have hd := decDigits_len64 hz
        have HX : Hid (bs t ++ bs [32] ++ bs (Lib.decDigits z) = bs (t ++ 32 :: Lib.decDigits z)) := Lib.hid (by rw [bs_bs, bs_bs]; simp)
        have z1 : (bs t).size ≤ 100000000 := by rw [size_bs]; omega
        have z2 : (bs (Lib.decDigits z)).size ≤ 20 := by rw [size_bs]; exact hd
        have HT := Lib.hid htl
        clear ht htl
        go_wp2_with (go_at_call 20; (with_reducible refine (HRI.out _).mono ?_); rintro e w3 ⟨rfl, rfl⟩)
        go_round
        case rel => exact ⟨k + 1, t ++ 32 :: Lib.decDigits z, by omega, by go_num, congrArg Value.string HX.out, HNX.out.symm, by have h1 := HT.out; rw [List.length_append, List.length_cons]; omega⟩
        case measure => simp [intOf]; omega
      · obtain rfl : k = xs.length := by omega
        have HX : Hid (t = lineC ⟨6, n, dir, text, who, at', xs⟩) := Lib.hid (by rw [ht, List.take_length]; rfl)
        clear ht
        go_wp2_with fail
        refine bodyPost_ret (v := .string (bs t)) (by simp [results, Tryz.results46, go_sem, *]) rfl ⟨by rw [← HX.out], HB0.out.trans (HB2.out.mono HB0.out.size)⟩
theorem rcall_any (c : CallV) (a : Option Addr) (cap : Nat) (w : World) (hf : c.Fits) (ht : c.text.size ≤ 1048576) (hs : callW c ≠ none) (hu : U64s w a c.xs) :
    Calls Tryz.prog 46 #[c.val a cap] w (RCallP c w) := by
  obtain ⟨k, n, dir, text, who, at', xs⟩ := c
  have hk : k = 1 ∨ k = 2 ∨ k = 3 ∨ k = 4 ∨ k = 5 ∨ k = 6 ∨ k = 7 := by
    by_cases h : k = 1 ∨ k = 2 ∨ k = 3 ∨ k = 4 ∨ k = 5 ∨ k = 6 ∨ k = 7
    · exact h
    · exfalso
      refine hs ?_
      simp only [callW]
      rw [if_neg (by omega), if_neg (by omega), if_neg (by omega), if_neg (by omega), if_neg (by omega), if_neg (by omega), if_neg (by omega)]
  rcases hk with rfl | rfl | rfl | rfl | rfl | rfl | rfl
  · exact rcall_1 n dir who at' text xs a cap w hf hu
  · exact rcall_2 n dir who at' text xs a cap w hf hu
  · exact rcall_3 n dir who at' text xs a cap w hf hu
  · by_cases h0 : text.data.toList = []
    · exact rcall_40 n dir who at' text xs a cap w hf hu h0
    · exact rcall_41 n dir who at' text xs a cap w hf hu h0 ht
  · exact rcall_5 n dir who at' text xs a cap w hf hu
  · exact rcall_6 n dir who at' text xs a cap w hf hu
  · exact rcall_7 n dir who at' text xs a cap w hf hu
end Go.Proofs.YthjcmcgmalnfpaaGreatDoor.Lex
