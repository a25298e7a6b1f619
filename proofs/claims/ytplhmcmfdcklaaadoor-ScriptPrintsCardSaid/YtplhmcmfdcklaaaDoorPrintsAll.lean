/- RInts, RCall4, RText, RLines, Great4, OpenS, PrintT, PrintsA: laid into one text. -/
import Derived.Test.YtplhmcmfdcklaaaDoorRWord
import Derived.Test.YtplhmcmfdcklaaaDoorLine
import Derived.BigQuiet
import Derived.Deep.LoopGhost
import Derived.Test.YtplhmcmfdcklaaaDoorOwnA
import Derived.Deep.RegionHeld3
import Derived.Test.YtplhmcmfdcklaaaDoorStr
import Derived.Test.YtplhmcmfdcklaaaDoorScr
import Derived.Test.YtplhmcmfdcklaaaDoorPrint2
import Derived.Test.YtplhmcmfdcklaaaDoorCallO
import Derived.Test.YtplhmcmfdcklaaaDoorReadsAll
/- The reference's texts of numbers and of bytes. -/
namespace Go.Proofs.YtplhmcmfdcklaaaDoor.Lex
open Go.RowKit
set_option linter.unusedSimpArgs false
set_option linter.unusedVariables false
set_option maxRecDepth 100000 in
/-- A word, and numbers. -/
theorem rints_any (word : List UInt8) (xs : List Int) (a : Option Addr) (cap : Nat) (w : World) (hw : word.length ≤ 1048576) (hn : xs.length ≤ 1048576) (hi : Ints w a xs) :
    Calls Tryd.prog 27 #[.string (bs word), .slice a xs.length cap] w fun e w' => e = .returned (.string (bs (glue (word :: xs.map Lib.itoa)))) ∧ w' = w := by
  have HI := Lib.hid hi
  clear hi
  go_enter Tryd.func27, Tryd.ntmps27
  go_wp2_with fail
  go_loop [0, 5] (fun tv kv => ∃ (k : Nat) (t : List UInt8), k ≤ xs.length ∧ kv = .int .i64 k ∧ tv = .string (bs t) ∧ t = glue (word :: (xs.take k).map Lib.itoa) ∧ t.length ≤ word.length + 21 * k) (fun _ kv => xs.length - (intOf kv).toNat)
  case atStart => exact ⟨0, word, by omega, rfl, rfl, rfl, by omega⟩
  case round =>
    obtain ⟨k, t, hk, rfl, rfl, ht, htl⟩ := hrel
    by_cases hlt : k < xs.length
    · obtain ⟨g, off, rfl, _, c1, r0, r1⟩ := HI.out k hlt
      have HNX : Hid (glue (word :: (xs.take (k + 1)).map Lib.itoa) = t ++ 32 :: Lib.itoa (xs[k]'hlt)) := Lib.hid (by
        rw [List.take_succ_eq_append_getElem hlt, List.map_append, ← List.cons_append, List.map_singleton, glue_snoc _ _ (by simp), ht])
      have HIL := Lib.hid (itoa_len (n := xs[k]'hlt) ⟨r0, r1⟩)
      have HRI := Lib.hid (fun w => rint_any (xs[k]'hlt) w r0 r1)
      generalize xs[k]'hlt = z at *
      have HX : Hid (bs t ++ bs [32] ++ bs (Lib.itoa z) = bs (t ++ 32 :: Lib.itoa z)) := Lib.hid (by rw [bs_bs, bs_bs]; simp)
      have z1 : (bs t).size ≤ 30000000 := by rw [size_bs]; omega
      have z2 : (bs (Lib.itoa z)).size ≤ 20 := by rw [size_bs]; exact HIL.out
      have HT := Lib.hid htl
      clear ht htl
      go_wp2_with (go_at_call 42; (with_reducible refine (HRI.out _).mono ?_); rintro e w1 ⟨rfl, rfl⟩)
      go_round
      case rel => exact ⟨k + 1, t ++ 32 :: Lib.itoa z, by omega, by go_num, congrArg Value.string HX.out, HNX.out.symm, by have h1 := HT.out; have h2 := HIL.out; rw [List.length_append, List.length_cons]; omega⟩
      case measure => simp [intOf]; omega
    · obtain rfl : k = xs.length := by omega
      have HX : Hid (t = glue (word :: xs.map Lib.itoa)) := Lib.hid (by rw [ht, List.take_length])
      clear ht htl
      go_wp2_with fail
      go_ret
      exact ⟨by rw [← HX.out]; rfl, rfl⟩
theorem hexd_ext {d : Nat} (h : d < 16) : (⟨#[48, 49, 50, 51, 52, 53, 54, 55, 56, 57, 97, 98, 99, 100, 101, 102]⟩ : ByteArray).extract d (d + 1) = bs [hexd d] := by
  rcases (by omega : d = 0 ∨ d = 1 ∨ d = 2 ∨ d = 3 ∨ d = 4 ∨ d = 5 ∨ d = 6 ∨ d = 7 ∨ d = 8 ∨ d = 9 ∨ d = 10 ∨ d = 11 ∨ d = 12 ∨ d = 13 ∨ d = 14 ∨ d = 15) with rfl | rfl | rfl | rfl | rfl | rfl | rfl | rfl | rfl | rfl | rfl | rfl | rfl | rfl | rfl | rfl <;> rfl
set_option maxRecDepth 100000 in
set_option maxHeartbeats 4000000 in
/-- A text's digits. -/
theorem rhex_any (s : ByteArray) (w : World) (hs : s.size ≤ 1048576) : Calls Tryd.prog 44 #[.string s] w fun e w' => e = .returned (.string (bs (hexOf s.data.toList))) ∧ ∃ d, w' = w.drewN d := by
  have hl : s.data.toList.length = s.size := by rw [Array.length_toList]; rfl
  go_enter Tryd.func44, Tryd.ntmps44
  go_wp2_with fail
  go_loopg [3, 5] s.size (fun g tv kv wr => ∃ k d : Nat, k ≤ s.size ∧ g = s.size - k ∧ kv = .int .i64 k ∧ tv = .string (bs (hexOf (s.data.toList.take k))) ∧ wr = w.drewN d)
  case atStart => exact ⟨0, 0, Nat.zero_le _, rfl, rfl, rfl, rfl⟩
  case round =>
    obtain ⟨k, d, hk, rfl, rfl, rfl, rfl⟩ := hrel
    by_cases hlt : k < s.size
    · have hb := byteAt_eq hlt
      have h255 := (s[k]'hlt).toNat_lt
      have HNX : Hid (hexOf (s.data.toList.take (k + 1)) = hexOf (s.data.toList.take k) ++ [hexd ((s[k]'hlt).toNat / 16)] ++ [hexd ((s[k]'hlt).toNat % 16)]) := Lib.hid (by
        rw [take_succ_at hlt, hexOf_snoc, hb])
      have htl : (hexOf (s.data.toList.take k)).length ≤ 2097152 := by rw [hexOf_len, List.length_take]; omega
      obtain ⟨p, hp⟩ : ∃ p, p = (s[k]'hlt).toNat / 16 := ⟨_, rfl⟩
      obtain ⟨q, hq⟩ : ∃ q, q = (s[k]'hlt).toNat % 16 := ⟨_, rfl⟩
      have hpi : (((s[k]'hlt).toNat : Nat) : Int) / 16 = (p : Int) := by omega
      have hqi : (((s[k]'hlt).toNat : Nat) : Int) % 16 = (q : Int) := by omega
      have hp16 : p < 16 := by omega
      have hq16 : q < 16 := by omega
      rw [← hp, ← hq] at HNX
      have hE1 := hexd_ext hp16
      have hE2 := hexd_ext hq16
      generalize hexOf (s.data.toList.take k) = t at *
      have z1 : (bs t).size ≤ 2097152 := by rw [size_bs]; exact htl
      have z2 : (bs [hexd p]).size = 1 := rfl
      have z3 : (bs [hexd q]).size = 1 := rfl
      have HX : Hid (bs t ++ bs [hexd p] ++ bs [hexd q] = bs (t ++ [hexd p] ++ [hexd q])) := Lib.hid (by rw [bs_bs, bs_bs])
      have hk1 : (k : Int) < (s.size : Int) := by omega
      have hp1 : (p : Int) < 16 := by omega
      have hq1 : (q : Int) < 16 := by omega
      clear hb hp hq htl
      go_wp2_with fail
      go_quiet (fail)
      go_wp2_with fail
      go_quiet (fail)
      go_wp2_with fail
      go_roundg (s.size - (k + 1))
      case measure => omega
      case rel => exact ⟨k + 1, _, by omega, rfl, by go_num, by rw [HNX.out, ← HX.out], rfl⟩
    · obtain rfl : k = s.size := by omega
      have HX : Hid (hexOf (s.data.toList.take s.size) = hexOf s.data.toList) := Lib.hid (by rw [← hl, List.take_length])
      go_wp2_with fail
      go_ret
      exact ⟨by rw [← HX.out]; rfl, d, rfl⟩
end Go.Proofs.YtplhmcmfdcklaaaDoor.Lex
/- The reference's line of a call. -/
namespace Go.Proofs.YtplhmcmfdcklaaaDoor.Lex
open Go.RowKit
set_option linter.unusedSimpArgs false
set_option linter.unusedVariables false
abbrev nmCells : Array Value := #[.string ⟨#[]⟩, .string ⟨#[103, 101, 116]⟩, .string ⟨#[108, 111, 111, 107, 117, 112]⟩, .string ⟨#[101, 118, 105, 99, 116]⟩, .string ⟨#[105, 109, 112, 111, 114, 116]⟩, .string ⟨#[101, 120, 112, 111, 114, 116]⟩, .string ⟨#[101, 120, 101, 99, 117, 116, 101]⟩, .string ⟨#[114, 101, 108, 101, 97, 115, 101]⟩]
set_option maxRecDepth 100000 in
theorem rnm_any (w : World) : Calls Tryd.prog 43 #[] w fun e w' => e = .returned (.slice (some ⟨w.heap.size, 0, none⟩) 8 8) ∧ Below w.heap.size w w' ∧ w'.heap[w.heap.size]? = some (.cells nmCells 9 (0, 0)) := by
  go_enter Tryd.func43, Tryd.ntmps43
  go_wp2_with fail
  go_ret
  exact ⟨rfl, (Below.refl _ _).alloc (Nat.le_refl _) _, heap_alloc_new w _⟩
/-- Two numbers behind a word. -/
theorem rints_two (word : List UInt8) (x y : Int) (g off cap : Nat) (w : World) (hw : word.length ≤ 1048576) (hx : InI x) (hy : InI y) (hg : g < w.heap.size) (c0 : w.cell? ⟨g, off, none⟩ = some (.int .i64 x)) (c1 : w.cell? ⟨g, off + 1, none⟩ = some (.int .i64 y)) :
    Calls Tryd.prog 27 #[.string (bs word), .slice (some ⟨g, off, none⟩) 2 cap] w fun e w' => e = .returned (.string (bs (glue (word :: [Lib.itoa x, Lib.itoa y])))) ∧ w' = w := by
  refine rints_any word [x, y] (some ⟨g, off, none⟩) cap w hw (by simp) fun i hi => ?_
  have h2 : i < 2 := hi
  rcases (by omega : i = 0 ∨ i = 1) with rfl | rfl
  · exact ⟨g, off, rfl, hg, c0, hx.1, hx.2⟩
  · exact ⟨g, off, rfl, hg, c1, hy.1, hy.2⟩
theorem rints_new (word : List UInt8) (x y : Int) (W : World) (hw : word.length ≤ 1048576) (hx : InI x) (hy : InI y) :
    Calls Tryd.prog 27 #[.string (bs word), .slice (some ⟨W.heap.size, 0, none⟩) 2 2] (W.alloc (.cells #[.int .i64 x, .int .i64 y] 3)) fun e w' => e = .returned (.string (bs (glue (word :: [Lib.itoa x, Lib.itoa y])))) ∧ w' = W.alloc (.cells #[.int .i64 x, .int .i64 y] 3) := by
  have g := heap_alloc_new W (.cells #[.int .i64 x, .int .i64 y] 3)
  exact rints_two word x y _ 0 2 _ hw hx hy (by simp) (cell_at g rfl) (cell_at g rfl)
theorem rints_newB (word : List UInt8) (x y : Int) (W : World) (hw : word.length ≤ 1048576) (hx : InI x) (hy : InI y) :
    Calls Tryd.prog 27 #[.string (bs word), .slice (some ⟨W.heap.size, 0, none⟩) 2 2] (W.alloc (.cells #[.int .i64 x, .int .i64 y] 3)) fun e w' => e = .returned (.string (bs (glue (word :: [Lib.itoa x, Lib.itoa y])))) ∧ Below W.heap.size W w' := by
  refine (rints_new word x y W hw hx hy).mono ?_
  rintro e w' ⟨rfl, rfl⟩
  exact ⟨rfl, (Below.refl _ _).alloc (Nat.le_refl _) _⟩
/-- A call's line, without its end. -/
def lineC (c : CallV) : List UInt8 := match callW c with | none => [] | some ws => glue ws
def RCallP (c : CallV) (w : World) (e : Ending) (w' : World) : Prop := e = .returned (.string (bs (lineC c))) ∧ Below w.heap.size w w'
set_option maxRecDepth 100000 in
set_option maxHeartbeats 8000000 in
theorem rcall_1 (n dir who at' : Int) (text : ByteArray) (xs : List Nat) (a : Option Addr) (cap : Nat) (w : World) (hf : CallV.Fits ⟨1, n, dir, text, who, at', xs⟩) (hu : U64s w a xs) :
    Calls Tryd.prog 28 #[.agg #[.int .i64 1, .int .i64 n, .int .i64 dir, .string text, .int .i64 who, .int .i64 at', .slice a xs.length cap]] w (RCallP ⟨1, n, dir, text, who, at', xs⟩ w) := by
  obtain ⟨W0, hW0⟩ : ∃ W0, W0 = w.alloc (.cells #[.int .i64 1, .int .i64 n, .int .i64 dir, .string text, .int .i64 who, .int .i64 at', .slice a xs.length cap] 28) := ⟨_, rfl⟩
  have hb0 : Below w.heap.size w W0 := by rw [hW0]; exact (Below.refl _ _).alloc (Nat.le_refl _) _
  have g0 : W0.heap[w.heap.size]? = some (.cells #[.int .i64 1, .int .i64 n, .int .i64 dir, .string text, .int .i64 who, .int .i64 at', .slice a xs.length cap] 28 (0, 0)) := by rw [hW0]; exact heap_alloc_new w _
  have hz0 : w.heap.size < W0.heap.size := by rw [hW0]; simp
  have HU := Lib.hid (hu.keep hb0)
  have HB0 := Lib.hid hb0
  have HF := Lib.hid hf
  have hbz := Below.refl W0.heap.size W0
  have HS : Hid (∀ W, Below W0.heap.size W0 W → W.cell? ⟨w.heap.size, 0, none⟩ = some (.int .i64 1) ∧ W.cell? ⟨w.heap.size, 1, none⟩ = some (.int .i64 n) ∧ W.cell? ⟨w.heap.size, 2, none⟩ = some (.int .i64 dir) ∧ W.cell? ⟨w.heap.size, 3, none⟩ = some (.string text) ∧ W.cell? ⟨w.heap.size, 4, none⟩ = some (.int .i64 who) ∧ W.cell? ⟨w.heap.size, 5, none⟩ = some (.int .i64 at') ∧ W.cell? ⟨w.heap.size, 6, none⟩ = some (.slice a xs.length cap)) := Lib.hid fun W hb => by
    have g := (hb.block w.heap.size hz0).trans g0
    exact ⟨cell_at g rfl, cell_at g rfl, cell_at g rfl, cell_at g rfl, cell_at g rfl, cell_at g rfl, cell_at g rfl⟩
  clear hu hb0 g0 hf
  go_enter Tryd.func28, Tryd.ntmps28
  go_upto_region 1 with fail
  rw [← hW0]
  clear hW0
  obtain ⟨c0, -, -, -, -, -, -⟩ := HS.out _ hbz
  go_region_with (go_at_call 43; (with_reducible refine (rnm_any _).mono ?_); rintro e w1 ⟨rfl, hb1, hn1⟩; have hb1w : Below W0.heap.size W0 w1 := Below.trans (by (repeat' (first | with_reducible assumption | with_reducible refine Below.drew ?_ | (with_reducible refine Below.alloc ?_ (by first | assumption | (simp; done) | (simp; omega)) _)))) hb1; have nc : w1.cell? ⟨W0.heap.size, 1, none⟩ = some (.string (bs [103, 101, 116])) := cell_at hn1 rfl; have HB1 : Hid (Below W0.heap.size W0 w1) := Lib.hid hb1w; have hz1 := hb1w.size; obtain ⟨b0, b1, b2, b3, b4, b5, b6⟩ := HS.out _ hb1w; clear hb1 hn1)
  all_goals
    go_wp2_with (go_at_call 27; (with_reducible refine (rints_newB [103, 101, 116] n dir _ (by simp) HF.out.n HF.out.dir).mono ?_); rintro e w2 ⟨rfl, hb2⟩; have HB2 : Hid (Below W0.heap.size W0 w2) := Lib.hid (HB1.out.trans (hb2.mono hz1)); clear hb2)
    refine bodyPost_ret (v := .string (bs (glue ([103, 101, 116] :: [Lib.itoa n, Lib.itoa dir])))) (by simp [results, Tryd.results28, go_sem, *]) rfl ⟨rfl, HB0.out.trans (HB2.out.mono HB0.out.size)⟩
set_option maxRecDepth 100000 in
set_option maxHeartbeats 8000000 in
theorem rcall_2 (n dir who at' : Int) (text : ByteArray) (xs : List Nat) (a : Option Addr) (cap : Nat) (w : World) (hf : CallV.Fits ⟨2, n, dir, text, who, at', xs⟩) (hu : U64s w a xs) :
    Calls Tryd.prog 28 #[.agg #[.int .i64 2, .int .i64 n, .int .i64 dir, .string text, .int .i64 who, .int .i64 at', .slice a xs.length cap]] w (RCallP ⟨2, n, dir, text, who, at', xs⟩ w) := by
  obtain ⟨W0, hW0⟩ : ∃ W0, W0 = w.alloc (.cells #[.int .i64 2, .int .i64 n, .int .i64 dir, .string text, .int .i64 who, .int .i64 at', .slice a xs.length cap] 28) := ⟨_, rfl⟩
  have hb0 : Below w.heap.size w W0 := by rw [hW0]; exact (Below.refl _ _).alloc (Nat.le_refl _) _
  have g0 : W0.heap[w.heap.size]? = some (.cells #[.int .i64 2, .int .i64 n, .int .i64 dir, .string text, .int .i64 who, .int .i64 at', .slice a xs.length cap] 28 (0, 0)) := by rw [hW0]; exact heap_alloc_new w _
  have hz0 : w.heap.size < W0.heap.size := by rw [hW0]; simp
  have HU := Lib.hid (hu.keep hb0)
  have HB0 := Lib.hid hb0
  have HF := Lib.hid hf
  have hbz := Below.refl W0.heap.size W0
  have HS : Hid (∀ W, Below W0.heap.size W0 W → W.cell? ⟨w.heap.size, 0, none⟩ = some (.int .i64 2) ∧ W.cell? ⟨w.heap.size, 1, none⟩ = some (.int .i64 n) ∧ W.cell? ⟨w.heap.size, 2, none⟩ = some (.int .i64 dir) ∧ W.cell? ⟨w.heap.size, 3, none⟩ = some (.string text) ∧ W.cell? ⟨w.heap.size, 4, none⟩ = some (.int .i64 who) ∧ W.cell? ⟨w.heap.size, 5, none⟩ = some (.int .i64 at') ∧ W.cell? ⟨w.heap.size, 6, none⟩ = some (.slice a xs.length cap)) := Lib.hid fun W hb => by
    have g := (hb.block w.heap.size hz0).trans g0
    exact ⟨cell_at g rfl, cell_at g rfl, cell_at g rfl, cell_at g rfl, cell_at g rfl, cell_at g rfl, cell_at g rfl⟩
  clear hu hb0 g0 hf
  go_enter Tryd.func28, Tryd.ntmps28
  go_upto_region 1 with fail
  rw [← hW0]
  clear hW0
  obtain ⟨c0, -, -, -, -, -, -⟩ := HS.out _ hbz
  go_region_with (go_at_call 43; (with_reducible refine (rnm_any _).mono ?_); rintro e w1 ⟨rfl, hb1, hn1⟩; have hb1w : Below W0.heap.size W0 w1 := Below.trans (by (repeat' (first | with_reducible assumption | with_reducible refine Below.drew ?_ | (with_reducible refine Below.alloc ?_ (by first | assumption | (simp; done) | (simp; omega)) _)))) hb1; have nc : w1.cell? ⟨W0.heap.size, 2, none⟩ = some (.string (bs [108, 111, 111, 107, 117, 112])) := cell_at hn1 rfl; have HB1 : Hid (Below W0.heap.size W0 w1) := Lib.hid hb1w; have hz1 := hb1w.size; obtain ⟨b0, b1, b2, b3, b4, b5, b6⟩ := HS.out _ hb1w; clear hb1 hn1)
  all_goals
    go_wp2_with (go_at_call 27; (with_reducible refine (rints_newB [108, 111, 111, 107, 117, 112] n dir _ (by simp) HF.out.n HF.out.dir).mono ?_); rintro e w2 ⟨rfl, hb2⟩; have HB2 : Hid (Below W0.heap.size W0 w2) := Lib.hid (HB1.out.trans (hb2.mono hz1)); clear hb2)
    refine bodyPost_ret (v := .string (bs (glue ([108, 111, 111, 107, 117, 112] :: [Lib.itoa n, Lib.itoa dir])))) (by simp [results, Tryd.results28, go_sem, *]) rfl ⟨rfl, HB0.out.trans (HB2.out.mono HB0.out.size)⟩
set_option maxRecDepth 100000 in
set_option maxHeartbeats 8000000 in
theorem rcall_3 (n dir who at' : Int) (text : ByteArray) (xs : List Nat) (a : Option Addr) (cap : Nat) (w : World) (hf : CallV.Fits ⟨3, n, dir, text, who, at', xs⟩) (hu : U64s w a xs) :
    Calls Tryd.prog 28 #[.agg #[.int .i64 3, .int .i64 n, .int .i64 dir, .string text, .int .i64 who, .int .i64 at', .slice a xs.length cap]] w (RCallP ⟨3, n, dir, text, who, at', xs⟩ w) := by
  obtain ⟨W0, hW0⟩ : ∃ W0, W0 = w.alloc (.cells #[.int .i64 3, .int .i64 n, .int .i64 dir, .string text, .int .i64 who, .int .i64 at', .slice a xs.length cap] 28) := ⟨_, rfl⟩
  have hb0 : Below w.heap.size w W0 := by rw [hW0]; exact (Below.refl _ _).alloc (Nat.le_refl _) _
  have g0 : W0.heap[w.heap.size]? = some (.cells #[.int .i64 3, .int .i64 n, .int .i64 dir, .string text, .int .i64 who, .int .i64 at', .slice a xs.length cap] 28 (0, 0)) := by rw [hW0]; exact heap_alloc_new w _
  have hz0 : w.heap.size < W0.heap.size := by rw [hW0]; simp
  have HU := Lib.hid (hu.keep hb0)
  have HB0 := Lib.hid hb0
  have HF := Lib.hid hf
  have hbz := Below.refl W0.heap.size W0
  have HS : Hid (∀ W, Below W0.heap.size W0 W → W.cell? ⟨w.heap.size, 0, none⟩ = some (.int .i64 3) ∧ W.cell? ⟨w.heap.size, 1, none⟩ = some (.int .i64 n) ∧ W.cell? ⟨w.heap.size, 2, none⟩ = some (.int .i64 dir) ∧ W.cell? ⟨w.heap.size, 3, none⟩ = some (.string text) ∧ W.cell? ⟨w.heap.size, 4, none⟩ = some (.int .i64 who) ∧ W.cell? ⟨w.heap.size, 5, none⟩ = some (.int .i64 at') ∧ W.cell? ⟨w.heap.size, 6, none⟩ = some (.slice a xs.length cap)) := Lib.hid fun W hb => by
    have g := (hb.block w.heap.size hz0).trans g0
    exact ⟨cell_at g rfl, cell_at g rfl, cell_at g rfl, cell_at g rfl, cell_at g rfl, cell_at g rfl, cell_at g rfl⟩
  clear hu hb0 g0 hf
  go_enter Tryd.func28, Tryd.ntmps28
  go_upto_region 1 with fail
  rw [← hW0]
  clear hW0
  obtain ⟨c0, -, -, -, -, -, -⟩ := HS.out _ hbz
  go_region_with (go_at_call 43; (with_reducible refine (rnm_any _).mono ?_); rintro e w1 ⟨rfl, hb1, hn1⟩; have hb1w : Below W0.heap.size W0 w1 := Below.trans (by (repeat' (first | with_reducible assumption | with_reducible refine Below.drew ?_ | (with_reducible refine Below.alloc ?_ (by first | assumption | (simp; done) | (simp; omega)) _)))) hb1; have nc : w1.cell? ⟨W0.heap.size, 3, none⟩ = some (.string (bs [101, 118, 105, 99, 116])) := cell_at hn1 rfl; have HB1 : Hid (Below W0.heap.size W0 w1) := Lib.hid hb1w; have hz1 := hb1w.size; obtain ⟨b0, b1, b2, b3, b4, b5, b6⟩ := HS.out _ hb1w; clear hb1 hn1)
  all_goals
    go_wp2_with (go_at_call 27; (with_reducible refine (rints_newB [101, 118, 105, 99, 116] n dir _ (by simp) HF.out.n HF.out.dir).mono ?_); rintro e w2 ⟨rfl, hb2⟩; have HB2 : Hid (Below W0.heap.size W0 w2) := Lib.hid (HB1.out.trans (hb2.mono hz1)); clear hb2)
    refine bodyPost_ret (v := .string (bs (glue ([101, 118, 105, 99, 116] :: [Lib.itoa n, Lib.itoa dir])))) (by simp [results, Tryd.results28, go_sem, *]) rfl ⟨rfl, HB0.out.trans (HB2.out.mono HB0.out.size)⟩
set_option maxRecDepth 100000 in
set_option maxHeartbeats 8000000 in
theorem rcall_40 (n dir who at' : Int) (text : ByteArray) (xs : List Nat) (a : Option Addr) (cap : Nat) (w : World) (hf : CallV.Fits ⟨4, n, dir, text, who, at', xs⟩) (hu : U64s w a xs) (h0 : text.data.toList = []) :
    Calls Tryd.prog 28 #[.agg #[.int .i64 4, .int .i64 n, .int .i64 dir, .string text, .int .i64 who, .int .i64 at', .slice a xs.length cap]] w (RCallP ⟨4, n, dir, text, who, at', xs⟩ w) := by
  obtain ⟨W0, hW0⟩ : ∃ W0, W0 = w.alloc (.cells #[.int .i64 4, .int .i64 n, .int .i64 dir, .string text, .int .i64 who, .int .i64 at', .slice a xs.length cap] 28) := ⟨_, rfl⟩
  have hb0 : Below w.heap.size w W0 := by rw [hW0]; exact (Below.refl _ _).alloc (Nat.le_refl _) _
  have g0 : W0.heap[w.heap.size]? = some (.cells #[.int .i64 4, .int .i64 n, .int .i64 dir, .string text, .int .i64 who, .int .i64 at', .slice a xs.length cap] 28 (0, 0)) := by rw [hW0]; exact heap_alloc_new w _
  have hz0 : w.heap.size < W0.heap.size := by rw [hW0]; simp
  have HU := Lib.hid (hu.keep hb0)
  have HB0 := Lib.hid hb0
  have HF := Lib.hid hf
  have hbz := Below.refl W0.heap.size W0
  have HS : Hid (∀ W, Below W0.heap.size W0 W → W.cell? ⟨w.heap.size, 0, none⟩ = some (.int .i64 4) ∧ W.cell? ⟨w.heap.size, 1, none⟩ = some (.int .i64 n) ∧ W.cell? ⟨w.heap.size, 2, none⟩ = some (.int .i64 dir) ∧ W.cell? ⟨w.heap.size, 3, none⟩ = some (.string text) ∧ W.cell? ⟨w.heap.size, 4, none⟩ = some (.int .i64 who) ∧ W.cell? ⟨w.heap.size, 5, none⟩ = some (.int .i64 at') ∧ W.cell? ⟨w.heap.size, 6, none⟩ = some (.slice a xs.length cap)) := Lib.hid fun W hb => by
    have g := (hb.block w.heap.size hz0).trans g0
    exact ⟨cell_at g rfl, cell_at g rfl, cell_at g rfl, cell_at g rfl, cell_at g rfl, cell_at g rfl, cell_at g rfl⟩
  have h1 : text.toList.isEmpty = true := by rw [Lib.toList_data, h0]; rfl
  have HL : Hid (lineC ⟨4, n, dir, text, who, at', xs⟩ = [105, 109, 112, 111, 114, 116]) := Lib.hid (by simp [lineC, callW, hexW, h0, glue])
  clear h0 hu hb0 g0 hf
  go_enter Tryd.func28, Tryd.ntmps28
  go_upto_region 1 with fail
  rw [← hW0]
  clear hW0
  obtain ⟨c0, -, -, -, -, -, -⟩ := HS.out _ hbz
  go_region_with (go_at_call 43; (with_reducible refine (rnm_any _).mono ?_); rintro e w1 ⟨rfl, hb1, hn1⟩; have hb1w : Below W0.heap.size W0 w1 := Below.trans (by (repeat' (first | with_reducible assumption | with_reducible refine Below.drew ?_ | (with_reducible refine Below.alloc ?_ (by first | assumption | (simp; done) | (simp; omega)) _)))) hb1; have nc : w1.cell? ⟨W0.heap.size, 4, none⟩ = some (.string (bs [105, 109, 112, 111, 114, 116])) := cell_at hn1 rfl; have HB1 : Hid (Below W0.heap.size W0 w1) := Lib.hid hb1w; have hz1 := hb1w.size; obtain ⟨b0, b1, b2, b3, b4, b5, b6⟩ := HS.out _ hb1w; clear hb1 hn1)
  all_goals
    go_wp2_with fail
    refine bodyPost_ret (v := .string (bs [105, 109, 112, 111, 114, 116])) (by simp [results, Tryd.results28, go_sem, *]) rfl ⟨by rw [HL.out], HB0.out.trans (HB1.out.mono HB0.out.size)⟩
set_option maxRecDepth 100000 in
set_option maxHeartbeats 8000000 in
theorem rcall_41 (n dir who at' : Int) (text : ByteArray) (xs : List Nat) (a : Option Addr) (cap : Nat) (w : World) (hf : CallV.Fits ⟨4, n, dir, text, who, at', xs⟩) (hu : U64s w a xs) (h0 : text.data.toList ≠ []) (ht : text.size ≤ 1048576) :
    Calls Tryd.prog 28 #[.agg #[.int .i64 4, .int .i64 n, .int .i64 dir, .string text, .int .i64 who, .int .i64 at', .slice a xs.length cap]] w (RCallP ⟨4, n, dir, text, who, at', xs⟩ w) := by
  obtain ⟨W0, hW0⟩ : ∃ W0, W0 = w.alloc (.cells #[.int .i64 4, .int .i64 n, .int .i64 dir, .string text, .int .i64 who, .int .i64 at', .slice a xs.length cap] 28) := ⟨_, rfl⟩
  have hb0 : Below w.heap.size w W0 := by rw [hW0]; exact (Below.refl _ _).alloc (Nat.le_refl _) _
  have g0 : W0.heap[w.heap.size]? = some (.cells #[.int .i64 4, .int .i64 n, .int .i64 dir, .string text, .int .i64 who, .int .i64 at', .slice a xs.length cap] 28 (0, 0)) := by rw [hW0]; exact heap_alloc_new w _
  have hz0 : w.heap.size < W0.heap.size := by rw [hW0]; simp
  have HU := Lib.hid (hu.keep hb0)
  have HB0 := Lib.hid hb0
  have HF := Lib.hid hf
  have hbz := Below.refl W0.heap.size W0
  have HS : Hid (∀ W, Below W0.heap.size W0 W → W.cell? ⟨w.heap.size, 0, none⟩ = some (.int .i64 4) ∧ W.cell? ⟨w.heap.size, 1, none⟩ = some (.int .i64 n) ∧ W.cell? ⟨w.heap.size, 2, none⟩ = some (.int .i64 dir) ∧ W.cell? ⟨w.heap.size, 3, none⟩ = some (.string text) ∧ W.cell? ⟨w.heap.size, 4, none⟩ = some (.int .i64 who) ∧ W.cell? ⟨w.heap.size, 5, none⟩ = some (.int .i64 at') ∧ W.cell? ⟨w.heap.size, 6, none⟩ = some (.slice a xs.length cap)) := Lib.hid fun W hb => by
    have g := (hb.block w.heap.size hz0).trans g0
    exact ⟨cell_at g rfl, cell_at g rfl, cell_at g rfl, cell_at g rfl, cell_at g rfl, cell_at g rfl, cell_at g rfl⟩
  have h1 : text.toList.isEmpty = false := by rw [Lib.toList_data]; exact (List.isEmpty_eq_false_iff).2 h0
  have HL : Hid (lineC ⟨4, n, dir, text, who, at', xs⟩ = [105, 109, 112, 111, 114, 116] ++ 32 :: hexOf text.data.toList) := Lib.hid (by simp [lineC, callW, hexW, h0, glue])
  have hts : text.size ≤ 1048576 := ht
  have HX : Hid (bs [105, 109, 112, 111, 114, 116] ++ bs [32] ++ bs (hexOf text.data.toList) = bs ([105, 109, 112, 111, 114, 116] ++ 32 :: hexOf text.data.toList)) := Lib.hid (by rw [bs_bs, bs_bs]; simp)
  have hxl : (hexOf text.data.toList).length ≤ 2097152 := by rw [hexOf_len, Array.length_toList]; show 2 * text.size ≤ _; omega
  have z1 : (bs [105, 109, 112, 111, 114, 116]).size = 6 := rfl
  have z2 : (bs (hexOf text.data.toList)).size ≤ 2097152 := by rw [size_bs]; exact hxl
  have z3 : (bs [32]).size = 1 := rfl
  clear h0 hu hb0 g0 hf
  go_enter Tryd.func28, Tryd.ntmps28
  go_upto_region 1 with fail
  rw [← hW0]
  clear hW0
  obtain ⟨c0, -, -, -, -, -, -⟩ := HS.out _ hbz
  go_region_with (go_at_call 43; (with_reducible refine (rnm_any _).mono ?_); rintro e w1 ⟨rfl, hb1, hn1⟩; have hb1w : Below W0.heap.size W0 w1 := Below.trans (by (repeat' (first | with_reducible assumption | with_reducible refine Below.drew ?_ | (with_reducible refine Below.alloc ?_ (by first | assumption | (simp; done) | (simp; omega)) _)))) hb1; have nc : w1.cell? ⟨W0.heap.size, 4, none⟩ = some (.string (bs [105, 109, 112, 111, 114, 116])) := cell_at hn1 rfl; have HB1 : Hid (Below W0.heap.size W0 w1) := Lib.hid hb1w; have hz1 := hb1w.size; obtain ⟨b0, b1, b2, b3, b4, b5, b6⟩ := HS.out _ hb1w; clear hb1 hn1)
  all_goals
    go_wp2_with (go_at_call 44; (with_reducible refine (rhex_any text _ hts).mono ?_); rintro e w2 ⟨rfl, d2, rfl⟩)
    refine bodyPost_ret (v := .string (bs ([105, 109, 112, 111, 114, 116] ++ 32 :: hexOf text.data.toList))) (by simp [results, Tryd.results28, go_sem]; exact HX.out) rfl ⟨by rw [HL.out], below_drewN (HB0.out.trans (HB1.out.mono HB0.out.size)) _⟩
set_option maxRecDepth 100000 in
set_option maxHeartbeats 8000000 in
theorem rcall_5 (n dir who at' : Int) (text : ByteArray) (xs : List Nat) (a : Option Addr) (cap : Nat) (w : World) (hf : CallV.Fits ⟨5, n, dir, text, who, at', xs⟩) (hu : U64s w a xs) :
    Calls Tryd.prog 28 #[.agg #[.int .i64 5, .int .i64 n, .int .i64 dir, .string text, .int .i64 who, .int .i64 at', .slice a xs.length cap]] w (RCallP ⟨5, n, dir, text, who, at', xs⟩ w) := by
  obtain ⟨W0, hW0⟩ : ∃ W0, W0 = w.alloc (.cells #[.int .i64 5, .int .i64 n, .int .i64 dir, .string text, .int .i64 who, .int .i64 at', .slice a xs.length cap] 28) := ⟨_, rfl⟩
  have hb0 : Below w.heap.size w W0 := by rw [hW0]; exact (Below.refl _ _).alloc (Nat.le_refl _) _
  have g0 : W0.heap[w.heap.size]? = some (.cells #[.int .i64 5, .int .i64 n, .int .i64 dir, .string text, .int .i64 who, .int .i64 at', .slice a xs.length cap] 28 (0, 0)) := by rw [hW0]; exact heap_alloc_new w _
  have hz0 : w.heap.size < W0.heap.size := by rw [hW0]; simp
  have HU := Lib.hid (hu.keep hb0)
  have HB0 := Lib.hid hb0
  have HF := Lib.hid hf
  have hbz := Below.refl W0.heap.size W0
  have HS : Hid (∀ W, Below W0.heap.size W0 W → W.cell? ⟨w.heap.size, 0, none⟩ = some (.int .i64 5) ∧ W.cell? ⟨w.heap.size, 1, none⟩ = some (.int .i64 n) ∧ W.cell? ⟨w.heap.size, 2, none⟩ = some (.int .i64 dir) ∧ W.cell? ⟨w.heap.size, 3, none⟩ = some (.string text) ∧ W.cell? ⟨w.heap.size, 4, none⟩ = some (.int .i64 who) ∧ W.cell? ⟨w.heap.size, 5, none⟩ = some (.int .i64 at') ∧ W.cell? ⟨w.heap.size, 6, none⟩ = some (.slice a xs.length cap)) := Lib.hid fun W hb => by
    have g := (hb.block w.heap.size hz0).trans g0
    exact ⟨cell_at g rfl, cell_at g rfl, cell_at g rfl, cell_at g rfl, cell_at g rfl, cell_at g rfl, cell_at g rfl⟩
  clear hu hb0 g0 hf
  go_enter Tryd.func28, Tryd.ntmps28
  go_upto_region 1 with fail
  rw [← hW0]
  clear hW0
  obtain ⟨c0, -, -, -, -, -, -⟩ := HS.out _ hbz
  go_region_with (go_at_call 43; (with_reducible refine (rnm_any _).mono ?_); rintro e w1 ⟨rfl, hb1, hn1⟩; have hb1w : Below W0.heap.size W0 w1 := Below.trans (by (repeat' (first | with_reducible assumption | with_reducible refine Below.drew ?_ | (with_reducible refine Below.alloc ?_ (by first | assumption | (simp; done) | (simp; omega)) _)))) hb1; have nc : w1.cell? ⟨W0.heap.size, 5, none⟩ = some (.string (bs [101, 120, 112, 111, 114, 116])) := cell_at hn1 rfl; have HB1 : Hid (Below W0.heap.size W0 w1) := Lib.hid hb1w; have hz1 := hb1w.size; obtain ⟨b0, b1, b2, b3, b4, b5, b6⟩ := HS.out _ hb1w; clear hb1 hn1)
  all_goals
    go_wp2_with fail
    refine bodyPost_ret (v := .string (bs [101, 120, 112, 111, 114, 116])) (by simp [results, Tryd.results28, go_sem, *]) rfl ⟨rfl, HB0.out.trans (HB1.out.mono HB0.out.size)⟩
set_option maxRecDepth 100000 in
set_option maxHeartbeats 8000000 in
theorem rcall_7 (n dir who at' : Int) (text : ByteArray) (xs : List Nat) (a : Option Addr) (cap : Nat) (w : World) (hf : CallV.Fits ⟨7, n, dir, text, who, at', xs⟩) (hu : U64s w a xs) :
    Calls Tryd.prog 28 #[.agg #[.int .i64 7, .int .i64 n, .int .i64 dir, .string text, .int .i64 who, .int .i64 at', .slice a xs.length cap]] w (RCallP ⟨7, n, dir, text, who, at', xs⟩ w) := by
  obtain ⟨W0, hW0⟩ : ∃ W0, W0 = w.alloc (.cells #[.int .i64 7, .int .i64 n, .int .i64 dir, .string text, .int .i64 who, .int .i64 at', .slice a xs.length cap] 28) := ⟨_, rfl⟩
  have hb0 : Below w.heap.size w W0 := by rw [hW0]; exact (Below.refl _ _).alloc (Nat.le_refl _) _
  have g0 : W0.heap[w.heap.size]? = some (.cells #[.int .i64 7, .int .i64 n, .int .i64 dir, .string text, .int .i64 who, .int .i64 at', .slice a xs.length cap] 28 (0, 0)) := by rw [hW0]; exact heap_alloc_new w _
  have hz0 : w.heap.size < W0.heap.size := by rw [hW0]; simp
  have HU := Lib.hid (hu.keep hb0)
  have HB0 := Lib.hid hb0
  have HF := Lib.hid hf
  have hbz := Below.refl W0.heap.size W0
  have HS : Hid (∀ W, Below W0.heap.size W0 W → W.cell? ⟨w.heap.size, 0, none⟩ = some (.int .i64 7) ∧ W.cell? ⟨w.heap.size, 1, none⟩ = some (.int .i64 n) ∧ W.cell? ⟨w.heap.size, 2, none⟩ = some (.int .i64 dir) ∧ W.cell? ⟨w.heap.size, 3, none⟩ = some (.string text) ∧ W.cell? ⟨w.heap.size, 4, none⟩ = some (.int .i64 who) ∧ W.cell? ⟨w.heap.size, 5, none⟩ = some (.int .i64 at') ∧ W.cell? ⟨w.heap.size, 6, none⟩ = some (.slice a xs.length cap)) := Lib.hid fun W hb => by
    have g := (hb.block w.heap.size hz0).trans g0
    exact ⟨cell_at g rfl, cell_at g rfl, cell_at g rfl, cell_at g rfl, cell_at g rfl, cell_at g rfl, cell_at g rfl⟩
  clear hu hb0 g0 hf
  go_enter Tryd.func28, Tryd.ntmps28
  go_upto_region 1 with fail
  rw [← hW0]
  clear hW0
  obtain ⟨c0, -, -, -, -, -, -⟩ := HS.out _ hbz
  go_region_with (go_at_call 43; (with_reducible refine (rnm_any _).mono ?_); rintro e w1 ⟨rfl, hb1, hn1⟩; have hb1w : Below W0.heap.size W0 w1 := Below.trans (by (repeat' (first | with_reducible assumption | with_reducible refine Below.drew ?_ | (with_reducible refine Below.alloc ?_ (by first | assumption | (simp; done) | (simp; omega)) _)))) hb1; have nc : w1.cell? ⟨W0.heap.size, 7, none⟩ = some (.string (bs [114, 101, 108, 101, 97, 115, 101])) := cell_at hn1 rfl; have HB1 : Hid (Below W0.heap.size W0 w1) := Lib.hid hb1w; have hz1 := hb1w.size; obtain ⟨b0, b1, b2, b3, b4, b5, b6⟩ := HS.out _ hb1w; clear hb1 hn1)
  all_goals
    go_wp2_with (go_at_call 27; (with_reducible refine (rints_newB [114, 101, 108, 101, 97, 115, 101] who at' _ (by simp) HF.out.who HF.out.at_).mono ?_); rintro e w2 ⟨rfl, hb2⟩; have HB2 : Hid (Below W0.heap.size W0 w2) := Lib.hid (HB1.out.trans (hb2.mono hz1)); clear hb2; obtain ⟨d0, -, -, -, -, -, d6⟩ := HS.out _ HB2.out)
    go_loop [3, 4] (fun tv kv => kv = .int .i64 0 ∧ tv = .string (bs (glue ([114, 101, 108, 101, 97, 115, 101] :: [Lib.itoa who, Lib.itoa at'])))) (fun tv kv => 0)
    case atStart => exact ⟨rfl, rfl⟩
    case round =>
      obtain ⟨rfl, rfl⟩ := hrel
      go_wp2_with fail
      refine bodyPost_ret (v := .string (bs (glue ([114, 101, 108, 101, 97, 115, 101] :: [Lib.itoa who, Lib.itoa at'])))) (by simp [results, Tryd.results28, go_sem, *]) rfl ⟨rfl, HB0.out.trans (HB2.out.mono HB0.out.size)⟩
set_option maxRecDepth 100000 in
set_option maxHeartbeats 8000000 in
theorem rcall_6 (n dir who at' : Int) (text : ByteArray) (xs : List Nat) (a : Option Addr) (cap : Nat) (w : World) (hf : CallV.Fits ⟨6, n, dir, text, who, at', xs⟩) (hu : U64s w a xs) :
    Calls Tryd.prog 28 #[.agg #[.int .i64 6, .int .i64 n, .int .i64 dir, .string text, .int .i64 who, .int .i64 at', .slice a xs.length cap]] w (RCallP ⟨6, n, dir, text, who, at', xs⟩ w) := by
  obtain ⟨W0, hW0⟩ : ∃ W0, W0 = w.alloc (.cells #[.int .i64 6, .int .i64 n, .int .i64 dir, .string text, .int .i64 who, .int .i64 at', .slice a xs.length cap] 28) := ⟨_, rfl⟩
  have hb0 : Below w.heap.size w W0 := by rw [hW0]; exact (Below.refl _ _).alloc (Nat.le_refl _) _
  have g0 : W0.heap[w.heap.size]? = some (.cells #[.int .i64 6, .int .i64 n, .int .i64 dir, .string text, .int .i64 who, .int .i64 at', .slice a xs.length cap] 28 (0, 0)) := by rw [hW0]; exact heap_alloc_new w _
  have hz0 : w.heap.size < W0.heap.size := by rw [hW0]; simp
  have HU := Lib.hid (hu.keep hb0)
  have HB0 := Lib.hid hb0
  have HF := Lib.hid hf
  have hbz := Below.refl W0.heap.size W0
  have HS : Hid (∀ W, Below W0.heap.size W0 W → W.cell? ⟨w.heap.size, 0, none⟩ = some (.int .i64 6) ∧ W.cell? ⟨w.heap.size, 1, none⟩ = some (.int .i64 n) ∧ W.cell? ⟨w.heap.size, 2, none⟩ = some (.int .i64 dir) ∧ W.cell? ⟨w.heap.size, 3, none⟩ = some (.string text) ∧ W.cell? ⟨w.heap.size, 4, none⟩ = some (.int .i64 who) ∧ W.cell? ⟨w.heap.size, 5, none⟩ = some (.int .i64 at') ∧ W.cell? ⟨w.heap.size, 6, none⟩ = some (.slice a xs.length cap)) := Lib.hid fun W hb => by
    have g := (hb.block w.heap.size hz0).trans g0
    exact ⟨cell_at g rfl, cell_at g rfl, cell_at g rfl, cell_at g rfl, cell_at g rfl, cell_at g rfl, cell_at g rfl⟩
  have hxl : xs.length ≤ 4194304 := hf.xs
  have i1 := itoa_len hf.who
  have i2 := itoa_len hf.at_
  clear hu hb0 g0 hf
  go_enter Tryd.func28, Tryd.ntmps28
  go_upto_region 1 with fail
  rw [← hW0]
  clear hW0
  obtain ⟨c0, -, -, -, -, -, -⟩ := HS.out _ hbz
  go_region_with (go_at_call 43; (with_reducible refine (rnm_any _).mono ?_); rintro e w1 ⟨rfl, hb1, hn1⟩; have hb1w : Below W0.heap.size W0 w1 := Below.trans (by (repeat' (first | with_reducible assumption | with_reducible refine Below.drew ?_ | (with_reducible refine Below.alloc ?_ (by first | assumption | (simp; done) | (simp; omega)) _)))) hb1; have nc : w1.cell? ⟨W0.heap.size, 6, none⟩ = some (.string (bs [101, 120, 101, 99, 117, 116, 101])) := cell_at hn1 rfl; have HB1 : Hid (Below W0.heap.size W0 w1) := Lib.hid hb1w; have hz1 := hb1w.size; obtain ⟨b0, b1, b2, b3, b4, b5, b6⟩ := HS.out _ hb1w; clear hb1 hn1)
  all_goals
    go_wp2_with (go_at_call 27; (with_reducible refine (rints_newB [101, 120, 101, 99, 117, 116, 101] who at' _ (by simp) HF.out.who HF.out.at_).mono ?_); rintro e w2 ⟨rfl, hb2⟩; have HB2 : Hid (Below W0.heap.size W0 w2) := Lib.hid (HB1.out.trans (hb2.mono hz1)); clear hb2; obtain ⟨d0, -, -, -, -, -, d6⟩ := HS.out _ HB2.out)
    have HUX := Lib.hid (HU.out.keep HB2.out)
    go_loop [3, 4] (fun tv kv => ∃ (k : Nat) (t : List UInt8), k ≤ xs.length ∧ kv = .int .i64 k ∧ tv = .string (bs t) ∧ t = glue ([101, 120, 101, 99, 117, 116, 101] :: Lib.itoa who :: Lib.itoa at' :: (xs.take k).map Lib.decDigits) ∧ t.length ≤ 60 + 21 * k) (fun _ kv => xs.length - (intOf kv).toNat)
    case atStart => exact ⟨0, _, by omega, rfl, rfl, rfl, by simp [glue]; omega⟩
    case round =>
      obtain ⟨k, t, hk, rfl, rfl, ht, htl⟩ := hrel
      by_cases hlt : k < xs.length
      · obtain ⟨g, off, rfl, _, q1, q2⟩ := HUX.out k hlt
        have HNX : Hid (glue ([101, 120, 101, 99, 117, 116, 101] :: Lib.itoa who :: Lib.itoa at' :: (xs.take (k + 1)).map Lib.decDigits) = t ++ 32 :: Lib.decDigits (xs[k]'hlt)) := Lib.hid (by
          rw [List.take_succ_eq_append_getElem hlt, List.map_append, ← List.cons_append, ← List.cons_append, ← List.cons_append, List.map_singleton, glue_snoc _ _ (by simp), ht])
        generalize xs[k]'hlt = z at *
        have hz : z ≤ 18446744073709551615 := by omega
        have HRI := Lib.hid (fun w => rword_any z w hz)
        have hd := decDigits_len64 hz
        have HX : Hid (bs t ++ bs [32] ++ bs (Lib.decDigits z) = bs (t ++ 32 :: Lib.decDigits z)) := Lib.hid (by rw [bs_bs, bs_bs]; simp)
        have z1 : (bs t).size ≤ 100000000 := by rw [size_bs]; omega
        have z2 : (bs (Lib.decDigits z)).size ≤ 20 := by rw [size_bs]; exact hd
        have HT := Lib.hid htl
        clear ht htl
        go_wp2_with (go_at_call 45; (with_reducible refine (HRI.out _).mono ?_); rintro e w3 ⟨rfl, rfl⟩)
        go_round
        case rel => exact ⟨k + 1, t ++ 32 :: Lib.decDigits z, by omega, by go_num, congrArg Value.string HX.out, HNX.out.symm, by have h1 := HT.out; rw [List.length_append, List.length_cons]; omega⟩
        case measure => simp [intOf]; omega
      · obtain rfl : k = xs.length := by omega
        have HX : Hid (t = lineC ⟨6, n, dir, text, who, at', xs⟩) := Lib.hid (by rw [ht, List.take_length]; rfl)
        clear ht
        go_wp2_with fail
        refine bodyPost_ret (v := .string (bs t)) (by simp [results, Tryd.results28, go_sem, *]) rfl ⟨by rw [← HX.out], HB0.out.trans (HB2.out.mono HB0.out.size)⟩
theorem rcall_any (c : CallV) (a : Option Addr) (cap : Nat) (w : World) (hf : c.Fits) (ht : c.text.size ≤ 1048576) (hs : callW c ≠ none) (hu : U64s w a c.xs) :
    Calls Tryd.prog 28 #[c.val a cap] w (RCallP c w) := by
  obtain ⟨k, n, dir, text, who, at', xs⟩ := c
  have hk : k = 1 ∨ k = 2 ∨ k = 3 ∨ k = 4 ∨ k = 5 ∨ k = 6 ∨ k = 7 := by
    by_cases h : k = 1 ∨ k = 2 ∨ k = 3 ∨ k = 4 ∨ k = 5 ∨ k = 6 ∨ k = 7
    · exact h
    · exfalso
      refine hs ?_
      simp only [callW]
      rw [if_neg (by omega), if_neg (by omega), if_neg (by omega), if_neg (by omega), if_neg (by omega), if_neg (by omega), if_neg (by omega)]
  rcases hk with rfl | rfl | rfl | rfl | rfl | rfl | rfl
  · exact rcall_1 n dir who at' text xs a cap w hf hu
  · exact rcall_2 n dir who at' text xs a cap w hf hu
  · exact rcall_3 n dir who at' text xs a cap w hf hu
  · by_cases h0 : text.data.toList = []
    · exact rcall_40 n dir who at' text xs a cap w hf hu h0
    · exact rcall_41 n dir who at' text xs a cap w hf hu h0 ht
  · exact rcall_5 n dir who at' text xs a cap w hf hu
  · exact rcall_6 n dir who at' text xs a cap w hf hu
  · exact rcall_7 n dir who at' text xs a cap w hf hu
end Go.Proofs.YtplhmcmfdcklaaaDoor.Lex
/- The reference's text of lines. -/
namespace Go.Proofs.YtplhmcmfdcklaaaDoor.Lex
open Go.RowKit
set_option linter.unusedSimpArgs false
set_option linter.unusedVariables false
/-- Lines, one behind the other. -/
def textL (ws : List (List UInt8)) : List UInt8 := ws.flatMap fun l => l ++ [10]
theorem textL_take {ws : List (List UInt8)} {k : Nat} (h : k < ws.length) : textL (ws.take (k + 1)) = textL (ws.take k) ++ (ws[k]'h) ++ [10] := by
  rw [textL, textL, List.take_succ_eq_append_getElem h, List.flatMap_append]
  simp
theorem textL_le : ∀ (ws : List (List UInt8)) (k : Nat), (textL (ws.take k)).length ≤ (textL ws).length
  | [], k => by simp
  | w :: ws, 0 => by simp [textL]
  | w :: ws, k + 1 => by
    have := textL_le ws k
    simp only [textL, List.take_succ_cons, List.flatMap_cons, List.length_append] at *
    omega
set_option maxRecDepth 100000 in
theorem rtext_any (ws : List (List UInt8)) (a : Option Addr) (cap : Nat) (w : World) (hs : Shows w a ws) (hn : ws.length ≤ 1099511627776) (hl : (textL ws).length ≤ 1099511627776) :
    Calls Tryd.prog 16 #[.slice a ws.length cap] w fun e w' => e = .returned (.string (bs (textL ws))) ∧ w' = w := by
  have HI := Lib.hid hs
  have HLE := Lib.hid (textL_le ws)
  clear hs
  go_enter Tryd.func16, Tryd.ntmps16
  go_wp2_with fail
  go_loop [3, 4] (fun tv kv => ∃ (k : Nat) (t : List UInt8), k ≤ ws.length ∧ kv = .int .i64 k ∧ tv = .string (bs t) ∧ t = textL (ws.take k)) (fun _ kv => ws.length - (intOf kv).toNat)
  case atStart => exact ⟨0, [], by omega, rfl, rfl, rfl⟩
  case round =>
    obtain ⟨k, t, hk, rfl, rfl, ht⟩ := hrel
    by_cases hlt : k < ws.length
    · obtain ⟨g, rfl, c1⟩ := HI.out k hlt
      have HNX := Lib.hid (textL_take hlt)
      have h1 := HLE.out (k + 1)
      rw [HNX.out, ← ht] at h1
      simp only [List.length_append, List.length_singleton] at h1
      have HT := Lib.hid ht
      generalize ws[k]'hlt = x at *
      have z1 : (bs t).size = t.length := size_bs t
      have z2 : (bs x).size = x.length := size_bs x
      have z3 : (⟨#[10]⟩ : ByteArray).size = 1 := rfl
      have HX : Hid (bs t ++ bs x ++ ⟨#[10]⟩ = bs (t ++ x ++ [10])) := Lib.hid (by rw [bs_bs, show (⟨#[10]⟩ : ByteArray) = bs [10] from rfl, bs_bs])
      clear ht
      go_wp2_with fail
      go_round
      case rel => exact ⟨k + 1, t ++ x ++ [10], by omega, by go_num, congrArg Value.string HX.out, by rw [HNX.out, HT.out]⟩
      case measure => simp [intOf]; omega
    · obtain rfl : k = ws.length := by omega
      have HX : Hid (t = textL ws) := Lib.hid (by rw [ht, List.take_length])
      clear ht
      go_wp2_with fail
      go_ret
      exact ⟨by rw [← HX.out]; rfl, rfl⟩
end Go.Proofs.YtplhmcmfdcklaaaDoor.Lex
/- The reference's lines of a script. -/
namespace Go.Proofs.YtplhmcmfdcklaaaDoor.Lex
open Go.RowKit
set_option linter.unusedSimpArgs false
set_option linter.unusedVariables false
theorem rints_play (x y : Int) (W : World) (hx : InI x) (hy : InI y) :
    Calls Tryd.prog 27 #[.string ⟨#[112, 108, 97, 121]⟩, .slice (some ⟨W.heap.size, 0, none⟩) 2 2] (W.alloc (.cells #[.int .i64 x, .int .i64 y] 3)).drew fun e w' => e = .returned (.string (bs (glue (playW :: [Lib.itoa x, Lib.itoa y])))) ∧ w' = (W.alloc (.cells #[.int .i64 x, .int .i64 y] 3)).drew := by
  have g := heap_alloc_new W (.cells #[.int .i64 x, .int .i64 y] 3)
  have g' : (W.alloc (.cells #[.int .i64 x, .int .i64 y] 3)).drew.heap[W.heap.size]? = some (.cells #[.int .i64 x, .int .i64 y] 3 (0, 0)) := g
  exact rints_two playW x y _ 0 2 _ (by decide) hx hy (by simp) (cell_at g' rfl) (cell_at g' rfl)
theorem rints_picks (xs : List Int) (a : Option Addr) (cap : Nat) (w : World) (hn : xs.length ≤ 1048576) (hi : Ints w a xs) :
    Calls Tryd.prog 27 #[.string ⟨#[112, 105, 99, 107, 115]⟩, .slice a xs.length cap] w fun e w' => e = .returned (.string (bs (glue (picksW :: xs.map Lib.itoa)))) ∧ w' = w := rints_any picksW xs a cap w (by decide) hn hi
theorem rints_ticks (xs : List Int) (a : Option Addr) (cap : Nat) (w : World) (hn : xs.length ≤ 1048576) (hi : Ints w a xs) :
    Calls Tryd.prog 27 #[.string ⟨#[116, 105, 99, 107, 115]⟩, .slice a xs.length cap] w fun e w' => e = .returned (.string (bs (glue (ticksW :: xs.map Lib.itoa)))) ∧ w' = w := rints_any ticksW xs a cap w (by decide) hn hi
def headLs (st rm : Int) (P T : List Int) : List (List UInt8) := [glue (playW :: [Lib.itoa st, Lib.itoa rm]), glue (picksW :: P.map Lib.itoa), glue (ticksW :: T.map Lib.itoa)]
def clientLs (l : List CallV) : List (List UInt8) := clientW :: l.map lineC
abbrev strV (l : List UInt8) : Value := .string (bs l)
def RLinesP (st rm : Int) (P T : List Int) (L : List (List CallV)) (w : World) (e : Ending) (w' : World) : Prop := Below w.heap.size w w' ∧
  (((∃ l ∈ L, ∃ c ∈ l, callW c = none) ∧ e = .returned (.tuple #[.slice none 0 0, .bool false])) ∨
   ((∀ l ∈ L, ∀ c ∈ l, callW c ≠ none) ∧ ∃ v, e = .returned (.tuple #[v, .bool true]) ∧
      w'.ownsRow (w.heap.size + 1) 9 1 v (headLs st rm P T ++ L.flatMap clientLs).length ((headLs st rm P T ++ L.flatMap clientLs).map strV)))
theorem callW_no {c : CallV} (h : c.kind < 1 ∨ 7 < c.kind) : callW c = none := by
  unfold callW
  rw [if_neg (by omega), if_neg (by omega), if_neg (by omega), if_neg (by omega), if_neg (by omega), if_neg (by omega), if_neg (by omega)]
theorem callW_yes {c : CallV} (h1 : 1 ≤ c.kind) (h7 : c.kind ≤ 7) : callW c ≠ none := by
  obtain ⟨k, n, dir, text, who, at', xs⟩ := c
  simp only at h1 h7
  rcases (by omega : k = 1 ∨ k = 2 ∨ k = 3 ∨ k = 4 ∨ k = 5 ∨ k = 6 ∨ k = 7) with rfl | rfl | rfl | rfl | rfl | rfl | rfl <;> simp [callW]
set_option maxRecDepth 100000 in
set_option maxHeartbeats 8000000 in
theorem rlines_any (st rm : Int) (P T : List Int) (L : List (List CallV)) (aC aP aT : Option Addr) (cC cP cT : Nat) (w : World) (hst : InI st) (hrm : InI rm) (hP : Ints w aP P) (hT : Ints w aT T) (hC : CallRows w aC L)
    (hPl : P.length ≤ 1048576) (hTl : T.length ≤ 1048576) (hL : L.length ≤ 1000) (hw : ∀ l ∈ L, l.length ≤ 1000 ∧ ∀ c ∈ l, c.Fits ∧ c.text.size ≤ 1048576) :
    Calls Tryd.prog 13 #[.agg #[.int .i64 st, .int .i64 rm, .slice aC L.length cC, .slice aP P.length cP, .slice aT T.length cT]] w (RLinesP st rm P T L w) := by
  obtain ⟨W0, hW0⟩ : ∃ W0, W0 = w.alloc (.cells #[.int .i64 st, .int .i64 rm, .slice aC L.length cC, .slice aP P.length cP, .slice aT T.length cT] 44) := ⟨_, rfl⟩
  have hb0 : Below w.heap.size w W0 := by rw [hW0]; exact (Below.refl _ _).alloc (Nat.le_refl _) _
  have g0 : W0.heap[w.heap.size]? = some (.cells #[.int .i64 st, .int .i64 rm, .slice aC L.length cC, .slice aP P.length cP, .slice aT T.length cT] 44 (0, 0)) := by rw [hW0]; exact heap_alloc_new w _
  have hz0 : w.heap.size < W0.heap.size := by rw [hW0]; simp
  have HZ : Hid (W0.heap.size = w.heap.size + 1) := Lib.hid (by rw [hW0]; simp)
  have HC := Lib.hid (hC.keep hb0)
  have HP := Lib.hid (hP.keep hb0)
  have HT := Lib.hid (hT.keep hb0)
  have HB0 := Lib.hid hb0
  have HW := Lib.hid hw
  have HS : Hid (∀ W, Below W0.heap.size W0 W → W.cell? ⟨w.heap.size, 0, none⟩ = some (.int .i64 st) ∧ W.cell? ⟨w.heap.size, 1, none⟩ = some (.int .i64 rm) ∧ W.cell? ⟨w.heap.size, 2, none⟩ = some (.slice aC L.length cC) ∧ W.cell? ⟨w.heap.size, 3, none⟩ = some (.slice aP P.length cP) ∧ W.cell? ⟨w.heap.size, 4, none⟩ = some (.slice aT T.length cT)) := Lib.hid fun W hb => by
    have g := (hb.block w.heap.size hz0).trans g0
    exact ⟨cell_at g rfl, cell_at g rfl, cell_at g rfl, cell_at g rfl, cell_at g rfl⟩
  have hbz := Below.refl W0.heap.size W0
  clear hC hP hT hb0 g0 hw
  go_enter Tryd.func13, Tryd.ntmps13
  go_upto_region 1 with fail
  rw [← hW0]
  clear hW0
  go_region_held3 (fun W => W.cell? ⟨w.heap.size, 0, none⟩ = some (.int .i64 st) ∧ W.cell? ⟨w.heap.size, 1, none⟩ = some (.int .i64 rm) ∧ W.cell? ⟨w.heap.size, 2, none⟩ = some (.slice aC L.length cC) ∧ W.cell? ⟨w.heap.size, 3, none⟩ = some (.slice aP P.length cP) ∧ W.cell? ⟨w.heap.size, 4, none⟩ = some (.slice aT T.length cT)) (first | exact HS.out _ (by (repeat' (first | with_reducible assumption | with_reducible refine Below.drew ?_ | (with_reducible refine Below.alloc ?_ (by first | assumption | (simp; done) | (simp; omega)) _)))))
    ((first
      | (go_at_call 27; (with_reducible refine (rints_play st rm _ hst hrm).mono ?_); rintro e w2 ⟨rfl, rfl⟩)
      | (go_at_call 27; (with_reducible refine (rints_picks P aP cP _ hPl (HP.out.keep (by (repeat' (first | with_reducible assumption | with_reducible refine Below.drew ?_ | (with_reducible refine Below.alloc ?_ (by first | assumption | (simp; done) | (simp; omega)) _)))))).mono ?_); rintro e w2 ⟨rfl, rfl⟩)
      | (go_at_call 27; (with_reducible refine (rints_ticks T aT cT _ hTl (HT.out.keep (by (repeat' (first | with_reducible assumption | with_reducible refine Below.drew ?_ | (with_reducible refine Below.alloc ?_ (by first | assumption | (simp; done) | (simp; omega)) _)))))).mono ?_); rintro e w2 ⟨rfl, rfl⟩)))
  go_wp2_with fail
  go_loopg [4, 5] L.length (fun g lv iv wr => ∃ (i : Nat) (ws : List (List UInt8)), i ≤ L.length ∧ g = L.length - i ∧ iv = .int .i64 (i : Int) ∧ wr.ownsRow W0.heap.size 9 1 lv ws.length (ws.map strV) ∧ Below W0.heap.size W0 wr ∧ ws = headLs st rm P T ++ (L.take i).flatMap clientLs ∧ ws.length ≤ 3 + 1001 * i ∧ (∀ l ∈ L.take i, ∀ c ∈ l, callW c ≠ none))
  case atStart =>
    refine ⟨0, headLs st rm P T, Nat.zero_le _, rfl, rfl, ?_, ?_, by simp, by simp [headLs], by simp⟩
    · refine ⟨rfl, .inr ⟨W0.heap.size + 1, 3, #[strV (glue (playW :: [Lib.itoa st, Lib.itoa rm])), strV (glue (picksW :: P.map Lib.itoa)), strV (glue (ticksW :: T.map Lib.itoa))], rfl, by omega, ?_, Nat.le_refl _, by unfold maxLen; omega, rfl, rfl⟩⟩
      have h2 : ((W0.alloc (.cells #[.int .i64 st, .int .i64 rm] 3)).alloc (.cells #[strV (glue (playW :: [Lib.itoa st, Lib.itoa rm])), strV (glue (picksW :: P.map Lib.itoa)), strV (glue (ticksW :: T.map Lib.itoa))] 9)).heap[(W0.alloc (.cells #[.int .i64 st, .int .i64 rm] 3)).heap.size]? = some (.cells #[strV (glue (playW :: [Lib.itoa st, Lib.itoa rm])), strV (glue (picksW :: P.map Lib.itoa)), strV (glue (ticksW :: T.map Lib.itoa))] 9 (0, 0)) := heap_alloc_new (W0.alloc (.cells #[.int .i64 st, .int .i64 rm] 3)) (.cells #[strV (glue (playW :: [Lib.itoa st, Lib.itoa rm])), strV (glue (picksW :: P.map Lib.itoa)), strV (glue (ticksW :: T.map Lib.itoa))] 9)
      rw [show (W0.alloc (.cells #[.int .i64 st, .int .i64 rm] 3)).heap.size = W0.heap.size + 1 by simp] at h2
      exact h2
    · exact ((hbz.alloc (Nat.le_refl _) _).alloc (by simp) _).drew
  case round =>
    obtain ⟨i, ws, hi, rfl, rfl, hown, hbw, hws, hwl, hno⟩ := hrel
    obtain ⟨wo, rfl⟩ : ∃ wo : World, wo = wr := ⟨_, rfl⟩
    obtain ⟨y0, y1, y2, y3, y4⟩ := HS.out _ hbw
    have HO := Lib.hid hown
    have HBW := Lib.hid hbw
    have HWS := Lib.hid hws
    have HNO := Lib.hid hno
    have hzo := hbw.size
    clear hown hbw hws hno
    by_cases hlt : i < L.length
    · have HTK := Lib.hid (List.take_succ_eq_append_getElem hlt)
      have HLM := Lib.hid (List.getElem_mem hlt)
      obtain ⟨g, off, ax, cx, rfl, hg, q, hr⟩ := HC.out i hlt
      have hll := HW.out _ (List.getElem_mem hlt)
      generalize L[i]'hlt = l at *
      have hl1 := hll.1
      have HL2 := Lib.hid hll.2
      have HR := Lib.hid hr
      have HQ := Lib.hid q
      clear hr hll q
      go_wp2_with (at_builtin; refine wpl_app1 rfl _ _ 41 rfl strElem _ _ _ rfl (strV clientW) rfl rfl HO.out HBW.out (Nat.le_refl _) hzo (by omega) (by unfold maxLen; omega) ?_; intro v' w3 hown3 hbw3 hg3; have HO3 := Lib.hid hown3; have HB3 := Lib.hid hbw3; clear hg3 hown3 hbw3)
      have HWC : Hid ((ws.map strV) ++ [strV clientW] = (ws ++ [clientW]).map strV) := Lib.hid (by simp)
      rw [HWC.out, show ws.length + 1 = (ws ++ [clientW]).length by simp] at HO3
      obtain ⟨us, hus⟩ : ∃ us, us = ws ++ [clientW] := ⟨_, rfl⟩
      rw [← hus] at HO3
      have hul : us.length ≤ 4 + 1001 * i := by rw [hus, List.length_append, List.length_singleton]; omega
      have HUS := Lib.hid hus
      clear hus
      go_loopg [4, 6] l.length (fun g lv kv wr => ∃ (k : Nat) (vs : List (List UInt8)), k ≤ l.length ∧ g = l.length - k ∧ kv = .int .i64 (k : Int) ∧ wr.ownsRow W0.heap.size 9 1 lv vs.length (vs.map strV) ∧ Below W0.heap.size W0 wr ∧ vs = us ++ (l.take k).map lineC ∧ vs.length ≤ 4 + 1001 * i + k ∧ (∀ c ∈ l.take k, callW c ≠ none))
      case atStart => exact ⟨0, us, Nat.zero_le _, rfl, rfl, HO3.out, HB3.out, by simp, hul, by simp⟩
      case round =>
        obtain ⟨k, vs, hk, rfl, rfl, hown, hbi, hvs, hvl, hnok⟩ := hrel
        obtain ⟨wi, rfl⟩ : ∃ wi : World, wi = wr := ⟨_, rfl⟩
        clear y0 y1 y2 y3 y4
        obtain ⟨-, -, y2, -, -⟩ := HS.out _ hbi
        have m1 := (hbi.cell (p := ⟨g, off + i, none⟩) hg).trans HQ.out
        have HOI := Lib.hid hown
        have HBI := Lib.hid hbi
        have HVS := Lib.hid hvs
        have HNK := Lib.hid hnok
        have hzi := hbi.size
        clear hvs hnok
        by_cases hkl : k < l.length
        · obtain ⟨h1, f1, a1, d1, rfl, hh1, e0, e1, e2, e3, e4, e5, e6, hu⟩ := HR.out.keep hbi k hkl
          have HKT := Lib.hid (List.take_succ_eq_append_getElem hkl)
          have HKM := Lib.hid (List.getElem_mem hkl)
          obtain ⟨hft, htx⟩ := HL2.out _ (List.getElem_mem hkl)
          have HU := Lib.hid hu
          have HFT := Lib.hid hft
          generalize l[k]'hkl = c at *
          clear hown hbi hu hft
          by_cases hc1 : c.kind < 1
          · have HNN : Hid (callW c = none) := Lib.hid (callW_no (.inl hc1))
            go_wp2_with fail
            refine bodyPost_ret (v := .tuple #[.slice none 0 0, .bool false]) (by simp [results, Tryd.results13, go_sem, *]) rfl ⟨?_, .inl ⟨⟨l, HLM.out, c, HKM.out, HNN.out⟩, rfl⟩⟩
            exact (HB0.out.trans (HBI.out.mono HB0.out.size)).alloc (by have := HB0.out.size; omega) _
          · by_cases hc7 : 7 < c.kind
            · have HNN : Hid (callW c = none) := Lib.hid (callW_no (.inr hc7))
              go_wp2_with fail
              refine bodyPost_ret (v := .tuple #[.slice none 0 0, .bool false]) (by simp [results, Tryd.results13, go_sem, *]) rfl ⟨?_, .inl ⟨⟨l, HLM.out, c, HKM.out, HNN.out⟩, rfl⟩⟩
              exact (HB0.out.trans (HBI.out.mono HB0.out.size)).alloc (by have := HB0.out.size; omega) _
            · have hs := callW_yes (c := c) (by omega) (by omega)
              have HNN := Lib.hid hs
              have HRC : Hid (∀ W, U64s W a1 c.xs → Calls Tryd.prog 28 #[.agg #[.int .i64 c.kind, .int .i64 c.n, .int .i64 c.dir, .string c.text, .int .i64 c.who, .int .i64 c.at_, .slice a1 c.xs.length d1]] W (fun e w' => e = .returned (.string (bs (lineC c))) ∧ Below W.heap.size W w')) := Lib.hid fun W hu => rcall_any c a1 d1 W HFT.out htx hs hu
              have HKT2 : Hid ((l.take (k + 1)).map lineC = (l.take k).map lineC ++ [lineC c]) := Lib.hid (by rw [HKT.out]; simp)
              generalize lineC c = lc at *
              have hbzi := Below.refl wi.heap.size wi
              clear hs
              go_wp2_with (first
                | (go_at_call 28; (with_reducible refine (HRC.out _ (HU.out.keep (by (repeat' (first | with_reducible assumption | with_reducible refine Below.drew ?_ | (with_reducible refine Below.alloc ?_ (by first | assumption | (simp; done) | (simp; omega)) _)))))).mono ?_); rintro e w3 ⟨rfl, hb3⟩; have hb3w : Below wi.heap.size wi w3 := Below.trans (by (repeat' (first | with_reducible assumption | with_reducible refine Below.drew ?_ | (with_reducible refine Below.alloc ?_ (by first | assumption | (simp; done) | (simp; omega)) _)))) (hb3.mono (by simp)); have HO4 := Lib.hid (own_below HOI.out hb3w); have HB4 := Lib.hid (HBI.out.trans (hb3w.mono hzi)); have hz4 := HB4.out.size; clear hb3 hb3w)
                | (at_builtin; refine wpl_app1 rfl _ _ 41 rfl strElem _ _ _ rfl (strV lc) rfl rfl HO4.out HB4.out (Nat.le_refl _) hz4 (by omega) (by unfold maxLen; omega) ?_; intro v' w5 hown5 hbw5 hg5; have HO5 := Lib.hid hown5; have HB5 := Lib.hid hbw5; clear hg5 hown5 hbw5))
              have HWC2 : Hid ((vs.map strV) ++ [strV lc] = (vs ++ [lc]).map strV) := Lib.hid (by simp)
              rw [HWC2.out, show vs.length + 1 = (vs ++ [lc]).length by simp] at HO5
              go_roundg (l.length - (k + 1))
              case measure => omega
              case rel => exact ⟨k + 1, vs ++ [lc], by omega, rfl, by go_num, HO5.out, HB5.out, by rw [HVS.out, HKT2.out]; simp, by rw [List.length_append, List.length_singleton]; omega, by
                rw [HKT.out]
                intro x hx
                rcases List.mem_append.1 hx with hx | hx
                · exact HNK.out x hx
                · rw [List.mem_singleton.1 hx]; exact HNN.out⟩
        · obtain rfl : k = l.length := by omega
          clear hown hbi
          go_wp2_with fail
          go_roundg (L.length - (i + 1))
          case measure => omega
          case rel => exact ⟨i + 1, vs, by omega, rfl, by go_num, HOI.out, HBI.out, by
            rw [HVS.out, HUS.out, HWS.out, List.take_length, HTK.out, List.flatMap_append]
            simp [clientLs], by omega, by
            have := HNK.out
            rw [List.take_length] at this
            rw [HTK.out]
            intro x hx
            rcases List.mem_append.1 hx with hx | hx
            · exact HNO.out x hx
            · rw [List.mem_singleton.1 hx]; exact this⟩
    · obtain rfl : i = L.length := by omega
      go_wp2_with fail
      refine bodyPost_ret (v := .tuple #[_, .bool true]) (by simp [results, Tryd.results13, go_sem, *]; rfl) rfl ⟨HB0.out.trans (HBW.out.mono HB0.out.size), .inr ⟨by have := HNO.out; rwa [List.take_length] at this, _, rfl, ?_⟩⟩
      have h1 := HO.out
      have h2 := HWS.out
      rw [List.take_length] at h2
      rw [h2, HZ.out] at h1
      exact h1
end Go.Proofs.YtplhmcmfdcklaaaDoor.Lex
/- The law's bound of scripts. -/
namespace Go.Proofs.YtplhmcmfdcklaaaDoor.Lex
open Go.RowKit
set_option linter.unusedSimpArgs false
set_option linter.unusedVariables false
/-- A call's weight. -/
def wtC (c : CallV) : Nat := 1 + c.text.size + c.xs.length
def wtL (l : List CallV) : Nat := (l.map wtC).sum
def wtS (L : List (List CallV)) : Nat := (L.map wtL).sum
theorem wtL_take {l : List CallV} {k : Nat} (h : k < l.length) : wtL (l.take (k + 1)) = wtL (l.take k) + wtC (l[k]'h) := by
  rw [wtL, wtL, List.take_succ_eq_append_getElem h, List.map_append, List.sum_append]
  simp
theorem wtS_take {L : List (List CallV)} {i : Nat} (h : i < L.length) : wtS (L.take (i + 1)) = wtS (L.take i) + wtL (L[i]'h) := by
  rw [wtS, wtS, List.take_succ_eq_append_getElem h, List.map_append, List.sum_append]
  simp
theorem wtL_le {l : List CallV} {B : Nat} (h : ∀ c ∈ l, wtC c ≤ B) : ∀ k, wtL (l.take k) ≤ k * B := fun k => by
  induction k with
  | zero => simp [wtL]
  | succ k ih =>
    by_cases hk : k < l.length
    · rw [wtL_take hk]
      have := h _ (List.getElem_mem hk)
      rw [Nat.add_mul]
      omega
    · rw [List.take_of_length_le (by omega)]
      rw [List.take_of_length_le (by omega)] at ih
      rw [Nat.add_mul]
      omega
theorem wtS_le {L : List (List CallV)} {B : Nat} (h : ∀ l ∈ L, wtL l ≤ B) : ∀ k, wtS (L.take k) ≤ k * B := fun k => by
  induction k with
  | zero => simp [wtS]
  | succ k ih =>
    by_cases hk : k < L.length
    · rw [wtS_take hk]
      have := h _ (List.getElem_mem hk)
      rw [Nat.add_mul]
      omega
    · rw [List.take_of_length_le (by omega)]
      rw [List.take_of_length_le (by omega)] at ih
      rw [Nat.add_mul]
      omega
/-- What the bound tells. -/
def GreatP (L : List (List CallV)) (n : Nat) (e : Ending) : Prop := ∃ b, e = .returned (.bool b) ∧ (b = false → L.length ≤ 60 ∧ (∀ l ∈ L, l.length ≤ 60) ∧ n + wtS L ≤ 3000)
set_option maxRecDepth 100000 in
set_option maxHeartbeats 4000000 in
/-- A script that is not great is small. -/
theorem great_any (st rm : Int) (np nt : Nat) (L : List (List CallV)) (aC aP aT : Option Addr) (cC cP cT : Nat) (w : World) (hC : CallRows w aC L) (hp : np ≤ 281474976710656) (ht : nt ≤ 281474976710656) (hL : L.length ≤ 281474976710656)
    (hw : ∀ l ∈ L, l.length ≤ 281474976710656 ∧ ∀ c ∈ l, wtC c ≤ 281474976710656) :
    Calls Tryd.prog 11 #[.agg #[.int .i64 st, .int .i64 rm, .slice aC L.length cC, .slice aP np cP, .slice aT nt cT]] w fun e w' => Below w.heap.size w w' ∧ GreatP L (np + nt) e := by
  obtain ⟨W0, hW0⟩ : ∃ W0, W0 = w.alloc (.cells #[.int .i64 st, .int .i64 rm, .slice aC L.length cC, .slice aP np cP, .slice aT nt cT] 36) := ⟨_, rfl⟩
  have hb0 : Below w.heap.size w W0 := by rw [hW0]; exact (Below.refl _ _).alloc (Nat.le_refl _) _
  have g0 : W0.heap[w.heap.size]? = some (.cells #[.int .i64 st, .int .i64 rm, .slice aC L.length cC, .slice aP np cP, .slice aT nt cT] 36 (0, 0)) := by rw [hW0]; exact heap_alloc_new w _
  have HZ : Hid (w.heap.size < W0.heap.size) := Lib.hid (by rw [hW0]; simp)
  have HC := Lib.hid (hC.keep hb0)
  have HB0 := Lib.hid hb0
  have HW := Lib.hid hw
  have b2 : W0.cell? ⟨w.heap.size, 2, none⟩ = some (.slice aC L.length cC) := cell_at g0 rfl
  have b3 : W0.cell? ⟨w.heap.size, 3, none⟩ = some (.slice aP np cP) := cell_at g0 rfl
  have b4 : W0.cell? ⟨w.heap.size, 4, none⟩ = some (.slice aT nt cT) := cell_at g0 rfl
  clear hC hw hb0 g0
  go_enter Tryd.func11, Tryd.ntmps11
  go_wp2_with fail
  rw [← hW0]
  clear hW0
  go_loopg [3, 4] (min L.length 100) (fun g nv iv wr => ∃ i n : Nat, i ≤ L.length ∧ i ≤ 100 ∧ g = min L.length 100 - i ∧ iv = .int .i64 (i : Int) ∧ nv = .int .i64 (n : Int) ∧ n = np + nt + wtS (L.take i) ∧ n ≤ 562949953421312 + i * 28147497671065600 ∧ (∀ l ∈ L.take i, l.length ≤ 60) ∧ Below W0.heap.size W0 wr)
  case atStart => exact ⟨0, np + nt, Nat.zero_le _, by omega, rfl, rfl, by go_num, by simp [wtS], by omega, by simp, Below.refl _ _⟩
  case round =>
    obtain ⟨i, n, hi, h100, rfl, rfl, rfl, hn, hnB, h60, hbw⟩ := hrel
    obtain ⟨wo, rfl⟩ : ∃ wo : World, wo = wr := ⟨_, rfl⟩
    have y2 := (hbw.cell (p := ⟨w.heap.size, 2, none⟩) HZ.out).trans b2
    have HN := Lib.hid hn
    have H60 := Lib.hid h60
    have HBW := Lib.hid hbw
    clear hn h60 hbw
    by_cases hlt : i < L.length
    · by_cases hlt2 : i < 100
      · have hi1 : (i : Int) < 100 := by omega
        obtain ⟨g, off, ax, cx, rfl, hg, q, hr⟩ := HC.out i hlt
        have hll := HW.out _ (List.getElem_mem hlt)
        have HTK := Lib.hid (wtS_take hlt)
        have HTL := Lib.hid (fun h => by
          have := List.take_succ_eq_append_getElem hlt
          intro l hl
          rw [this] at hl
          rcases List.mem_append.1 hl with hl | hl
          · exact H60.out l hl
          · rw [List.mem_singleton.1 hl]
            exact h : (L[i]'hlt).length ≤ 60 → ∀ l ∈ L.take (i + 1), l.length ≤ 60)
        generalize L[i]'hlt = l at *
        have HR := Lib.hid hr
        have HQ := Lib.hid q
        have hl1 := hll.1
        have HL2 := Lib.hid hll.2
        have q1 := (HBW.out.cell (p := ⟨g, off + i, none⟩) hg).trans q
        clear hr hll q
        go_wp2_with fail
        go_loopg [3, 5] (min l.length 100) (fun gg nv kv wr => ∃ k m : Nat, k ≤ l.length ∧ k ≤ 100 ∧ gg = min l.length 100 - k ∧ kv = .int .i64 (k : Int) ∧ nv = .int .i64 (m : Int) ∧ m = n + wtL (l.take k) ∧ m ≤ n + k * 281474976710656 ∧ Below W0.heap.size W0 wr)
        case atStart => exact ⟨0, n, Nat.zero_le _, by omega, rfl, rfl, rfl, by simp [wtL], by omega, HBW.out⟩
        case round =>
          obtain ⟨k, m, hk, hk100, rfl, rfl, rfl, hm, hmB, hbi⟩ := hrel
          obtain ⟨wi, rfl⟩ : ∃ wi : World, wi = wr := ⟨_, rfl⟩
          have u2 := (hbi.cell (p := ⟨w.heap.size, 2, none⟩) HZ.out).trans b2
          have m1 := (hbi.cell (p := ⟨g, off + i, none⟩) hg).trans HQ.out
          have HM := Lib.hid hm
          have HBI := Lib.hid hbi
          clear hm y2 q1
          by_cases hk1 : k < l.length
          · by_cases hk2 : k < 100
            · have hki : (k : Int) < 100 := by omega
              obtain ⟨h1, f1, a1, d1, rfl, hh1, e0, e1, e2, e3, e4, e5, e6, _⟩ := HR.out.keep hbi k hk1
              have hwc := HL2.out _ (List.getElem_mem hk1)
              have HWT := Lib.hid (wtL_take hk1)
              generalize l[k]'hk1 = c at *
              obtain ⟨kc, nc, dirc, textc, whoc, atc, xsc⟩ := c
              simp only [wtC] at hwc HWT
              simp only at e0 e1 e2 e3 e4 e5 e6
              clear hbi
              go_wp2_with fail
              go_quiet (fail)
              go_wp2_with fail
              go_roundg (min l.length 100 - (k + 1))
              case measure => omega
              case rel => exact ⟨k + 1, m + 1 + textc.size + xsc.length, by omega, by omega, rfl, by go_num, by go_num, by have h1 := HWT.out; have h2 := HM.out; omega, by omega, below_drewN HBI.out _⟩
            · have hki : ¬ (k : Int) < 100 := by omega
              have hbig : (60 : Int) < l.length := by omega
              clear hbi
              go_wp2_with fail
              refine bodyPost_ret (v := .bool true) (by simp [results, Tryd.results11, go_sem, *]) rfl ?_
              exact ⟨HB0.out.trans (HBI.out.mono HB0.out.size), _, rfl, fun h => by cases h⟩
          · obtain rfl : k = l.length := by omega
            clear hbi
            by_cases hbig : 60 < l.length
            · have hbig' : (60 : Int) < l.length := by omega
              go_wp2_with fail
              refine bodyPost_ret (v := .bool true) (by simp [results, Tryd.results11, go_sem, *]) rfl ?_
              exact ⟨HB0.out.trans (HBI.out.mono HB0.out.size), _, rfl, fun h => by cases h⟩
            · have hbig' : ¬ (60 : Int) < l.length := by omega
              go_wp2_with fail
              go_roundg (min L.length 100 - (i + 1))
              case measure => omega
              case rel => exact ⟨i + 1, m, by omega, by omega, rfl, by go_num, rfl, by have h1 := HTK.out; have h2 := HM.out; have h3 := HN.out; rw [List.take_length] at h2; omega, by omega, HTL.out (by omega), HBI.out⟩
      · have hi1 : ¬ (i : Int) < 100 := by omega
        have hbig : (60 : Int) < L.length := by omega
        by_cases hn3 : 3000 < n
        · have hn3' : (3000 : Int) < n := by omega
          go_wp2_with fail
          refine bodyPost_ret (v := .bool true) (by simp [results, Tryd.results11, go_sem, *]) rfl ?_
          exact ⟨HB0.out.trans (HBW.out.mono HB0.out.size), _, rfl, fun h => by cases h⟩
        · have hn3' : ¬ (3000 : Int) < n := by omega
          go_wp2_with fail
          refine bodyPost_ret (v := .bool true) (by simp [results, Tryd.results11, go_sem, *]) rfl ?_
          exact ⟨HB0.out.trans (HBW.out.mono HB0.out.size), _, rfl, fun h => by cases h⟩
    · obtain rfl : i = L.length := by omega
      by_cases hn3 : 3000 < n
      · have hn3' : (3000 : Int) < n := by omega
        go_wp2_with fail
        refine bodyPost_ret (v := .bool true) (by simp [results, Tryd.results11, go_sem, *]) rfl ?_
        exact ⟨HB0.out.trans (HBW.out.mono HB0.out.size), _, rfl, fun h => by cases h⟩
      · have hn3' : ¬ (3000 : Int) < n := by omega
        by_cases hbig : 60 < L.length
        · have hbig' : (60 : Int) < L.length := by omega
          go_wp2_with fail
          refine bodyPost_ret (v := .bool true) (by simp [results, Tryd.results11, go_sem, *]) rfl ?_
          exact ⟨HB0.out.trans (HBW.out.mono HB0.out.size), _, rfl, fun h => by cases h⟩
        · have hbig' : ¬ (60 : Int) < L.length := by omega
          go_wp2_with fail
          refine bodyPost_ret (v := .bool false) (by simp [results, Tryd.results11, go_sem, *]) rfl ?_
          exact ⟨HB0.out.trans (HBW.out.mono HB0.out.size), _, rfl, fun _ => ⟨by omega, by have := H60.out; rwa [List.take_length] at this, by have := HN.out; rw [List.take_length] at this; omega⟩⟩
end Go.Proofs.YtplhmcmfdcklaaaDoor.Lex
/- A script that came in, opened. -/
namespace Go.Proofs.YtplhmcmfdcklaaaDoor.Lex
open Go.RowKit
set_option linter.unusedSimpArgs false
set_option linter.unusedVariables false
abbrev CallY : Type := Int × (Int × Int) × ByteArray × (Int × Int) × List Int
def CallV.of (y : CallY) : CallV := ⟨y.1, y.2.1.1, y.2.1.2, y.2.2.1, y.2.2.2.1.1, y.2.2.2.1.2, y.2.2.2.2.map Int.toNat⟩
abbrev callsRd : Rd (List CallY) := .slice callRd 7 80
abbrev scrRd : Rd (Int × Int × List (List CallY) × List Int × List Int) := .pair rI (.pair rI (.pair (.slice callsRd 1 24) (.pair (.slice rI 1 8) (.slice rI 1 8))))
theorem opens_calls : Opens Tryd.prog 55 callsRd :=
  opens_slice Tryd.underlying55 (by kernel_rfl) (by kernel_rfl) (by omega) callRd_ok opens_call
theorem opens_callss : Opens Tryd.prog 33 (.slice callsRd 1 24) :=
  opens_slice Tryd.underlying33 (by kernel_rfl) (by kernel_rfl) (by omega) (Rd.slice_ok callRd_ok 80) opens_calls
theorem opens_rints : Opens Tryd.prog 34 (.slice rI 1 8) :=
  opens_slice Tryd.underlying34 (by kernel_rfl) (by kernel_rfl) (by omega) (Rd.int_ok _) (opens_int Tryd.underlying3)
theorem opens_scr : Opens Tryd.prog 36 scrRd :=
  opens_struct (tot := 5) Tryd.underlying36 (by kernel_rfl)
    (fs_cons (s := 1) rfl (by kernel_rfl) (opens_int Tryd.underlying3)
    (fs_cons (s := 1) rfl (by kernel_rfl) (opens_int Tryd.underlying3)
    (fs_cons (s := 1) rfl (by kernel_rfl) opens_callss
    (fs_cons (s := 1) rfl (by kernel_rfl) opens_rints
    (fs_one (s := 1) rfl (by kernel_rfl) rfl opens_rints)))))
theorem wf_in {n : Int} (h : (Lit.int .i64 n).wf = true) : InI n := by
  simp only [Lit.wf, Bool.and_eq_true, decide_eq_true_eq] at h
  exact h
theorem ints_of_row {F : Foot} {w : World} {a : Option Addr} {n cap : Nat} {xs : List Int} (h : RowOf rI 1 8 F w a n cap xs) : n = xs.length ∧ Ints w a xs ∧ xs.length ≤ 281474976710656 := by
  refine ⟨h.len.symm, fun i hi => ?_, by have := h.room; have := h.len; omega⟩
  obtain ⟨b, off, h1, h2, _, h3, h4⟩ := h.int i hi
  exact ⟨b, off, h1, h2, h3, wf_in h4⟩
/-- What is known of a call that came in. -/
structure InC (c : CallV) : Prop where
  kind : InI c.kind
  n : InI c.n
  dir : InI c.dir
  who : InI c.who
  at_ : InI c.at_
  text : c.text.size ≤ 140737488351232
  len : c.xs.length ≤ 17592186044416
theorem calls_of_row {F : Foot} {w : World} {a : Option Addr} {n cap : Nat} {ys : List CallY} (h : RowOf callRd 7 80 F w a n cap ys) :
    n = (ys.map CallV.of).length ∧ CallP w a (ys.map CallV.of) ∧ (ys.map CallV.of).length ≤ 281474976710656 ∧ ∀ c ∈ ys.map CallV.of, InC c := by
  have at' : ∀ i x, ys[i]? = some x → InC (CallV.of x) ∧ ∃ g off ax cx, a = some ⟨g, off, none⟩ ∧ g < w.heap.size ∧
      w.cell? ⟨g, off + i * 7, none⟩ = some (.int .i64 (CallV.of x).kind) ∧ w.cell? ⟨g, off + i * 7 + 1, none⟩ = some (.int .i64 (CallV.of x).n) ∧ w.cell? ⟨g, off + i * 7 + 2, none⟩ = some (.int .i64 (CallV.of x).dir) ∧
      w.cell? ⟨g, off + i * 7 + 3, none⟩ = some (.string (CallV.of x).text) ∧ w.cell? ⟨g, off + i * 7 + 4, none⟩ = some (.int .i64 (CallV.of x).who) ∧ w.cell? ⟨g, off + i * 7 + 5, none⟩ = some (.int .i64 (CallV.of x).at_) ∧
      w.cell? ⟨g, off + i * 7 + 6, none⟩ = some (.slice ax (CallV.of x).xs.length cx) ∧ U64s w ax (CallV.of x).xs ∧ (CallV.of x).xs.length ≤ cx ∧ (ax = none → cx = 0) := fun i x hx => by
    obtain ⟨b, off, cs, h1, h2, _, _, hcs, g⟩ := h.at_ i x hx
    obtain ⟨k, ⟨n, dir⟩, text, ⟨who, at'⟩, xs⟩ := x
    obtain ⟨_, _, rfl, ⟨rfl, k1⟩, _, _, rfl, ⟨_, _, rfl, ⟨rfl, k2⟩, rfl, k3⟩, _, _, rfl, ⟨rfl, k4⟩, _, _, rfl, ⟨_, _, rfl, ⟨rfl, k5⟩, rfl, k6⟩, a', m, cap', rfl, hr⟩ := g
    obtain ⟨hu, hl⟩ := u64s_of_row hr
    have hroom := hr.room
    have hlen := hr.len
    simp only [List.length_map] at hl
    refine ⟨⟨wf_in k1, wf_in k2, wf_in k3, wf_in k5, wf_in k6, k4, by show (xs.map Int.toNat).length ≤ _; rw [List.length_map]; omega⟩, b, off, a', cap', h1, h2, ?_, ?_, ?_, ?_, ?_, ?_, ?_, hu, ?_, hr.nil⟩
    · exact hcs 0 _ rfl
    · exact hcs 1 _ rfl
    · exact hcs 2 _ rfl
    · exact hcs 3 _ rfl
    · exact hcs 4 _ rfl
    · exact hcs 5 _ rfl
    · have := hcs 6 _ rfl
      rw [this]
      show some (Value.slice a' m cap') = some (.slice a' (xs.map Int.toNat).length cap')
      rw [List.length_map, hl]
    · show (xs.map Int.toNat).length ≤ _
      rw [List.length_map, hl]
      exact hr.le
  refine ⟨by rw [List.length_map]; exact h.len.symm, fun i hi => ?_, by rw [List.length_map]; have := h.room; have := h.len; omega, fun c hc => ?_⟩
  · have hi' : i < ys.length := by simpa using hi
    have := (at' i _ (List.getElem?_eq_getElem hi')).2
    simpa only [List.getElem_map] using this
  · obtain ⟨y, hy, rfl⟩ := List.mem_map.1 hc
    obtain ⟨i, hi, rfl⟩ := List.mem_iff_getElem.1 hy
    exact (at' i _ (List.getElem?_eq_getElem hi)).1
theorem rows_of_row {F : Foot} {w : World} {a : Option Addr} {n cap : Nat} {Y : List (List CallY)} (h : RowOf callsRd 1 24 F w a n cap Y) :
    n = (Y.map fun l => l.map CallV.of).length ∧ RowsP w a (Y.map fun l => l.map CallV.of) ∧ (Y.map fun l => l.map CallV.of).length ≤ 281474976710656 ∧ ∀ l ∈ Y.map fun l => l.map CallV.of, l.length ≤ 281474976710656 ∧ ∀ c ∈ l, InC c := by
  refine ⟨by rw [List.length_map]; exact h.len.symm, fun i hi => ?_, by rw [List.length_map]; have := h.room; have := h.len; omega, fun l hl => ?_⟩
  · have hi' : i < Y.length := by simpa using hi
    obtain ⟨b, off, cs, h1, h2, _, _, hcs, a', m, cap', rfl, hr⟩ := h.at_ i _ (List.getElem?_eq_getElem hi')
    obtain ⟨e1, e2, _, _⟩ := calls_of_row hr
    have c0 := hcs 0 _ rfl
    rw [Nat.mul_one, Nat.add_zero] at c0
    simp only [List.getElem_map]
    rw [e1] at c0
    exact ⟨b, off, a', cap', h1, h2, c0, e2⟩
  · obtain ⟨y, hy, rfl⟩ := List.mem_map.1 hl
    obtain ⟨i, hi, rfl⟩ := List.mem_iff_getElem.1 hy
    obtain ⟨_, _, _, _, _, _, _, _, a', m, cap', rfl, hr⟩ := h.at_ i _ (List.getElem?_eq_getElem hi)
    obtain ⟨_, _, e3, e4⟩ := calls_of_row hr
    exact ⟨e3, e4⟩
/-- What is known of a script that came in. -/
structure InS (w : World) (S : ScrV) (aC aP aT : Option Addr) : Prop where
  st : InI S.stripes
  rm : InI S.room
  picks : Ints w aP S.picks
  pl : S.picks.length ≤ 281474976710656
  ticks : Ints w aT S.ticks
  tl : S.ticks.length ≤ 281474976710656
  rows : RowsP w aC S.clients
  cl : S.clients.length ≤ 281474976710656
  calls : ∀ l ∈ S.clients, l.length ≤ 281474976710656 ∧ ∀ c ∈ l, InC c
set_option maxRecDepth 100000 in
theorem open_scr {H : Type} {enc : TypeId × Value → H} {w : World} {base : Nat} {sp : Nat → Bool} {held : Bool} {v : Value} {d : DataW H} {p : List MemPlace} {ww : World} {rr : Reach} {bb : Nat}
    (hv : Value.okWide Tryd.prog ww rr bb 36 v) (h : DataW.Trod enc Tryd.prog w base sp held 36 v d p) (hq : ∀ q ∈ DataW.weights Tryd.prog 36 d, q ≤ reachBytes) :
    ∃ (S : ScrV) (aC aP aT : Option Addr) (cC cP cT : Nat), v = .agg #[.int .i64 S.stripes, .int .i64 S.room, .slice aC S.clients.length cC, .slice aP S.picks.length cP, .slice aT S.ticks.length cT] ∧ InS w S aC aP aT := by
  obtain ⟨cs, ⟨st, rm, Y, P, T⟩, rfl, g⟩ := open_trod opens_scr Tryd.underlying36 hv h hq
  obtain ⟨_, _, e, ⟨rfl, k1⟩, _, _, rfl, ⟨rfl, k2⟩, _, _, rfl, ⟨aC, nC, cC, rfl, hC⟩, _, _, rfl, ⟨aP, nP, cP, rfl, hP⟩, aT, nT, cT, rfl, hT⟩ := g
  obtain ⟨p1, p2, p3⟩ := ints_of_row hP
  obtain ⟨t1, t2, t3⟩ := ints_of_row hT
  obtain ⟨c1, c2, c3, c4⟩ := rows_of_row hC
  refine ⟨⟨st, rm, Y.map fun l => l.map CallV.of, P, T⟩, aC, aP, aT, cC, cP, cT, ?_, ⟨wf_in k1, wf_in k2, p2, p3, t2, t3, c2, c3, c4⟩⟩
  show Value.agg cs = .agg _
  congr 1
  refine Array.toList_inj.1 (e.trans ?_)
  rw [c1, p1, t1]
  rfl
end Go.Proofs.YtplhmcmfdcklaaaDoor.Lex
/- A script's lines and its text; a small script's text is short. -/
namespace Go.Proofs.YtplhmcmfdcklaaaDoor.Lex
open Go.RowKit
set_option linter.unusedSimpArgs false
set_option linter.unusedVariables false
theorem textL_lines : ∀ ws : List (List UInt8), ws.length ≤ (textL ws).length
  | [] => by simp
  | a :: r => by
    have ih := textL_lines r
    have e : textL (a :: r) = (a ++ [10]) ++ textL r := rfl
    rw [e, List.length_append, List.length_append, List.length_cons, List.length_singleton]
    omega
theorem textL_app (a b : List (List UInt8)) : textL (a ++ b) = textL a ++ textL b := by simp [textL]
theorem text_calls : ∀ {l : List CallV}, (∀ c ∈ l, callW c ≠ none) → textL (l.map lineC) = callsT l
  | [], _ => rfl
  | c :: l, h => by
    have ih := text_calls (l := l) fun x hx => h x (List.mem_cons_of_mem _ hx)
    have e : textL ((c :: l).map lineC) = (lineC c ++ [10]) ++ textL (l.map lineC) := rfl
    have e2 : callsT (c :: l) = callT c ++ callsT l := rfl
    rw [e, e2, ih]
    congr 1
    cases hc : callW c with
    | none => exact absurd hc (h c (by simp))
    | some ws => simp [lineC, callT, hc]
theorem text_clients : ∀ {L : List (List CallV)}, (∀ l ∈ L, ∀ c ∈ l, callW c ≠ none) → textL (L.flatMap clientLs) = clientsT L
  | [], _ => rfl
  | l :: L, h => by
    have ih := text_clients (L := L) fun x hx => h x (List.mem_cons_of_mem _ hx)
    rw [List.flatMap_cons, textL_app, ih]
    have e2 : clientsT (l :: L) = clientT l ++ clientsT L := rfl
    rw [e2]
    congr 1
    have e3 : textL (clientLs l) = (clientW ++ [10]) ++ textL (l.map lineC) := rfl
    rw [e3, text_calls (h l (by simp))]
    rfl
/-- The reference's text is the program's. -/
theorem text_lines {S : ScrV} (h : ∀ l ∈ S.clients, ∀ c ∈ l, callW c ≠ none) : textL (headLs S.stripes S.room S.picks S.ticks ++ S.clients.flatMap clientLs) = printL S := by
  rw [textL_app, text_clients h, printL]
  congr 1
  simp [textL, headLs, headT, intsL]
theorem glue_len_le : ∀ {ws : List (List UInt8)} {B : Nat}, (∀ x ∈ ws, x.length ≤ B) → (glue ws).length ≤ (B + 1) * ws.length
  | [], B, _ => by simp [glue]
  | [a], B, h => by have := h a (by simp); simp [glue]; omega
  | a :: b :: r, B, h => by
    have ih := glue_len_le (ws := b :: r) (B := B) fun x hx => h x (List.mem_cons_of_mem _ hx)
    have ha := h a (by simp)
    rw [show glue (a :: b :: r) = a ++ 32 :: glue (b :: r) from rfl, List.length_append, List.length_cons]
    have e1 : (B + 1) * (a :: b :: r).length = (B + 1) * (b :: r).length + (B + 1) := by rw [List.length_cons, Nat.mul_add, Nat.mul_one]
    omega
theorem intsL_le {w : List UInt8} {l : List Int} (hw : w.length ≤ 20) (h : ∀ n ∈ l, InI n) : (intsL w l).length ≤ 22 + 21 * l.length := by
  have := glue_len_le (ws := w :: l.map Lib.itoa) (B := 20) fun x hx => by
    rcases List.mem_cons.1 hx with rfl | hx
    · exact hw
    · obtain ⟨n, hn, rfl⟩ := List.mem_map.1 hx
      exact itoa_len (h n hn)
  simp only [intsL, List.length_append, List.length_cons, List.length_map, List.length_nil] at *
  omega
theorem callT_le {c : CallV} (h : InC c) (hx : ∀ x ∈ c.xs, x < 18446744073709551616) : (callT c).length ≤ 80 * wtC c := by
  obtain ⟨k, n, dir, text, who, at', xs⟩ := c
  have i1 := itoa_len h.n
  have i2 := itoa_len h.dir
  have i3 := itoa_len h.who
  have i4 := itoa_len h.at_
  simp only at i1 i2 i3 i4 hx
  have gl : ∀ (w a b : List UInt8), w.length ≤ 20 → a.length ≤ 20 → b.length ≤ 20 → (glue (w :: [a, b])).length ≤ 63 := fun w a b h1 h2 h3 => by
    have := glue_len_le (ws := w :: [a, b]) (B := 20) fun x hx => by
      simp only [List.mem_cons, List.not_mem_nil, or_false] at hx
      rcases hx with rfl | rfl | rfl <;> assumption
    simpa using this
  simp only [wtC, callT, callW]
  by_cases k1 : k = 1
  · rw [if_pos k1]
    have := gl [103, 101, 116] _ _ (by decide) i1 i2
    simp only [List.length_append, List.length_singleton]
    omega
  by_cases k2 : k = 2
  · rw [if_neg k1, if_pos k2]
    have := gl [108, 111, 111, 107, 117, 112] _ _ (by decide) i1 i2
    simp only [List.length_append, List.length_singleton]
    omega
  by_cases k3 : k = 3
  · rw [if_neg k1, if_neg k2, if_pos k3]
    have := gl [101, 118, 105, 99, 116] _ _ (by decide) i1 i2
    simp only [List.length_append, List.length_singleton]
    omega
  by_cases k4 : k = 4
  · rw [if_neg k1, if_neg k2, if_neg k3, if_pos k4]
    have e : text.data.toList.length = text.size := by rw [Array.length_toList]; rfl
    simp only [List.length_append, List.length_singleton]
    unfold hexW
    split
    · simp [glue]
      omega
    · have := hexOf_len text.data.toList
      simp [glue]
      omega
  by_cases k5 : k = 5
  · rw [if_neg k1, if_neg k2, if_neg k3, if_neg k4, if_pos k5]
    simp [glue]
    omega
  by_cases k6 : k = 6
  · rw [if_neg k1, if_neg k2, if_neg k3, if_neg k4, if_neg k5, if_pos k6]
    have := glue_len_le (ws := [101, 120, 101, 99, 117, 116, 101] :: ([Lib.itoa who, Lib.itoa at'] ++ xs.map Lib.decDigits)) (B := 20) fun x hm => by
      simp only [List.mem_cons, List.mem_append, List.not_mem_nil, or_false] at hm
      rcases hm with rfl | (rfl | rfl) | hm
      · decide
      · exact i3
      · exact i4
      · obtain ⟨z, hz, rfl⟩ := List.mem_map.1 hm
        exact decDigits_len64 (by have := hx z hz; omega)
    simp only [List.length_append, List.length_cons, List.length_map, List.length_nil] at this ⊢
    omega
  by_cases k7 : k = 7
  · rw [if_neg k1, if_neg k2, if_neg k3, if_neg k4, if_neg k5, if_neg k6, if_pos k7]
    have := gl [114, 101, 108, 101, 97, 115, 101] _ _ (by decide) i3 i4
    simp only [List.length_append, List.length_singleton]
    omega
  · rw [if_neg k1, if_neg k2, if_neg k3, if_neg k4, if_neg k5, if_neg k6, if_neg k7]
    simp
theorem callsT_le' : ∀ {l : List CallV}, (∀ c ∈ l, (callT c).length ≤ 80 * wtC c) → (callsT l).length ≤ 80 * wtL l
  | [], _ => by simp [callsT]
  | c :: l, h => by
    have ih := callsT_le' (l := l) fun x hx => h x (List.mem_cons_of_mem _ hx)
    have := h c (by simp)
    have e : callsT (c :: l) = callT c ++ callsT l := rfl
    have e2 : wtL (c :: l) = wtC c + wtL l := rfl
    rw [e, e2, List.length_append]
    omega
theorem clientsT_le' : ∀ {L : List (List CallV)}, (∀ l ∈ L, ∀ c ∈ l, (callT c).length ≤ 80 * wtC c) → (clientsT L).length ≤ 7 * L.length + 80 * wtS L
  | [], _ => by simp [clientsT]
  | l :: L, h => by
    have ih := clientsT_le' (L := L) fun x hx => h x (List.mem_cons_of_mem _ hx)
    have := callsT_le' (h l (by simp))
    have e : clientsT (l :: L) = clientT l ++ clientsT L := rfl
    have e2 : wtS (l :: L) = wtL l + wtS L := rfl
    have hl : (clientT l).length = 7 + (callsT l).length := by simp [clientT, glue, clientW]; omega
    rw [e, e2, List.length_append, hl, List.length_cons]
    omega
theorem wtC_le {l : List CallV} {c : CallV} (h : c ∈ l) : wtC c ≤ wtL l := by
  induction l with
  | nil => cases h
  | cons a l ih =>
    have e2 : wtL (a :: l) = wtC a + wtL l := rfl
    rcases List.mem_cons.1 h with rfl | h
    · omega
    · have := ih h; omega
theorem wtL_le' {L : List (List CallV)} {l : List CallV} (h : l ∈ L) : wtL l ≤ wtS L := by
  induction L with
  | nil => cases h
  | cons a L ih =>
    have e2 : wtS (a :: L) = wtL a + wtS L := rfl
    rcases List.mem_cons.1 h with rfl | h
    · omega
    · have := ih h; omega
theorem ints_in {w : World} {a : Option Addr} {xs : List Int} (h : Ints w a xs) : ∀ n ∈ xs, InI n := fun n hn => by
  obtain ⟨i, hi, rfl⟩ := List.mem_iff_getElem.1 hn
  obtain ⟨_, _, _, _, _, h4, h5⟩ := h i hi
  exact ⟨h4, h5⟩
theorem rows_u64 {w : World} {a : Option Addr} {L : List (List CallV)} (h : RowsP w a L) : ∀ l ∈ L, ∀ c ∈ l, ∀ x ∈ c.xs, x < 18446744073709551616 := fun l hl c hc x hx => by
  obtain ⟨i, hi, rfl⟩ := List.mem_iff_getElem.1 hl
  obtain ⟨_, _, _, _, _, _, _, h4⟩ := h i hi
  obtain ⟨k, hk, rfl⟩ := List.mem_iff_getElem.1 hc
  obtain ⟨_, _, _, _, _, _, _, _, _, _, _, _, _, hu, _⟩ := h4 k hk
  obtain ⟨j, hj, rfl⟩ := List.mem_iff_getElem.1 hx
  obtain ⟨_, _, _, _, _, h5⟩ := hu j hj
  exact h5
/-- What is known of a small script. -/
structure SmallS (S : ScrV) : Prop where
  cl : S.clients.length ≤ 60
  ll : ∀ l ∈ S.clients, l.length ≤ 60
  pl : S.picks.length ≤ 3000
  tl : S.ticks.length ≤ 3000
  fits : ∀ l ∈ S.clients, ∀ c ∈ l, c.Fits
  small : ∀ l ∈ S.clients, ∀ c ∈ l, c.text.size ≤ 3000 ∧ c.xs.length ≤ 3000
  len : (printL S).length ≤ 1048576
theorem small_of {w : World} {S : ScrV} {aC aP aT : Option Addr} (h : InS w S aC aP aT) (h1 : S.clients.length ≤ 60) (h2 : ∀ l ∈ S.clients, l.length ≤ 60) (h3 : S.picks.length + S.ticks.length + wtS S.clients ≤ 3000) : SmallS S := by
  have hs : ∀ l ∈ S.clients, ∀ c ∈ l, c.text.size ≤ 3000 ∧ c.xs.length ≤ 3000 := fun l hl c hc => by
    have a1 := wtC_le hc
    have a2 := wtL_le' hl
    simp only [wtC] at a1
    omega
  refine ⟨h1, h2, by omega, by omega, fun l hl c hc => ?_, hs, ?_⟩
  · have hi := (h.calls l hl).2 c hc
    have := hs l hl c hc
    exact ⟨hi.kind, hi.n, hi.dir, hi.who, hi.at_, by omega, by omega⟩
  · have a1 := clientsT_le' (L := S.clients) fun l hl c hc => callT_le ((h.calls l hl).2 c hc) (rows_u64 h.rows l hl c hc)
    have a2 := intsL_le (w := playW) (l := [S.stripes, S.room]) (by decide) fun n hn => by
      simp only [List.mem_cons, List.not_mem_nil, or_false] at hn
      rcases hn with rfl | rfl
      · exact h.st
      · exact h.rm
    have a3 := intsL_le (w := picksW) (by decide) (ints_in h.picks)
    have a4 := intsL_le (w := ticksW) (by decide) (ints_in h.ticks)
    simp only [printL, headT, List.length_append, List.length_cons, List.length_nil] at *
    omega
theorem fine_of {w : World} {S : ScrV} {aC aP aT : Option Addr} (h : InS w S aC aP aT) (hc : ∀ l ∈ S.clients, ∀ c ∈ l, callW c ≠ none) : FineS S :=
  ⟨h.st, h.rm, ints_in h.picks, ints_in h.ticks, fun l hl c hcl => by
    have hi := (h.calls l hl).2 c hcl
    exact ⟨hc l hl c hcl, hi.n, hi.dir, hi.who, hi.at_, rows_u64 h.rows l hl c hcl⟩⟩
end Go.Proofs.YtplhmcmfdcklaaaDoor.Lex
/- The statement on scripts as texts. -/
namespace Go.Proofs.YtplhmcmfdcklaaaDoor.Lex
open Go.RowKit
set_option linter.unusedSimpArgs false
set_option linter.unusedVariables false
set_option maxRecDepth 100000 in
theorem like_any (st rm : Int) (aC aP aT : Option Addr) (nC cC nP cP nT cT : Nat) (w : World) :
    Calls Tryd.prog 14 #[.agg #[.int .i64 st, .int .i64 rm, .slice aC nC cC, .slice aP nP cP, .slice aT nT cT]] w fun e w' => e = .returned (.agg #[.int .i64 st, .int .i64 rm, .slice aC nC cC, .slice aP nP cP, .slice aT nT cT]) ∧ Below w.heap.size w w' := by
  go_enter Tryd.func14, Tryd.ntmps14
  go_wp2_with fail
  refine bodyPost_ret (v := .agg #[.int .i64 st, .int .i64 rm, .slice aC nC cC, .slice aP nP cP, .slice aT nT cT]) (by simp [results, Tryd.results14, go_sem]) rfl ⟨rfl, ?_⟩
  exact ((Below.refl _ _).alloc (Nat.le_refl _) _).alloc (by simp) _
theorem great_s {w : World} {S : ScrV} {aC aP aT : Option Addr} (h : InS w S aC aP aT) (cC cP cT : Nat) (W : World) (hb : Below w.heap.size w W) :
    Calls Tryd.prog 11 #[.agg #[.int .i64 S.stripes, .int .i64 S.room, .slice aC S.clients.length cC, .slice aP S.picks.length cP, .slice aT S.ticks.length cT]] W fun e w' => Below W.heap.size W w' ∧ ∃ b, e = .returned (.bool b) ∧ (b = false → SmallS S) := by
  refine (great_any S.stripes S.room S.picks.length S.ticks.length S.clients aC aP aT cC cP cT W ((h.rows.rows).keep hb) h.pl h.tl h.cl fun l hl => ⟨(h.calls l hl).1, fun c hc => ?_⟩).mono ?_
  · have := (h.calls l hl).2 c hc
    have h1 := this.text
    have h2 := this.len
    simp only [wtC]
    omega
  · rintro e w' ⟨hb', b, he, hs⟩
    exact ⟨hb', b, he, fun hb => small_of h (hs hb).1 (hs hb).2.1 (hs hb).2.2⟩
theorem print_s {w : World} {S : ScrV} {aC aP aT : Option Addr} (h : InS w S aC aP aT) (hs : SmallS S) (cC cP cT : Nat) (W : World) (hb : Below w.heap.size w W) (hm : HasMax W) (ht : HasTab W) :
    Calls Tryd.prog 12 #[.agg #[.int .i64 S.stripes, .int .i64 S.room, .slice aC S.clients.length cC, .slice aP S.picks.length cP, .slice aT S.ticks.length cT]] W (PrintPost S.clients (printL S) W) := by
  have hl := hs.len
  refine print_walk S.stripes S.room S.picks S.ticks S.clients aC aP aT cC cP cT W hm ht h.st h.rm (h.picks.keep hb) (h.ticks.keep hb) ((h.rows.rows).keep hb) hs.fits ?_ ?_ ?_ (fun l hl => ?_) ?_
  · have := hs.pl; omega
  · have := hs.tl; omega
  · have := hs.cl; omega
  · have := hs.ll l hl; omega
  · show (printL S).length ≤ _
    omega
theorem lines_s {w : World} {S : ScrV} {aC aP aT : Option Addr} (h : InS w S aC aP aT) (hs : SmallS S) (cC cP cT : Nat) (W : World) (hb : Below w.heap.size w W) :
    Calls Tryd.prog 13 #[.agg #[.int .i64 S.stripes, .int .i64 S.room, .slice aC S.clients.length cC, .slice aP S.picks.length cP, .slice aT S.ticks.length cT]] W (RLinesP S.stripes S.room S.picks S.ticks S.clients W) := by
  refine rlines_any S.stripes S.room S.picks S.ticks S.clients aC aP aT cC cP cT W h.st h.rm (h.picks.keep hb) (h.ticks.keep hb) ((h.rows.rows).keep hb) ?_ ?_ ?_ fun l hl => ⟨?_, fun c hc => ⟨hs.fits l hl c hc, ?_⟩⟩
  · have := hs.pl; omega
  · have := hs.tl; omega
  · have := hs.cl; omega
  · have := hs.ll l hl; omega
  · have := (hs.small l hl c hc).1; omega
set_option maxRecDepth 100000 in
set_option maxHeartbeats 4000000 in
theorem prints_bad {w : World} {S : ScrV} {aC aP aT : Option Addr} (h : InS w S aC aP aT) (cC cP cT : Nat) (hbad : ∃ l ∈ S.clients, ∃ c ∈ l, callW c = none) (hm : HasMax w) (ht : HasTab w) (he : HasErrs w) :
    Calls Tryd.prog 4 #[.agg #[.int .i64 S.stripes, .int .i64 S.room, .slice aC S.clients.length cC, .slice aP S.picks.length cP, .slice aT S.ticks.length cT]] w fun e w' => e = .returned (.bool true) ∧ Below w.heap.size w w' := by
  obtain ⟨W0, hW0⟩ : ∃ W0, W0 = w.alloc (.cells #[.int .i64 S.stripes, .int .i64 S.room, .slice aC S.clients.length cC, .slice aP S.picks.length cP, .slice aT S.ticks.length cT] 36) := ⟨_, rfl⟩
  have hb0 : Below w.heap.size w W0 := by rw [hW0]; exact (Below.refl _ _).alloc (Nat.le_refl _) _
  have g0 : W0.heap[w.heap.size]? = some (.cells #[.int .i64 S.stripes, .int .i64 S.room, .slice aC S.clients.length cC, .slice aP S.picks.length cP, .slice aT S.ticks.length cT] 36 (0, 0)) := by rw [hW0]; exact heap_alloc_new w _
  have hz0 : w.heap.size < W0.heap.size := by rw [hW0]; simp
  have HS : Hid (∀ W, Below W0.heap.size W0 W → W.cell? ⟨w.heap.size, 0, none⟩ = some (.int .i64 S.stripes) ∧ W.cell? ⟨w.heap.size, 1, none⟩ = some (.int .i64 S.room) ∧ W.cell? ⟨w.heap.size, 2, none⟩ = some (.slice aC S.clients.length cC) ∧ W.cell? ⟨w.heap.size, 3, none⟩ = some (.slice aP S.picks.length cP) ∧ W.cell? ⟨w.heap.size, 4, none⟩ = some (.slice aT S.ticks.length cT)) := Lib.hid fun W hb => by
    have g := (hb.block w.heap.size hz0).trans g0
    exact ⟨cell_at g rfl, cell_at g rfl, cell_at g rfl, cell_at g rfl, cell_at g rfl⟩
  have HM := Lib.hid (hm.below hb0)
  have HT := Lib.hid (ht.below hb0)
  have HB0 := Lib.hid hb0
  have HGR : Hid (∀ W, Below W0.heap.size W0 W → Calls Tryd.prog 11 #[.agg #[.int .i64 S.stripes, .int .i64 S.room, .slice aC S.clients.length cC, .slice aP S.picks.length cP, .slice aT S.ticks.length cT]] W fun e w' => Below W.heap.size W w' ∧ ∃ b, e = .returned (.bool b) ∧ (b = false → SmallS S)) := Lib.hid fun W hb => great_s h cC cP cT W (hb0.trans (hb.mono hb0.size))
  have HPR : Hid (SmallS S → ∀ W, Below W0.heap.size W0 W → Calls Tryd.prog 12 #[.agg #[.int .i64 S.stripes, .int .i64 S.room, .slice aC S.clients.length cC, .slice aP S.picks.length cP, .slice aT S.ticks.length cT]] W fun e w' => Below W.heap.size W w' ∧ e = .returned (.tuple #[.string ⟨#[]⟩, .int .i64 2])) := Lib.hid fun hs W hb => (print_s h hs cC cP cT W (hb0.trans (hb.mono hb0.size)) ((hm.below hb0).below hb) ((ht.below hb0).below hb)).mono fun e w' hp => ⟨hp.1, by
    rcases hp.2 with h1 | h1
    · exact h1.2
    · obtain ⟨l, hl, c, hc, hn⟩ := hbad
      exact absurd hn (h1.1 l hl c hc)⟩
  have HLN : Hid (SmallS S → ∀ W, Below W0.heap.size W0 W → Calls Tryd.prog 13 #[.agg #[.int .i64 S.stripes, .int .i64 S.room, .slice aC S.clients.length cC, .slice aP S.picks.length cP, .slice aT S.ticks.length cT]] W fun e w' => Below W.heap.size W w' ∧ e = .returned (.tuple #[.slice none 0 0, .bool false])) := Lib.hid fun hs W hb => (lines_s h hs cC cP cT W (hb0.trans (hb.mono hb0.size))).mono fun e w' hp => ⟨hp.1, by
    rcases hp.2 with h1 | h1
    · exact h1.2
    · obtain ⟨l, hl, c, hc, hn⟩ := hbad
      exact absurd hn (h1.1 l hl c hc)⟩
  have hbz := Below.refl W0.heap.size W0
  obtain ⟨y0, y1, y2, y3, y4⟩ := HS.out _ hbz
  clear hm ht he hb0 g0 h hbad
  go_enter Tryd.func4, Tryd.ntmps4
  go_upto_region 1 with fail
  rw [← hW0]
  clear hW0
  go_wp2_with (go_at_call 11; (with_reducible refine (HGR.out _ (by (repeat' (first | with_reducible assumption | with_reducible refine Below.drew ?_ | (with_reducible refine Below.alloc ?_ (by first | assumption | (simp; done) | (simp; omega)) _))))).mono ?_); rintro e w1 ⟨hb1, b, rfl, hG⟩; have HB1 : Hid (Below W0.heap.size W0 w1) := Lib.hid (Below.trans (by (repeat' (first | with_reducible assumption | with_reducible refine Below.drew ?_ | (with_reducible refine Below.alloc ?_ (by first | assumption | (simp; done) | (simp; omega)) _)))) hb1); have HG := Lib.hid hG; obtain ⟨z0, z1, z2, z3, z4⟩ := HS.out _ HB1.out; clear hb1 hG; cases b)
  · have hsm := HG.out (by trivial)
    have HPR1 := Lib.hid (HPR.out hsm)
    have HLN1 := Lib.hid (HLN.out hsm)
    clear hsm
    have hb1z := HB1.out
    go_wp2_with (first
      | (go_at_call 12; (with_reducible refine (HPR1.out _ (by (repeat' (first | with_reducible assumption | with_reducible refine Below.drew ?_ | (with_reducible refine Below.alloc ?_ (by first | assumption | (simp; done) | (simp; omega)) _))))).mono ?_); rintro e w2 ⟨hb2, rfl⟩; have hb2z : Below W0.heap.size W0 w2 := Below.trans (by (repeat' (first | with_reducible assumption | with_reducible refine Below.drew ?_ | (with_reducible refine Below.alloc ?_ (by first | assumption | (simp; done) | (simp; omega)) _)))) (hb2.mono hb1z.size); have HB2 := Lib.hid hb2z; obtain ⟨x0, x1, x2, x3, x4⟩ := HS.out _ hb2z; clear hb2)
      | (go_at_call 14; (with_reducible refine (like_any _ _ _ _ _ _ _ _ _ _ _ _).mono ?_); rintro e w3 ⟨rfl, hb3⟩; have hb3z : Below W0.heap.size W0 w3 := Below.trans (by (repeat' (first | with_reducible assumption | with_reducible refine Below.drew ?_ | (with_reducible refine Below.alloc ?_ (by first | assumption | (simp; done) | (simp; omega)) _)))) (hb3.mono hb2z.size); clear hb3)
      | (go_at_call 13; (with_reducible refine (HLN1.out _ (by (repeat' (first | with_reducible assumption | with_reducible refine Below.drew ?_ | (with_reducible refine Below.alloc ?_ (by first | assumption | (simp; done) | (simp; omega)) _))))).mono ?_); rintro e w4 ⟨hb4, rfl⟩; have hb4z : Below W0.heap.size W0 w4 := Below.trans (by (repeat' (first | with_reducible assumption | with_reducible refine Below.drew ?_ | (with_reducible refine Below.alloc ?_ (by first | assumption | (simp; done) | (simp; omega)) _)))) (hb4.mono hb3z.size); have HB4 := Lib.hid hb4z; clear hb4)
      | (go_at_call 7; (with_reducible refine (live_scr _ (HM.out.below HB4.out) (HT.out.below HB4.out)).mono ?_); rintro e w5 ⟨rfl, hb5⟩; have HB5 : Hid (Below w.heap.size w w5) := Lib.hid (HB0.out.trans ((HB4.out.trans (hb5.mono HB4.out.size)).mono HB0.out.size)); clear hb5))
    go_ret
    exact ⟨rfl, HB5.out⟩
  · go_wp2_with (go_at_call 7; (with_reducible refine (live_scr _ (HM.out.below HB1.out) (HT.out.below HB1.out)).mono ?_); rintro e w5 ⟨rfl, hb5⟩; have HB5 : Hid (Below w.heap.size w w5) := Lib.hid (HB0.out.trans ((HB1.out.trans (hb5.mono HB1.out.size)).mono HB0.out.size)); clear hb5)
    go_ret
    exact ⟨rfl, HB5.out⟩
set_option maxRecDepth 100000 in
set_option maxHeartbeats 4000000 in
theorem prints_good {w : World} {S : ScrV} {aC aP aT : Option Addr} (h : InS w S aC aP aT) (cC cP cT : Nat) (hall : ∀ l ∈ S.clients, ∀ c ∈ l, callW c ≠ none) (hm : HasMax w) (ht : HasTab w) (he : HasErrs w) :
    Calls Tryd.prog 4 #[.agg #[.int .i64 S.stripes, .int .i64 S.room, .slice aC S.clients.length cC, .slice aP S.picks.length cP, .slice aT S.ticks.length cT]] w fun e w' => e = .returned (.bool true) ∧ Below w.heap.size w w' := by
  obtain ⟨W0, hW0⟩ : ∃ W0, W0 = w.alloc (.cells #[.int .i64 S.stripes, .int .i64 S.room, .slice aC S.clients.length cC, .slice aP S.picks.length cP, .slice aT S.ticks.length cT] 36) := ⟨_, rfl⟩
  have hb0 : Below w.heap.size w W0 := by rw [hW0]; exact (Below.refl _ _).alloc (Nat.le_refl _) _
  have g0 : W0.heap[w.heap.size]? = some (.cells #[.int .i64 S.stripes, .int .i64 S.room, .slice aC S.clients.length cC, .slice aP S.picks.length cP, .slice aT S.ticks.length cT] 36 (0, 0)) := by rw [hW0]; exact heap_alloc_new w _
  have hz0 : w.heap.size < W0.heap.size := by rw [hW0]; simp
  have HS : Hid (∀ W, Below W0.heap.size W0 W → W.cell? ⟨w.heap.size, 0, none⟩ = some (.int .i64 S.stripes) ∧ W.cell? ⟨w.heap.size, 1, none⟩ = some (.int .i64 S.room) ∧ W.cell? ⟨w.heap.size, 2, none⟩ = some (.slice aC S.clients.length cC) ∧ W.cell? ⟨w.heap.size, 3, none⟩ = some (.slice aP S.picks.length cP) ∧ W.cell? ⟨w.heap.size, 4, none⟩ = some (.slice aT S.ticks.length cT)) := Lib.hid fun W hb => by
    have g := (hb.block w.heap.size hz0).trans g0
    exact ⟨cell_at g rfl, cell_at g rfl, cell_at g rfl, cell_at g rfl, cell_at g rfl⟩
  have HM := Lib.hid (hm.below hb0)
  have HT := Lib.hid (ht.below hb0)
  have HB0 := Lib.hid hb0
  have HGR : Hid (∀ W, Below W0.heap.size W0 W → Calls Tryd.prog 11 #[.agg #[.int .i64 S.stripes, .int .i64 S.room, .slice aC S.clients.length cC, .slice aP S.picks.length cP, .slice aT S.ticks.length cT]] W fun e w' => Below W.heap.size W w' ∧ ∃ b, e = .returned (.bool b) ∧ (b = false → SmallS S)) := Lib.hid fun W hb => great_s h cC cP cT W (hb0.trans (hb.mono hb0.size))
  have HPR : Hid (SmallS S → ∀ W, Below W0.heap.size W0 W → Calls Tryd.prog 12 #[.agg #[.int .i64 S.stripes, .int .i64 S.room, .slice aC S.clients.length cC, .slice aP S.picks.length cP, .slice aT S.ticks.length cT]] W fun e w' => Below W.heap.size W w' ∧ e = .returned (.tuple #[.string (bs (printL S)), .int .i64 0])) := Lib.hid fun hs W hb => (print_s h hs cC cP cT W (hb0.trans (hb.mono hb0.size)) ((hm.below hb0).below hb) ((ht.below hb0).below hb)).mono fun e w' hp => ⟨hp.1, by
    have hl := hs.len
    rcases hp.2 with h1 | ⟨_, h1 | h1⟩
    · obtain ⟨⟨l, hl, c, hc, hn⟩, _⟩ := h1
      exact absurd hn (hall l hl c hc)
    · exact absurd h1.1 (by omega)
    · exact h1.2⟩
  obtain ⟨ws, hws⟩ : ∃ ws, ws = headLs S.stripes S.room S.picks S.ticks ++ S.clients.flatMap clientLs := ⟨_, rfl⟩
  have htx : textL ws = printL S := by rw [hws]; exact text_lines hall
  have HLN : Hid (SmallS S → ∀ W, Below W0.heap.size W0 W → Calls Tryd.prog 13 #[.agg #[.int .i64 S.stripes, .int .i64 S.room, .slice aC S.clients.length cC, .slice aP S.picks.length cP, .slice aT S.ticks.length cT]] W fun e w' => Below W.heap.size W w' ∧ ∃ la lc, e = .returned (.tuple #[.slice la ws.length lc, .bool true]) ∧ Shows w' la ws) := Lib.hid fun hs W hb => (lines_s h hs cC cP cT W (hb0.trans (hb.mono hb0.size))).mono fun e w' hp => ⟨hp.1, by
    rcases hp.2 with h1 | ⟨_, v, he, ho⟩
    · obtain ⟨⟨l, hl, c, hc, hn⟩, _⟩ := h1
      exact absurd hn (hall l hl c hc)
    · rw [← hws] at ho
      obtain ⟨la, lc, rfl, _, _, hsh⟩ := shows_of ho
      exact ⟨la, lc, he, hsh⟩⟩
  have HTX : Hid (SmallS S → ∀ la lc W, Shows W la ws → Calls Tryd.prog 16 #[.slice la ws.length lc] W fun e w' => e = .returned (.string (bs (printL S))) ∧ w' = W) := Lib.hid fun hs la lc W hsh => by
    have hl := hs.len
    have hwl : ws.length ≤ 1048576 := by
      have := textL_lines ws
      rw [htx] at this
      omega
    rw [← htx]
    exact rtext_any ws la lc W hsh (by omega) (by rw [htx]; omega)
  have hfine := fine_of h hall
  have HPA : Hid (SmallS S → ∀ W, Below W0.heap.size W0 W → Calls Tryd.prog 15 #[.string (bs (printL S))] W fun e w' => Below W.heap.size W w' ∧ ∃ aC' cC' aP' cP' aT' cT', e = .returned (.tuple #[.agg #[.int .i64 S.stripes, .int .i64 S.room, .slice aC' S.clients.length cC', .slice aP' S.picks.length cP', .slice aT' S.ticks.length cT'], .int .i64 0, .int .i64 0]) ∧ Ints w' aP' S.picks ∧ Ints w' aT' S.ticks ∧ RowsP w' aC' (S.clients.map fun l => l.map ownV)) := Lib.hid fun hs W hb => by
    refine (parse_any (bs (printL S)) W ((hm.below hb0).below hb) ((ht.below hb0).below hb) ((he.below hb0).below hb) (by rw [size_bs]; exact hs.len)).mono ?_
    rintro e w' ⟨hbp, hp⟩
    refine ⟨hbp, ?_⟩
    rw [bs_list, print_parse hfine] at hp
    simp only at hp
    rw [if_neg (by omega)] at hp
    obtain ⟨vC, vP, vT, hiP, hiT, hrC, rfl⟩ := hp
    obtain ⟨aP', cP', rfl⟩ : ∃ aP cP, vP = .slice aP S.picks.length cP := (by obtain ⟨a, c, h, _⟩ := hiP; exact ⟨a, c, h⟩)
    obtain ⟨aT', cT', rfl⟩ : ∃ aT cT, vT = .slice aT S.ticks.length cT := (by obtain ⟨a, c, h, _⟩ := hiT; exact ⟨a, c, h⟩)
    obtain ⟨aC', cC', rfl⟩ : ∃ aC cC, vC = .slice aC (ownS S).clients.length cC := (by obtain ⟨_, _, _, _, ho, _⟩ := hrC; exact own_slice ho)
    have hr := hrC.plain.2
    have e1 : (ownS S).clients.length = S.clients.length := List.length_map _
    rw [e1]
    exact ⟨aC', cC', aP', cP', aT', cT', rfl, hiP.plain.2, hiT.plain.2, hr⟩
  have HAL : Hid (SmallS S → ∀ (bC bP bT : Option Addr) (dC dP dT : Nat) (W : World), Below W0.heap.size W0 W → Ints W bP S.picks → Ints W bT S.ticks → RowsP W bC (S.clients.map fun l => l.map ownV) → Calls Tryd.prog 17 #[.agg #[.int .i64 S.stripes, .int .i64 S.room, .slice bC S.clients.length dC, .slice bP S.picks.length dP, .slice bT S.ticks.length dT], .agg #[.int .i64 S.stripes, .int .i64 S.room, .slice aC S.clients.length cC, .slice aP S.picks.length cP, .slice aT S.ticks.length cT]] W fun e w' => e = .returned (.bool true) ∧ Below W.heap.size W w') := Lib.hid fun hs bC bP bT dC dP dT W hb h1 h2 h3 =>
    have hb' := hb0.trans (hb.mono hb0.size)
    alike_yes S.stripes S.room S.picks S.ticks S.clients bC aC bP aP bT aT dC cC dP cP dT cT W h1 (h.picks.keep hb') h2 (h.ticks.keep hb') h3 (h.rows.keep hb') (by have := hs.pl; omega) (by have := hs.tl; omega) (by have := hs.cl; omega) (fun l hl => ⟨by have := hs.ll l hl; omega, fun c hc => by have := (hs.small l hl c hc).2; omega⟩)
  have hbz := Below.refl W0.heap.size W0
  obtain ⟨y0, y1, y2, y3, y4⟩ := HS.out _ hbz
  clear hm ht he hb0 g0 h hall htx hws hfine
  go_enter Tryd.func4, Tryd.ntmps4
  go_upto_region 1 with fail
  rw [← hW0]
  clear hW0
  go_wp2_with (go_at_call 11; (with_reducible refine (HGR.out _ (by (repeat' (first | with_reducible assumption | with_reducible refine Below.drew ?_ | (with_reducible refine Below.alloc ?_ (by first | assumption | (simp; done) | (simp; omega)) _))))).mono ?_); rintro e w1 ⟨hb1, b, rfl, hG⟩; have HB1 : Hid (Below W0.heap.size W0 w1) := Lib.hid (Below.trans (by (repeat' (first | with_reducible assumption | with_reducible refine Below.drew ?_ | (with_reducible refine Below.alloc ?_ (by first | assumption | (simp; done) | (simp; omega)) _)))) hb1); have HG := Lib.hid hG; obtain ⟨z0, z1, z2, z3, z4⟩ := HS.out _ HB1.out; clear hb1 hG; cases b)
  · have hsm := HG.out (by trivial)
    have HPR1 := Lib.hid (HPR.out hsm)
    have HLN1 := Lib.hid (HLN.out hsm)
    have HTX1 := Lib.hid (HTX.out hsm)
    have HPA1 := Lib.hid (HPA.out hsm)
    have HAL1 := Lib.hid (HAL.out hsm)
    clear hsm
    have hb1z := HB1.out
    generalize printL S = T at *
    go_wp2_with (first
      | (go_at_call 12; (with_reducible refine (HPR1.out _ (by (repeat' (first | with_reducible assumption | with_reducible refine Below.drew ?_ | (with_reducible refine Below.alloc ?_ (by first | assumption | (simp; done) | (simp; omega)) _))))).mono ?_); rintro e w2 ⟨hb2, rfl⟩; have hb2z : Below W0.heap.size W0 w2 := Below.trans (by (repeat' (first | with_reducible assumption | with_reducible refine Below.drew ?_ | (with_reducible refine Below.alloc ?_ (by first | assumption | (simp; done) | (simp; omega)) _)))) (hb2.mono hb1z.size); have HB2 := Lib.hid hb2z; obtain ⟨x0, x1, x2, x3, x4⟩ := HS.out _ hb2z; clear hb2)
      | (go_at_call 14; (with_reducible refine (like_any _ _ _ _ _ _ _ _ _ _ _ _).mono ?_); rintro e w3 ⟨rfl, hb3⟩; have hb3z : Below W0.heap.size W0 w3 := Below.trans (by (repeat' (first | with_reducible assumption | with_reducible refine Below.drew ?_ | (with_reducible refine Below.alloc ?_ (by first | assumption | (simp; done) | (simp; omega)) _)))) (hb3.mono hb2z.size); clear hb3)
      | (go_at_call 13; (with_reducible refine (HLN1.out _ (by (repeat' (first | with_reducible assumption | with_reducible refine Below.drew ?_ | (with_reducible refine Below.alloc ?_ (by first | assumption | (simp; done) | (simp; omega)) _))))).mono ?_); rintro e w4 ⟨hb4, la, lc, rfl, hsh⟩; have hb4z : Below W0.heap.size W0 w4 := Below.trans (by (repeat' (first | with_reducible assumption | with_reducible refine Below.drew ?_ | (with_reducible refine Below.alloc ?_ (by first | assumption | (simp; done) | (simp; omega)) _)))) (hb4.mono hb3z.size); have HB4 := Lib.hid hb4z; have HSH := Lib.hid hsh; clear hb4 hsh)
      | (go_at_call 15; (with_reducible refine (HPA1.out _ (by (repeat' (first | with_reducible assumption | with_reducible refine Below.drew ?_ | (with_reducible refine Below.alloc ?_ (by first | assumption | (simp; done) | (simp; omega)) _))))).mono ?_); rintro e w5 ⟨hb5, bC, dC, bP, dP, bT, dT, rfl, hiP, hiT, hrC⟩; have hb5z : Below W0.heap.size W0 w5 := Below.trans (by (repeat' (first | with_reducible assumption | with_reducible refine Below.drew ?_ | (with_reducible refine Below.alloc ?_ (by first | assumption | (simp; done) | (simp; omega)) _)))) (hb5.mono hb4z.size); have HB5 := Lib.hid hb5z; have HSH5 := Lib.hid (HSH.out.below hb5); have HIP := Lib.hid hiP; have HIT := Lib.hid hiT; have HRC := Lib.hid hrC; have hb5r := Below.refl w5.heap.size w5; obtain ⟨p0, p1, p2, p3, p4⟩ := HS.out _ hb5z; have hz5 : w.heap.size < w5.heap.size := Nat.lt_of_lt_of_le hz0 hb5z.size; clear hb5 hiP hiT hrC))
    obtain ⟨W6, hW6⟩ : ∃ W6, W6 = w5.alloc (.cells #[.int .i64 S.stripes, .int .i64 S.room, .slice bC S.clients.length dC, .slice bP S.picks.length dP, .slice bT S.ticks.length dT] 36) := ⟨_, rfl⟩
    have hb6 : Below w5.heap.size w5 W6 := by rw [hW6]; exact hb5r.alloc (Nat.le_refl _) _
    have g6 : W6.heap[w5.heap.size]? = some (.cells #[.int .i64 S.stripes, .int .i64 S.room, .slice bC S.clients.length dC, .slice bP S.picks.length dP, .slice bT S.ticks.length dT] 36 (0, 0)) := by rw [hW6]; exact heap_alloc_new w5 _
    have hz6 : w5.heap.size < W6.heap.size := by rw [hW6]; simp
    have HB6 : Hid (Below W0.heap.size W0 W6) := Lib.hid (HB5.out.trans (hb6.mono HB5.out.size))
    have hb6z := Below.refl W6.heap.size W6
    have HSX : Hid (∀ W, Below W6.heap.size W6 W → (W.cell? ⟨w.heap.size, 0, none⟩ = some (.int .i64 S.stripes) ∧ W.cell? ⟨w.heap.size, 1, none⟩ = some (.int .i64 S.room) ∧ W.cell? ⟨w.heap.size, 2, none⟩ = some (.slice aC S.clients.length cC) ∧ W.cell? ⟨w.heap.size, 3, none⟩ = some (.slice aP S.picks.length cP) ∧ W.cell? ⟨w.heap.size, 4, none⟩ = some (.slice aT S.ticks.length cT)) ∧ (W.cell? ⟨w5.heap.size, 0, none⟩ = some (.int .i64 S.stripes) ∧ W.cell? ⟨w5.heap.size, 1, none⟩ = some (.int .i64 S.room) ∧ W.cell? ⟨w5.heap.size, 2, none⟩ = some (.slice bC S.clients.length dC) ∧ W.cell? ⟨w5.heap.size, 3, none⟩ = some (.slice bP S.picks.length dP) ∧ W.cell? ⟨w5.heap.size, 4, none⟩ = some (.slice bT S.ticks.length dT))) := Lib.hid fun W hb => by
      have g := (hb.block w5.heap.size hz6).trans g6
      exact ⟨HS.out W (HB6.out.trans (hb.mono HB6.out.size)), cell_at g rfl, cell_at g rfl, cell_at g rfl, cell_at g rfl, cell_at g rfl⟩
    have HSH6 := Lib.hid (HSH5.out.below hb6)
    have HIP6 := Lib.hid (HIP.out.keep hb6)
    have HIT6 := Lib.hid (HIT.out.keep hb6)
    have HRC6 := Lib.hid (HRC.out.keep hb6)
    have HB06 : Hid (∀ W, Below W6.heap.size W6 W → Below W0.heap.size W0 W) := Lib.hid fun W hb => HB6.out.trans (hb.mono HB6.out.size)
    rw [← hW6]
    clear hW6 hb6 g6
    go_region_held3 (fun W => (W.cell? ⟨w.heap.size, 0, none⟩ = some (.int .i64 S.stripes) ∧ W.cell? ⟨w.heap.size, 1, none⟩ = some (.int .i64 S.room) ∧ W.cell? ⟨w.heap.size, 2, none⟩ = some (.slice aC S.clients.length cC) ∧ W.cell? ⟨w.heap.size, 3, none⟩ = some (.slice aP S.picks.length cP) ∧ W.cell? ⟨w.heap.size, 4, none⟩ = some (.slice aT S.ticks.length cT)) ∧ (W.cell? ⟨w5.heap.size, 0, none⟩ = some (.int .i64 S.stripes) ∧ W.cell? ⟨w5.heap.size, 1, none⟩ = some (.int .i64 S.room) ∧ W.cell? ⟨w5.heap.size, 2, none⟩ = some (.slice bC S.clients.length dC) ∧ W.cell? ⟨w5.heap.size, 3, none⟩ = some (.slice bP S.picks.length dP) ∧ W.cell? ⟨w5.heap.size, 4, none⟩ = some (.slice bT S.ticks.length dT))) (first | exact HSX.out _ (by (repeat' (first | with_reducible assumption | with_reducible refine Below.drew ?_ | (with_reducible refine Below.alloc ?_ (by first | assumption | (simp; done) | (simp; omega)) _)))))
      ((first
      | (go_at_call 16; (with_reducible refine (HTX1.out _ _ _ (HSH6.out.below (by (repeat' (first | with_reducible assumption | with_reducible refine Below.drew ?_ | (with_reducible refine Below.alloc ?_ (by first | assumption | (simp; done) | (simp; omega)) _)))))).mono ?_); rintro e w7 ⟨rfl, rfl⟩)
      | (go_at_call 14; (with_reducible refine (like_any _ _ _ _ _ _ _ _ _ _ _ _).mono ?_); rintro e w8 ⟨rfl, hb8⟩; have hb8z : Below W6.heap.size W6 w8 := Below.trans (by (repeat' (first | with_reducible assumption | with_reducible refine Below.drew ?_ | (with_reducible refine Below.alloc ?_ (by first | assumption | (simp; done) | (simp; omega)) _)))) (hb8.mono (by simp)); clear hb8)
      | (go_at_call 17; (with_reducible refine (HAL1.out _ _ _ _ _ _ _ (HB06.out _ (by (repeat' (first | with_reducible assumption | with_reducible refine Below.drew ?_ | (with_reducible refine Below.alloc ?_ (by first | assumption | (simp; done) | (simp; omega)) _))))) (HIP6.out.keep (by (repeat' (first | with_reducible assumption | with_reducible refine Below.drew ?_ | (with_reducible refine Below.alloc ?_ (by first | assumption | (simp; done) | (simp; omega)) _))))) (HIT6.out.keep (by (repeat' (first | with_reducible assumption | with_reducible refine Below.drew ?_ | (with_reducible refine Below.alloc ?_ (by first | assumption | (simp; done) | (simp; omega)) _))))) (HRC6.out.keep (by (repeat' (first | with_reducible assumption | with_reducible refine Below.drew ?_ | (with_reducible refine Below.alloc ?_ (by first | assumption | (simp; done) | (simp; omega)) _)))))).mono ?_); rintro e w9 ⟨rfl, hb9⟩; have hb9z : Below W6.heap.size W6 w9 := Below.trans (by (repeat' (first | with_reducible assumption | with_reducible refine Below.drew ?_ | (with_reducible refine Below.alloc ?_ (by first | assumption | (simp; done) | (simp; omega)) _)))) (hb9.mono hb8z.size); clear hb9)
      | (go_at_call 7; (with_reducible refine (live_scr _ (HM.out.below (HB06.out _ hb9z)) (HT.out.below (HB06.out _ hb9z))).mono ?_); rintro e w10 ⟨rfl, hb10⟩; have hb10z : Below W6.heap.size W6 w10 := hb9z.trans (hb10.mono hb9z.size); have HBE : Hid (Below w.heap.size w w10) := Lib.hid (HB0.out.trans ((HB06.out _ hb10z).mono HB0.out.size)); clear hb10)))
    go_wp2_with fail
    go_ret
    exact ⟨rfl, HBE.out⟩
  · go_wp2_with (go_at_call 7; (with_reducible refine (live_scr _ (HM.out.below HB1.out) (HT.out.below HB1.out)).mono ?_); rintro e w5 ⟨rfl, hb5⟩; have HB5 : Hid (Below w.heap.size w w5) := Lib.hid (HB0.out.trans ((HB1.out.trans (hb5.mono HB1.out.size)).mono HB0.out.size)); clear hb5)
    go_ret
    exact ⟨rfl, HB5.out⟩
theorem prints_law {w : World} {S : ScrV} {aC aP aT : Option Addr} (h : InS w S aC aP aT) (cC cP cT : Nat) (hm : HasMax w) (ht : HasTab w) (he : HasErrs w) :
    Calls Tryd.prog 4 #[.agg #[.int .i64 S.stripes, .int .i64 S.room, .slice aC S.clients.length cC, .slice aP S.picks.length cP, .slice aT S.ticks.length cT]] w fun e w' => e = .returned (.bool true) ∧ Below w.heap.size w w' := by
  by_cases hall : ∀ l ∈ S.clients, ∀ c ∈ l, callW c ≠ none
  · exact prints_good h cC cP cT hall hm ht he
  · refine prints_bad h cC cP cT ?_ hm ht he
    simpa using hall
end Go.Proofs.YtplhmcmfdcklaaaDoor.Lex
