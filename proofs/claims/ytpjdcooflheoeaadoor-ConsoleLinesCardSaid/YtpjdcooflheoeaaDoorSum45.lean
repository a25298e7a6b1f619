/- load: sums. -/
import Derived.Test.YtpjdcooflheoeaaDoorOne45
namespace Go.Proofs.YtpjdcooflheoeaaDoor.Lex
open Go.RowKit
set_option linter.unusedSimpArgs false
set_option linter.unusedVariables false
def addV (s x : LoadV) : LoadV := ⟨s.c + x.c, s.e + x.e, s.n + x.n, max s.l x.l⟩
structure LoadV.Fits (x : LoadV) (B : Nat) : Prop where
  c : x.c ≤ B
  e : x.e ≤ B
  n : x.n ≤ B
  l0 : 0 ≤ x.l
  l1 : x.l ≤ 1152921504606846976
abbrev zeroV : LoadV := ⟨0, 0, 0, 0⟩
theorem addV_zero {s : LoadV} (h : 0 ≤ s.l) : addV s zeroV = s := by
  obtain ⟨c, e, n, l⟩ := s
  simp only [addV, Nat.add_zero]
  congr 1
  simp only at h
  omega
theorem addV_fits {s x : LoadV} {A B : Nat} (h : s.Fits A) (k : x.Fits B) : (addV s x).Fits (A + B) :=
  ⟨by have := h.c; have := k.c; simp only [addV]; omega, by have := h.e; have := k.e; simp only [addV]; omega, by have := h.n; have := k.n; simp only [addV]; omega, by have := h.l0; have := k.l0; simp only [addV]; omega, by have := h.l1; have := k.l1; simp only [addV]; omega⟩
abbrev LoadV.cells (x : LoadV) : Array Value := #[.int .i64 x.c, .int .i64 x.e, .int .i64 x.n, .int .i64 x.l]
theorem set4 {W : World} {b : Nat} {T : TypeId} {v0 v1 v2 v3 : Value} (h : W.heap[b]? = some (.cells #[v0, v1, v2, v3] T (0, 0))) (u0 u1 u2 u3 : Value) :
    ((((W.setCell ⟨b, 0, none⟩ u0).setCell ⟨b, 1, none⟩ u1).setCell ⟨b, 2, none⟩ u2).setCell ⟨b, 3, none⟩ u3).heap[b]? = some (.cells #[u0, u1, u2, u3] T (0, 0)) :=
  heap_set_at (o := 3) u3 (heap_set_at (o := 2) u2 (heap_set_at (o := 1) u1 (heap_set_at (o := 0) u0 h)))
theorem set4_other {W : World} {b c : Nat} (h : c ≠ b) (u0 u1 u2 u3 : Value) :
    ((((W.setCell ⟨b, 0, none⟩ u0).setCell ⟨b, 1, none⟩ u1).setCell ⟨b, 2, none⟩ u2).setCell ⟨b, 3, none⟩ u3).heap[c]? = W.heap[c]? := by
  rw [Below.heap_setCell _ _ _ _ h, Below.heap_setCell _ _ _ _ h, Below.heap_setCell _ _ _ _ h, Below.heap_setCell _ _ _ _ h]
theorem set4_below {A W : World} {b n : Nat} (h : Below n A W) (hb : n ≤ b) (u0 u1 u2 u3 : Value) :
    Below n A ((((W.setCell ⟨b, 0, none⟩ u0).setCell ⟨b, 1, none⟩ u1).setCell ⟨b, 2, none⟩ u2).setCell ⟨b, 3, none⟩ u3) :=
  (((h.setCell hb _).setCell hb _).setCell hb _).setCell hb _
def sK (x y : LoadV) (k : Nat) : LoadV := if k = 0 then zeroV else if k = 1 then x else addV x y
structure SumSt (w : World) (x y : LoadV) (k : Nat) (wr : World) : Prop where
  r : wr.heap[w.heap.size]? = some (.cells zeroV.cells 54 (0, 0))
  s : wr.heap[w.heap.size + 1]? = some (.cells (sK x y k).cells 54 (0, 0))
  below : Below w.heap.size w wr
  size : w.heap.size + 2 ≤ wr.heap.size
set_option maxRecDepth 100000 in
set_option maxHeartbeats 4000000 in
theorem sum_any (x y : LoadV) (g : Nat) (w : World) (hg : w.heap[g]? = some (.cells #[.int .i64 x.c, .int .i64 x.e, .int .i64 x.n, .int .i64 x.l, .int .i64 y.c, .int .i64 y.e, .int .i64 y.n, .int .i64 y.l] 54 (0, 0))) (hx : x.Fits 1099511627776) (hy : y.Fits 1099511627776) (hx0 : x = zeroV ∨ 1 ≤ x.c) (hy0 : 1 ≤ y.c) :
    Calls Tryd.prog 28 #[.slice (some ⟨g, 0, none⟩) 2 2] w fun e w' => e = .returned (addV x y).val ∧ Below w.heap.size w w' := by
  have hgl : g < w.heap.size := (Array.getElem?_eq_some_iff.1 hg).1
  have HG : Hid (∀ W, Below w.heap.size w W → W.heap[g]? = some (.cells #[.int .i64 x.c, .int .i64 x.e, .int .i64 x.n, .int .i64 x.l, .int .i64 y.c, .int .i64 y.e, .int .i64 y.n, .int .i64 y.l] 54 (0, 0))) := Lib.hid fun W hb => (hb.block _ hgl).trans hg
  have HX0 := Lib.hid hx0
  have HX := Lib.hid hx
  have HY := Lib.hid hy
  clear hg hx0 hx hy
  go_enter Tryd.func28, Tryd.ntmps28
  go_wp2_with fail
  go_loopg [8] 2 (fun gh iv wr => ∃ k : Nat, k ≤ 2 ∧ gh = 2 - k ∧ iv = .int .i64 (k : Int) ∧ SumSt w x y k wr)
  case atStart =>
    refine ⟨0, by omega, rfl, rfl, ?_, ?_, ?_, by simp⟩
    · rw [Lib.alloc_old _ _ _ (by simp)]; exact heap_alloc_new w _
    · have h2 := heap_alloc_new (w.alloc (.cells #[.int .i64 0, .int .i64 0, .int .i64 0, .int .i64 0] 54)) (.cells #[.int .i64 0, .int .i64 0, .int .i64 0, .int .i64 0] 54)
      rw [show (w.alloc (.cells #[.int .i64 0, .int .i64 0, .int .i64 0, .int .i64 0] 54)).heap.size = w.heap.size + 1 by simp] at h2
      exact h2
    · exact ((Below.refl _ _).alloc (Nat.le_refl _) _).alloc (by simp) _
  case round =>
    obtain ⟨k, hk, rfl, rfl, hst⟩ := hrel
    obtain ⟨wo, rfl⟩ : ∃ wo : World, wo = wr := ⟨_, rfl⟩
    have gg := HG.out wo hst.below
    have hS := hst.s
    have hR := hst.r
    have HST := Lib.hid hst
    have hzo := hst.size
    have hz1 : w.heap.size < wo.heap.size := by omega
    have hz2 : w.heap.size + 1 < wo.heap.size := by omega
    have hne : ¬ w.heap.size = w.heap.size + 1 := by omega
    clear hst
    rcases (by omega : k = 0 ∨ k = 1 ∨ k = 2) with rfl | rfl | rfl
    · have hS0 : wo.heap[w.heap.size + 1]? = some (.cells #[.int .i64 0, .int .i64 0, .int .i64 0, .int .i64 0] 54 (0, 0)) := hS
      clear hS
      have a0 := cell_at (o := 0) gg rfl
      have a1 := cell_at (o := 1) gg rfl
      have a2 := cell_at (o := 2) gg rfl
      have a3 := cell_at (o := 3) gg rfl
      have s0 := cell_at (o := 0) hS0 rfl
      have s1 := cell_at (o := 1) hS0 rfl
      have s2 := cell_at (o := 2) hS0 rfl
      have s3 := cell_at (o := 3) hS0 rfl
      have f0 := free_at (o := 0) hS0
      have f1 := free_at (o := 1) hS0
      have f2 := free_at (o := 2) hS0
      have f3 := free_at (o := 3) hS0
      have HSS := Lib.hid hS0
      clear gg hS0
      rcases HX0.out with rfl | h1
      · go_wp2_with fail
        go_roundg 1
        case measure => omega
        case rel => exact ⟨1, by omega, rfl, rfl, ⟨(Lib.alloc_old _ _ _ (by omega)).trans HST.out.r, (Lib.alloc_old _ _ _ (by omega)).trans HST.out.s, HST.out.below.alloc (by omega) _, by simp; omega⟩⟩
      · have hxn : ¬ (x.c : Int) = 0 := by omega
        have h2 := HX.out.c
        have h3 := HX.out.e
        have h4 := HX.out.n
        have h5 := HX.out.l0
        have hmx : max 0 x.l = x.l := by omega
        go_wp2_with fail
        go_roundg 1
        case measure => omega
        case rel => exact ⟨1, by omega, rfl, rfl, ⟨(Lib.alloc_old _ _ _ (by simp; omega)).trans ((set4_other hne _ _ _ _).trans HST.out.r), (Lib.alloc_old _ _ _ (by simp; omega)).trans (set4 HSS.out _ _ _ _), (set4_below HST.out.below (by omega) _ _ _ _).alloc (by simp; omega) _, by simp; omega⟩⟩
    · have hS0 : wo.heap[w.heap.size + 1]? = some (.cells #[.int .i64 x.c, .int .i64 x.e, .int .i64 x.n, .int .i64 x.l] 54 (0, 0)) := hS
      clear hS
      have a0 := cell_at (o := 4) gg rfl
      have a1 := cell_at (o := 5) gg rfl
      have a2 := cell_at (o := 6) gg rfl
      have a3 := cell_at (o := 7) gg rfl
      have s0 := cell_at (o := 0) hS0 rfl
      have s1 := cell_at (o := 1) hS0 rfl
      have s2 := cell_at (o := 2) hS0 rfl
      have s3 := cell_at (o := 3) hS0 rfl
      have f0 := free_at (o := 0) hS0
      have f1 := free_at (o := 1) hS0
      have f2 := free_at (o := 2) hS0
      have f3 := free_at (o := 3) hS0
      have HSS := Lib.hid hS0
      clear gg hS0
      have hyn : ¬ (y.c : Int) = 0 := by omega
      have h2 := HX.out.c
      have h3 := HX.out.e
      have h4 := HX.out.n
      have h5 := HX.out.l0
      have k2 := HY.out.c
      have k3 := HY.out.e
      have k4 := HY.out.n
      go_wp2_with fail
      go_roundg 0
      case measure => omega
      case rel => exact ⟨2, by omega, rfl, rfl, ⟨(Lib.alloc_old _ _ _ (by simp; omega)).trans ((set4_other hne _ _ _ _).trans HST.out.r), (Lib.alloc_old _ _ _ (by simp; omega)).trans (set4 HSS.out _ _ _ _), (set4_below HST.out.below (by omega) _ _ _ _).alloc (by simp; omega) _, by simp; omega⟩⟩
    · have hS0 : wo.heap[w.heap.size + 1]? = some (.cells (addV x y).cells 54 (0, 0)) := hS
      clear hS gg
      have s0 := cell_at (o := 0) hS0 rfl
      have s1 := cell_at (o := 1) hS0 rfl
      have s2 := cell_at (o := 2) hS0 rfl
      have s3 := cell_at (o := 3) hS0 rfl
      have r0 := cell_at (o := 0) hR rfl
      have r1 := cell_at (o := 1) hR rfl
      have r2 := cell_at (o := 2) hR rfl
      have r3 := cell_at (o := 3) hR rfl
      have q0 := free_at (o := 0) hR
      have q1 := free_at (o := 1) hR
      have q2 := free_at (o := 2) hR
      have q3 := free_at (o := 3) hR
      clear hS0 hR
      obtain ⟨z, hz⟩ : ∃ z, z = addV x y := ⟨_, rfl⟩
      have HZ := Lib.hid hz
      rw [← hz] at s0 s1 s2 s3
      clear hz
      go_wp2_with fail
      refine bodyPost_ret (v := z.val) (by simp [results, Tryd.results28, go_sem, *]) rfl ⟨by rw [← HZ.out], set4_below HST.out.below (Nat.le_refl _) _ _ _ _⟩
end Go.Proofs.YtpjdcooflheoeaaDoor.Lex
