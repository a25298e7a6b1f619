/- load: of one call. -/
import Derived.Test.YtpjdcooflheoeaaDoorPLine
import Derived.Test.YtpjdcooflheoeaaDoorRow
import Derived.Deep.RegionHeld3
import Derived.Deep.DeepCutAuto
namespace Go.Proofs.YtpjdcooflheoeaaDoor.Lex
open Go.RowKit
set_option linter.unusedSimpArgs false
set_option linter.unusedVariables false
/-- A call and what it told: of what is read the numbers, of the rest its cells. -/
structure OpV where
  x0 : Value
  x1 : Value
  ki : Int
  x3 : Value
  x4 : Value
  x5 : Value
  x6 : Value
  x7 : Value
  x8 : Value
  e : Int
  x10 : Value
  x11 : Value
  x12 : Value
  x13 : Value
  x14 : Value
  x15 : Value
  x16 : Value
  fr : Int
  til : Int
def OpV.cells (o : OpV) : List Value := [o.x0, o.x1, .int .i64 o.ki, o.x3, o.x4, o.x5, o.x6, o.x7, o.x8, .int .i64 o.e, o.x10, o.x11, o.x12, o.x13, o.x14, o.x15, o.x16, .int .i64 o.fr, .int .i64 o.til]
structure OpV.Ok (o : OpV) : Prop where
  ki : InI o.ki
  e : InI o.e
  fr : InI o.fr
  til : InI o.til
  one : ∀ u ∈ o.cells, u.oneCell' = true
/-- How long it took. -/
def lastV (fr til : Int) : Int := if til ≤ fr then 0 else if til - fr < 1152921504606846976 then til - fr else 1152921504606846976
theorem lastV_in (fr til : Int) : 0 ≤ lastV fr til ∧ lastV fr til ≤ 1152921504606846976 := by
  unfold lastV
  split
  · omega
  · split <;> omega
set_option maxRecDepth 100000 in
theorem ended_any (o : OpV) (w : World) : Calls Tryd.prog 32 #[.agg #[o.x0, o.x1, .int .i64 o.ki, o.x3, o.x4, o.x5, o.x6, o.x7, o.x8, .int .i64 o.e, o.x10, o.x11, o.x12, o.x13, o.x14, o.x15, o.x16, .int .i64 o.fr, .int .i64 o.til]] w fun e w' => e = .returned (.bool (!(o.til == -1))) ∧ Below w.heap.size w w' := by
  go_enter Tryd.func32, Tryd.ntmps32
  go_wp2_with fail
  refine bodyPost_ret (v := .bool (!(o.til == -1))) (by simp [results, Tryd.results32, go_sem]; rfl) rfl ⟨rfl, (Below.refl _ _).alloc (Nat.le_refl _) _⟩
set_option maxRecDepth 100000 in
theorem lasted_any (o : OpV) (w : World) (h1 : InI o.fr) (h2 : InI o.til) : Calls Tryd.prog 33 #[.agg #[o.x0, o.x1, .int .i64 o.ki, o.x3, o.x4, o.x5, o.x6, o.x7, o.x8, .int .i64 o.e, o.x10, o.x11, o.x12, o.x13, o.x14, o.x15, o.x16, .int .i64 o.fr, .int .i64 o.til]] w fun e w' => e = .returned (.int .i64 (lastV o.fr o.til)) ∧ Below w.heap.size w w' := by
  obtain ⟨f1, f2⟩ := h1
  obtain ⟨t1, t2⟩ := h2
  by_cases hle : o.til ≤ o.fr
  · have HX : Hid (lastV o.fr o.til = 0) := Lib.hid (by unfold lastV; rw [if_pos hle])
    go_enter Tryd.func33, Tryd.ntmps33
    go_wp2_with fail
    refine bodyPost_ret (v := .int .i64 0) (by simp [results, Tryd.results33, go_sem]) rfl ⟨by rw [HX.out], (Below.refl _ _).alloc (Nat.le_refl _) _⟩
  · have hu : IntKind.u64.wrap (IntKind.u64.wrap o.til - IntKind.u64.wrap o.fr) = o.til - o.fr := by
      simp only [IntKind.wrap_u64]
      omega
    have HX : Hid (lastV o.fr o.til = min (o.til - o.fr) 1152921504606846976) := Lib.hid (by unfold lastV; rw [if_neg hle]; split <;> omega)
    go_enter Tryd.func33, Tryd.ntmps33
    go_wp2_with fail
    refine bodyPost_ret (v := .int .i64 (min (o.til - o.fr) 1152921504606846976)) (by simp [results, Tryd.results33, go_sem]) rfl ⟨by rw [HX.out], (Below.refl _ _).alloc (Nat.le_refl _) _⟩
set_option maxRecDepth 100000 in
theorem rlasted_any (o : OpV) (w : World) (h1 : InI o.fr) (h2 : InI o.til) : Calls Tryd.prog 23 #[.agg #[o.x0, o.x1, .int .i64 o.ki, o.x3, o.x4, o.x5, o.x6, o.x7, o.x8, .int .i64 o.e, o.x10, o.x11, o.x12, o.x13, o.x14, o.x15, o.x16, .int .i64 o.fr, .int .i64 o.til]] w fun e w' => e = .returned (.int .i64 (lastV o.fr o.til)) ∧ Below w.heap.size w w' := by
  obtain ⟨f1, f2⟩ := h1
  obtain ⟨t1, t2⟩ := h2
  by_cases hle : o.til ≤ o.fr
  · have HX : Hid (lastV o.fr o.til = 0) := Lib.hid (by unfold lastV; rw [if_pos hle])
    go_enter Tryd.func23, Tryd.ntmps23
    go_wp2_with fail
    refine bodyPost_ret (v := .int .i64 0) (by simp [results, Tryd.results23, go_sem]) rfl ⟨by rw [HX.out], (Below.refl _ _).alloc (Nat.le_refl _) _⟩
  · by_cases hm : o.til - o.fr < 1152921504606846976
    · have HX : Hid (lastV o.fr o.til = o.til - o.fr) := Lib.hid (by unfold lastV; rw [if_neg hle, if_pos hm])
      by_cases h0 : 0 ≤ o.fr
      · go_enter Tryd.func23, Tryd.ntmps23
        go_wp2_with fail
        refine bodyPost_ret (v := .int .i64 (o.til - o.fr)) (by simp [results, Tryd.results23, go_sem]) rfl ⟨by rw [HX.out], (Below.refl _ _).alloc (Nat.le_refl _) _⟩
      · have hx : o.til < 1152921504606846976 + o.fr := by omega
        go_enter Tryd.func23, Tryd.ntmps23
        go_wp2_with fail
        refine bodyPost_ret (v := .int .i64 (o.til - o.fr)) (by simp [results, Tryd.results23, go_sem]) rfl ⟨by rw [HX.out], (Below.refl _ _).alloc (Nat.le_refl _) _⟩
    · have HX : Hid (lastV o.fr o.til = 1152921504606846976) := Lib.hid (by unfold lastV; rw [if_neg hle, if_neg hm])
      by_cases h0 : 0 ≤ o.fr
      · go_enter Tryd.func23, Tryd.ntmps23
        go_wp2_with fail
        refine bodyPost_ret (v := .int .i64 (1152921504606846976)) (by simp [results, Tryd.results23, go_sem]) rfl ⟨by rw [HX.out], (Below.refl _ _).alloc (Nat.le_refl _) _⟩
      · have hx : ¬ o.til < 1152921504606846976 + o.fr := by omega
        go_enter Tryd.func23, Tryd.ntmps23
        go_wp2_with fail
        refine bodyPost_ret (v := .int .i64 (1152921504606846976)) (by simp [results, Tryd.results23, go_sem]) rfl ⟨by rw [HX.out], (Below.refl _ _).alloc (Nat.le_refl _) _⟩
/-- Loads: calls, errors, ended, the longest. -/
structure LoadV where
  c : Nat
  e : Nat
  n : Nat
  l : Int
abbrev LoadV.val (x : LoadV) : Value := .agg #[.int .i64 x.c, .int .i64 x.e, .int .i64 x.n, .int .i64 x.l]
def oneV (o : OpV) : LoadV := if o.til = -1 then ⟨1, 0, 0, 0⟩ else ⟨1, if o.e = 0 then 0 else 1, 1, lastV o.fr o.til⟩
set_option maxRecDepth 100000 in
set_option maxHeartbeats 2000000 in
theorem one_any (o : OpV) (w : World) (h : o.Ok) : Calls Tryd.prog 29 #[.agg #[o.x0, o.x1, .int .i64 o.ki, o.x3, o.x4, o.x5, o.x6, o.x7, o.x8, .int .i64 o.e, o.x10, o.x11, o.x12, o.x13, o.x14, o.x15, o.x16, .int .i64 o.fr, .int .i64 o.til]] w fun e w' => e = .returned (oneV o).val ∧ Below w.heap.size w w' := by
  have HE := Lib.hid (fun W => ended_any o W)
  have HL := Lib.hid (fun W => lasted_any o W h.fr h.til)
  have hone := h.one
  simp only [OpV.cells, List.mem_cons, List.not_mem_nil, or_false, forall_eq_or_imp, forall_eq] at hone
  clear h
  obtain ⟨o0, o1, o2, o3, o4, o5, o6, o7, o8, o9, o10, o11, o12, o13, o14, o15, o16, o17, o18⟩ := hone
  obtain ⟨W1, hW1⟩ : ∃ W1, W1 = (w.alloc (.cells #[o.x0, o.x1, .int .i64 o.ki, o.x3, o.x4, o.x5, o.x6, o.x7, o.x8, .int .i64 o.e, o.x10, o.x11, o.x12, o.x13, o.x14, o.x15, o.x16, .int .i64 o.fr, .int .i64 o.til] 72)).alloc (.cells #[.int .i64 0, .int .i64 0, .int .i64 0, .int .i64 0] 54) := ⟨_, rfl⟩
  have hb1 : Below w.heap.size w W1 := by rw [hW1]; exact ((Below.refl _ _).alloc (Nat.le_refl _) _).alloc (by simp) _
  have g0 : W1.heap[w.heap.size]? = some (.cells #[o.x0, o.x1, .int .i64 o.ki, o.x3, o.x4, o.x5, o.x6, o.x7, o.x8, .int .i64 o.e, o.x10, o.x11, o.x12, o.x13, o.x14, o.x15, o.x16, .int .i64 o.fr, .int .i64 o.til] 72 (0, 0)) := by rw [hW1, Lib.alloc_old _ _ _ (by simp)]; exact heap_alloc_new w _
  have g1 : W1.heap[w.heap.size + 1]? = some (.cells #[.int .i64 0, .int .i64 0, .int .i64 0, .int .i64 0] 54 (0, 0)) := by
    rw [hW1]
    have := heap_alloc_new (w.alloc (.cells #[o.x0, o.x1, .int .i64 o.ki, o.x3, o.x4, o.x5, o.x6, o.x7, o.x8, .int .i64 o.e, o.x10, o.x11, o.x12, o.x13, o.x14, o.x15, o.x16, .int .i64 o.fr, .int .i64 o.til] 72)) (.cells #[.int .i64 0, .int .i64 0, .int .i64 0, .int .i64 0] 54)
    simpa using this
  have HZ : Hid (W1.heap.size = w.heap.size + 2) := Lib.hid (by rw [hW1]; simp)
  obtain ⟨W2, hW2⟩ : ∃ W2, W2 = W1.alloc (.cells #[.int .i64 1, .int .i64 0, .int .i64 0, .int .i64 0] 54) := ⟨_, rfl⟩
  have hb2 : Below W1.heap.size W1 W2 := by rw [hW2]; exact (Below.refl _ _).alloc (Nat.le_refl _) _
  have gx : W2.heap[W1.heap.size]? = some (.cells #[.int .i64 1, .int .i64 0, .int .i64 0, .int .i64 0] 54 (0, 0)) := by rw [hW2]; exact heap_alloc_new W1 _
  have hz2 : W1.heap.size < W2.heap.size := by rw [hW2]; simp
  have hn1 : w.heap.size < W1.heap.size := by have := HZ.out; omega
  have hn2 : w.heap.size + 1 < W1.heap.size := by have := HZ.out; omega
  have HG : Hid (∀ W, Below W1.heap.size W1 W → W.heap[w.heap.size]? = some (.cells #[o.x0, o.x1, .int .i64 o.ki, o.x3, o.x4, o.x5, o.x6, o.x7, o.x8, .int .i64 o.e, o.x10, o.x11, o.x12, o.x13, o.x14, o.x15, o.x16, .int .i64 o.fr, .int .i64 o.til] 72 (0, 0)) ∧ W.heap[w.heap.size + 1]? = some (.cells #[.int .i64 0, .int .i64 0, .int .i64 0, .int .i64 0] 54 (0, 0))) := Lib.hid fun W hb =>
    ⟨(hb.block _ hn1).trans g0, (hb.block _ hn2).trans g1⟩
  have HR : Hid (∀ W, Below W1.heap.size W1 W → W.rangeAt w.heap.size 0 [o.x0, o.x1, .int .i64 o.ki, o.x3, o.x4, o.x5, o.x6, o.x7, o.x8, .int .i64 o.e, o.x10, o.x11, o.x12, o.x13, o.x14, o.x15, o.x16, .int .i64 o.fr, .int .i64 o.til]) := Lib.hid fun W hb j v hj => by rw [Nat.zero_add]; exact cell_at (HG.out W hb).1 (by simpa using hj)
  have HB1 : Hid (Below w.heap.size w W1) := Lib.hid hb1
  have GX := Lib.hid gx
  have hb2z := hb2
  clear hb1 g0 g1 gx hb2
  go_enter Tryd.func29, Tryd.ntmps29
  go_upto_region 1 with fail
  rw [← hW1]
  clear hW1
  go_upto_region 2 with fail
  rw [← hW2]
  clear hW2
  by_cases hto : o.til = -1
  · have HX : Hid (oneV o = ⟨1, 0, 0, 0⟩) := Lib.hid (by rw [oneV, if_pos hto])
    have hbe : (!(o.til == -1)) = false := by rw [hto]; rfl
    clear hto
    rw [hbe] at HE
    clear hbe
    go_wp2_with (first
      | (refine wpList_load_mid rfl 72 _ rfl w.heap.size 0 rfl [o.x0, o.x1, .int .i64 o.ki, o.x3, o.x4, o.x5, o.x6, o.x7, o.x8, .int .i64 o.e, o.x10, o.x11, o.x12, o.x13, o.x14, o.x15, o.x16, .int .i64 o.fr, .int .i64 o.til] _ (HR.out _ (by (repeat' (first | with_reducible assumption | with_reducible refine Below.drew ?_ | (with_reducible refine Below.alloc ?_ (by first | assumption | (simp; done) | (simp; omega)) _) | (with_reducible refine Below.setCell ?_ (by show W1.heap.size ≤ W1.heap.size; omega) _))))) Tryd.underlying72 rfl (by kernel_rfl) ?_)
      | (go_at_call 32; (with_reducible refine (HE.out _).mono ?_); rintro e w3 ⟨rfl, hb3⟩; have hb3z : Below W1.heap.size W1 w3 := hb2z.trans (hb3.mono hb2z.size); have gx := (hb3.block _ hz2).trans GX.out; obtain ⟨gb, gr⟩ := HG.out _ hb3z; have r0 := cell_at (o := 0) gr rfl; have r1 := cell_at (o := 1) gr rfl; have r2 := cell_at (o := 2) gr rfl; have r3 := cell_at (o := 3) gr rfl; have q0 := free_at (o := 0) gr; have q1 := free_at (o := 1) gr; have q2 := free_at (o := 2) gr; have q3 := free_at (o := 3) gr; have be := cell_at (o := 9) gb rfl; have x0 := cell_at (o := 0) gx rfl; have x1 := cell_at (o := 1) gx rfl; have x2 := cell_at (o := 2) gx rfl; have x3 := cell_at (o := 3) gx rfl; have HB3 := Lib.hid hb3z; clear gr gx hb3 gb))
    refine bodyPost_ret (v := .agg #[.int .i64 1, .int .i64 0, .int .i64 0, .int .i64 0]) (by simp [results, Tryd.results29, go_sem, *]) rfl ⟨by rw [HX.out]; rfl, ?_⟩
    have hs0 := HB1.out.size
    have hz1 := HZ.out
    have hB : Below w.heap.size w _ := HB1.out.trans (HB3.out.mono HB1.out.size)
    repeat (first | with_reducible exact hB | with_reducible refine Below.setCell ?_ (by first | (show w.heap.size ≤ w.heap.size + 1; omega) | (show w.heap.size ≤ W1.heap.size; omega)) _)
  · have hbe : (!(o.til == -1)) = true := by simp [hto]
    rw [hbe] at HE
    clear hbe
    by_cases he : o.e = 0
    · have HX : Hid (oneV o = ⟨1, 0, 1, lastV o.fr o.til⟩) := Lib.hid (by rw [oneV, if_neg hto, if_pos he])
      clear hto
      rw [he] at HE HL
      generalize lastV o.fr o.til = lv at *
      go_wp2_with (first
        | (refine wpList_load_mid rfl 72 _ rfl w.heap.size 0 rfl [o.x0, o.x1, .int .i64 o.ki, o.x3, o.x4, o.x5, o.x6, o.x7, o.x8, .int .i64 o.e, o.x10, o.x11, o.x12, o.x13, o.x14, o.x15, o.x16, .int .i64 o.fr, .int .i64 o.til] _ (HR.out _ (by (repeat' (first | with_reducible assumption | with_reducible refine Below.drew ?_ | (with_reducible refine Below.alloc ?_ (by first | assumption | (simp; done) | (simp; omega)) _) | (with_reducible refine Below.setCell ?_ (by show W1.heap.size ≤ W1.heap.size; omega) _))))) Tryd.underlying72 rfl (by kernel_rfl) ?_)
        | (go_at_call 32; (with_reducible refine (HE.out _).mono ?_); rintro e w3 ⟨rfl, hb3⟩; have hb3z : Below W1.heap.size W1 w3 := hb2z.trans (hb3.mono hb2z.size); have gx := (hb3.block _ hz2).trans GX.out; obtain ⟨gb, gr⟩ := HG.out _ hb3z; have r0 := cell_at (o := 0) gr rfl; have r1 := cell_at (o := 1) gr rfl; have r2 := cell_at (o := 2) gr rfl; have r3 := cell_at (o := 3) gr rfl; have q0 := free_at (o := 0) gr; have q1 := free_at (o := 1) gr; have q2 := free_at (o := 2) gr; have q3 := free_at (o := 3) gr; have be := cell_at (o := 9) gb rfl; have x0 := cell_at (o := 0) gx rfl; have x1 := cell_at (o := 1) gx rfl; have x2 := cell_at (o := 2) gx rfl; have x3 := cell_at (o := 3) gx rfl; have y0 := free_at (o := 0) gx; have y1 := free_at (o := 1) gx; have y2 := free_at (o := 2) gx; have y3 := free_at (o := 3) gx; have hs3 : W1.heap.size < w3.heap.size := Nat.lt_of_lt_of_le hz2 hb3.size; have HB3 := Lib.hid hb3z; have GX3 := Lib.hid (heap_set_at (o := 2) (.int .i64 1) gx); clear gr gx hb3 gb)
        | (go_at_call 33; (with_reducible refine (HL.out _).mono ?_); rintro e w4 ⟨rfl, hb4⟩; clear x0 x1 x2 x3 y0 y1 y2 y3 r0 r1 r2 r3 q0 q1 q2 q3 be; have gx := (hb4.block W1.heap.size (by simp; omega)).trans GX3.out; have hb4z : Below W1.heap.size W1 w4 := Below.trans (by (repeat' (first | with_reducible assumption | with_reducible refine Below.drew ?_ | (with_reducible refine Below.alloc ?_ (by first | assumption | (simp; done) | (simp; omega)) _) | (with_reducible refine Below.setCell ?_ (by show W1.heap.size ≤ W1.heap.size; omega) _)))) (hb4.mono (by simp; exact hb3z.size)); obtain ⟨gb, gr⟩ := HG.out _ hb4z; have r0 := cell_at (o := 0) gr rfl; have r1 := cell_at (o := 1) gr rfl; have r2 := cell_at (o := 2) gr rfl; have r3 := cell_at (o := 3) gr rfl; have q0 := free_at (o := 0) gr; have q1 := free_at (o := 1) gr; have q2 := free_at (o := 2) gr; have q3 := free_at (o := 3) gr; have be := cell_at (o := 9) gb rfl; have x0 := cell_at (o := 0) gx rfl; have x1 := cell_at (o := 1) gx rfl; have x2 := cell_at (o := 2) gx rfl; have x3 := cell_at (o := 3) gx rfl; have y0 := free_at (o := 0) gx; have y1 := free_at (o := 1) gx; have y2 := free_at (o := 2) gx; have y3 := free_at (o := 3) gx; have HB4 := Lib.hid hb4z; clear gr gx hb4 gb))
      refine bodyPost_ret (v := .agg #[.int .i64 1, .int .i64 0, .int .i64 1, .int .i64 lv]) (by simp [results, Tryd.results29, go_sem, *]) rfl ⟨by rw [HX.out]; rfl, ?_⟩
      have hs0 := HB1.out.size
      have hz1 := HZ.out
      have hB : Below w.heap.size w _ := HB1.out.trans (HB4.out.mono HB1.out.size)
      repeat (first | with_reducible exact hB | with_reducible refine Below.setCell ?_ (by first | (show w.heap.size ≤ w.heap.size + 1; omega) | (show w.heap.size ≤ W1.heap.size; omega)) _)
    · have HX : Hid (oneV o = ⟨1, 1, 1, lastV o.fr o.til⟩) := Lib.hid (by rw [oneV, if_neg hto, if_neg he])
      clear hto
      generalize lastV o.fr o.til = lv at *
      go_wp2_with (first
        | (refine wpList_load_mid rfl 72 _ rfl w.heap.size 0 rfl [o.x0, o.x1, .int .i64 o.ki, o.x3, o.x4, o.x5, o.x6, o.x7, o.x8, .int .i64 o.e, o.x10, o.x11, o.x12, o.x13, o.x14, o.x15, o.x16, .int .i64 o.fr, .int .i64 o.til] _ (HR.out _ (by (repeat' (first | with_reducible assumption | with_reducible refine Below.drew ?_ | (with_reducible refine Below.alloc ?_ (by first | assumption | (simp; done) | (simp; omega)) _) | (with_reducible refine Below.setCell ?_ (by show W1.heap.size ≤ W1.heap.size; omega) _))))) Tryd.underlying72 rfl (by kernel_rfl) ?_)
        | (go_at_call 32; (with_reducible refine (HE.out _).mono ?_); rintro e w3 ⟨rfl, hb3⟩; have hb3z : Below W1.heap.size W1 w3 := hb2z.trans (hb3.mono hb2z.size); have gx := (hb3.block _ hz2).trans GX.out; obtain ⟨gb, gr⟩ := HG.out _ hb3z; have r0 := cell_at (o := 0) gr rfl; have r1 := cell_at (o := 1) gr rfl; have r2 := cell_at (o := 2) gr rfl; have r3 := cell_at (o := 3) gr rfl; have q0 := free_at (o := 0) gr; have q1 := free_at (o := 1) gr; have q2 := free_at (o := 2) gr; have q3 := free_at (o := 3) gr; have be := cell_at (o := 9) gb rfl; have x0 := cell_at (o := 0) gx rfl; have x1 := cell_at (o := 1) gx rfl; have x2 := cell_at (o := 2) gx rfl; have x3 := cell_at (o := 3) gx rfl; have y0 := free_at (o := 0) gx; have y1 := free_at (o := 1) gx; have y2 := free_at (o := 2) gx; have y3 := free_at (o := 3) gx; have hs3 : W1.heap.size < w3.heap.size := Nat.lt_of_lt_of_le hz2 hb3.size; have HB3 := Lib.hid hb3z; have GX3 := Lib.hid (heap_set_at (o := 2) (.int .i64 1) gx); clear gr gx hb3 gb)
        | (go_at_call 33; (with_reducible refine (HL.out _).mono ?_); rintro e w4 ⟨rfl, hb4⟩; clear x0 x1 x2 x3 y0 y1 y2 y3 r0 r1 r2 r3 q0 q1 q2 q3 be; have gx := (hb4.block W1.heap.size (by simp; omega)).trans GX3.out; have hb4z : Below W1.heap.size W1 w4 := Below.trans (by (repeat' (first | with_reducible assumption | with_reducible refine Below.drew ?_ | (with_reducible refine Below.alloc ?_ (by first | assumption | (simp; done) | (simp; omega)) _) | (with_reducible refine Below.setCell ?_ (by show W1.heap.size ≤ W1.heap.size; omega) _)))) (hb4.mono (by simp; exact hb3z.size)); obtain ⟨gb, gr⟩ := HG.out _ hb4z; have r0 := cell_at (o := 0) gr rfl; have r1 := cell_at (o := 1) gr rfl; have r2 := cell_at (o := 2) gr rfl; have r3 := cell_at (o := 3) gr rfl; have q0 := free_at (o := 0) gr; have q1 := free_at (o := 1) gr; have q2 := free_at (o := 2) gr; have q3 := free_at (o := 3) gr; have be := cell_at (o := 9) gb rfl; have x0 := cell_at (o := 0) gx rfl; have x1 := cell_at (o := 1) gx rfl; have x2 := cell_at (o := 2) gx rfl; have x3 := cell_at (o := 3) gx rfl; have y0 := free_at (o := 0) gx; have y1 := free_at (o := 1) gx; have y2 := free_at (o := 2) gx; have y3 := free_at (o := 3) gx; have HB4 := Lib.hid hb4z; clear gr gx hb4 gb))
      refine bodyPost_ret (v := .agg #[.int .i64 1, .int .i64 1, .int .i64 1, .int .i64 lv]) (by simp [results, Tryd.results29, go_sem, *]) rfl ⟨by rw [HX.out]; rfl, ?_⟩
      have hs0 := HB1.out.size
      have hz1 := HZ.out
      have hB : Below w.heap.size w _ := HB1.out.trans (HB4.out.mono HB1.out.size)
      repeat (first | with_reducible exact hB | with_reducible refine Below.setCell ?_ (by first | (show w.heap.size ≤ w.heap.size + 1; omega) | (show w.heap.size ≤ W1.heap.size; omega)) _)
end Go.Proofs.YtpjdcooflheoeaaDoor.Lex
