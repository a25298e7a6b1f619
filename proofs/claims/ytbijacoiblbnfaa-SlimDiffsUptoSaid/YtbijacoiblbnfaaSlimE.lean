/- slim.with, Head, Even; the reference's Head and Even. -/
import Derived.Test.YtbijacoiblbnfaaSlimD
namespace Go.Proofs.Ytbijacoiblbnfaa
open Go.RowKit
set_option linter.unusedSimpArgs false
set_option linter.unusedVariables false
theorem Fix.set5 {F : Foot} {w w' : World} (h : Fix F w w') {b : Nat} (hF : ¬ F b) (v0 v1 v2 v3 v4 : Value) : Fix F w (((((w'.setCell ⟨b, 0, none⟩ (v0)).setCell ⟨b, 1, none⟩ (v1)).setCell ⟨b, 2, none⟩ (v2)).setCell ⟨b, 3, none⟩ (v3)).setCell ⟨b, 4, none⟩ (v4)) :=
  ((((h.set_other hF _).set_other hF _).set_other hF _).set_other hF _).set_other hF _
theorem below_set5 {B : Nat} {w w' : World} (h : Below B w w') {b : Nat} (hb : B ≤ b) (v0 v1 v2 v3 v4 : Value) : Below B w (((((w'.setCell ⟨b, 0, none⟩ (v0)).setCell ⟨b, 1, none⟩ (v1)).setCell ⟨b, 2, none⟩ (v2)).setCell ⟨b, 3, none⟩ (v3)).setCell ⟨b, 4, none⟩ (v4)) :=
  ((((h.setCell hb _).setCell hb _).setCell hb _).setCell hb _).setCell hb _
theorem heap_set5 {w : World} {b : Nat} {c0 c1 c2 c3 c4 : Value} {e : TypeId} {f : Nat × Nat} (h : w.heap[b]? = some (.cells #[c0, c1, c2, c3, c4] e f)) (v0 v1 v2 v3 v4 : Value) : ((((((w.setCell ⟨b, 0, none⟩ (v0)).setCell ⟨b, 1, none⟩ (v1)).setCell ⟨b, 2, none⟩ (v2)).setCell ⟨b, 3, none⟩ (v3)).setCell ⟨b, 4, none⟩ (v4))).heap[b]? = some (.cells #[v0, v1, v2, v3, v4] e f) :=
  heap_set_at _ (heap_set_at _ (heap_set_at _ (heap_set_at _ (heap_set_at _ h))))
theorem size_set5 (w : World) (b : Nat) (v0 v1 v2 v3 v4 : Value) : ((((((w.setCell ⟨b, 0, none⟩ (v0)).setCell ⟨b, 1, none⟩ (v1)).setCell ⟨b, 2, none⟩ (v2)).setCell ⟨b, 3, none⟩ (v3)).setCell ⟨b, 4, none⟩ (v4))).heap.size = w.heap.size := by simp [World.setCell]
theorem heap_set5_other {w : World} {b x : Nat} (h : x ≠ b) (v0 v1 v2 v3 v4 : Value) : ((((((w.setCell ⟨b, 0, none⟩ (v0)).setCell ⟨b, 1, none⟩ (v1)).setCell ⟨b, 2, none⟩ (v2)).setCell ⟨b, 3, none⟩ (v3)).setCell ⟨b, 4, none⟩ (v4))).heap[x]? = w.heap[x]? := by
  by_cases hx : x < w.heap.size
  · exact ((Fix.refl (fun y => y = x) w).set5 (fun e => h e.symm) v0 v1 v2 v3 v4).same x hx rfl
  · rw [Array.getElem?_eq_none (by rw [size_set5]; omega), Array.getElem?_eq_none (by omega)]
set_option maxRecDepth 100000 in
set_option maxHeartbeats 8000000 in
theorem with_any (st rm : Int) (F : Foot) (aC aP aT aQ : Option Addr) (n m q r cC cP cT cQ : Nat) (L : List (List CallV)) (ps ts qs : List Int) (w : World)
    (hC : RowOf rowsRd 1 24 F w aC n cC L) (hP : RowOf rI 1 8 F w aP m cP ps) (hT : RowOf rI 1 8 F w aT q cT ts) (hQ : RowOf rI 1 8 F w aQ r cQ qs) :
    Calls Try.prog 20 #[.agg #[.int .i64 st, .int .i64 rm, .slice aC n cC, .slice aP m cP, .slice aT q cT], .slice aQ r cQ] w fun e w' => ∃ a1 c1 a2 c2 a3 c3, e = .returned (.agg #[.int .i64 st, .int .i64 rm, .slice a1 n c1, .slice a2 r c2, .slice a3 q c3]) ∧
      RowOf rowsRd 1 24 (From w.heap.size) w' a1 n c1 L ∧ RowOf rI 1 8 (From w.heap.size) w' a2 r c2 qs ∧ RowOf rI 1 8 (From w.heap.size) w' a3 q c3 ts ∧ Below w.heap.size w w' := by
  obtain ⟨W0, hW0⟩ : ∃ W0, W0 = (w.alloc (.cells #[.int .i64 st, .int .i64 rm, .slice aC n cC, .slice aP m cP, .slice aT q cT] 25)).alloc (.cells #[.int .i64 0, .int .i64 0, .slice none 0 0, .slice none 0 0, .slice none 0 0] 25) := ⟨_, rfl⟩
  have hb0 : Below w.heap.size w W0 := by rw [hW0]; exact ((Below.refl _ _).alloc (Nat.le_refl _) _).alloc (by simp) _
  have hz : W0.heap.size = w.heap.size + 1 + 1 := by rw [hW0]; simp
  have g0 : W0.heap[w.heap.size]? = some (.cells #[.int .i64 st, .int .i64 rm, .slice aC n cC, .slice aP m cP, .slice aT q cT] 25 (0, 0)) := by
    rw [hW0, Lib.alloc_old _ _ _ (by simp)]
    exact heap_alloc_new w _
  have g1 : W0.heap[w.heap.size + 1]? = some (.cells #[.int .i64 0, .int .i64 0, .slice none 0 0, .slice none 0 0, .slice none 0 0] 25 (0, 0)) := by
    rw [hW0]
    have := heap_alloc_new (w.alloc (.cells #[.int .i64 st, .int .i64 rm, .slice aC n cC, .slice aP m cP, .slice aT q cT] 25)) (.cells #[.int .i64 0, .int .i64 0, .slice none 0 0, .slice none 0 0, .slice none 0 0] 25)
    simpa using this
  have HC := Lib.hid (hC.keep rowsRd_ok (Fix.of_below hb0))
  have HP := Lib.hid (hP.keep (Rd.int_ok _) (Fix.of_below hb0))
  have HT := Lib.hid (hT.keep (Rd.int_ok _) (Fix.of_below hb0))
  have HQ := Lib.hid (hQ.keep (Rd.int_ok _) (Fix.of_below hb0))
  have HB0 := Lib.hid hb0
  have HG0 := Lib.hid g0
  have HG1 := Lib.hid g1
  have HZ := Lib.hid hz
  clear hC hP hT hb0 g0 g1 hz
  go_enter Try.func20, Try.ntmps20
  go_wp2_with fail
  rw [← hW0]
  clear hW0
  refine (sclone_any st rm F aC aP aT n m q cC cP cT L ps ts _ HC.out HP.out HT.out).mono ?_
  rintro e w1 ⟨a1, c1, a2, c2, a3, c3, rfl, r1, r2, r3, hb1⟩
  have hz := HZ.out
  have hz1 := hb1.size
  have g1 : w1.heap[w.heap.size]? = _ := (hb1.block _ (by omega)).trans HG0.out
  have t0 := cell_at (o := 0) g1 rfl
  have t1 := cell_at (o := 1) g1 rfl
  have t2 := cell_at (o := 2) g1 rfl
  have t3 := cell_at (o := 3) g1 rfl
  have t4 := cell_at (o := 4) g1 rfl
  have y0 := free_at (o := 0) g1
  have y1 := free_at (o := 1) g1
  have y2 := free_at (o := 2) g1
  have y3 := free_at (o := 3) g1
  have y4 := free_at (o := 4) g1
  have HG := Lib.hid g1
  have HB1 := Lib.hid hb1
  have R1 := Lib.hid r1
  have R3 := Lib.hid r3
  clear g1 hb1 r1 r2 r3 hz hz1
  go_wp2_with fail
  have hz := HZ.out
  have hz1 := HB1.out.size
  obtain ⟨w2, e2⟩ : ∃ w2, w2 = (((((w1.setCell ⟨w.heap.size, 0, none⟩ (.int .i64 st)).setCell ⟨w.heap.size, 1, none⟩ (.int .i64 rm)).setCell ⟨w.heap.size, 2, none⟩ (.slice a1 n c1)).setCell ⟨w.heap.size, 3, none⟩ (.slice a2 m c2)).setCell ⟨w.heap.size, 4, none⟩ (.slice a3 q c3)) := ⟨_, rfl⟩
  have b2 : Below w.heap.size w w2 := by rw [e2]; exact below_set5 (HB0.out.trans (HB1.out.mono (by omega))) (Nat.le_refl _) _ _ _ _ _
  have x2 : Fix (From (w.heap.size + 1)) w1 w2 := by rw [e2]; exact (Fix.refl _ _).set5 (by show ¬ _ ≤ _; omega) _ _ _ _ _
  have g2 : w2.heap[w.heap.size]? = some (.cells #[.int .i64 st, .int .i64 rm, .slice a1 n c1, .slice a2 m c2, .slice a3 q c3] 25 (0, 0)) := by rw [e2]; exact heap_set5 HG.out _ _ _ _ _
  have gr2 : w2.heap[w.heap.size + 1]? = some (.cells #[.int .i64 0, .int .i64 0, .slice none 0 0, .slice none 0 0, .slice none 0 0] 25 (0, 0)) := by rw [e2, heap_set5_other (by omega)]; exact (HB1.out.block _ (by omega)).trans HG1.out
  have z2 : w2.heap.size = w1.heap.size := by rw [e2, size_set5]
  have R1' := Lib.hid (R1.out.keep rowsRd_ok (x2.mono fun b _ (hf : W0.heap.size ≤ b) => by show _ ≤ b; omega))
  have R3' := Lib.hid (R3.out.keep (Rd.int_ok _) (x2.mono fun b _ (hf : W0.heap.size ≤ b) => by show _ ≤ b; omega))
  have b02 : Below w.heap.size W0 w2 := by rw [e2]; exact below_set5 (HB1.out.mono (by omega)) (Nat.le_refl _) _ _ _ _ _
  have HB2 := Lib.hid b2
  have HG2 := Lib.hid g2
  have HGR2 := Lib.hid gr2
  have HZ2 : Hid (w.heap.size + 1 + 1 ≤ w2.heap.size) := Lib.hid (by omega)
  have HQ2 := Lib.hid (hQ.keep (Rd.int_ok _) (Fix.of_belowB b2 fun b hb _ => hb))
  rw [← e2]
  clear e2 b2 x2 g2 gr2 z2 hz hz1 t0 t1 t2 t3 t4 y0 y1 y2 y3 y4 b02 hQ
  refine (cloneI_any qs F aQ r cQ _ HQ2.out).mono ?_
  rintro e w3 ⟨a4, c4, rfl, r4, hb3⟩
  have hz3 := hb3.size
  have hz2 := HZ2.out
  have g3 : w3.heap[w.heap.size]? = _ := (hb3.block _ (by omega)).trans HG2.out
  have gr3 : w3.heap[w.heap.size + 1]? = _ := (hb3.block _ (by omega)).trans HGR2.out
  have t0 := cell_at (o := 0) g3 rfl
  have t1 := cell_at (o := 1) g3 rfl
  have t2 := cell_at (o := 2) g3 rfl
  have t3 := cell_at (o := 3) g3 rfl
  have t4 := cell_at (o := 4) g3 rfl
  have y3 := free_at (o := 3) g3
  have v0 := cell_at (o := 0) gr3 rfl
  have v1 := cell_at (o := 1) gr3 rfl
  have v2 := cell_at (o := 2) gr3 rfl
  have v3 := cell_at (o := 3) gr3 rfl
  have v4 := cell_at (o := 4) gr3 rfl
  have u0 := free_at (o := 0) gr3
  have u1 := free_at (o := 1) gr3
  have u2 := free_at (o := 2) gr3
  have u3 := free_at (o := 3) gr3
  have u4 := free_at (o := 4) gr3
  have HB3 := Lib.hid hb3
  have R4 := Lib.hid r4
  have HZ3 := Lib.hid hz3
  clear hb3 r4 g3 gr3 hz3 hz2
  go_wp2_with fail
  have hz := HZ.out
  have hz2 := HZ2.out
  have hz3 := HZ3.out
  have FA : ∀ F : Foot, ¬ F w.heap.size → ¬ F (w.heap.size + 1) → Fix F w3 ((((((w3.setCell ⟨w.heap.size, 3, none⟩ (.slice a4 r c4)).setCell ⟨w.heap.size + 1, 0, none⟩ (.int .i64 st)).setCell ⟨w.heap.size + 1, 1, none⟩ (.int .i64 rm)).setCell ⟨w.heap.size + 1, 2, none⟩ (.slice a1 n c1)).setCell ⟨w.heap.size + 1, 3, none⟩ (.slice a4 r c4)).setCell ⟨w.heap.size + 1, 4, none⟩ (.slice a3 q c3)) := fun F h0 h1 => ((Fix.refl _ _).set_other h0 _).set5 h1 _ _ _ _ _
  refine bodyPost_ret (v := .agg #[.int .i64 st, .int .i64 rm, .slice a1 n c1, .slice a4 r c4, .slice a3 q c3]) (by simp [results, Try.results20, t0, t1, t2, t3, t4, v0, v1, v2, v3, v4, go_sem]) rfl ⟨_, _, _, _, _, _, rfl, ?_, ?_, ?_, ?_⟩
  · exact ((R1'.out.keep rowsRd_ok (Fix.of_below HB3.out)).keep rowsRd_ok (FA _ (by show ¬ W0.heap.size ≤ _; omega) (by show ¬ W0.heap.size ≤ _; omega))).mono rowsRd_ok fun b _ (hf : W0.heap.size ≤ b) => by show _ ≤ b; omega
  · exact (R4.out.keep (Rd.int_ok _) (FA _ (by show ¬ w2.heap.size ≤ _; omega) (by show ¬ w2.heap.size ≤ _; omega))).mono (Rd.int_ok _) fun b _ (hf : w2.heap.size ≤ b) => by show _ ≤ b; omega
  · exact ((R3'.out.keep (Rd.int_ok _) (Fix.of_below HB3.out)).keep (Rd.int_ok _) (FA _ (by show ¬ W0.heap.size ≤ _; omega) (by show ¬ W0.heap.size ≤ _; omega))).mono (Rd.int_ok _) fun b _ (hf : W0.heap.size ≤ b) => by show _ ≤ b; omega
  · exact below_set5 ((HB2.out.trans (HB3.out.mono (by omega))).setCell (by show w.heap.size ≤ w.heap.size; omega) _) (by omega) _ _ _ _ _
theorem RowOf.take {α : Type} {r : Rd α} {size bytes : Nat} {F : Foot} {w : World} {a : Option Addr} {n cap : Nat} {xs : List α} (h : RowOf r size bytes F w a n cap xs) (k : Nat) (hk : k ≤ n) : RowOf r size bytes F w a k cap (xs.take k) := by
  refine ⟨by rw [List.length_take, h.len]; omega, Nat.le_trans hk h.le, h.max, Nat.le_trans (Nat.mul_le_mul_right _ hk) h.room, h.nil, fun i x hx => ?_⟩
  rw [List.getElem?_take] at hx
  split at hx
  · exact h.at_ i x hx
  · cases hx
set_option maxRecDepth 100000 in
set_option maxHeartbeats 8000000 in
theorem head_any (st rm z : Int) (F : Foot) (aC aP aT : Option Addr) (n m q cC cP cT K : Nat) (L : List (List CallV)) (ps ts : List Int) (w : World) (hK : (K : Int) = min (max z 0) m)
    (hC : RowOf rowsRd 1 24 F w aC n cC L) (hP : RowOf rI 1 8 F w aP m cP ps) (hT : RowOf rI 1 8 F w aT q cT ts) :
    Calls Try.prog 6 #[.agg #[.int .i64 st, .int .i64 rm, .slice aC n cC, .slice aP m cP, .slice aT q cT], .int .i64 z] w fun e w' => ∃ a1 c1 a2 c2 a3 c3, e = .returned (.agg #[.int .i64 st, .int .i64 rm, .slice a1 n c1, .slice a2 K c2, .slice a3 q c3]) ∧
      RowOf rowsRd 1 24 (From w.heap.size) w' a1 n c1 L ∧ RowOf rI 1 8 (From w.heap.size) w' a2 K c2 (ps.take K) ∧ RowOf rI 1 8 (From w.heap.size) w' a3 q c3 ts ∧ Below w.heap.size w w' := by
  have hcap := hP.le
  have hKm : K ≤ m := by omega
  have HK := Lib.hid hK
  have HQ := Lib.hid (hP.take K hKm)
  have hmx := hP.max
  unfold maxLen at hmx
  obtain ⟨W0, hW0⟩ : ∃ W0, W0 = (w.alloc (.cells #[.int .i64 st, .int .i64 rm, .slice aC n cC, .slice aP m cP, .slice aT q cT] 25)).alloc (.cells #[.int .i64 0, .int .i64 0, .slice none 0 0, .slice none 0 0, .slice none 0 0] 25) := ⟨_, rfl⟩
  have hb0 : Below w.heap.size w W0 := by rw [hW0]; exact ((Below.refl _ _).alloc (Nat.le_refl _) _).alloc (by simp) _
  have hz : W0.heap.size = w.heap.size + 1 + 1 := by rw [hW0]; simp
  have g0 : W0.heap[w.heap.size]? = some (.cells #[.int .i64 st, .int .i64 rm, .slice aC n cC, .slice aP m cP, .slice aT q cT] 25 (0, 0)) := by
    rw [hW0, Lib.alloc_old _ _ _ (by simp)]
    exact heap_alloc_new w _
  have g1 : W0.heap[w.heap.size + 1]? = some (.cells #[.int .i64 0, .int .i64 0, .slice none 0 0, .slice none 0 0, .slice none 0 0] 25 (0, 0)) := by
    rw [hW0]
    have := heap_alloc_new (w.alloc (.cells #[.int .i64 st, .int .i64 rm, .slice aC n cC, .slice aP m cP, .slice aT q cT] 25)) (.cells #[.int .i64 0, .int .i64 0, .slice none 0 0, .slice none 0 0, .slice none 0 0] 25)
    simpa using this
  have HC := Lib.hid (hC.keep rowsRd_ok (Fix.of_below hb0))
  have HP := Lib.hid (hP.keep (Rd.int_ok _) (Fix.of_below hb0))
  have HT := Lib.hid (hT.keep (Rd.int_ok _) (Fix.of_below hb0))
  have HQ0 := Lib.hid (HQ.out.keep (Rd.int_ok _) (Fix.of_below hb0))
  have HB0 := Lib.hid hb0
  have HG0 := Lib.hid g0
  have HG1 := Lib.hid g1
  have HZ := Lib.hid hz
  have t0 := cell_at (o := 0) g0 rfl
  have t1 := cell_at (o := 1) g0 rfl
  have t2 := cell_at (o := 2) g0 rfl
  have t3 := cell_at (o := 3) g0 rfl
  have t4 := cell_at (o := 4) g0 rfl
  clear hC hP hT hb0 g0 g1 hz HQ hK
  have HS : Hid (∀ W, Below W0.heap.size W0 W → W.cell? ⟨w.heap.size, 0, none⟩ = some (.int .i64 st) ∧ W.cell? ⟨w.heap.size, 1, none⟩ = some (.int .i64 rm) ∧ W.cell? ⟨w.heap.size, 2, none⟩ = some (.slice aC n cC) ∧ W.cell? ⟨w.heap.size, 3, none⟩ = some (.slice aP m cP) ∧ W.cell? ⟨w.heap.size, 4, none⟩ = some (.slice aT q cT)) := Lib.hid fun W hb => by
    have e : ∀ o, W.cell? ⟨w.heap.size, o, none⟩ = W0.cell? ⟨w.heap.size, o, none⟩ := fun o => hb.cell (p := ⟨w.heap.size, o, none⟩) (by have := HZ.out; show w.heap.size < _; omega)
    simp only [e]
    exact ⟨t0, t1, t2, t3, t4⟩
  have HGR : Hid (∀ W, Below W0.heap.size W0 W → ∀ o v, (#[.int .i64 0, .int .i64 0, .slice none 0 0, .slice none 0 0, .slice none 0 0] : Array Value)[o]? = some v → W.cell? ⟨w.heap.size + 1, o, none⟩ = some v ∧ W.frozen? ⟨w.heap.size + 1, o, none⟩ = false) := Lib.hid fun W hb o v hv => by
    have g : W.heap[w.heap.size + 1]? = _ := (hb.block _ (by have := HZ.out; omega)).trans HG1.out
    exact ⟨cell_at g hv, free_at g⟩
  have k0 : (0 : Int) ≤ (K : Int) := by omega
  have k1 : (K : Int) ≤ (cP : Int) := by omega
  have k2 : K ≤ cP := by omega
  obtain ⟨Z, n3, n4⟩ : ∃ Z : Int, (if (0 : Int) > z then (0 : Int) else z) = Z ∧ (if (m : Int) < Z then (m : Int) else Z) = (K : Int) := ⟨_, rfl, by have := HK.out; split <;> split at * <;> omega⟩
  go_enter Try.func6, Try.ntmps6
  go_wp2_with fail
  rw [← hW0]
  clear hW0
  go_region_held3 (fun W => W.cell? ⟨w.heap.size, 0, none⟩ = some (.int .i64 st) ∧ W.cell? ⟨w.heap.size, 1, none⟩ = some (.int .i64 rm) ∧ W.cell? ⟨w.heap.size, 2, none⟩ = some (.slice aC n cC) ∧ W.cell? ⟨w.heap.size, 3, none⟩ = some (.slice aP m cP) ∧ W.cell? ⟨w.heap.size, 4, none⟩ = some (.slice aT q cT)) (first | go_keep | exact HS.out _ HB3.out) ((go_at_call 20; refine (with_any st rm F aC aP aT aP n m q K cC cP cT cP L ps ts (ps.take K) _ (HC.out.keep rowsRd_ok (Fix.drew _ _)) (HP.out.keep (Rd.int_ok _) (Fix.drew _ _)) (HT.out.keep (Rd.int_ok _) (Fix.drew _ _)) (HQ0.out.keep (Rd.int_ok _) (Fix.drew _ _))).mono ?_; rintro e w3 ⟨a1, c1, a2, c2, a3, c3, rfl, r1, r2, r3, hb3⟩; have HB3 : Hid (Below W0.heap.size W0 w3) := Lib.hid ((Below.refl _ _).drew.trans hb3); have R1 := Lib.hid r1; have R2 := Lib.hid r2; have R3 := Lib.hid r3; obtain ⟨v0, u0⟩ := HGR.out _ HB3.out 0 _ rfl; obtain ⟨v1, u1⟩ := HGR.out _ HB3.out 1 _ rfl; obtain ⟨v2, u2⟩ := HGR.out _ HB3.out 2 _ rfl; obtain ⟨v3, u3⟩ := HGR.out _ HB3.out 3 _ rfl; obtain ⟨v4, u4⟩ := HGR.out _ HB3.out 4 _ rfl; clear hb3 r1 r2 r3))
  go_wp2_with fail
  have hz := HZ.out
  have hz3 := HB3.out.size
  have FA : ∀ F : Foot, ¬ F (w.heap.size + 1) → Fix F w3 (((((w3.setCell ⟨w.heap.size + 1, 0, none⟩ (.int .i64 st)).setCell ⟨w.heap.size + 1, 1, none⟩ (.int .i64 rm)).setCell ⟨w.heap.size + 1, 2, none⟩ (.slice a1 n c1)).setCell ⟨w.heap.size + 1, 3, none⟩ (.slice a2 K c2)).setCell ⟨w.heap.size + 1, 4, none⟩ (.slice a3 q c3)) := fun F h1 => (Fix.refl _ _).set5 h1 _ _ _ _ _
  refine bodyPost_ret (v := .agg #[.int .i64 st, .int .i64 rm, .slice a1 n c1, .slice a2 K c2, .slice a3 q c3]) (by simp [results, Try.results6, v0, v1, v2, v3, v4, go_sem]) rfl ⟨_, _, _, _, _, _, rfl, ?_, ?_, ?_, ?_⟩
  · exact (R1.out.keep rowsRd_ok (FA _ (by show ¬ W0.heap.size ≤ _; omega))).mono rowsRd_ok fun b _ (hf : W0.heap.size ≤ b) => by show _ ≤ b; omega
  · exact (R2.out.keep (Rd.int_ok _) (FA _ (by show ¬ W0.heap.size ≤ _; omega))).mono (Rd.int_ok _) fun b _ (hf : W0.heap.size ≤ b) => by show _ ≤ b; omega
  · exact (R3.out.keep (Rd.int_ok _) (FA _ (by show ¬ W0.heap.size ≤ _; omega))).mono (Rd.int_ok _) fun b _ (hf : W0.heap.size ≤ b) => by show _ ≤ b; omega
  · exact below_set5 (HB0.out.trans (HB3.out.mono (by omega))) (by omega) _ _ _ _ _
end Go.Proofs.Ytbijacoiblbnfaa
