/- valid.big, of trees of no more nodes than may be: what is left is how deep they are. -/
import Derived.Test.YtibabpahpiijgaaGreatDoorNodes
import Derived.Test.YtibabpahpiijgaaGreatDoorDepth
namespace Go.Proofs.YtibabpahpiijgaaGreatDoor.Lex
open Go.RowKit Go.Shelf
set_option linter.unusedSimpArgs false
set_option linter.unusedVariables false
attribute [local go_sem] Oper.semAt_some
/-- Between two rounds: so many nodes are counted. -/
structure JB (w : World) (kd nd : Int) (s : Value) (k : Nat) (W : World) : Prop where
  n : W.heap[w.heap.size + 1 + 1]? = some (.cells #[.int .i64 (k : Int)] 3 (0, 0))
  box : W.heap[w.heap.size]? = some (.cells #[.int .i64 kd, .int .i64 nd, s] 25 (0, 0))
  res : W.heap[w.heap.size + 1]? = some (.cells #[.bool false] 4 (0, 0))
  below : Below w.heap.size w W
  size : w.heap.size + 4 ≤ W.heap.size
set_option maxRecDepth 100000 in
set_option maxHeartbeats 8000000 in
theorem bigV_small (k : Nat) (F : Foot) (kd nd : Int) (l : List DescV) (a : Option Addr) (n cap : Nat) (w : World) (hl : RowOf (descRd k) 3 40 F w a n cap l) (hm : 1 + DescV.nodesL l ≤ 60) :
    Calls Tryz.prog 69 #[.agg #[.int .i64 kd, .int .i64 nd, .slice a n cap]] w fun e w' => e = .returned (.bool (decide (12 < DescV.depthL l + 1))) ∧ Below w.heap.size w w' := by
  refine (callsIn_wide (n := 5)).1 ?_
  refine callsIn_of_wp_marks Tryz.func69 rfl trivial ?_ rfl
  simp only [Tryz.ntmps69, List.size_toArray, List.length_cons, List.length_nil, Nat.reduceAdd, Nat.reduceSub, Array.replicate_succ, Array.replicate_zero, List.push_toArray, List.append_toArray, List.nil_append, List.cons_append]
  have HL := Lib.hid (hl.mono (G := fun b => b < w.heap.size) (descRd_ok _) fun b hb _ => hb)
  have HM := Lib.hid hm
  clear hl hm
  gi_wp2
  refine ⟨trivial, ?_⟩
  refine (callsIn_wide.2 (allc_any kd nd a n cap _)).mono ?_
  rintro e w1 ⟨rfl, rfl⟩
  gi_wp2
  obtain ⟨W3, hW3⟩ : ∃ W3, W3 = ((((w.alloc (.cells #[.int .i64 kd, .int .i64 nd, .slice a n cap] 25)).alloc (.cells #[.bool false] 4)).alloc (.cells #[.int .i64 0] 3)).alloc (.cells #[.int .i64 kd, .int .i64 nd, .slice a n cap] 25)) := ⟨_, rfl⟩
  have hb3 : Below w.heap.size w W3 := by rw [hW3]; exact ((((Below.refl _ _).alloc (Nat.le_refl _) _).alloc (by simp) _).alloc (by simp; omega) _).alloc (by simp; omega) _
  have hz3 : W3.heap.size = w.heap.size + 4 := by rw [hW3]; simp
  have gs : W3.heap[w.heap.size]? = some (.cells #[.int .i64 kd, .int .i64 nd, .slice a n cap] 25 (0, 0)) ∧ W3.heap[w.heap.size + 1]? = some (.cells #[.bool false] 4 (0, 0)) ∧ W3.heap[w.heap.size + 1 + 1]? = some (.cells #[.int .i64 0] 3 (0, 0)) ∧ W3.heap[w.heap.size + 1 + 1 + 1]? = some (.cells #[.int .i64 kd, .int .i64 nd, .slice a n cap] 25 (0, 0)) := by
    rw [hW3]
    simp only [heap_alloc_iff, World.size_alloc]
    refine ⟨?_, ?_, ?_, ?_⟩ <;> simp
    all_goals omega
  obtain ⟨g0, g1, g2, g3⟩ := gs
  have HL3 := Lib.hid (HL.out.keep (descRd_ok _) (Fix.of_below hb3))
  rw [← hW3]
  clear hW3
  refine wp_rangeAll (α := Value) rfl (by omega) (gf := 109) (lb := #[.pointer (some ⟨w.heap.size + 1 + 1 + 1, 0, none⟩)]) rfl trivial (enters_of Tryz.func109 (by kernel_rfl) rfl) (fun x => #[x]) (fun x => rfl)
    (JB w kd nd (.slice a n cap)) (fun _ _ _ => True) (KpN w.heap.size (w.heap.size + 1 + 1)) (fun _ => False) (1 + DescV.nodesL l) ?h0 ?hKt ?hKp ?hJs ?hJb ?hJp ?hOp ?hseq (fun x => { tmps := #[.agg #[.int .i64 kd, .int .i64 nd, .slice a n cap], .pointer (some ⟨w.heap.size, 0, none⟩), .pointer (some ⟨w.heap.size + 1, 0, none⟩), .pointer (some ⟨w.heap.size + 1 + 1, 0, none⟩), .agg #[.int .i64 kd, .int .i64 nd, .slice a n cap], .func (.func 109) #[] #[.pointer (some ⟨w.heap.size + 1 + 1 + 1, 0, none⟩)], x, undef, undef, undef, undef, undef, undef, undef], defers := [] }) ?assign ?body ?done
  case h0 => exact ⟨g2, g0, g1, hb3, by omega⟩
  case hKt => exact fun A B C h1 h2 => h1.trans h2
  case hKp => exact fun W lo o o' hle hl ho => ⟨Fix.of_grown (grownBy_putObj' W lo o') (fun b _ hf e => by cases e; omega), fun b _ c T f e => putN_cells hl ho e⟩
  case hJs => exact fun i W h => h.elim
  case hJb =>
    intro i W W' hj hb
    have hs := hj.size
    exact ⟨(hb.block _ (by omega)).trans hj.n, (hb.block _ (by omega)).trans hj.box, (hb.block _ (by omega)).trans hj.res, hj.below.trans (hb.mono (by omega)), Nat.le_trans hs hb.size⟩
  case hJp =>
    intro i W lo o o' hj hl hlo hoc
    have hs := hj.size
    exact ⟨putN_cells hlo hoc hj.n, putN_cells hlo hoc hj.box, putN_cells hlo hoc hj.res, putN_below hj.below (by omega) (by omega), by rw [World.putObj_size]; exact hs⟩
  case hOp => exact fun _ _ _ _ _ _ _ _ _ _ => trivial
  case hseq =>
    intro L K W hb hKb hKs hY h0
    have hbW := hb3.trans (hb.mono (by omega))
    exact all1_any L _ w.heap.size (w.heap.size + 1 + 1) K hKb (fun m i x W1 hi hK => yieldN rfl m (hY i x W1 hi hK trivial)) k _ kd nd l a n cap (w.heap.size + 1 + 1 + 1) W (HL.out.keep (descRd_ok _) (Fix.of_below hbW)) h0 (by have := hb.size; omega) (Nat.le_refl _) ((hb.block _ (by omega)).trans g3)
  case assign =>
    intro lo x W K hK
    dsimp only
    gi_wp2
    first
      | exact hK
      | exact (by kernel_rfl : #[(6 : Nat)].zip #[x] = #[(6, x)]) ▸ hK
      | (rw [show #[(6 : Nat)].zip #[x] = #[(6, x)] from rfl]; exact hK)
      | (have e : #[(6 : Nat)].zip #[x] = #[(6, x)] := by simp
         rw [e]; exact hK)
  case body =>
    intro lo i x W hi hj _
    have HJ := Lib.hid hj
    have hM := HM.out
    have hi64 : (i : Int) + 1 ≤ 9223372036854775807 := by omega
    have hi60 : ¬ (60 : Int) < (i : Int) + 1 := by omega
    have t0 := cell_at (o := 0) hj.n rfl
    have f0 := free_at (o := 0) hj.n
    clear hj
    gi_wp2
    have hB : Below w.heap.size w (W.setCell ⟨w.heap.size + 1 + 1, 0, none⟩ (.int .i64 ((i : Int) + 1))) := HJ.out.below.setCell (by show w.heap.size ≤ w.heap.size + 1 + 1; omega) _
    refine ⟨KeepsOthers.setCell _ _ _, ⟨Fix.setCell _ _ _ (fun h => by have h' : w.heap.size + 1 + 1 < w.heap.size := h; omega), fun b hb c T f e => (Below.heap_setCell _ _ _ _ hb).trans e⟩, ⟨?_, (Below.heap_setCell _ _ _ _ (by show w.heap.size ≠ w.heap.size + 1 + 1; omega)).trans HJ.out.box, (Below.heap_setCell _ _ _ _ (by show w.heap.size + 1 ≠ w.heap.size + 1 + 1; omega)).trans HJ.out.res, hB, by have := HJ.out.size; simpa [World.setCell] using this⟩⟩
    have h := heap_set_at (o := 0) (.int .i64 ((i : Int) + 1)) HJ.out.n
    exact h
  case done =>
    intro D W hD hj hdf
    have HJ := Lib.hid hj
    have HD := Lib.hid hdf
    have hsz := hj.size
    have t0 := cell_at (o := 0) hj.box rfl
    have t1 := cell_at (o := 1) hj.box rfl
    have t2 := cell_at (o := 2) hj.box rfl
    have HDP := Lib.hid (depth_any k _ kd nd l a n cap W (HL.out.keep (descRd_ok _) (Fix.of_below hj.below)) (by have := HM.out; omega))
    have HT : Hid (∀ w9, Below W.heap.size W w9 → w9.heap[w.heap.size + 1]? = some (.cells #[.bool false] 4 (0, 0))) := Lib.hid fun w9 hb => (hb.block _ (by omega)).trans HJ.out.res
    clear hj hdf
    gi_wp2
    refine ⟨trivial, ?_⟩
    refine (callsIn_wide.2 HDP.out).mono ?_
    rintro e w9 ⟨rfl, hb9⟩
    have HB9 := Lib.hid hb9
    have gr := HT.out w9 hb9
    have fr := free_at (o := 0) gr
    have hK0 : w9.heap[D]? = some (.deferred (some [])) := (hb9.block _ (Array.getElem?_eq_some_iff.1 HD.out).1).trans HD.out
    have HK0 := Lib.hid hK0
    have tr := cell_at (o := 0) gr rfl
    have GR := Lib.hid gr
    clear hb9 gr hK0
    gi_wp2
    have hne : D ≠ w.heap.size + 1 := by omega
    have hDK : (w9.setCell ⟨w.heap.size + 1, 0, none⟩ (.bool (decide ((12 : Int) < (DescV.depthL l : Int) + 1)))).heap[D]? = some (.deferred (some [])) := (Below.heap_setCell _ _ _ _ hne).trans HK0.out
    have hBB : Below w.heap.size w (w9.setCell ⟨w.heap.size + 1, 0, none⟩ (.bool (decide ((12 : Int) < (DescV.depthL l : Int) + 1)))) := (HJ.out.below.trans (HB9.out.mono (by omega))).setCell (by show w.heap.size ≤ w.heap.size + 1; omega) _
    have hRR := heap_set_at (o := 0) (.bool (decide ((12 : Int) < (DescV.depthL l : Int) + 1))) GR.out
    generalize w9.setCell ⟨w.heap.size + 1, 0, none⟩ (.bool (decide ((12 : Int) < (DescV.depthL l : Int) + 1))) = wz at *
    refine ⟨by simp, .inl ⟨_, _, rfl, run_takeDeferred hDK, ?_⟩⟩
    have hwz : w.heap.size ≤ wz.heap.size := hBB.size
    have hPP : Below w.heap.size w (wz.putObj D (.deferred none)) := putN_below hBB (by omega) hwz
    have hc : (wz.putObj D (.deferred none)).cell? ⟨w.heap.size + 1, 0, none⟩ = some (.bool (decide ((12 : Int) < (DescV.depthL l : Int) + 1))) := cell_at (putN_cells hDK rfl hRR) rfl
    refine ⟨.bool (decide ((12 : Int) < (DescV.depthL l : Int) + 1)), by simp [results, Tryz.results69, go_sem, hc], ?_, hPP⟩
    rw [show decide ((12 : Int) < (DescV.depthL l : Int) + 1) = decide (12 < DescV.depthL l + 1) from decide_eq_decide.2 (by omega)]
end Go.Proofs.YtibabpahpiijgaaGreatDoor.Lex
