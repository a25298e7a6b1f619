/- Nil36, Front36, Change36: laid into one text. -/
import Derived.Test.YtibabpahpiijgaaGreatDoorGKey
import Derived.Test.YtibabpahpiijgaaGreatDoorGrow
import Derived.Test.YtibabpahpiijgaaGreatDoorHeldZ
/- What slices' functions make of nil: nothing is deleted, nothing is copied, one is put in. -/
namespace Go.Proofs.YtibabpahpiijgaaGreatDoor.Lex
open Go.RowKit Stab
set_option linter.unusedSimpArgs false
set_option linter.unusedVariables false
theorem keyElem : Elem Tryz.prog 79 41 2 16 := ⟨Tryz.underlying79, ⟨.agg #[.int .i64 0, .int .i64 0], by kernel_rfl, rfl⟩, by omega⟩
set_option maxRecDepth 100000 in
set_option maxHeartbeats 1000000 in
theorem idx1_none (f : Value) (w : World) : Calls Tryz.prog 66 #[.slice none 0 0, f] w fun e w' => e = .returned (.int .i64 (-1)) ∧ w = w' := by
  go_enter Tryz.func66, Tryz.ntmps66
  go_upto_region 2 with fail
  go_loopg [8] 0 (fun g iv wr => g = 0 ∧ iv = .int .i64 0 ∧ w = wr)
  case atStart => exact ⟨rfl, rfl, rfl⟩
  case round =>
    obtain ⟨rfl, rfl, rfl⟩ := hrel
    go_wp2_with fail
    go_ret
    exact ⟨rfl, rfl⟩
set_option maxRecDepth 100000 in
set_option maxHeartbeats 1000000 in
theorem delF_none (f : Value) (w : World) : Calls Tryz.prog 36 #[.slice none 0 0, f] w fun e w' => e = .returned (.slice none 0 0) ∧ w = w' := by
  go_enter Tryz.func36, Tryz.ntmps36
  go_wp2_with (go_at_call 66; (with_reducible refine (idx1_none _ _).mono ?_); rintro e w2 ⟨rfl, rfl⟩)
  go_ret
  exact ⟨rfl, rfl⟩
set_option maxRecDepth 100000 in
set_option maxHeartbeats 1000000 in
theorem cloK_none (w : World) : Calls Tryz.prog 61 #[.slice none 0 0] w fun e w' => e = .returned (.slice none 0 0) ∧ w = w' := by
  have q : ∀ w : World, (binOp .eql 79 (.slice none 0 0) (.slice none 0 0)).run Tryz.prog w = .ok (.bool true) w := fun w => Lib.run_eql_slice_nil w _ _ none 0 0 0 0 Tryz.underlying79
  go_enter Tryz.func61, Tryz.ntmps61
  go_wp2_with fail
  go_ret
  exact ⟨rfl, rfl⟩
set_option maxRecDepth 100000 in
set_option maxHeartbeats 1000000 in
theorem cloO_none (w : World) : Calls Tryz.prog 62 #[.slice none 0 0] w fun e w' => e = .returned (.slice none 0 0) ∧ w = w' := by
  have q : ∀ w : World, (binOp .eql 35 (.slice none 0 0) (.slice none 0 0)).run Tryz.prog w = .ok (.bool true) w := fun w => Lib.run_eql_slice_nil w _ _ none 0 0 0 0 Tryz.underlying35
  go_enter Tryz.func62, Tryz.ntmps62
  go_wp2_with fail
  go_ret
  exact ⟨rfl, rfl⟩
set_option maxRecDepth 100000 in
set_option maxHeartbeats 1000000 in
theorem ins_none (x : Addr) (kn kr : Int) (w : World) (hx : Src w (some x) 1 1 2 [.int .i64 kn, .int .i64 kr]) :
    Calls Tryz.prog 64 #[.slice none 0 0, .int .i64 0, .slice (some x) 1 1] w fun e w' => ∃ v, e = .returned v ∧ w'.ownsRow w.heap.size 41 2 v 1 [.int .i64 kn, .int .i64 kr] ∧ Below w.heap.size w w' := by
  have HX := Lib.hid hx
  clear hx
  go_enter Tryz.func64, Tryz.ntmps64
  go_wp2_with (at_builtin; refine wpl_append_at rfl _ _ 79 rfl keyElem (.slice none 0 0) 0 [] rfl _ _ _ _ rfl (World.ownsRow_nil w w.heap.size _ _) HX.out (by unfold maxLen; omega) (by omega) (Nat.le_refl _) ?_; intro v' w8 ho8 hg8 hat8; have HO8 := Lib.hid ho8; have HG8 := Lib.hid hg8; clear ho8 hg8 hat8)
  go_ret
  exact ⟨_, rfl, HO8.out, ((Below.refl _ _).grown HG8.out (Nat.le_refl _) (fun q hq => by cases hq))⟩
end Go.Proofs.YtibabpahpiijgaaGreatDoor.Lex
/- A key comes to the front of a stripe that is empty. -/
namespace Go.Proofs.YtibabpahpiijgaaGreatDoor.Lex
open Go.RowKit Stab
set_option linter.unusedSimpArgs false
set_option linter.unusedVariables false
/-- A row with the one key (8, 0). -/
def OneKey (w : World) (e : Ending) (w' : World) : Prop :=
  ∃ a c, e = .returned (.slice a 1 c) ∧ RowOf keyRd 2 16 (From w.heap.size) w' a 1 c [(8, 0)] ∧ Below w.heap.size w w'
theorem oneKey_row {w : World} {B : Nat} {v : Value} (h : w.ownsRow B 41 2 v 1 [.int .i64 8, .int .i64 0]) : ∃ a c, v = .slice a 1 c ∧ RowOf keyRd 2 16 (From B) w a 1 c [(8, 0)] :=
  RowOf.of_owns h (by omega) rfl (by omega) (fun b hb => own_lt h b hb) fun i x hx => by
    cases i with
    | zero => 
      obtain rfl : (8, 0) = x := by simpa using hx
      exact ⟨rfl, _, _, rfl, ⟨rfl, by decide⟩, rfl, by decide⟩
    | succ i => simp at hx
set_option maxRecDepth 100000 in
set_option maxHeartbeats 1000000 in
theorem front1_any (kb sb : Nat) (w : World) (h0 : w.cell? ⟨kb, 0, none⟩ = some (.int .i64 8)) (h1 : w.cell? ⟨kb, 1, none⟩ = some (.int .i64 0)) (h2 : w.cell? ⟨sb, 0, none⟩ = some (.int .i64 2)) :
    Calls Tryz.prog 63 #[.slice none 0 0, .pointer (some ⟨kb, 0, none⟩), .pointer (some ⟨sb, 0, none⟩)] w (OneKey w) := by
  have HS0 : Hid (∀ W, Below w.heap.size w W → W.cell? ⟨kb, 0, none⟩ = some (.int .i64 8) ∧ W.cell? ⟨kb, 1, none⟩ = some (.int .i64 0) ∧ W.cell? ⟨sb, 0, none⟩ = some (.int .i64 2)) := Lib.hid fun W hW => by
    have l1 := World.block_lt_of_cell? w _ h0
    have l2 := World.block_lt_of_cell? w _ h2
    exact ⟨(hW.cell (p := ⟨kb, 0, none⟩) l1).trans h0, (hW.cell (p := ⟨kb, 1, none⟩) l1).trans h1, (hW.cell (p := ⟨sb, 0, none⟩) l2).trans h2⟩
  have hT0 := HS0.out w.drew (Below.refl _ _).drew
  clear h0 h1 h2
  go_enter Tryz.func63, Tryz.ntmps63
  go_upto_region 1 with fail
  refine Lex.wp_region_z (fun W => W.cell? ⟨kb, 0, none⟩ = some (.int .i64 8) ∧ W.cell? ⟨kb, 1, none⟩ = some (.int .i64 0) ∧ W.cell? ⟨sb, 0, none⟩ = some (.int .i64 2)) 6 (by kernel_rfl) ?_
  change Lex.wpZ _ _ _ _ _ _ 7 #[false, false, false, false, false, false, false] _ w.drew
  (refine Lex.wpZ_take (i := 0) (v := ?_) rfl (by kernel_rfl) (by kernel_rfl) (by kernel_rfl) (by kernel_rfl) (fun _ _ _ h => h) hT0 (Or.inl ⟨by rfl, ?_⟩) ?_; rotate_left 1; (focus (intro w0 hw0; (try dsimp only at hw0); obtain ⟨s0, s1, s2⟩ := hw0; go_simp; try with_reducible rfl)); simp only [Act.put, List.getElem_toArray, List.getElem_cons_zero, List.getElem_cons_succ, List.setIfInBounds_toArray, List.set_cons_zero, List.set_cons_succ])
  (refine Lex.wpZ_take (i := 1) (v := ?_) rfl (by kernel_rfl) (by kernel_rfl) (by kernel_rfl) (by kernel_rfl) (fun _ _ _ h => h) hT0 (Or.inl ⟨by rfl, ?_⟩) ?_; rotate_left 1; (focus (intro w0 hw0; (try dsimp only at hw0); obtain ⟨s0, s1, s2⟩ := hw0; go_simp; try with_reducible rfl)); simp only [Act.put, List.getElem_toArray, List.getElem_cons_zero, List.getElem_cons_succ, List.setIfInBounds_toArray, List.set_cons_zero, List.set_cons_succ])
  (refine Lex.wpZ_take (i := 3) (v := ?_) rfl (by kernel_rfl) (by kernel_rfl) (by kernel_rfl) (by kernel_rfl) (fun _ _ _ h => h) hT0 (Or.inl ⟨by rfl, ?_⟩) ?_; rotate_left 1; (focus (intro w0 hw0; (try dsimp only at hw0); obtain ⟨s0, s1, s2⟩ := hw0; go_simp; try with_reducible rfl)); simp only [Act.put, List.getElem_toArray, List.getElem_cons_zero, List.getElem_cons_succ, List.setIfInBounds_toArray, List.set_cons_zero, List.set_cons_succ])
  obtain ⟨W2, hW2⟩ : ∃ W2, W2 = (w.alloc (.cells #[.int .i64 8, .int .i64 0] 41)).drew := ⟨_, rfl⟩
  have hB2 : Below w.heap.size w W2 := by rw [hW2]; exact ((Below.refl _ _).alloc (Nat.le_refl _) _).drew
  have hSRC : Src W2 (some ⟨w.heap.size, 0, none⟩) 1 1 2 [.int .i64 8, .int .i64 0] := by
    have h := src_new3 (w := w) [.int .i64 8, .int .i64 0] 41 2 rfl (by simp [Value.oneCell'])
    rw [hW2]; exact ⟨h.len, h.nil, h.at_, h.one⟩
  have HI := Lib.hid (ins_none ⟨w.heap.size, 0, none⟩ 8 0 W2 hSRC)
  have hT2 := HS0.out W2 hB2
  have HB2 := Lib.hid hB2
  clear hSRC hB2
  refine Lex.wpZ_ready (rs := [2, 4]) (by kernel_rfl) (by simp) ?_
  refine Lex.ReadyZ.cons rfl (fun K hK => ?_) (Lex.ReadyZ.cons rfl (fun K hK => ?_) Lex.ReadyZ.nil)
  · go_simp
    refine (delF_none _ _).mono ?_
    rintro e w2 ⟨rfl, rfl⟩
    refine hK.out _ _ (.inr hT0) ?_
    clear hK K
    simp only [Act.put, List.getElem_toArray, List.getElem_cons_zero, List.getElem_cons_succ, List.setIfInBounds_toArray, List.set_cons_zero, List.set_cons_succ]
    refine Lex.wpZ_ready (rs := [4]) (by kernel_rfl) (by simp) ?_
    refine Lex.ReadyZ.cons rfl (fun K hK => ?_) Lex.ReadyZ.nil
    go_simp
    rw [← hW2]
    refine hK.out _ _ (.inr hT2) ?_
    clear hK K hW2 hT0
    simp only [Act.put, List.getElem_toArray, List.getElem_cons_zero, List.getElem_cons_succ, List.setIfInBounds_toArray, List.set_cons_zero, List.set_cons_succ]
    (refine Lex.wpZ_ready (rs := [5]) (by kernel_rfl) (by simp) ?_; refine Lex.ReadyZ.cons rfl (fun K hK => ?_) Lex.ReadyZ.nil; go_simp; refine HI.out.mono ?_; rintro e w3 ⟨v, rfl, ho, hb⟩; have hb3 := HB2.out.trans (hb.mono HB2.out.size); have hT3 := HS0.out w3 hb3; obtain ⟨va, vc, rfl, hr3⟩ := oneKey_row ho; have HR3 := Lib.hid (hr3.mono keyRd_ok (G := From w.heap.size) (fun q _ hq => Nat.le_trans HB2.out.size hq)); have HB3 := Lib.hid hb3; clear ho hb hb3 hr3; refine hK.out _ _ (.inr hT3) ?_; clear hK K; simp only [Act.put, List.getElem_toArray, List.getElem_cons_zero, List.getElem_cons_succ, List.setIfInBounds_toArray, List.set_cons_zero, List.set_cons_succ]; refine Lex.wpZ_ready (rs := [6]) (by kernel_rfl) (by simp) ?_; refine Lex.ReadyZ.cons rfl (fun K hK => ?_) Lex.ReadyZ.nil; go_simp; refine hK.out _ _ (.inl rfl) ?_; clear hK K; simp only [Act.put, List.getElem_toArray, List.getElem_cons_zero, List.getElem_cons_succ, List.setIfInBounds_toArray, List.set_cons_zero, List.set_cons_succ]; refine Lex.wpZ_done (by kernel_rfl) ?_ _; obtain ⟨s0, s1, s2⟩ := hT3; have i1 : (1 : Nat) ≤ vc := HR3.out.le; have i1x : vc ≤ maxLen := HR3.out.max; go_wp2_with fail; go_ret; exact ⟨va, vc, rfl, HR3.out, HB3.out⟩)
  · go_simp
    rw [← hW2]
    refine hK.out _ _ (.inr hT2) ?_
    clear hK K hW2 hT0
    simp only [Act.put, List.getElem_toArray, List.getElem_cons_zero, List.getElem_cons_succ, List.setIfInBounds_toArray, List.set_cons_zero, List.set_cons_succ]
    refine Lex.wpZ_ready (rs := [2]) (by kernel_rfl) (by simp) ?_
    refine Lex.ReadyZ.cons rfl (fun K hK => ?_) Lex.ReadyZ.nil
    go_simp
    refine (delF_none _ _).mono ?_
    rintro e w2 ⟨rfl, rfl⟩
    refine hK.out _ _ (.inr hT2) ?_
    clear hK K
    simp only [Act.put, List.getElem_toArray, List.getElem_cons_zero, List.getElem_cons_succ, List.setIfInBounds_toArray, List.set_cons_zero, List.set_cons_succ]
    (refine Lex.wpZ_ready (rs := [5]) (by kernel_rfl) (by simp) ?_; refine Lex.ReadyZ.cons rfl (fun K hK => ?_) Lex.ReadyZ.nil; go_simp; refine HI.out.mono ?_; rintro e w3 ⟨v, rfl, ho, hb⟩; have hb3 := HB2.out.trans (hb.mono HB2.out.size); have hT3 := HS0.out w3 hb3; obtain ⟨va, vc, rfl, hr3⟩ := oneKey_row ho; have HR3 := Lib.hid (hr3.mono keyRd_ok (G := From w.heap.size) (fun q _ hq => Nat.le_trans HB2.out.size hq)); have HB3 := Lib.hid hb3; clear ho hb hb3 hr3; refine hK.out _ _ (.inr hT3) ?_; clear hK K; simp only [Act.put, List.getElem_toArray, List.getElem_cons_zero, List.getElem_cons_succ, List.setIfInBounds_toArray, List.set_cons_zero, List.set_cons_succ]; refine Lex.wpZ_ready (rs := [6]) (by kernel_rfl) (by simp) ?_; refine Lex.ReadyZ.cons rfl (fun K hK => ?_) Lex.ReadyZ.nil; go_simp; refine hK.out _ _ (.inl rfl) ?_; clear hK K; simp only [Act.put, List.getElem_toArray, List.getElem_cons_zero, List.getElem_cons_succ, List.setIfInBounds_toArray, List.set_cons_zero, List.set_cons_succ]; refine Lex.wpZ_done (by kernel_rfl) ?_ _; obtain ⟨s0, s1, s2⟩ := hT3; have i1 : (1 : Nat) ≤ vc := HR3.out.le; have i1x : vc ≤ maxLen := HR3.out.max; go_wp2_with fail; go_ret; exact ⟨va, vc, rfl, HR3.out, HB3.out⟩)
end Go.Proofs.YtibabpahpiijgaaGreatDoor.Lex
/- The key (8, 0) comes to the front of an empty stripe. -/
namespace Go.Proofs.YtibabpahpiijgaaGreatDoor.Lex
open Go.RowKit Stab
set_option linter.unusedSimpArgs false
set_option linter.unusedVariables false
/-- The stripe in block B's first cell holds the key (8, 0). -/
def Fronted (B : Nat) (w : World) (e : Ending) (w' : World) : Prop :=
  ∃ a c W3, e = .returned (.tuple #[]) ∧ Below w.heap.size w W3 ∧ RowOf keyRd 2 16 (From w.heap.size) W3 a 1 c [(8, 0)] ∧ w' = W3.setCell ⟨B, 0, none⟩ (.slice a 1 c)
set_option maxRecDepth 100000 in
set_option maxHeartbeats 1000000 in
theorem change_any (n B pc kb sb : Nat) (a : Option Addr) (an ac : Nat) (oa : Option Addr) (on oc : Nat) (w : World) (T : TypeId) (x1 : Value) (hB : w.heap[B]? = some (.cells #[.slice none 0 0, x1] T (0, 0)))
    (h0 : w.cell? ⟨kb, 0, none⟩ = some (.int .i64 8)) (h1 : w.cell? ⟨kb, 1, none⟩ = some (.int .i64 0)) (h2 : w.cell? ⟨sb, 0, none⟩ = some (.int .i64 2)) :
    Calls Tryz.prog 34 #[.agg #[.int .i64 2, .slice a an ac, .slice (some ⟨B, 0, none⟩) 2 pc, .slice oa on oc], .agg #[.int .i64 8, .int .i64 0], .func (.func 63) #[] #[.pointer (some ⟨kb, 0, none⟩), .pointer (some ⟨sb, 0, none⟩)]] w (Fronted B w) := by
  obtain ⟨N, hN⟩ : ∃ N, N = w.heap.size := ⟨_, rfl⟩
  obtain ⟨W1, hW1⟩ : ∃ W1, W1 = (w.alloc (.cells #[.int .i64 2, .slice a an ac, .slice (some ⟨B, 0, none⟩) 2 pc, .slice oa on oc] 37)).alloc (.cells #[.int .i64 8, .int .i64 0] 41) := ⟨_, rfl⟩
  have hb1 : Below N w W1 := by rw [hW1, hN]; exact ((Below.refl _ _).alloc (Nat.le_refl _) _).alloc (by simp) _
  have gs : W1.heap[N]? = some (.cells #[.int .i64 2, .slice a an ac, .slice (some ⟨B, 0, none⟩) 2 pc, .slice oa on oc] 37 (0, 0)) ∧ W1.heap[N + 1]? = some (.cells #[.int .i64 8, .int .i64 0] 41 (0, 0)) := by
    rw [hW1, hN]
    simp only [heap_alloc_iff, World.size_alloc]
    refine ⟨?_, ?_⟩ <;> simp
  obtain ⟨g0, g1⟩ := gs
  have hz1 : W1.heap.size = N + 2 := by rw [hW1, hN]; simp
  have lB : B < N := by rw [hN]; exact (Array.getElem?_eq_some_iff.1 hB).1
  have lk : kb < N := by rw [hN]; exact World.block_lt_of_cell? w _ h0
  have ls : sb < N := by rw [hN]; exact World.block_lt_of_cell? w _ h2
  have HS : Hid (∀ W, Below W1.heap.size W1 W → W.heap[B]? = some (.cells #[.slice none 0 0, x1] T (0, 0)) ∧ W.cell? ⟨N, 2, none⟩ = some (.slice (some ⟨B, 0, none⟩) 2 pc) ∧ W.cell? ⟨B, 0, none⟩ = some (.slice none 0 0) ∧ W.cell? ⟨kb, 0, none⟩ = some (.int .i64 8) ∧ W.cell? ⟨kb, 1, none⟩ = some (.int .i64 0) ∧ W.cell? ⟨sb, 0, none⟩ = some (.int .i64 2)) := Lib.hid fun W hW => by
    have hw := hb1.trans (hW.mono (by omega))
    have gB := (hw.block _ lB).trans hB
    exact ⟨gB, cell_at ((hW.block _ (by omega)).trans g0) rfl, cell_at gB rfl, (hw.cell (p := ⟨kb, 0, none⟩) lk).trans h0, (hw.cell (p := ⟨kb, 1, none⟩) lk).trans h1, (hw.cell (p := ⟨sb, 0, none⟩) ls).trans h2⟩
  have c0 : W1.cell? ⟨N, 0, none⟩ = some (.int .i64 2) := cell_at g0 rfl
  have c1 : W1.cell? ⟨N, 1, none⟩ = some (.slice a an ac) := cell_at g0 rfl
  have c2 : W1.cell? ⟨N, 2, none⟩ = some (.slice (some ⟨B, 0, none⟩) 2 pc) := cell_at g0 rfl
  have c3 : W1.cell? ⟨N, 3, none⟩ = some (.slice oa on oc) := cell_at g0 rfl
  have k0 : W1.cell? ⟨N + 1, 0, none⟩ = some (.int .i64 8) := cell_at g1 rfl
  have k1 : W1.cell? ⟨N + 1, 1, none⟩ = some (.int .i64 0) := cell_at g1 rfl
  have HP := Lib.hid (place8_any 2 (.slice a an ac) ⟨_, _, _, rfl⟩ (some ⟨B, 0, none⟩) pc (.slice oa on oc) ⟨_, _, _, rfl⟩ W1)
  have HN := Lib.hid hN
  have HB1 := Lib.hid hb1
  have HZ1 := Lib.hid hz1
  clear g0 g1 hb1 hz1 lB lk ls hB h0 h1 h2
  go_enter Tryz.func34, Tryz.ntmps34
  go_upto_region 1 with fail
  rw [← hW1, ← hN]
  clear hW1 hN
  go_upto_region 2 with (go_at_call 45; (with_reducible refine HP.out.mono ?_); rintro e w2 ⟨rfl, hb2⟩; have HB2 := Lib.hid hb2; clear c0 c1 c2 c3 k0 k1 hb2)
  obtain ⟨hg2, hT0⟩ := HS.out w2.drew HB2.out.drew
  clear hg2
  refine Lex.wp_region_z (fun W => W.cell? ⟨N, 2, none⟩ = some (.slice (some ⟨B, 0, none⟩) 2 pc) ∧ W.cell? ⟨B, 0, none⟩ = some (.slice none 0 0) ∧ W.cell? ⟨kb, 0, none⟩ = some (.int .i64 8) ∧ W.cell? ⟨kb, 1, none⟩ = some (.int .i64 0) ∧ W.cell? ⟨sb, 0, none⟩ = some (.int .i64 2)) 11 (by kernel_rfl) ?_
  change Lex.wpZ _ _ _ _ _ _ 12 #[false, false, false, false, false, false, false, false, false, false, false, false] _ w2.drew
  (refine Lex.wpZ_take (i := 0) (v := ?_) rfl (by kernel_rfl) (by kernel_rfl) (by kernel_rfl) (by kernel_rfl) (fun _ _ _ h => h) hT0 (Or.inl ⟨by rfl, ?_⟩) ?_; rotate_left 1; (focus (intro w0 hw0; (try dsimp only at hw0); obtain ⟨s0, s1, s2, s3, s4⟩ := hw0; go_simp; try with_reducible rfl)); simp only [Act.put, List.getElem_toArray, List.getElem_cons_zero, List.getElem_cons_succ, List.setIfInBounds_toArray, List.set_cons_zero, List.set_cons_succ])
  (refine Lex.wpZ_take (i := 1) (v := ?_) rfl (by kernel_rfl) (by kernel_rfl) (by kernel_rfl) (by kernel_rfl) (fun _ _ _ h => h) hT0 (Or.inl ⟨by rfl, ?_⟩) ?_; rotate_left 1; (focus (intro w0 hw0; (try dsimp only at hw0); obtain ⟨s0, s1, s2, s3, s4⟩ := hw0; go_simp; try with_reducible rfl)); simp only [Act.put, List.getElem_toArray, List.getElem_cons_zero, List.getElem_cons_succ, List.setIfInBounds_toArray, List.set_cons_zero, List.set_cons_succ])
  (refine Lex.wpZ_take (i := 2) (v := ?_) rfl (by kernel_rfl) (by kernel_rfl) (by kernel_rfl) (by kernel_rfl) (fun _ _ _ h => h) hT0 (Or.inl ⟨by rfl, ?_⟩) ?_; rotate_left 1; (focus (intro w0 hw0; (try dsimp only at hw0); obtain ⟨s0, s1, s2, s3, s4⟩ := hw0; go_simp; try with_reducible rfl)); simp only [Act.put, List.getElem_toArray, List.getElem_cons_zero, List.getElem_cons_succ, List.setIfInBounds_toArray, List.set_cons_zero, List.set_cons_succ])
  (refine Lex.wpZ_take (i := 3) (v := ?_) rfl (by kernel_rfl) (by kernel_rfl) (by kernel_rfl) (by kernel_rfl) (fun _ _ _ h => h) hT0 (Or.inl ⟨by rfl, ?_⟩) ?_; rotate_left 1; (focus (intro w0 hw0; (try dsimp only at hw0); obtain ⟨s0, s1, s2, s3, s4⟩ := hw0; go_simp; try with_reducible rfl)); simp only [Act.put, List.getElem_toArray, List.getElem_cons_zero, List.getElem_cons_succ, List.setIfInBounds_toArray, List.set_cons_zero, List.set_cons_succ])
  (refine Lex.wpZ_take (i := 4) (v := ?_) rfl (by kernel_rfl) (by kernel_rfl) (by kernel_rfl) (by kernel_rfl) (fun _ _ _ h => h) hT0 (Or.inl ⟨by rfl, ?_⟩) ?_; rotate_left 1; (focus (intro w0 hw0; (try dsimp only at hw0); obtain ⟨s0, s1, s2, s3, s4⟩ := hw0; go_simp; try with_reducible rfl)); simp only [Act.put, List.getElem_toArray, List.getElem_cons_zero, List.getElem_cons_succ, List.setIfInBounds_toArray, List.set_cons_zero, List.set_cons_succ])
  (refine Lex.wpZ_take (i := 5) (v := ?_) rfl (by kernel_rfl) (by kernel_rfl) (by kernel_rfl) (by kernel_rfl) (fun _ _ _ h => h) hT0 (Or.inl ⟨by rfl, ?_⟩) ?_; rotate_left 1; (focus (intro w0 hw0; (try dsimp only at hw0); obtain ⟨s0, s1, s2, s3, s4⟩ := hw0; go_simp; try with_reducible rfl)); simp only [Act.put, List.getElem_toArray, List.getElem_cons_zero, List.getElem_cons_succ, List.setIfInBounds_toArray, List.set_cons_zero, List.set_cons_succ])
  (refine Lex.wpZ_take (i := 6) (v := ?_) rfl (by kernel_rfl) (by kernel_rfl) (by kernel_rfl) (by kernel_rfl) (fun _ _ _ h => h) hT0 (Or.inl ⟨by rfl, ?_⟩) ?_; rotate_left 1; (focus (intro w0 hw0; (try dsimp only at hw0); obtain ⟨s0, s1, s2, s3, s4⟩ := hw0; go_simp; try with_reducible rfl)); simp only [Act.put, List.getElem_toArray, List.getElem_cons_zero, List.getElem_cons_succ, List.setIfInBounds_toArray, List.set_cons_zero, List.set_cons_succ])
  (refine Lex.wpZ_take (i := 7) (v := ?_) rfl (by kernel_rfl) (by kernel_rfl) (by kernel_rfl) (by kernel_rfl) (fun _ _ _ h => h) hT0 (Or.inl ⟨by rfl, ?_⟩) ?_; rotate_left 1; (focus (intro w0 hw0; (try dsimp only at hw0); obtain ⟨s0, s1, s2, s3, s4⟩ := hw0; go_simp; try with_reducible rfl)); simp only [Act.put, List.getElem_toArray, List.getElem_cons_zero, List.getElem_cons_succ, List.setIfInBounds_toArray, List.set_cons_zero, List.set_cons_succ])
  (refine Lex.wpZ_take (i := 8) (v := ?_) rfl (by kernel_rfl) (by kernel_rfl) (by kernel_rfl) (by kernel_rfl) (fun _ _ _ h => h) hT0 (Or.inl ⟨by rfl, ?_⟩) ?_; rotate_left 1; (focus (intro w0 hw0; (try dsimp only at hw0); obtain ⟨s0, s1, s2, s3, s4⟩ := hw0; go_simp; try with_reducible rfl)); simp only [Act.put, List.getElem_toArray, List.getElem_cons_zero, List.getElem_cons_succ, List.setIfInBounds_toArray, List.set_cons_zero, List.set_cons_succ])
  refine Lex.wpZ_ready (rs := [9]) (by kernel_rfl) (by simp) ?_
  refine Lex.ReadyZ.cons rfl (fun K hK => ?_) Lex.ReadyZ.nil
  go_simp
  have HT0 := Lib.hid hT0
  refine (front1_any kb sb w2.drew HT0.out.2.2.1 HT0.out.2.2.2.1 HT0.out.2.2.2.2).mono ?_
  rintro e w3 ⟨a3, c3, rfl, hr3, hb3⟩
  have hb13 : Below W1.heap.size W1 w3 := HB2.out.drew.trans (hb3.mono HB2.out.size)
  obtain ⟨hg3, hT3⟩ := HS.out w3 hb13
  have HR3 := Lib.hid (hr3.mono keyRd_ok (G := From w.heap.size) (fun q _ hq => by have h1 : w2.heap.size ≤ q := hq; have h2 := HB2.out.size; have h3 := HZ1.out; have h4 := HN.out; show w.heap.size ≤ q; omega))
  have HB3 : Hid (Below w.heap.size w w3) := Lib.hid (by rw [← HN.out]; exact HB1.out.trans (hb13.mono (by have := HZ1.out; omega)))
  have HT3 := Lib.hid hT3
  have f0 : w3.frozen? ⟨B, 0, none⟩ = false := free_at hg3
  have b0 : w3.cell? ⟨B, 0, none⟩ = some (.slice none 0 0) := cell_at hg3 rfl
  clear hr3 hb3 hb13 hg3 hT0
  refine hK.out _ _ (.inr hT3) ?_
  clear hK K hT3
  simp only [Act.put, List.getElem_toArray, List.getElem_cons_zero, List.getElem_cons_succ, List.setIfInBounds_toArray, List.set_cons_zero, List.set_cons_succ]
  (refine Lex.wpZ_take (i := 10) (v := ?_) rfl (by kernel_rfl) (by kernel_rfl) (by kernel_rfl) (by kernel_rfl) (fun _ _ _ h => h) HT3.out (Or.inl ⟨by rfl, ?_⟩) ?_; rotate_left 1; (focus (intro w0 hw0; (try dsimp only at hw0); obtain ⟨s0, s1, s2, s3, s4⟩ := hw0; go_simp; try with_reducible rfl)); simp only [Act.put, List.getElem_toArray, List.getElem_cons_zero, List.getElem_cons_succ, List.setIfInBounds_toArray, List.set_cons_zero, List.set_cons_succ])
  refine Lex.wpZ_ready (rs := [11]) (by kernel_rfl) (by simp) ?_
  refine Lex.ReadyZ.cons rfl (fun K hK => ?_) Lex.ReadyZ.nil
  go_simp
  refine hK.out _ _ (.inl rfl) ?_
  clear hK K
  simp only [Act.put, List.getElem_toArray, List.getElem_cons_zero, List.getElem_cons_succ, List.setIfInBounds_toArray, List.set_cons_zero, List.set_cons_succ]
  refine Lex.wpZ_done (by kernel_rfl) ?_ _
  go_wp2_with fail
  go_end0
  exact ⟨a3, c3, w3, rfl, HB3.out, HR3.out, rfl⟩
set_option maxRecDepth 100000 in
set_option maxHeartbeats 1000000 in
theorem front_any (B pc : Nat) (a : Option Addr) (an ac : Nat) (oa : Option Addr) (on oc : Nat) (w : World) (T : TypeId) (x1 : Value) (hB : w.heap[B]? = some (.cells #[.slice none 0 0, x1] T (0, 0))) :
    Calls Tryz.prog 33 #[.agg #[.int .i64 2, .slice a an ac, .slice (some ⟨B, 0, none⟩) 2 pc, .slice oa on oc], .agg #[.int .i64 8, .int .i64 0]] w (Fronted B w) := by
  obtain ⟨N, hN⟩ : ∃ N, N = w.heap.size := ⟨_, rfl⟩
  obtain ⟨W1, hW1⟩ : ∃ W1, W1 = (w.alloc (.cells #[.int .i64 2, .slice a an ac, .slice (some ⟨B, 0, none⟩) 2 pc, .slice oa on oc] 37)).alloc (.cells #[.int .i64 8, .int .i64 0] 41) := ⟨_, rfl⟩
  have hb1 : Below N w W1 := by rw [hW1, hN]; exact ((Below.refl _ _).alloc (Nat.le_refl _) _).alloc (by simp) _
  have gs : W1.heap[N]? = some (.cells #[.int .i64 2, .slice a an ac, .slice (some ⟨B, 0, none⟩) 2 pc, .slice oa on oc] 37 (0, 0)) ∧ W1.heap[N + 1]? = some (.cells #[.int .i64 8, .int .i64 0] 41 (0, 0)) := by
    rw [hW1, hN]
    simp only [heap_alloc_iff, World.size_alloc]
    refine ⟨?_, ?_⟩ <;> simp
  obtain ⟨g0, g1⟩ := gs
  have lB : B < N := by rw [hN]; exact (Array.getElem?_eq_some_iff.1 hB).1
  have c0 : W1.cell? ⟨N, 0, none⟩ = some (.int .i64 2) := cell_at g0 rfl
  have c1 : W1.cell? ⟨N, 1, none⟩ = some (.slice a an ac) := cell_at g0 rfl
  have c2 : W1.cell? ⟨N, 2, none⟩ = some (.slice (some ⟨B, 0, none⟩) 2 pc) := cell_at g0 rfl
  have c3 : W1.cell? ⟨N, 3, none⟩ = some (.slice oa on oc) := cell_at g0 rfl
  have k0 : W1.cell? ⟨N + 1, 0, none⟩ = some (.int .i64 8) := cell_at g1 rfl
  have k1 : W1.cell? ⟨N + 1, 1, none⟩ = some (.int .i64 0) := cell_at g1 rfl
  have HP := Lib.hid (change_any 2 B pc (N + 1) N a an ac oa on oc W1 T x1 ((hb1.block _ lB).trans hB) k0 k1 c0)
  have HN := Lib.hid hN
  have HB1 := Lib.hid hb1
  clear g0 g1 hb1 lB hB
  go_enter Tryz.func33, Tryz.ntmps33
  go_upto_region 1 with fail
  rw [← hW1, ← hN]
  clear hW1 hN
  go_wp2_with (go_at_call 34; (with_reducible refine HP.out.mono ?_); rintro e w2 ⟨a3, q3, w3, rfl, hb3, hr3, rfl⟩; have HB3 := Lib.hid hb3; have HR3 := Lib.hid hr3; clear c0 c1 c2 c3 k0 k1 hb3 hr3)
  go_end0
  exact ⟨a3, q3, w3, rfl, by rw [← HN.out]; exact HB1.out.trans (HB3.out.mono (by rw [HN.out]; exact HB1.out.size)), HR3.out.mono keyRd_ok (fun q _ hq => by have h1 : W1.heap.size ≤ q := hq; have h2 := HB1.out.size; have h4 := HN.out; show w.heap.size ≤ q; have h5 : w.heap.size ≤ W1.heap.size := HB1.out.size; omega), rfl⟩
end Go.Proofs.YtibabpahpiijgaaGreatDoor.Lex
