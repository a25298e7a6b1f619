/- desc.Clone: a tree of its own. -/
import Derived.Test.YtibabpahpiijgaaGreatDoorGrow
import Derived.Test.YtibabpahpiijgaaGreatDoorHeldZ
import Derived.Test.YtibabpahpiijgaaGreatDoorProg
import Derived.Deep.LoopGhost
namespace Go.Proofs.YtibabpahpiijgaaGreatDoor
open Go.RowKit
set_option linter.unusedSimpArgs false
set_option linter.unusedVariables false
def ClonePost (k : Nat) (kd nd : Int) (n : Nat) (l : List DescV) (w : World) (e : Ending) (w' : World) : Prop :=
  ∃ a c, e = .returned (.agg #[.int .i64 kd, .int .i64 nd, .slice a n c]) ∧ RowOf (descRd k) 3 40 (From w.heap.size) w' a n c l ∧ Below w.heap.size w w'
/-- Between two rounds: the first i kids are cloned. -/
structure ClS (k : Nat) (kd nd : Int) (l : List DescV) (w : World) (i : Nat) (v : Value) (xs : List Value) (wr : World) : Prop where
  box : wr.heap[w.heap.size + 1 + 1]? = some (.cells #[.int .i64 kd, .int .i64 nd, v] 25 (0, 0))
  res : wr.heap[w.heap.size + 1]? = some (.cells #[.int .i64 0, .int .i64 0, .slice none 0 0] 25 (0, 0))
  row : Trees k (w.heap.size + 3) wr v (l.take i) xs
  below : Below w.heap.size w wr
  size : w.heap.size + 3 ≤ wr.heap.size
set_option maxRecDepth 100000 in
set_option maxHeartbeats 4000000 in
theorem clone_step (k : Nat) (ih : ∀ j, k = j + 1 → ∀ (F : Foot) (kd nd : Int) (l : List DescV) (a : Option Addr) (n cap : Nat) (w : World), RowOf (descRd j) 3 40 F w a n cap l →
    Calls Tryz.prog 25 #[.agg #[.int .i64 kd, .int .i64 nd, .slice a n cap]] w (ClonePost j kd nd n l w)) (F : Foot) (kd nd : Int) (l : List DescV) (a : Option Addr) (n cap : Nat) (w : World) (hl : RowOf (descRd k) 3 40 F w a n cap l) :
    Calls Tryz.prog 25 #[.agg #[.int .i64 kd, .int .i64 nd, .slice a n cap]] w (ClonePost k kd nd n l w) := by
  have HLN := Lib.hid hl.len
  have HRM := Lib.hid hl.room
  have hn : n ≤ 3518437208880 := by have := hl.room; omega
  have HL := Lib.hid hl
  have HIH := Lib.hid ih
  clear hl ih
  have HS0 : Hid (ClS k kd nd l w 0 (.slice none 0 0) [] (((w.alloc (.cells #[.int .i64 kd, .int .i64 nd, .slice a n cap] 25)).alloc (.cells #[.int .i64 0, .int .i64 0, .slice none 0 0] 25)).alloc (.cells #[.int .i64 kd, .int .i64 nd, .slice none 0 0] 25))) := Lib.hid (by
    refine ⟨?_, ?_, Trees.nil _ _ _, (((Below.refl _ _).alloc (Nat.le_refl _) _).alloc (by simp) _).alloc (by simp; omega) _, by simp⟩
    · have h2 := heap_alloc_new ((w.alloc (.cells #[.int .i64 kd, .int .i64 nd, .slice a n cap] 25)).alloc (.cells #[.int .i64 0, .int .i64 0, .slice none 0 0] 25)) (.cells #[.int .i64 kd, .int .i64 nd, .slice none 0 0] 25)
      rw [show ((w.alloc (.cells #[.int .i64 kd, .int .i64 nd, .slice a n cap] 25)).alloc (.cells #[.int .i64 0, .int .i64 0, .slice none 0 0] 25)).heap.size = w.heap.size + 1 + 1 by simp] at h2
      exact h2
    · rw [Lib.alloc_old _ _ _ (by simp)]
      have h2 := heap_alloc_new (w.alloc (.cells #[.int .i64 kd, .int .i64 nd, .slice a n cap] 25)) (.cells #[.int .i64 0, .int .i64 0, .slice none 0 0] 25)
      rw [show (w.alloc (.cells #[.int .i64 kd, .int .i64 nd, .slice a n cap] 25)).heap.size = w.heap.size + 1 by simp] at h2
      exact h2)
  go_enter Tryz.func25, Tryz.ntmps25
  go_wp2_with fail
  go_loopg [14] n (fun g iv wr => ∃ (i : Nat) (v : Value) (xs : List Value), i ≤ n ∧ g = n - i ∧ iv = .int .i64 i ∧ ClS k kd nd l w i v xs wr)
  case atStart => exact ⟨0, _, _, by omega, rfl, rfl, HS0.out⟩
  case round =>
    obtain ⟨i, v, xs, hi, rfl, rfl, hst⟩ := hrel
    obtain ⟨wo, rfl⟩ : ∃ wo : World, wo = wr := ⟨_, rfl⟩
    have HST := Lib.hid hst
    have hzo := hst.size
    have hz2 : w.heap.size + 1 + 1 < wo.heap.size := by omega
    have HSL := Lib.hid hst.row.slice
    by_cases hlt : i < n
    · obtain ⟨k, rfl⟩ : ∃ j, k = j + 1 := by
        cases k with
        | zero => exact absurd (row_no_zero HL.out) (fun e => by have := HLN.out; rw [e] at this; simp at this; omega)
        | succ j => exact ⟨j, rfl⟩
      have hil : i < l.length := by have := HLN.out; omega
      obtain ⟨b, off, ax, nx, cx, rfl, hbw, _, wk, wn, hk, p0, p1, p2⟩ := (HL.out.keep (descRd_ok _) (Fix.of_below hst.below)).desc i hil
      have HTK := Lib.hid (List.take_succ_eq_append_getElem hil)
      generalize l[i]'hil = d at *
      obtain ⟨dk, dn, dl⟩ := d
      simp only [DescV.kind, DescV.n, DescV.kids] at p0 p1 p2 hk wk wn
      have HK := Lib.hid hk
      have HWK := Lib.hid wk
      have HWN := Lib.hid wn
      have HBX := Lib.hid hst.box
      clear hk hst wk wn
      go_wp2_with fail
      obtain ⟨W4, hW4⟩ : ∃ W4, W4 = wo.alloc (.cells #[.int .i64 dk, .int .i64 dn, .slice ax nx cx] 25) := ⟨_, rfl⟩
      have hb4 : Below wo.heap.size wo W4 := by rw [hW4]; exact (Below.refl _ _).alloc (Nat.le_refl _) _
      have g4 : W4.heap[wo.heap.size]? = some (.cells #[.int .i64 dk, .int .i64 dn, .slice ax nx cx] 25 (0, 0)) := by rw [hW4]; exact heap_alloc_new wo _
      have hz4 : W4.heap.size = wo.heap.size + 1 := by rw [hW4]; simp
      have HB4 := Lib.hid hb4
      have HSS : Hid (∀ W, Below W4.heap.size W4 W → W.cell? ⟨w.heap.size + 1 + 1, 2, none⟩ = some v ∧ W.cell? ⟨wo.heap.size, 0, none⟩ = some (.int .i64 dk) ∧ W.cell? ⟨wo.heap.size, 1, none⟩ = some (.int .i64 dn) ∧ W.cell? ⟨wo.heap.size, 2, none⟩ = some (.slice ax nx cx)) := Lib.hid fun W hb => by
        have g := (hb.block _ (by omega)).trans g4
        have gx := (hb.block (w.heap.size + 1 + 1) (by omega)).trans ((hb4.block _ hz2).trans HBX.out)
        exact ⟨cell_at gx rfl, cell_at g rfl, cell_at g rfl, cell_at g rfl⟩
      have hbz := Below.refl W4.heap.size W4
      have HT0 := Lib.hid (HSS.out W4.drew hbz.drew)
      have HK4 := Lib.hid (HK.out.keep (descRd_ok _) (Fix.of_below (hb4.drew)))
      rw [← hW4]
      clear hW4 p0 p1 p2
      refine Lex.wp_region_z (fun W => W.cell? ⟨w.heap.size + 1 + 1, 2, none⟩ = some v ∧ W.cell? ⟨wo.heap.size, 0, none⟩ = some (.int .i64 dk) ∧ W.cell? ⟨wo.heap.size, 1, none⟩ = some (.int .i64 dn) ∧ W.cell? ⟨wo.heap.size, 2, none⟩ = some (.slice ax nx cx)) 7 (by kernel_rfl) ?_
      change Lex.wpZ _ _ _ _ _ _ 8 #[false, false, false, false, false, false, false, false] _ W4.drew
      (refine Lex.wpZ_take (i := 0) (v := ?_) rfl (by kernel_rfl) (by kernel_rfl) (by kernel_rfl) (by kernel_rfl) (fun _ _ _ h => h) HT0.out (Or.inl ⟨by rfl, ?_⟩) ?_; rotate_left 1; (focus (intro w0 hw0; (try dsimp only at hw0); obtain ⟨s0, s1, s2, s3⟩ := hw0; go_simp; try with_reducible rfl)); simp only [Act.put, List.getElem_toArray, List.getElem_cons_zero, List.getElem_cons_succ, List.setIfInBounds_toArray, List.set_cons_zero, List.set_cons_succ])
      (refine Lex.wpZ_take (i := 1) (v := ?_) rfl (by kernel_rfl) (by kernel_rfl) (by kernel_rfl) (by kernel_rfl) (fun _ _ _ h => h) HT0.out (Or.inl ⟨by rfl, ?_⟩) ?_; rotate_left 1; (focus (intro w0 hw0; (try dsimp only at hw0); obtain ⟨s0, s1, s2, s3⟩ := hw0; go_simp; try with_reducible rfl)); simp only [Act.put, List.getElem_toArray, List.getElem_cons_zero, List.getElem_cons_succ, List.setIfInBounds_toArray, List.set_cons_zero, List.set_cons_succ])
      (refine Lex.wpZ_take (i := 2) (v := ?_) rfl (by kernel_rfl) (by kernel_rfl) (by kernel_rfl) (by kernel_rfl) (fun _ _ _ h => h) HT0.out (Or.inl ⟨by rfl, ?_⟩) ?_; rotate_left 1; (focus (intro w0 hw0; (try dsimp only at hw0); obtain ⟨s0, s1, s2, s3⟩ := hw0; go_simp; try with_reducible rfl)); simp only [Act.put, List.getElem_toArray, List.getElem_cons_zero, List.getElem_cons_succ, List.setIfInBounds_toArray, List.set_cons_zero, List.set_cons_succ])
      refine Lex.wpZ_ready (rs := [3]) (by kernel_rfl) (by simp) ?_
      refine Lex.ReadyZ.cons rfl (fun K hK => ?_) Lex.ReadyZ.nil
      go_simp
      refine (HIH.out k rfl F dk dn dl ax nx cx _ HK4.out).mono ?_
      rintro e w5 ⟨a5, c5, rfl, hr5, hb5⟩
      have hb5z : Below W4.heap.size W4 w5 := hbz.drew.trans hb5
      have HT5 := Lib.hid (HSS.out w5 hb5z)
      have HR5 := Lib.hid hr5
      refine hK.out _ _ (.inr HT5.out) ?_
      clear hK K hb5 hr5
      try simp only [Act.put, List.getElem_toArray, List.getElem_cons_zero, List.getElem_cons_succ, List.setIfInBounds_toArray, List.set_cons_zero, List.set_cons_succ]
      refine Lex.wpZ_ready (rs := [4]) (by kernel_rfl) (by simp) ?_
      refine Lex.ReadyZ.cons rfl (fun K hK => ?_) Lex.ReadyZ.nil
      go_simp
      obtain ⟨w6, hw6⟩ : ∃ w6, w6 = w5.alloc (.cells #[.int .i64 dk, .int .i64 dn, .slice a5 nx c5] 25) := ⟨_, rfl⟩
      have hb6 : Below w5.heap.size w5 w6 := by rw [hw6]; exact (Below.refl _ _).alloc (Nat.le_refl _) _
      have hb6z : Below W4.heap.size W4 w6 := hb5z.trans (hb6.mono hb5z.size)
      have hsrc : Src w6 (some ⟨w5.heap.size, 0, none⟩) 1 1 3 [.int .i64 dk, .int .i64 dn, .slice a5 nx c5] := by rw [hw6]; exact src_new3 _ 25 3 rfl one3
      have HT6 := Lib.hid (HSS.out w6 hb6z)
      have HSRC := Lib.hid hsrc
      have hB6 : Below wo.heap.size wo w6 := HB4.out.trans (hb6z.mono HB4.out.size)
      have HB6 := Lib.hid hB6
      have HRW := Lib.hid (own_below HST.out.row.row hB6)
      have HR6 : Hid (descRd (k + 1) (From wo.heap.size) w6 [.int .i64 dk, .int .i64 dn, .slice a5 nx c5] (.mk dk dn dl)) := Lib.hid ⟨a5, nx, c5, rfl, HWK.out, HWN.out, (HR5.out.mono (descRd_ok _) (fun q _ hq => by have hq' : W4.drew.heap.size ≤ q := hq; have : W4.drew.heap.size = W4.heap.size := rfl; show wo.heap.size ≤ q; omega)).keep (descRd_ok _) (Fix.of_below hb6)⟩
      rw [← hw6]
      refine hK.out _ _ (.inr HT6.out) ?_
      clear hK K hw6 hb6 hsrc hB6
      try simp only [Act.put, List.getElem_toArray, List.getElem_cons_zero, List.getElem_cons_succ, List.setIfInBounds_toArray, List.set_cons_zero, List.set_cons_succ]
      refine Lex.wpZ_ready (rs := [5]) (by kernel_rfl) (by simp) ?_
      refine Lex.ReadyZ.cons rfl (fun K hK => ?_) Lex.ReadyZ.nil
      have hsz6 := HB6.out.size
      have HLT : Hid (∀ q, v.ownBlock = some q → w.heap.size + 3 ≤ q ∧ q < wo.heap.size) := Lib.hid fun q hq => HST.out.row.row.lt q hq
      refine step_appT rfl _ _ 23 rfl descElemG v _ _ rfl _ _ _ _ rfl HRW.out HSRC.out (by rw [List.length_take]; unfold maxLen; omega) (by rw [List.length_take]; omega) (by omega) ?_
      intro v' w7 ho7 hg7 hat7
      have HTR := Lib.hid (HST.out.row.add (by omega) HB6.out HR6.out ho7 hg7 hat7)
      obtain ⟨a7, c7, hv7⟩ := HTR.out.slice
      rw [List.length_append, List.length_singleton, show (l.take i).length = i by rw [List.length_take]; omega] at hv7
      subst hv7
      have HG7 := Lib.hid hg7
      have n2 : some (w.heap.size + 1 + 1) ≠ v.ownBlock := fun e => by have := (HLT.out _ e.symm).1; omega
      have nw : some wo.heap.size ≠ v.ownBlock := fun e => by have := (HLT.out _ e.symm).2; omega
      have N2 := Lib.hid n2
      have hz64 := hb6z.size
      have HT7 : Hid (w7.cell? ⟨w.heap.size + 1 + 1, 2, none⟩ = some v ∧ w7.cell? ⟨wo.heap.size, 0, none⟩ = some (.int .i64 dk) ∧ w7.cell? ⟨wo.heap.size, 1, none⟩ = some (.int .i64 dn) ∧ w7.cell? ⟨wo.heap.size, 2, none⟩ = some (.slice ax nx cx)) := Lib.hid (by
        obtain ⟨q0, q1, q2, q3⟩ := HT6.out
        have e : ∀ g o, g < w6.heap.size → some g ≠ v.ownBlock → w7.cell? ⟨g, o, none⟩ = w6.cell? ⟨g, o, none⟩ := fun g o h hn => World.cell?_of_block (a := ⟨g, o, none⟩) (hg7.block g h hn)
        rw [e _ _ (by omega) n2, e _ _ (by omega) nw, e _ _ (by omega) nw, e _ _ (by omega) nw]
        exact ⟨q0, q1, q2, q3⟩)
      have HBX7 : Hid (w7.heap[w.heap.size + 1 + 1]? = some (.cells #[.int .i64 kd, .int .i64 nd, v] 25 (0, 0))) := Lib.hid ((hg7.block _ (by omega) n2).trans ((HB6.out.block _ hz2).trans HBX.out))
      have HRS7 : Hid (w7.heap[w.heap.size + 1]? = some (.cells #[.int .i64 0, .int .i64 0, .slice none 0 0] 25 (0, 0))) := Lib.hid ((hg7.block _ (by omega) (fun e => by have := (HLT.out _ e.symm).1; omega)).trans ((HB6.out.block _ (by omega)).trans HST.out.res))
      have HBW7 : Hid (Below w.heap.size w w7) := Lib.hid ((HST.out.below.trans (HB6.out.mono (by omega))).grown hg7 (by omega) (fun q hq => by have := (HLT.out _ hq).1; omega))
      have hz7 : w6.heap.size ≤ w7.heap.size := hg7.size
      refine hK.out _ _ (.inr HT7.out) ?_
      clear hK K ho7 hg7 hat7 n2 nw
      try simp only [Act.put, List.getElem_toArray, List.getElem_cons_zero, List.getElem_cons_succ, List.setIfInBounds_toArray, List.set_cons_zero, List.set_cons_succ]
      (refine Lex.wpZ_take (i := 6) (v := ?_) rfl (by kernel_rfl) (by kernel_rfl) (by kernel_rfl) (by kernel_rfl) (fun _ _ _ h => h) HT7.out (Or.inl ⟨by rfl, ?_⟩) ?_; rotate_left 1; (focus (intro w0 hw0; (try dsimp only at hw0); obtain ⟨s0, s1, s2, s3⟩ := hw0; go_simp; try with_reducible rfl)); simp only [Act.put, List.getElem_toArray, List.getElem_cons_zero, List.getElem_cons_succ, List.setIfInBounds_toArray, List.set_cons_zero, List.set_cons_succ])
      refine Lex.wpZ_ready (rs := [7]) (by kernel_rfl) (by simp) ?_
      refine Lex.ReadyZ.cons rfl (fun K hK => ?_) Lex.ReadyZ.nil
      have f2 := free_at (o := 2) HBX7.out
      have t2 := cell_at (o := 2) HBX7.out rfl
      go_simp
      refine hK.out _ _ (.inl rfl) ?_
      clear hK K f2 t2
      try simp only [Act.put, List.getElem_toArray, List.getElem_cons_zero, List.getElem_cons_succ, List.setIfInBounds_toArray, List.set_cons_zero, List.set_cons_succ]
      refine Lex.wpZ_done (by kernel_rfl) ?_ _
      go_wp2_with fail
      go_roundg (n - (i + 1))
      case measure => omega
      case rel =>
        refine ⟨i + 1, .slice a7 (i + 1) c7, xs ++ [.int .i64 dk, .int .i64 dn, .slice a5 nx c5], by omega, rfl, by go_num, ?_⟩
        have hn2 : w.heap.size + 1 ≠ w.heap.size + 1 + 1 := by omega
        refine ⟨?_, (Below.heap_setCell _ _ _ _ hn2).trans HRS7.out, ?_, HBW7.out.setCell (by show w.heap.size ≤ w.heap.size + 1 + 1; omega) _, by simp [World.setCell]; omega⟩
        · exact heap_set_at _ HBX7.out
        · rw [HTK.out]
          exact HTR.out.setCell (by show w.heap.size + 1 + 1 < w.heap.size + 3; omega) _
    · obtain rfl : i = n := by omega
      obtain ⟨av, cv, hv⟩ := HSL.out
      have hi2 : (l.take i).length = i := by rw [List.length_take, HLN.out, Nat.min_self]
      rw [hi2] at hv
      subst hv
      have b0 := cell_at (o := 0) hst.box rfl
      have b1 := cell_at (o := 1) hst.box rfl
      have b2 := cell_at (o := 2) hst.box rfl
      have r0 := cell_at (o := 0) hst.res rfl
      have r1 := cell_at (o := 1) hst.res rfl
      have r2 := cell_at (o := 2) hst.res rfl
      have f0 := free_at (o := 0) hst.res
      have f1 := free_at (o := 1) hst.res
      have f2 := free_at (o := 2) hst.res
      have HRES := Lib.hid hst.res
      have HTAKE : Hid (l.take i = l) := Lib.hid (List.take_of_length_le (by have := HLN.out; omega))
      clear hst hi2
      go_wp2_with fail
      have hg := heap_set_at (o := 2) (.slice av i cv) (heap_set_at (o := 1) (.int .i64 nd) (heap_set_at (o := 0) (.int .i64 kd) HRES.out))
      have g0 := cell_at (o := 0) hg rfl
      have g1 := cell_at (o := 1) hg rfl
      have g2 := cell_at (o := 2) hg rfl
      clear b0 b1 b2 r0 r1 r2 f0 f1 f2
      refine bodyPost_ret (v := .agg #[.int .i64 kd, .int .i64 nd, .slice av i cv]) (by simp [results, Tryz.results25, go_sem, *]) rfl ?_
      obtain ⟨a', c', hv', hr'⟩ := HST.out.row.rowOf (by rw [HTAKE.out, HLN.out]; exact HRM.out)
      rw [HTAKE.out, HLN.out] at hv' hr'
      cases hv'
      have hb : w.heap.size ≤ w.heap.size + 1 := by omega
      refine ⟨_, _, rfl, ((hr'.mono (descRd_ok _) (fun q _ hq => by have hq' : w.heap.size + 3 ≤ q := hq; exact (⟨by show w.heap.size ≤ q; omega, by omega⟩ : w.heap.size ≤ q ∧ q ≠ w.heap.size + 1)) : RowOf (descRd k) 3 40 (fun q => w.heap.size ≤ q ∧ q ≠ w.heap.size + 1) _ _ _ _ _).keep (descRd_ok _) ?_).mono (descRd_ok _) (fun q _ hq => hq.1), ?_⟩
      · exact ((Fix.setCell _ _ _ (fun h => h.2 rfl)).trans (Fix.setCell _ _ _ (fun h => h.2 rfl))).trans (Fix.setCell _ _ _ (fun h => h.2 rfl))
      · exact ((HST.out.below.setCell hb _).setCell hb _).setCell hb _
theorem clone_any : ∀ (k : Nat) (F : Foot) (kd nd : Int) (l : List DescV) (a : Option Addr) (n cap : Nat) (w : World), RowOf (descRd k) 3 40 F w a n cap l →
    Calls Tryz.prog 25 #[.agg #[.int .i64 kd, .int .i64 nd, .slice a n cap]] w (ClonePost k kd nd n l w)
  | 0 => clone_step 0 fun j h => by omega
  | k + 1 => clone_step (k + 1) fun j h => by
    obtain rfl : k = j := by omega
    exact clone_any k
end Go.Proofs.YtibabpahpiijgaaGreatDoor
