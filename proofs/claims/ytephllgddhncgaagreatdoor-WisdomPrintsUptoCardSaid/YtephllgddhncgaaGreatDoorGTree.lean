/- Clone, Range, Nodes, Depth, BigV: laid into one text. -/
import Derived.Test.YtephllgddhncgaaGreatDoorGBase
import Derived.Test.YtephllgddhncgaaGreatDoorHeldZ
import Derived.Test.YtephllgddhncgaaGreatDoorProg
import Derived.Deep.LoopGhost
import Derived.RangeFuncRecord
import Derived.RangeFuncFrom
import Derived.RangeFuncCalls
import Derived.RangeFuncNested
import Derived.RangeFuncLeaves
import Derived.Shelf.Abstract
import Derived.Shelf.RegionOpen
import Derived.OwnWalkIn
import Derived.TacticsInMore
import Derived.LoopNIn
import Derived.LoopIn
import Derived.Sort.LoopGhostIn
import Derived.Lib.SmallJoins
import Derived.RegionTactic
/- desc.Clone: a tree of its own. -/
namespace Go.Proofs.YtephllgddhncgaaGreatDoor
open Go.RowKit
set_option linter.unusedSimpArgs false
set_option linter.unusedVariables false
def ClonePost (k : Nat) (kd nd : Int) (n : Nat) (l : List DescV) (w : World) (e : Ending) (w' : World) : Prop :=
  ∃ a c, e = .returned (.agg #[.int .i64 kd, .int .i64 nd, .slice a n c]) ∧ RowOf (descRd k) 3 40 (From w.heap.size) w' a n c l ∧ Below w.heap.size w w'
/-- Between two rounds: the first i kids are cloned. -/
structure ClS (k : Nat) (kd nd : Int) (l : List DescV) (w : World) (i : Nat) (v : Value) (xs : List Value) (wr : World) : Prop where
  box : wr.heap[w.heap.size + 1 + 1]? = some (.cells #[.int .i64 kd, .int .i64 nd, v] 42 (0, 0))
  res : wr.heap[w.heap.size + 1]? = some (.cells #[.int .i64 0, .int .i64 0, .slice none 0 0] 42 (0, 0))
  row : Trees k (w.heap.size + 3) wr v (l.take i) xs
  below : Below w.heap.size w wr
  size : w.heap.size + 3 ≤ wr.heap.size
set_option maxRecDepth 100000 in
set_option maxHeartbeats 4000000 in
theorem clone_step (k : Nat) (ih : ∀ j, k = j + 1 → ∀ (F : Foot) (kd nd : Int) (l : List DescV) (a : Option Addr) (n cap : Nat) (w : World), RowOf (descRd j) 3 40 F w a n cap l →
    Calls Tryz.prog 59 #[.agg #[.int .i64 kd, .int .i64 nd, .slice a n cap]] w (ClonePost j kd nd n l w)) (F : Foot) (kd nd : Int) (l : List DescV) (a : Option Addr) (n cap : Nat) (w : World) (hl : RowOf (descRd k) 3 40 F w a n cap l) :
    Calls Tryz.prog 59 #[.agg #[.int .i64 kd, .int .i64 nd, .slice a n cap]] w (ClonePost k kd nd n l w) := by
  have HLN := Lib.hid hl.len
  have HRM := Lib.hid hl.room
  have hn : n ≤ 3518437208880 := by have := hl.room; omega
  have HL := Lib.hid hl
  have HIH := Lib.hid ih
  clear hl ih
  have HS0 : Hid (ClS k kd nd l w 0 (.slice none 0 0) [] (((w.alloc (.cells #[.int .i64 kd, .int .i64 nd, .slice a n cap] 42)).alloc (.cells #[.int .i64 0, .int .i64 0, .slice none 0 0] 42)).alloc (.cells #[.int .i64 kd, .int .i64 nd, .slice none 0 0] 42))) := Lib.hid (by
    refine ⟨?_, ?_, Trees.nil _ _ _, (((Below.refl _ _).alloc (Nat.le_refl _) _).alloc (by simp) _).alloc (by simp; omega) _, by simp⟩
    · have h2 := heap_alloc_new ((w.alloc (.cells #[.int .i64 kd, .int .i64 nd, .slice a n cap] 42)).alloc (.cells #[.int .i64 0, .int .i64 0, .slice none 0 0] 42)) (.cells #[.int .i64 kd, .int .i64 nd, .slice none 0 0] 42)
      rw [show ((w.alloc (.cells #[.int .i64 kd, .int .i64 nd, .slice a n cap] 42)).alloc (.cells #[.int .i64 0, .int .i64 0, .slice none 0 0] 42)).heap.size = w.heap.size + 1 + 1 by simp] at h2
      exact h2
    · rw [Lib.alloc_old _ _ _ (by simp)]
      have h2 := heap_alloc_new (w.alloc (.cells #[.int .i64 kd, .int .i64 nd, .slice a n cap] 42)) (.cells #[.int .i64 0, .int .i64 0, .slice none 0 0] 42)
      rw [show (w.alloc (.cells #[.int .i64 kd, .int .i64 nd, .slice a n cap] 42)).heap.size = w.heap.size + 1 by simp] at h2
      exact h2)
  go_enter Tryz.func59, Tryz.ntmps59
  go_wp2_with fail
  go_loopg [14] n (fun g iv wr => ∃ (i : Nat) (v : Value) (xs : List Value), i ≤ n ∧ g = n - i ∧ iv = .int .i64 i ∧ ClS k kd nd l w i v xs wr)
  case atStart => exact ⟨0, _, _, by omega, rfl, rfl, HS0.out⟩
  case round =>
    obtain ⟨i, v, xs, hi, rfl, rfl, hst⟩ := hrel
    obtain ⟨wo, rfl⟩ : ∃ wo : World, wo = wr := ⟨_, rfl⟩
    have HST := Lib.hid hst
    have hzo := hst.size
    have hz2 : w.heap.size + 1 + 1 < wo.heap.size := by omega
    have HSL := Lib.hid hst.row.slice
    by_cases hlt : i < n
    · obtain ⟨k, rfl⟩ : ∃ j, k = j + 1 := by
        cases k with
        | zero => exact absurd (row_no_zero HL.out) (fun e => by have := HLN.out; rw [e] at this; simp at this; omega)
        | succ j => exact ⟨j, rfl⟩
      have hil : i < l.length := by have := HLN.out; omega
      obtain ⟨b, off, ax, nx, cx, rfl, hbw, _, wk, wn, hk, p0, p1, p2⟩ := (HL.out.keep (descRd_ok _) (Fix.of_below hst.below)).desc i hil
      have HTK := Lib.hid (List.take_succ_eq_append_getElem hil)
      generalize l[i]'hil = d at *
      obtain ⟨dk, dn, dl⟩ := d
      simp only [DescV.kind, DescV.n, DescV.kids] at p0 p1 p2 hk wk wn
      have HK := Lib.hid hk
      have HWK := Lib.hid wk
      have HWN := Lib.hid wn
      have HBX := Lib.hid hst.box
      clear hk hst wk wn
      go_wp2_with fail
      obtain ⟨W4, hW4⟩ : ∃ W4, W4 = wo.alloc (.cells #[.int .i64 dk, .int .i64 dn, .slice ax nx cx] 42) := ⟨_, rfl⟩
      have hb4 : Below wo.heap.size wo W4 := by rw [hW4]; exact (Below.refl _ _).alloc (Nat.le_refl _) _
      have g4 : W4.heap[wo.heap.size]? = some (.cells #[.int .i64 dk, .int .i64 dn, .slice ax nx cx] 42 (0, 0)) := by rw [hW4]; exact heap_alloc_new wo _
      have hz4 : W4.heap.size = wo.heap.size + 1 := by rw [hW4]; simp
      have HB4 := Lib.hid hb4
      have HSS : Hid (∀ W, Below W4.heap.size W4 W → W.cell? ⟨w.heap.size + 1 + 1, 2, none⟩ = some v ∧ W.cell? ⟨wo.heap.size, 0, none⟩ = some (.int .i64 dk) ∧ W.cell? ⟨wo.heap.size, 1, none⟩ = some (.int .i64 dn) ∧ W.cell? ⟨wo.heap.size, 2, none⟩ = some (.slice ax nx cx)) := Lib.hid fun W hb => by
        have g := (hb.block _ (by omega)).trans g4
        have gx := (hb.block (w.heap.size + 1 + 1) (by omega)).trans ((hb4.block _ hz2).trans HBX.out)
        exact ⟨cell_at gx rfl, cell_at g rfl, cell_at g rfl, cell_at g rfl⟩
      have hbz := Below.refl W4.heap.size W4
      have HT0 := Lib.hid (HSS.out W4.drew hbz.drew)
      have HK4 := Lib.hid (HK.out.keep (descRd_ok _) (Fix.of_below (hb4.drew)))
      rw [← hW4]
      clear hW4 p0 p1 p2
      refine Lex.wp_region_z (fun W => W.cell? ⟨w.heap.size + 1 + 1, 2, none⟩ = some v ∧ W.cell? ⟨wo.heap.size, 0, none⟩ = some (.int .i64 dk) ∧ W.cell? ⟨wo.heap.size, 1, none⟩ = some (.int .i64 dn) ∧ W.cell? ⟨wo.heap.size, 2, none⟩ = some (.slice ax nx cx)) 7 (by kernel_rfl) ?_
      change Lex.wpZ _ _ _ _ _ _ 8 #[false, false, false, false, false, false, false, false] _ W4.drew
      (refine Lex.wpZ_take (i := 0) (v := ?_) rfl (by kernel_rfl) (by kernel_rfl) (by kernel_rfl) (by kernel_rfl) (fun _ _ _ h => h) HT0.out (Or.inl ⟨by rfl, ?_⟩) ?_; rotate_left 1; (focus (intro w0 hw0; (try dsimp only at hw0); obtain ⟨s0, s1, s2, s3⟩ := hw0; go_simp; try with_reducible rfl)); simp only [Act.put, List.getElem_toArray, List.getElem_cons_zero, List.getElem_cons_succ, List.setIfInBounds_toArray, List.set_cons_zero, List.set_cons_succ])
      (refine Lex.wpZ_take (i := 1) (v := ?_) rfl (by kernel_rfl) (by kernel_rfl) (by kernel_rfl) (by kernel_rfl) (fun _ _ _ h => h) HT0.out (Or.inl ⟨by rfl, ?_⟩) ?_; rotate_left 1; (focus (intro w0 hw0; (try dsimp only at hw0); obtain ⟨s0, s1, s2, s3⟩ := hw0; go_simp; try with_reducible rfl)); simp only [Act.put, List.getElem_toArray, List.getElem_cons_zero, List.getElem_cons_succ, List.setIfInBounds_toArray, List.set_cons_zero, List.set_cons_succ])
      (refine Lex.wpZ_take (i := 2) (v := ?_) rfl (by kernel_rfl) (by kernel_rfl) (by kernel_rfl) (by kernel_rfl) (fun _ _ _ h => h) HT0.out (Or.inl ⟨by rfl, ?_⟩) ?_; rotate_left 1; (focus (intro w0 hw0; (try dsimp only at hw0); obtain ⟨s0, s1, s2, s3⟩ := hw0; go_simp; try with_reducible rfl)); simp only [Act.put, List.getElem_toArray, List.getElem_cons_zero, List.getElem_cons_succ, List.setIfInBounds_toArray, List.set_cons_zero, List.set_cons_succ])
      refine Lex.wpZ_ready (rs := [3]) (by kernel_rfl) (by simp) ?_
      refine Lex.ReadyZ.cons rfl (fun K hK => ?_) Lex.ReadyZ.nil
      go_simp
      refine (HIH.out k rfl F dk dn dl ax nx cx _ HK4.out).mono ?_
      rintro e w5 ⟨a5, c5, rfl, hr5, hb5⟩
      have hb5z : Below W4.heap.size W4 w5 := hbz.drew.trans hb5
      have HT5 := Lib.hid (HSS.out w5 hb5z)
      have HR5 := Lib.hid hr5
      refine hK.out _ _ (.inr HT5.out) ?_
      clear hK K hb5 hr5
      try simp only [Act.put, List.getElem_toArray, List.getElem_cons_zero, List.getElem_cons_succ, List.setIfInBounds_toArray, List.set_cons_zero, List.set_cons_succ]
      refine Lex.wpZ_ready (rs := [4]) (by kernel_rfl) (by simp) ?_
      refine Lex.ReadyZ.cons rfl (fun K hK => ?_) Lex.ReadyZ.nil
      go_simp
      obtain ⟨w6, hw6⟩ : ∃ w6, w6 = w5.alloc (.cells #[.int .i64 dk, .int .i64 dn, .slice a5 nx c5] 42) := ⟨_, rfl⟩
      have hb6 : Below w5.heap.size w5 w6 := by rw [hw6]; exact (Below.refl _ _).alloc (Nat.le_refl _) _
      have hb6z : Below W4.heap.size W4 w6 := hb5z.trans (hb6.mono hb5z.size)
      have hsrc : Src w6 (some ⟨w5.heap.size, 0, none⟩) 1 1 3 [.int .i64 dk, .int .i64 dn, .slice a5 nx c5] := by rw [hw6]; exact src_new3 _ 42 3 rfl one3
      have HT6 := Lib.hid (HSS.out w6 hb6z)
      have HSRC := Lib.hid hsrc
      have hB6 : Below wo.heap.size wo w6 := HB4.out.trans (hb6z.mono HB4.out.size)
      have HB6 := Lib.hid hB6
      have HRW := Lib.hid (own_below HST.out.row.row hB6)
      have HR6 : Hid (descRd (k + 1) (From wo.heap.size) w6 [.int .i64 dk, .int .i64 dn, .slice a5 nx c5] (.mk dk dn dl)) := Lib.hid ⟨a5, nx, c5, rfl, HWK.out, HWN.out, (HR5.out.mono (descRd_ok _) (fun q _ hq => by have hq' : W4.drew.heap.size ≤ q := hq; have : W4.drew.heap.size = W4.heap.size := rfl; show wo.heap.size ≤ q; omega)).keep (descRd_ok _) (Fix.of_below hb6)⟩
      rw [← hw6]
      refine hK.out _ _ (.inr HT6.out) ?_
      clear hK K hw6 hb6 hsrc hB6
      try simp only [Act.put, List.getElem_toArray, List.getElem_cons_zero, List.getElem_cons_succ, List.setIfInBounds_toArray, List.set_cons_zero, List.set_cons_succ]
      refine Lex.wpZ_ready (rs := [5]) (by kernel_rfl) (by simp) ?_
      refine Lex.ReadyZ.cons rfl (fun K hK => ?_) Lex.ReadyZ.nil
      have hsz6 := HB6.out.size
      have HLT : Hid (∀ q, v.ownBlock = some q → w.heap.size + 3 ≤ q ∧ q < wo.heap.size) := Lib.hid fun q hq => HST.out.row.row.lt q hq
      refine step_appT rfl _ _ 40 rfl descElemG v _ _ rfl _ _ _ _ rfl HRW.out HSRC.out (by rw [List.length_take]; unfold maxLen; omega) (by rw [List.length_take]; omega) (by omega) ?_
      intro v' w7 ho7 hg7 hat7
      have HTR := Lib.hid (HST.out.row.add (by omega) HB6.out HR6.out ho7 hg7 hat7)
      obtain ⟨a7, c7, hv7⟩ := HTR.out.slice
      rw [List.length_append, List.length_singleton, show (l.take i).length = i by rw [List.length_take]; omega] at hv7
      subst hv7
      have HG7 := Lib.hid hg7
      have n2 : some (w.heap.size + 1 + 1) ≠ v.ownBlock := fun e => by have := (HLT.out _ e.symm).1; omega
      have nw : some wo.heap.size ≠ v.ownBlock := fun e => by have := (HLT.out _ e.symm).2; omega
      have N2 := Lib.hid n2
      have hz64 := hb6z.size
      have HT7 : Hid (w7.cell? ⟨w.heap.size + 1 + 1, 2, none⟩ = some v ∧ w7.cell? ⟨wo.heap.size, 0, none⟩ = some (.int .i64 dk) ∧ w7.cell? ⟨wo.heap.size, 1, none⟩ = some (.int .i64 dn) ∧ w7.cell? ⟨wo.heap.size, 2, none⟩ = some (.slice ax nx cx)) := Lib.hid (by
        obtain ⟨q0, q1, q2, q3⟩ := HT6.out
        have e : ∀ g o, g < w6.heap.size → some g ≠ v.ownBlock → w7.cell? ⟨g, o, none⟩ = w6.cell? ⟨g, o, none⟩ := fun g o h hn => World.cell?_of_block (a := ⟨g, o, none⟩) (hg7.block g h hn)
        rw [e _ _ (by omega) n2, e _ _ (by omega) nw, e _ _ (by omega) nw, e _ _ (by omega) nw]
        exact ⟨q0, q1, q2, q3⟩)
      have HBX7 : Hid (w7.heap[w.heap.size + 1 + 1]? = some (.cells #[.int .i64 kd, .int .i64 nd, v] 42 (0, 0))) := Lib.hid ((hg7.block _ (by omega) n2).trans ((HB6.out.block _ hz2).trans HBX.out))
      have HRS7 : Hid (w7.heap[w.heap.size + 1]? = some (.cells #[.int .i64 0, .int .i64 0, .slice none 0 0] 42 (0, 0))) := Lib.hid ((hg7.block _ (by omega) (fun e => by have := (HLT.out _ e.symm).1; omega)).trans ((HB6.out.block _ (by omega)).trans HST.out.res))
      have HBW7 : Hid (Below w.heap.size w w7) := Lib.hid ((HST.out.below.trans (HB6.out.mono (by omega))).grown hg7 (by omega) (fun q hq => by have := (HLT.out _ hq).1; omega))
      have hz7 : w6.heap.size ≤ w7.heap.size := hg7.size
      refine hK.out _ _ (.inr HT7.out) ?_
      clear hK K ho7 hg7 hat7 n2 nw
      try simp only [Act.put, List.getElem_toArray, List.getElem_cons_zero, List.getElem_cons_succ, List.setIfInBounds_toArray, List.set_cons_zero, List.set_cons_succ]
      (refine Lex.wpZ_take (i := 6) (v := ?_) rfl (by kernel_rfl) (by kernel_rfl) (by kernel_rfl) (by kernel_rfl) (fun _ _ _ h => h) HT7.out (Or.inl ⟨by rfl, ?_⟩) ?_; rotate_left 1; (focus (intro w0 hw0; (try dsimp only at hw0); obtain ⟨s0, s1, s2, s3⟩ := hw0; go_simp; try with_reducible rfl)); simp only [Act.put, List.getElem_toArray, List.getElem_cons_zero, List.getElem_cons_succ, List.setIfInBounds_toArray, List.set_cons_zero, List.set_cons_succ])
      refine Lex.wpZ_ready (rs := [7]) (by kernel_rfl) (by simp) ?_
      refine Lex.ReadyZ.cons rfl (fun K hK => ?_) Lex.ReadyZ.nil
      have f2 := free_at (o := 2) HBX7.out
      have t2 := cell_at (o := 2) HBX7.out rfl
      go_simp
      refine hK.out _ _ (.inl rfl) ?_
      clear hK K f2 t2
      try simp only [Act.put, List.getElem_toArray, List.getElem_cons_zero, List.getElem_cons_succ, List.setIfInBounds_toArray, List.set_cons_zero, List.set_cons_succ]
      refine Lex.wpZ_done (by kernel_rfl) ?_ _
      go_wp2_with fail
      go_roundg (n - (i + 1))
      case measure => omega
      case rel =>
        refine ⟨i + 1, .slice a7 (i + 1) c7, xs ++ [.int .i64 dk, .int .i64 dn, .slice a5 nx c5], by omega, rfl, by go_num, ?_⟩
        have hn2 : w.heap.size + 1 ≠ w.heap.size + 1 + 1 := by omega
        refine ⟨?_, (Below.heap_setCell _ _ _ _ hn2).trans HRS7.out, ?_, HBW7.out.setCell (by show w.heap.size ≤ w.heap.size + 1 + 1; omega) _, by simp [World.setCell]; omega⟩
        · exact heap_set_at _ HBX7.out
        · rw [HTK.out]
          exact HTR.out.setCell (by show w.heap.size + 1 + 1 < w.heap.size + 3; omega) _
    · obtain rfl : i = n := by omega
      obtain ⟨av, cv, hv⟩ := HSL.out
      have hi2 : (l.take i).length = i := by rw [List.length_take, HLN.out, Nat.min_self]
      rw [hi2] at hv
      subst hv
      have b0 := cell_at (o := 0) hst.box rfl
      have b1 := cell_at (o := 1) hst.box rfl
      have b2 := cell_at (o := 2) hst.box rfl
      have r0 := cell_at (o := 0) hst.res rfl
      have r1 := cell_at (o := 1) hst.res rfl
      have r2 := cell_at (o := 2) hst.res rfl
      have f0 := free_at (o := 0) hst.res
      have f1 := free_at (o := 1) hst.res
      have f2 := free_at (o := 2) hst.res
      have HRES := Lib.hid hst.res
      have HTAKE : Hid (l.take i = l) := Lib.hid (List.take_of_length_le (by have := HLN.out; omega))
      clear hst hi2
      go_wp2_with fail
      have hg := heap_set_at (o := 2) (.slice av i cv) (heap_set_at (o := 1) (.int .i64 nd) (heap_set_at (o := 0) (.int .i64 kd) HRES.out))
      have g0 := cell_at (o := 0) hg rfl
      have g1 := cell_at (o := 1) hg rfl
      have g2 := cell_at (o := 2) hg rfl
      clear b0 b1 b2 r0 r1 r2 f0 f1 f2
      refine bodyPost_ret (v := .agg #[.int .i64 kd, .int .i64 nd, .slice av i cv]) (by simp [results, Tryz.results59, go_sem, *]) rfl ?_
      obtain ⟨a', c', hv', hr'⟩ := HST.out.row.rowOf (by rw [HTAKE.out, HLN.out]; exact HRM.out)
      rw [HTAKE.out, HLN.out] at hv' hr'
      cases hv'
      have hb : w.heap.size ≤ w.heap.size + 1 := by omega
      refine ⟨_, _, rfl, ((hr'.mono (descRd_ok _) (fun q _ hq => by have hq' : w.heap.size + 3 ≤ q := hq; exact (⟨by show w.heap.size ≤ q; omega, by omega⟩ : w.heap.size ≤ q ∧ q ≠ w.heap.size + 1)) : RowOf (descRd k) 3 40 (fun q => w.heap.size ≤ q ∧ q ≠ w.heap.size + 1) _ _ _ _ _).keep (descRd_ok _) ?_).mono (descRd_ok _) (fun q _ hq => hq.1), ?_⟩
      · exact ((Fix.setCell _ _ _ (fun h => h.2 rfl)).trans (Fix.setCell _ _ _ (fun h => h.2 rfl))).trans (Fix.setCell _ _ _ (fun h => h.2 rfl))
      · exact ((HST.out.below.setCell hb _).setCell hb _).setCell hb _
theorem clone_any : ∀ (k : Nat) (F : Foot) (kd nd : Int) (l : List DescV) (a : Option Addr) (n cap : Nat) (w : World), RowOf (descRd k) 3 40 F w a n cap l →
    Calls Tryz.prog 59 #[.agg #[.int .i64 kd, .int .i64 nd, .slice a n cap]] w (ClonePost k kd nd n l w)
  | 0 => clone_step 0 fun j h => by omega
  | k + 1 => clone_step (k + 1) fun j h => by
    obtain rfl : k = j := by omega
    exact clone_any k
end Go.Proofs.YtephllgddhncgaaGreatDoor
/- A range over a function whose body always goes on, and is told what holds of each value as it comes. -/
namespace Go.Proofs.YtephllgddhncgaaGreatDoor.Lex
open Go.RowKit
set_option linter.unusedVariables false
/-- How a round must end. -/
def goesOn (Kp : World → World → Prop) (J : Nat → World → Prop) (i : Nat) (W : World) : Exit → Act → World → Prop
  | .normal, _, W' => KeepsOthers W W' ∧ Kp W W' ∧ J (i + 1) W'
  | _, _, _ => False
theorem wp_rangeAll {α : Type} {F : Fence} {n : Nat} {P : Program} {g : Operand} {ps : Array Tmp} {assign body : Code} {Q : Exit → Act → World → Prop} {a : Act} {w : World}
    (hro : F.round = none) (h1 : 1 ≤ n) {gf : Nat} {lb : Array Value} (hg : a.eval g = .func (.func gf) #[] lb) (hFg : F.fn gf) (eg : ∀ args w, (callFunc gf args).run P w = .ok (.enter gf args) w)
    (encs : α → Array Value) (hps : ∀ x, (encs x).size = ps.size) (J : Nat → World → Prop) (Ok : Nat → α → World → Prop) (Kp : World → World → Prop) (skip : Nat → Prop) (N : Nat) (h0 : J 0 w)
    (hKt : ∀ A B C, Kp A B → Kp B C → Kp A C) (hKp : ∀ W l o o', w.heap.size ≤ l → W.heap[l]? = some o → o.isCells = false → Kp W (W.putObj l o')) (hJs : ∀ i W, skip i → J i W → J (i + 1) W)
    (hJb : ∀ i W W', J i W → Below W.heap.size W W' → J i W')
    (hJp : ∀ i W l o o', J i W → w.heap.size ≤ l → W.heap[l]? = some o → o.isCells = false → J i (W.putObj l o'))
    (hOp : ∀ i x W l o o', Ok i x W → w.heap.size ≤ l → W.heap[l]? = some o → o.isCells = false → Ok i x (W.putObj l o'))
    (hseq : ∀ (l : Nat) (K : Nat → World → Prop) (W : World), Below w.heap.size w W → (∀ i W W', K i W → Below W.heap.size W W' → K i W') → (∀ i W, skip i → K i W → K (i + 1) W) →
      (∀ i x W1, i < N → K i W1 → Ok i x W1 → YieldAt F (n - 1 - 1) P l (encs x) W1 fun e W' => e = .returned (.bool true) ∧ K (i + 1) W' ∧ Kp W1 W') → K 0 W →
      CallsIn F (n - 1) P gf (#[.func (.yield l) #[] #[]] ++ lb) W fun e W' => (∃ v, e = .returned v) ∧ K N W')
    (a₁ : α → Act)
    (hassign : ∀ (l : Nat) (x : α) (W : World) (K : Act → World → Prop), K (a₁ x) W →
      assign.wpIn (F.inRound l) (n - 1 - 1) P (Exit.then K (fun _ _ _ => False)) { tmps := (ps.zip (encs x)).foldl (fun t (p, v) => t.setIfInBounds p v) a.tmps, defers := [] } W)
    (hbody : ∀ (l i : Nat) (x : α) (W : World), i < N → J i W → Ok i x W → body.wpIn (F.inRound l) (n - 1 - 1) P (goesOn Kp J i W) (a₁ x) W)
    (hdone : ∀ (D : Nat) (W : World), w.heap.size ≤ D → J N W → W.heap[D]? = some (.deferred (some [])) → Q .normal { a with defers := { target := .collected D, args := #[] } :: a.defers } W) :
    (Code.rangeFunc g ps assign body).wpIn F n P Q a w := by
  refine wpIn_rangeFunc fun fn hfn => ?_
  rw [hro]
  obtain ⟨rec, hrec⟩ : ∃ rec : LoopState → Option Code → Loop, rec = fun st pe => { state := st, pending := pe, fn, tmps := a.tmps, params := ps, assign, body, defers := w.heap.size } := ⟨_, rfl⟩
  obtain ⟨W1, hW1⟩ : ∃ W1, (w.alloc (.deferred (some []))).alloc (.loop (rec .ready none)) = W1 := ⟨_, rfl⟩
  have hbW : Below w.heap.size w W1 := by rw [← hW1]; exact ((Below.refl _ w).alloc (Nat.le_refl _) _).alloc (by simp) _
  have hL1 : W1.heap[w.heap.size + 1]? = some (.loop (rec .ready none)) := by
    rw [← hW1]; have := World.alloc_heap_new (w.alloc (.deferred (some []))) (.loop (rec .ready none)); rwa [World.size_alloc] at this
  have hD1 : W1.heap[w.heap.size]? = some (.deferred (some [])) := by
    rw [← hW1]; exact (Below.heap_alloc _ _ _ (by simp)).trans (World.alloc_heap_new w _)
  refine ⟨w.heap.size + 1, [{ target := .collected w.heap.size, args := #[] }], W1, { target := .fn (.func gf) lb, args := #[.func (.yield (w.heap.size + 1)) #[] #[]] }, W1, gf,
    #[.func (.yield (w.heap.size + 1)) #[] #[]] ++ lb, W1, ?_, ?_, ?_, ?_, fun _ => h1, ?_⟩
  · rw [← hW1, hrec]; exact run_enterLoop_outer _ _ _ _ _
  · simp only [resolve, hg]
    simp [go_sem]
  · intro f' hf'; simp [Target.leads] at hf'; subst hf'; exact hFg
  · simp [invoke, go_sem, eg]
  · have stays : ∀ {k : Nat} {o : Obj} {A B : World}, A.heap[k]? = some o → Below A.heap.size A B → B.heap[k]? = some o := fun hk hb => (hb.block _ (Array.getElem?_eq_some_iff.1 hk).1).trans hk
    refine (hseq (w.heap.size + 1) (fun i W => J i W ∧ W.heap[w.heap.size + 1]? = some (.loop (rec .ready none)) ∧ W.heap[w.heap.size]? = some (.deferred (some []))) W1 hbW
      (fun i A B h hb => ⟨hJb i A B h.1 hb, stays h.2.1 hb, stays h.2.2 hb⟩) (fun i A hs h => ⟨hJs i A hs h.1, h.2⟩) ?_ ⟨hJb 0 w W1 h0 hbW, hL1, hD1⟩).mono ?_
    · rintro i x W hiN ⟨hi, hl, hk⟩ hok
      have hy := run_yield (P := P) (args := encs x) hl (by rw [hrec]; exact hps x)
      rw [hrec] at hy
      refine ⟨fn, _, assign, body, hy, roundIn_of_wpIn hfn (hassign _ x W _ ⟨_, run_beginRound hl (by rw [hrec]), ?_⟩)⟩
      have hlt : w.heap.size + 1 < W.heap.size := (Array.getElem?_eq_some_iff.1 hl).1
      have hl2 : (W.putObj (w.heap.size + 1) (.loop { rec .ready none with state := .busy })).heap[w.heap.size + 1]? = some (.loop { rec .ready none with state := .busy }) := World.putObj_heap_same hlt
      have hk2 : (W.putObj (w.heap.size + 1) (.loop { rec .ready none with state := .busy })).heap[w.heap.size]? = some (.deferred (some [])) := (World.putObj_heap_other (by omega)).trans hk
      refine wpIn_mono (hbody _ i x _ hiN (hJp i W _ _ _ hi (by omega) hl rfl) (hOp i x W _ _ _ hok (by omega) hl rfl)) ?_
      rintro e a3 W3 hp
      cases e with
      | normal =>
        obtain ⟨hk3, hkp, hi3⟩ := hp
        have hl3 := hk3.same _ _ hl2 rfl
        have hend := run_endRound (P := P) none hl3
        refine ⟨_, _, hend, rfl, ⟨hJp _ W3 _ _ _ hi3 (by omega) hl3 rfl, ?_, (World.putObj_heap_other (by omega)).trans (hk3.same _ _ hk2 rfl)⟩, hKt _ _ _ (hKp W _ _ _ (by omega) hl rfl) (hKt _ _ _ hkp (hKp W3 _ _ _ (by omega) hl3 rfl))⟩
        rw [World.putObj_heap_same (Array.getElem?_eq_some_iff.1 hl3).1, hrec]
        rfl
      | ret => exact hp.elim
      | exit id => exact hp.elim
      | goto t => exact hp.elim
      | panic ch => exact hp.elim
      | outgrown => exact hp.elim
    · rintro e W2 ⟨⟨v, rfl⟩, hi, hl, hk⟩
      have hend := run_endLoop (P := P) hl (by rw [hrec]; simp)
      exact ⟨none, _, by rw [hrec] at hend; exact hend, hdone _ _ (Nat.le_refl _) (hJp _ W2 _ _ _ hi (by omega) hl rfl) ((World.putObj_heap_other (by omega)).trans hk)⟩
end Go.Proofs.YtephllgddhncgaaGreatDoor.Lex
/- desc.Nodes: the range over a tree's nodes. -/
namespace Go.Proofs.YtephllgddhncgaaGreatDoor.Lex
open Go.RowKit Go.Shelf
set_option linter.unusedSimpArgs false
set_option linter.unusedVariables false
attribute [local go_sem] Oper.semAt_some
/-- What a round over a tree's nodes keeps: all below block B, and all cells but those of block N. -/
structure KpN (B N : Nat) (W W' : World) : Prop where
  fix : Fix (fun b => b < B) W W'
  cells : ∀ (b : Nat), b ≠ N → ∀ (c : Array Value) (T : TypeId) (f : Nat × Nat), W.heap[b]? = some (.cells c T f) → W'.heap[b]? = some (.cells c T f)
theorem KpN.refl (B N : Nat) (W : World) : KpN B N W W := ⟨Fix.refl _ _, fun _ _ _ _ _ h => h⟩
theorem KpN.trans {B N : Nat} {W W1 W2 : World} (h : KpN B N W W1) (k : KpN B N W1 W2) : KpN B N W W2 := ⟨h.fix.trans k.fix, fun b hb c T f e => k.cells b hb c T f (h.cells b hb c T f e)⟩
theorem KpN.of_below {B N : Nat} {W W' : World} (h : Below W.heap.size W W') : KpN B N W W' := ⟨Fix.of_below h, fun b _ c T f e => (h.block b (Array.getElem?_eq_some_iff.1 e).1).trans e⟩
set_option maxRecDepth 100000 in
set_option maxHeartbeats 4000000 in
theorem all_step (k L N B0 N0 : Nat) (K : Nat → World → Prop) (hKb : ∀ i W W', K i W → Below W.heap.size W W' → K i W')
    (hY : ∀ (m i : Nat) (x : Value) (W1 : World), i < N → K i W1 → YieldAt Fence.wide m Tryz.prog L #[x] W1 fun e W' => e = .returned (.bool true) ∧ K (i + 1) W' ∧ KpN B0 N0 W1 W')
    (ih : ∀ j, k = j + 1 → ∀ (kd nd : Int) (l : List DescV) (a : Option Addr) (n cap i : Nat) (W : World), RowOf (descRd j) 3 40 (fun b => b < B0) W a n cap l → K i W → N0 < W.heap.size → i + 1 + DescV.nodesL l ≤ N →
      Calls Tryz.prog 116 #[.agg #[.int .i64 kd, .int .i64 nd, .slice a n cap], .func (.yield L) #[] #[]] W fun e W' => e = .returned (.bool true) ∧ K (i + 1 + DescV.nodesL l) W' ∧ KpN B0 N0 W W')
    (kd nd : Int) (l : List DescV) (a : Option Addr) (n cap i : Nat) (W : World) (hl : RowOf (descRd k) 3 40 (fun b => b < B0) W a n cap l) (hK : K i W) (hN0 : N0 < W.heap.size) (hi : i + 1 + DescV.nodesL l ≤ N) :
      Calls Tryz.prog 116 #[.agg #[.int .i64 kd, .int .i64 nd, .slice a n cap], .func (.yield L) #[] #[]] W fun e W' => e = .returned (.bool true) ∧ K (i + 1 + DescV.nodesL l) W' ∧ KpN B0 N0 W W' := by
  have HLN := Lib.hid hl.len
  have HRM := Lib.hid hl.room
  have hn : n ≤ 3518437208880 := by have := hl.room; omega
  obtain ⟨W1, hW1⟩ : ∃ W1, W1 = W.alloc (.cells #[.int .i64 kd, .int .i64 nd, .slice a n cap] 42) := ⟨_, rfl⟩
  have hb1 : Below W.heap.size W W1 := by rw [hW1]; exact (Below.refl _ _).alloc (Nat.le_refl _) _
  have g1 : W1.heap[W.heap.size]? = some (.cells #[.int .i64 kd, .int .i64 nd, .slice a n cap] 42 (0, 0)) := by rw [hW1]; exact heap_alloc_new W _
  have hz1 : W.heap.size < W1.heap.size := by rw [hW1]; simp
  have hl1 := hl.keep (descRd_ok _) (Fix.of_below hb1)
  have HCL := Lib.hid (clone_any k _ kd nd l a n cap W1 hl1)
  have HL1 := Lib.hid hl1
  have HB1 := Lib.hid hb1
  have HG1 := Lib.hid g1
  have HK := Lib.hid hK
  have HKB := Lib.hid hKb
  have HY := Lib.hid hY
  have HIH := Lib.hid ih
  have HI := Lib.hid hi
  have c0 := cell_at (o := 0) g1 rfl
  have c1 := cell_at (o := 1) g1 rfl
  have c2 := cell_at (o := 2) g1 rfl
  clear hl hl1 hb1 hK hKb hY ih hi g1
  refine (callsIn_wide (n := 5)).1 ?_
  refine callsIn_of_wp Tryz.func116 rfl trivial ?_ rfl
  simp only [Tryz.ntmps116, List.size_toArray, List.length_cons, List.length_nil, Nat.reduceAdd, Nat.reduceSub, Array.replicate_succ, Array.replicate_zero, List.push_toArray, List.append_toArray, List.nil_append, List.cons_append]
  gi_wp2
  rw [← hW1]
  clear hW1
  refine ⟨trivial, ?_⟩
  refine (callsIn_wide.2 HCL.out).mono ?_
  rintro e w2 ⟨a2, cc2, rfl, hr2, hb2⟩
  have HB2 := Lib.hid hb2
  have hz2 : W.heap.size < w2.heap.size := Nat.lt_of_lt_of_le hz1 hb2.size
  have HB12 := Lib.hid (HB1.out.trans (hb2.mono HB1.out.size))
  obtain ⟨fn, tmps, assign, body, hy, hR⟩ := HY.out (5 - 1) i (.agg #[.int .i64 kd, .int .i64 nd, .slice a2 n cc2]) w2 (by have := HI.out; omega) (HKB.out i W w2 HK.out HB12.out)
  clear hr2 hb2
  gi_wp2
  refine hR.mono ?_
  rintro e w3 ⟨rfl, hK3, hkp3⟩
  have hkp : KpN B0 N0 W w3 := (KpN.of_below HB12.out).trans hkp3
  have g3 := hkp3.cells W.heap.size (by omega) _ _ _ ((HB2.out.block _ hz1).trans HG1.out)
  have d2 := cell_at (o := 2) g3 rfl
  have hz3 : W.heap.size < w3.heap.size := (Array.getElem?_eq_some_iff.1 g3).1
  have HK3 := Lib.hid hK3
  have HKP := Lib.hid hkp
  have HL3 := Lib.hid (HL1.out.keep (descRd_ok _) ((KpN.of_below HB2.out).trans hkp3).fix)
  clear hK3 hkp hkp3 hy hR c0 c1 c2 g3
  gi_wp2
  gi_loopg [15] n (fun gh iv wr => ∃ j : Nat, j ≤ n ∧ gh = n - j ∧ iv = .int .i64 (j : Int) ∧ K (i + 1 + DescV.nodesL (l.take j)) wr ∧ KpN B0 N0 W wr ∧ KpN B0 N0 w3 wr)
  case atStart => exact ⟨0, by omega, rfl, rfl, by simpa [DescV.nodesL] using HK3.out, HKP.out, KpN.refl _ _ _⟩
  case round =>
    obtain ⟨j, hj, rfl, rfl, hKj, hkw, hk3⟩ := hrel
    obtain ⟨wo, rfl⟩ : ∃ wo : World, wo = wr := ⟨_, rfl⟩
    have HKJ := Lib.hid hKj
    have HKW := Lib.hid hkw
    have HK3W := Lib.hid hk3
    clear hKj hkw hk3
    by_cases hlt : j < n
    · obtain ⟨k, rfl⟩ : ∃ q, k = q + 1 := by
        cases k with
        | zero => exact absurd (row_no_zero HL1.out) (fun e => by have := HLN.out; rw [e] at this; simp at this; omega)
        | succ q => exact ⟨q, rfl⟩
      have hil : j < l.length := by have := HLN.out; omega
      obtain ⟨b, off, ax, nx, cx, rfl, hbw, _, _, _, hk, p0, p1, p2⟩ := (HL3.out.keep (descRd_ok _) HK3W.out.fix).desc j hil
      have HSUM := Lib.hid (DescV.nodesL_take_succ hil)
      have HLE := Lib.hid (DescV.nodesL_take_le l (j + 1))
      have HNK := Lib.hid (DescV.nodes_kids (l[j]'hil))
      generalize l[j]'hil = d at *
      obtain ⟨dk, dn, dl⟩ := d
      simp only [DescV.kind, DescV.n, DescV.kids] at p0 p1 p2 hk
      have HNK' : Hid ((DescV.mk dk dn dl).nodes = DescV.nodesL dl + 1) := HNK
      gi_wp2
      obtain ⟨W4, hW4⟩ : ∃ W4, W4 = wo.alloc (.cells #[.int .i64 dk, .int .i64 dn, .slice ax nx cx] 42) := ⟨_, rfl⟩
      have hb4 : Below wo.heap.size wo W4 := by rw [hW4]; exact (Below.refl _ _).alloc (Nat.le_refl _) _
      have HIHC := Lib.hid (HIH.out k rfl dk dn dl ax nx cx (i + 1 + DescV.nodesL (l.take j)) W4 (hk.keep (descRd_ok _) (Fix.of_below hb4)) (HKB.out _ _ _ HKJ.out hb4) (by have := HKW.out.fix.size; have := hb4.size; omega) (by have := HSUM.out; have := HLE.out; have := HNK'.out; have := HI.out; omega))
      have HB4 := Lib.hid hb4
      rw [← hW4]
      clear hW4 hk p0 p1 p2 hb4
      refine ⟨trivial, ?_⟩
      refine (callsIn_wide.2 HIHC.out).mono ?_
      rintro e w5 ⟨rfl, hK5, hkp5⟩
      have HK5 := Lib.hid hK5
      have HKP5 := Lib.hid ((KpN.of_below HB4.out : KpN B0 N0 wo W4).trans hkp5)
      clear hK5 hkp5
      gi_wp2
      gi_roundg (n - (j + 1))
      case measure => omega
      case rel =>
        refine ⟨j + 1, by omega, rfl, by go_num, ?_, HKW.out.trans HKP5.out, HK3W.out.trans HKP5.out⟩
        rw [show i + 1 + DescV.nodesL (l.take (j + 1)) = i + 1 + DescV.nodesL (l.take j) + 1 + DescV.nodesL dl by rw [HSUM.out, HNK'.out]; omega]
        exact HK5.out
    · obtain rfl : j = n := by omega
      rw [List.take_of_length_le (by have := HLN.out; omega)] at HKJ
      gi_wp2
      go_ret
      exact ⟨rfl, HKJ.out, HKW.out⟩
theorem all_any (L N B0 N0 : Nat) (K : Nat → World → Prop) (hKb : ∀ i W W', K i W → Below W.heap.size W W' → K i W')
    (hY : ∀ (m i : Nat) (x : Value) (W1 : World), i < N → K i W1 → YieldAt Fence.wide m Tryz.prog L #[x] W1 fun e W' => e = .returned (.bool true) ∧ K (i + 1) W' ∧ KpN B0 N0 W1 W') :
    ∀ (k : Nat) (kd nd : Int) (l : List DescV) (a : Option Addr) (n cap i : Nat) (W : World), RowOf (descRd k) 3 40 (fun b => b < B0) W a n cap l → K i W → N0 < W.heap.size → i + 1 + DescV.nodesL l ≤ N →
      Calls Tryz.prog 116 #[.agg #[.int .i64 kd, .int .i64 nd, .slice a n cap], .func (.yield L) #[] #[]] W fun e W' => e = .returned (.bool true) ∧ K (i + 1 + DescV.nodesL l) W' ∧ KpN B0 N0 W W'
  | 0 => all_step 0 L N B0 N0 K hKb hY fun j h => by omega
  | k + 1 => all_step (k + 1) L N B0 N0 K hKb hY fun j h => by
    obtain rfl : k = j := by omega
    exact all_any L N B0 N0 K hKb hY k
theorem room_noneN {F : Fence} (hd : F.depth = none) (k : Nat) : F.room k := fun d h => by rw [hd] at h; cases h
theorem roundN {F : Fence} (hd : F.depth = none) {m m' : Nat} {P : Program} {l : Nat} {f : FuncId} {tmps : Array Value} {assign body : Code} {w : World} {R : Ending → World → Prop}
    (h : RoundIn F m P l f tmps assign body w R) : RoundIn F m' P l f tmps assign body w R := ⟨h.1, fun c cs _ => h.2 c cs (room_noneN hd _)⟩
theorem yieldN {F : Fence} (hd : F.depth = none) {m : Nat} (m' : Nat) {P : Program} {l : Nat} {args : Array Value} {W : World} {R : Ending → World → Prop} (h : YieldAt F m P l args W R) : YieldAt F m' P l args W R := by
  obtain ⟨fn, tmps, assign, body, hy, hR⟩ := h
  exact ⟨fn, tmps, assign, body, hy, roundN hd hR⟩
theorem allc_any (kd nd : Int) (a : Option Addr) (n cap : Nat) (w : World) : Calls Tryz.prog 97 #[.agg #[.int .i64 kd, .int .i64 nd, .slice a n cap]] w fun e w' => e = .returned (.func (.func 115) #[] #[.pointer (some ⟨w.heap.size, 0, none⟩)]) ∧ w' = w.alloc (.cells #[.int .i64 kd, .int .i64 nd, .slice a n cap] 42) := by
  go_enter Tryz.func97, Tryz.ntmps97
  go_wp2_with fail
  go_ret
  exact ⟨rfl, rfl⟩
set_option maxRecDepth 100000 in
set_option maxHeartbeats 4000000 in
theorem all1_any (L N B0 N0 : Nat) (K : Nat → World → Prop) (hKb : ∀ i W W', K i W → Below W.heap.size W W' → K i W')
    (hY : ∀ (m i : Nat) (x : Value) (W1 : World), i < N → K i W1 → YieldAt Fence.wide m Tryz.prog L #[x] W1 fun e W' => e = .returned (.bool true) ∧ K (i + 1) W' ∧ KpN B0 N0 W1 W')
    (k m : Nat) (kd nd : Int) (l : List DescV) (a : Option Addr) (n cap B : Nat) (W : World) (hl : RowOf (descRd k) 3 40 (fun b => b < B0) W a n cap l) (hK : K 0 W) (hN0 : N0 < W.heap.size) (hi : 1 + DescV.nodesL l ≤ N) (hB : W.heap[B]? = some (.cells #[.int .i64 kd, .int .i64 nd, .slice a n cap] 42 (0, 0))) :
    CallsIn Fence.wide m Tryz.prog 115 #[.func (.yield L) #[] #[], .pointer (some ⟨B, 0, none⟩)] W fun e W' => (∃ v, e = .returned v) ∧ K (1 + DescV.nodesL l) W' := by
  have HA := Lib.hid (all_any L N B0 N0 K hKb hY k kd nd l a n cap 0 W hl hK hN0 (by omega))
  have c0 := cell_at (o := 0) hB rfl
  have c1 := cell_at (o := 1) hB rfl
  have c2 := cell_at (o := 2) hB rfl
  clear hl hK hKb hY hB
  refine callsIn_of_wp Tryz.func115 rfl trivial ?_ rfl
  simp only [Tryz.ntmps115, List.size_toArray, List.length_cons, List.length_nil, Nat.reduceAdd, Nat.reduceSub, Array.replicate_succ, Array.replicate_zero, List.push_toArray, List.append_toArray, List.nil_append, List.cons_append]
  gi_wp2
  refine ⟨trivial, fun h => (by cases h), ?_⟩
  refine (callsIn_wide.2 HA.out).mono ?_
  rintro e w1 ⟨rfl, hK1, _⟩
  have HK1 := Lib.hid hK1
  clear hK1
  gi_wp2
  go_end0
  exact ⟨⟨_, rfl⟩, by have h := HK1.out; rwa [Nat.zero_add] at h⟩
theorem putN_cells {W : World} {l : Nat} {o o' : Obj} (hl : W.heap[l]? = some o) (ho : o.isCells = false) {k : Nat} {c : Array Value} {T : TypeId} {f : Nat × Nat} (h : W.heap[k]? = some (.cells c T f)) : (W.putObj l o').heap[k]? = some (.cells c T f) := by
  rw [World.putObj_heap_other fun e => ?_]
  · exact h
  · subst e
    rw [hl] at h
    cases h
    cases ho
theorem putN_below {A W : World} {n l : Nat} {o' : Obj} (h : Below n A W) (hl : n ≤ l) (hn : n ≤ W.heap.size) : Below n A (W.putObj l o') := h.grown (grownBy_putObj' W l o') hn (fun k e => by cases e; exact hl)
/-- Between two rounds: so many nodes are counted. -/
structure JN (w : World) (k : Nat) (W : World) : Prop where
  n : W.heap[w.heap.size + 1]? = some (.cells #[.int .i64 (k : Int)] 3 (0, 0))
  below : Below w.heap.size w W
  size : w.heap.size + 3 ≤ W.heap.size
set_option maxRecDepth 100000 in
set_option maxHeartbeats 8000000 in
theorem nodes_any (k : Nat) (F : Foot) (kd nd : Int) (l : List DescV) (a : Option Addr) (n cap : Nat) (w : World) (hl : RowOf (descRd k) 3 40 F w a n cap l) (hm : DescV.nodesL l < 1048576) :
    Calls Tryz.prog 84 #[.agg #[.int .i64 kd, .int .i64 nd, .slice a n cap]] w fun e w' => e = .returned (.int .i64 ((DescV.mk kd nd l).nodes : Int)) ∧ Below w.heap.size w w' := by
  refine (callsIn_wide (n := 5)).1 ?_
  refine callsIn_of_wp_marks Tryz.func84 rfl trivial ?_ rfl
  simp only [Tryz.ntmps84, List.size_toArray, List.length_cons, List.length_nil, Nat.reduceAdd, Nat.reduceSub, Array.replicate_succ, Array.replicate_zero, List.push_toArray, List.append_toArray, List.nil_append, List.cons_append]
  have HL := Lib.hid (hl.mono (G := fun b => b < w.heap.size) (descRd_ok _) fun b hb _ => hb)
  have HM := Lib.hid hm
  clear hl hm
  gi_wp2
  refine ⟨trivial, ?_⟩
  refine (callsIn_wide.2 (allc_any kd nd a n cap _)).mono ?_
  rintro e w1 ⟨rfl, rfl⟩
  gi_wp2
  obtain ⟨W3, hW3⟩ : ∃ W3, W3 = (((w.alloc (.cells #[.int .i64 kd, .int .i64 nd, .slice a n cap] 42)).alloc (.cells #[.int .i64 0] 3)).alloc (.cells #[.int .i64 kd, .int .i64 nd, .slice a n cap] 42)) := ⟨_, rfl⟩
  have hb3 : Below w.heap.size w W3 := by rw [hW3]; exact (((Below.refl _ _).alloc (Nat.le_refl _) _).alloc (by simp) _).alloc (by simp; omega) _
  have hz3 : W3.heap.size = w.heap.size + 3 := by rw [hW3]; simp
  have g1 : W3.heap[w.heap.size + 1]? = some (.cells #[.int .i64 0] 3 (0, 0)) := by
    rw [hW3, Lib.alloc_old _ _ _ (by simp)]
    have h2 := heap_alloc_new (w.alloc (.cells #[.int .i64 kd, .int .i64 nd, .slice a n cap] 42)) (.cells #[.int .i64 0] 3)
    rw [show (w.alloc (.cells #[.int .i64 kd, .int .i64 nd, .slice a n cap] 42)).heap.size = w.heap.size + 1 by simp] at h2
    exact h2
  have g2 : W3.heap[w.heap.size + 1 + 1]? = some (.cells #[.int .i64 kd, .int .i64 nd, .slice a n cap] 42 (0, 0)) := by
    rw [hW3]
    have h2 := heap_alloc_new ((w.alloc (.cells #[.int .i64 kd, .int .i64 nd, .slice a n cap] 42)).alloc (.cells #[.int .i64 0] 3)) (.cells #[.int .i64 kd, .int .i64 nd, .slice a n cap] 42)
    rw [show ((w.alloc (.cells #[.int .i64 kd, .int .i64 nd, .slice a n cap] 42)).alloc (.cells #[.int .i64 0] 3)).heap.size = w.heap.size + 1 + 1 by simp] at h2
    exact h2
  have HL3 := Lib.hid (HL.out.keep (descRd_ok _) (Fix.of_below hb3))
  rw [← hW3]
  clear hW3
  refine wp_rangeAll (α := Value) rfl (by omega) (gf := 115) (lb := #[.pointer (some ⟨w.heap.size + 1 + 1, 0, none⟩)]) rfl trivial (enters_of Tryz.func115 (by kernel_rfl) rfl) (fun x => #[x]) (fun x => rfl)
    (JN w) (fun _ _ _ => True) (KpN w.heap.size (w.heap.size + 1)) (fun _ => False) (1 + DescV.nodesL l) ?h0 ?hKt ?hKp ?hJs ?hJb ?hJp ?hOp ?hseq (fun x => { tmps := #[.agg #[.int .i64 kd, .int .i64 nd, .slice a n cap], .pointer (some ⟨w.heap.size, 0, none⟩), .int .i64 0, .pointer (some ⟨w.heap.size + 1, 0, none⟩), .agg #[.int .i64 kd, .int .i64 nd, .slice a n cap], .func (.func 115) #[] #[.pointer (some ⟨w.heap.size + 1 + 1, 0, none⟩)], x, undef, undef, undef], defers := [] }) ?assign ?body ?done
  case h0 => exact ⟨g1, hb3, by omega⟩
  case hKt => exact fun A B C h1 h2 => h1.trans h2
  case hKp => exact fun W lo o o' hle hl ho => ⟨Fix.of_grown (grownBy_putObj' W lo o') (fun b _ hf e => by cases e; omega), fun b _ c T f e => putN_cells hl ho e⟩
  case hJs => exact fun i W h => h.elim
  case hJb =>
    intro i W W' hj hb
    have hs := hj.size
    exact ⟨(hb.block _ (by omega)).trans hj.n, hj.below.trans (hb.mono (by omega)), Nat.le_trans hs hb.size⟩
  case hJp =>
    intro i W lo o o' hj hl hlo hoc
    have hs := hj.size
    exact ⟨putN_cells hlo hoc hj.n, putN_below hj.below (by omega) (by omega), by rw [World.putObj_size]; exact hs⟩
  case hOp => exact fun _ _ _ _ _ _ _ _ _ _ => trivial
  case hseq =>
    intro L K W hb hKb hKs hY h0
    have hbW := hb3.trans (hb.mono (by omega))
    exact all1_any L _ w.heap.size (w.heap.size + 1) K hKb (fun m i x W1 hi hK => yieldN rfl m (hY i x W1 hi hK trivial)) k _ kd nd l a n cap (w.heap.size + 1 + 1) W (HL.out.keep (descRd_ok _) (Fix.of_below hbW)) h0 (by have := hb.size; omega) (Nat.le_refl _) ((hb.block _ (by omega)).trans g2)
  case assign =>
    intro lo x W K hK
    dsimp only
    gi_wp2
    first
      | exact hK
      | exact (by kernel_rfl : #[(6 : Nat)].zip #[x] = #[(6, x)]) ▸ hK
      | (rw [show #[(6 : Nat)].zip #[x] = #[(6, x)] from rfl]; exact hK)
      | (have e : #[(6 : Nat)].zip #[x] = #[(6, x)] := by simp
         rw [e]; exact hK)
  case body =>
    intro lo i x W hi hj _
    have HJ := Lib.hid hj
    have hM := HM.out
    have hi64 : (i : Int) + 1 ≤ 9223372036854775807 := by omega
    have t0 := cell_at (o := 0) hj.n rfl
    have f0 := free_at (o := 0) hj.n
    clear hj
    gi_wp2
    have hB : Below w.heap.size w (W.setCell ⟨w.heap.size + 1, 0, none⟩ (.int .i64 ((i : Int) + 1))) := HJ.out.below.setCell (by show w.heap.size ≤ w.heap.size + 1; omega) _
    refine ⟨KeepsOthers.setCell _ _ _, ⟨Fix.setCell _ _ _ (fun h => by have h' : w.heap.size + 1 < w.heap.size := h; omega), fun b hb c T f e => (Below.heap_setCell _ _ _ _ hb).trans e⟩, ⟨?_, hB, by have := HJ.out.size; simpa [World.setCell] using this⟩⟩
    have h := heap_set_at (o := 0) (.int .i64 ((i : Int) + 1)) HJ.out.n
    exact h
  case done =>
    intro D W hD hj hdf
    have HJ := Lib.hid hj
    have HD := Lib.hid hdf
    have hsz := hj.size
    have t0 := cell_at (o := 0) hj.n rfl
    clear hj hdf
    gi_wp2
    have hK0 : W.heap[D]? = some (.deferred (some [])) := HD.out
    refine ⟨by simp, .inl ⟨_, _, rfl, run_takeDeferred hK0, ?_⟩⟩
    have hN : (DescV.mk kd nd l).nodes = 1 + DescV.nodesL l := by rw [DescV.nodes_kids]; show DescV.nodesL l + 1 = _; omega
    exact ⟨_, results_tmp rfl _ _ _, by rw [hN, Int.natCast_add]; rfl, putN_below HJ.out.below (by omega) (by omega)⟩
end Go.Proofs.YtephllgddhncgaaGreatDoor.Lex
/- How deep a tree is: the program's count and the reference's. -/
namespace Go.Proofs.YtephllgddhncgaaGreatDoor
open Go.RowKit
set_option linter.unusedSimpArgs false
set_option linter.unusedVariables false
namespace DescV
mutual
def depth : DescV → Nat | .mk _ _ l => depthL l + 1
def depthL : List DescV → Nat | [] => 0 | d :: l => Nat.max d.depth (depthL l)
end
theorem depth_kids (d : DescV) : d.depth = depthL d.kids + 1 := by cases d; rfl
theorem depthL_snoc (l : List DescV) (d : DescV) : depthL (l ++ [d]) = Nat.max (depthL l) d.depth := by
  induction l with
  | nil => simp [depthL]
  | cons a l ih =>
    rw [List.cons_append, depthL, depthL, ih]
    show Nat.max _ (Nat.max _ _) = Nat.max (Nat.max _ _) _
    exact (Nat.max_assoc ..).symm
mutual
theorem depth_nodes : ∀ d : DescV, d.depth ≤ d.nodes
  | .mk _ _ l => by rw [depth, nodes]; have := depthL_nodes l; omega
theorem depthL_nodes : ∀ l : List DescV, depthL l ≤ nodesL l
  | [] => Nat.le_refl _
  | d :: l => by
    rw [depthL, nodesL]
    have h1 := depth_nodes d
    have h2 := depthL_nodes l
    show max _ _ ≤ _
    omega
end
end DescV
/-- Too big? -/
def bigD (d : DescV) : Bool := decide (60 < d.nodes ∨ 12 < d.depth)
set_option maxRecDepth 100000 in
set_option maxHeartbeats 4000000 in
theorem depth_step (k : Nat) (ih : ∀ j, k = j + 1 → ∀ (F : Foot) (kd nd : Int) (l : List DescV) (a : Option Addr) (n cap : Nat) (w : World), RowOf (descRd j) 3 40 F w a n cap l → DescV.nodesL l < 1048576 →
    Calls Tryz.prog 85 #[.agg #[.int .i64 kd, .int .i64 nd, .slice a n cap]] w fun e w' => e = .returned (.int .i64 ((DescV.depthL l + 1 : Nat) : Int)) ∧ Below w.heap.size w w') (F : Foot) (kd nd : Int) (l : List DescV) (a : Option Addr) (n cap : Nat) (w : World) (hl : RowOf (descRd k) 3 40 F w a n cap l) (hm : DescV.nodesL l < 1048576) :
    Calls Tryz.prog 85 #[.agg #[.int .i64 kd, .int .i64 nd, .slice a n cap]] w fun e w' => e = .returned (.int .i64 ((DescV.depthL l + 1 : Nat) : Int)) ∧ Below w.heap.size w w' := by
  have HLN := Lib.hid hl.len
  have hn : n ≤ 3518437208880 := by have := hl.room; omega
  have HL := Lib.hid hl
  have HIH := Lib.hid ih
  have HM := Lib.hid hm
  clear hl ih hm
  go_enter Tryz.func85, Tryz.ntmps85
  go_wp2_with fail
  go_loopg [3, 9] n (fun g dv iv wr => ∃ j : Nat, j ≤ n ∧ g = n - j ∧ iv = .int .i64 (j : Int) ∧ dv = .int .i64 ((DescV.depthL (l.take j) : Nat) : Int) ∧ Below w.heap.size w wr)
  case atStart => exact ⟨0, by omega, rfl, rfl, rfl, (Below.refl _ _).alloc (Nat.le_refl _) _⟩
  case round =>
    obtain ⟨j, hj, rfl, rfl, rfl, hB⟩ := hrel
    obtain ⟨wo, rfl⟩ : ∃ wo : World, wo = wr := ⟨_, rfl⟩
    have HB := Lib.hid hB
    by_cases hlt : j < n
    · obtain ⟨k, rfl⟩ : ∃ q, k = q + 1 := by
        cases k with
        | zero => exact absurd (row_no_zero HL.out) (fun e => by have := HLN.out; rw [e] at this; simp at this; omega)
        | succ q => exact ⟨q, rfl⟩
      have hil : j < l.length := by have := HLN.out; omega
      obtain ⟨b, off, ax, nx, cx, rfl, hbw, _, _, _, hk, p0, p1, p2⟩ := (HL.out.keep (descRd_ok _) (Fix.of_below hB)).desc j hil
      have HTK := Lib.hid (List.take_succ_eq_append_getElem hil)
      have HSUM := Lib.hid (DescV.nodesL_take_succ hil)
      have HLE := Lib.hid (DescV.nodesL_take_le l (j + 1))
      have HNK := Lib.hid (DescV.nodes_kids (l[j]'hil))
      generalize l[j]'hil = d at *
      obtain ⟨dk, dn, dl⟩ := d
      simp only [DescV.kind, DescV.n, DescV.kids] at p0 p1 p2 hk
      have HNK' : Hid ((DescV.mk dk dn dl).nodes = DescV.nodesL dl + 1) := HNK
      have hmd : DescV.nodesL dl < 1048576 := by have := HM.out; have := HSUM.out; have := HLE.out; have := HNK'.out; omega
      have HCX := Lib.hid (fun W hb => HIH.out k rfl F dk dn dl ax nx cx W (hk.keep (descRd_ok _) (Fix.of_below hb)) hmd)
      have HD1 : Hid (DescV.depthL (l.take (j + 1)) = Nat.max (DescV.depthL (l.take j)) (DescV.depthL dl + 1)) := Lib.hid (by rw [HTK.out, DescV.depthL_snoc]; rfl)
      clear hk hB hmd
      generalize DescV.depthL (l.take j) = D at *
      generalize DescV.depthL dl + 1 = E at *
      have HB4 : Hid (Below wo.heap.size wo (wo.alloc (.cells #[.int .i64 dk, .int .i64 dn, .slice ax nx cx] 42))) := Lib.hid ((Below.refl _ _).alloc (Nat.le_refl _) _)
      go_wp2_with (go_at_call 85; (with_reducible refine (HCX.out _ HB4.out).mono ?_); rintro e w5 ⟨rfl, hb5⟩; have HB5 := Lib.hid hb5; clear hb5)
      all_goals
        go_roundg (n - (j + 1))
        case measure => omega
        case rel =>
          refine ⟨j + 1, by omega, rfl, by go_num, ?_, HB.out.trans ((HB4.out.trans (HB5.out.mono HB4.out.size)).mono HB.out.size)⟩
          rw [HD1.out]
          congr 1
          show (_ : Int) = ((max D E : Nat) : Int)
          omega
    · obtain rfl : j = n := by omega
      rw [List.take_of_length_le (by have := HLN.out; omega)]
      have hD : (DescV.depthL l : Int) + 1 ≤ 9223372036854775807 := by have := DescV.depthL_nodes l; have := HM.out; omega
      go_wp2_with fail
      go_ret
      exact ⟨by rw [Int.natCast_add]; rfl, HB.out⟩
theorem depth_any : ∀ (k : Nat) (F : Foot) (kd nd : Int) (l : List DescV) (a : Option Addr) (n cap : Nat) (w : World), RowOf (descRd k) 3 40 F w a n cap l → DescV.nodesL l < 1048576 →
    Calls Tryz.prog 85 #[.agg #[.int .i64 kd, .int .i64 nd, .slice a n cap]] w fun e w' => e = .returned (.int .i64 ((DescV.depthL l + 1 : Nat) : Int)) ∧ Below w.heap.size w w'
  | 0 => depth_step 0 fun j h => by omega
  | k + 1 => depth_step (k + 1) fun j h => by
    obtain rfl : k = j := by omega
    exact depth_any k
set_option maxRecDepth 100000 in
set_option maxHeartbeats 4000000 in
theorem rdepth_step (k : Nat) (ih : ∀ j, k = j + 1 → ∀ (F : Foot) (kd nd : Int) (l : List DescV) (a : Option Addr) (n cap : Nat) (w : World), RowOf (descRd j) 3 40 F w a n cap l → DescV.nodesL l < 1048576 →
    Calls Tryz.prog 88 #[.agg #[.int .i64 kd, .int .i64 nd, .slice a n cap]] w fun e w' => e = .returned (.int .i64 ((DescV.depthL l + 1 : Nat) : Int)) ∧ Below w.heap.size w w') (F : Foot) (kd nd : Int) (l : List DescV) (a : Option Addr) (n cap : Nat) (w : World) (hl : RowOf (descRd k) 3 40 F w a n cap l) (hm : DescV.nodesL l < 1048576) :
    Calls Tryz.prog 88 #[.agg #[.int .i64 kd, .int .i64 nd, .slice a n cap]] w fun e w' => e = .returned (.int .i64 ((DescV.depthL l + 1 : Nat) : Int)) ∧ Below w.heap.size w w' := by
  have HLN := Lib.hid hl.len
  have hn : n ≤ 3518437208880 := by have := hl.room; omega
  obtain ⟨W0, hW0⟩ : ∃ W0, W0 = w.alloc (.cells #[.int .i64 kd, .int .i64 nd, .slice a n cap] 42) := ⟨_, rfl⟩
  have hb0 : Below w.heap.size w W0 := by rw [hW0]; exact (Below.refl _ _).alloc (Nat.le_refl _) _
  have g0 : W0.heap[w.heap.size]? = some (.cells #[.int .i64 kd, .int .i64 nd, .slice a n cap] 42 (0, 0)) := by rw [hW0]; exact heap_alloc_new w _
  have hz0 : w.heap.size < W0.heap.size := by rw [hW0]; simp
  have HL := Lib.hid (hl.keep (descRd_ok _) (Fix.of_below hb0))
  have HB0 := Lib.hid hb0
  have HT2 := Lib.hid (cell_at (o := 2) g0 rfl)
  have HIH := Lib.hid ih
  have HM := Lib.hid hm
  clear hl ih hm hb0 g0
  go_enter Tryz.func88, Tryz.ntmps88
  go_wp2_with fail
  rw [← hW0]
  clear hW0
  go_loopg [3, 4] n (fun g dv iv wr => ∃ j : Nat, j ≤ n ∧ g = n - j ∧ iv = .int .i64 (j : Int) ∧ dv = .int .i64 ((DescV.depthL (l.take j) : Nat) : Int) ∧ Below W0.heap.size W0 wr)
  case atStart => exact ⟨0, by omega, rfl, rfl, rfl, Below.refl _ _⟩
  case round =>
    obtain ⟨j, hj, rfl, rfl, rfl, hB⟩ := hrel
    obtain ⟨wo, rfl⟩ : ∃ wo : World, wo = wr := ⟨_, rfl⟩
    have HB := Lib.hid hB
    have b2 : wo.cell? ⟨w.heap.size, 2, none⟩ = some (.slice a n cap) := (hB.cell (p := ⟨w.heap.size, 2, none⟩) hz0).trans HT2.out
    by_cases hlt : j < n
    · obtain ⟨k, rfl⟩ : ∃ q, k = q + 1 := by
        cases k with
        | zero => exact absurd (row_no_zero HL.out) (fun e => by have := HLN.out; rw [e] at this; simp at this; omega)
        | succ q => exact ⟨q, rfl⟩
      have hil : j < l.length := by have := HLN.out; omega
      obtain ⟨b, off, ax, nx, cx, rfl, hbw, _, _, _, hk, p0, p1, p2⟩ := (HL.out.keep (descRd_ok _) (Fix.of_below hB)).desc j hil
      have HTK := Lib.hid (List.take_succ_eq_append_getElem hil)
      have HSUM := Lib.hid (DescV.nodesL_take_succ hil)
      have HLE := Lib.hid (DescV.nodesL_take_le l (j + 1))
      have HNK := Lib.hid (DescV.nodes_kids (l[j]'hil))
      generalize l[j]'hil = d at *
      obtain ⟨dk, dn, dl⟩ := d
      simp only [DescV.kind, DescV.n, DescV.kids] at p0 p1 p2 hk
      have HNK' : Hid ((DescV.mk dk dn dl).nodes = DescV.nodesL dl + 1) := HNK
      have hmd : DescV.nodesL dl < 1048576 := by have := HM.out; have := HSUM.out; have := HLE.out; have := HNK'.out; omega
      have HCX := Lib.hid (HIH.out k rfl F dk dn dl ax nx cx wo hk hmd)
      have HD1 : Hid (DescV.depthL (l.take (j + 1)) = Nat.max (DescV.depthL (l.take j)) (DescV.depthL dl + 1)) := Lib.hid (by rw [HTK.out, DescV.depthL_snoc]; rfl)
      clear hk hB hmd
      generalize DescV.depthL (l.take j) = D at *
      generalize DescV.depthL dl + 1 = E at *
      by_cases hc : (D : Int) < (E : Int)
      · go_wp2_with (go_at_call 88; (with_reducible refine HCX.out.mono ?_); rintro e w5 ⟨rfl, hb5⟩; have HB5 := Lib.hid hb5; clear hb5)
        go_roundg (n - (j + 1))
        case measure => omega
        case rel =>
          refine ⟨j + 1, by omega, rfl, by go_num, ?_, HB.out.trans (HB5.out.mono HB.out.size)⟩
          rw [HD1.out]
          congr 1
          show (_ : Int) = ((max D E : Nat) : Int)
          omega
      · go_wp2_with (go_at_call 88; (with_reducible refine HCX.out.mono ?_); rintro e w5 ⟨rfl, hb5⟩; have HB5 := Lib.hid hb5; clear hb5)
        go_roundg (n - (j + 1))
        case measure => omega
        case rel =>
          refine ⟨j + 1, by omega, rfl, by go_num, ?_, HB.out.trans (HB5.out.mono HB.out.size)⟩
          rw [HD1.out]
          congr 1
          show (_ : Int) = ((max D E : Nat) : Int)
          omega
    · obtain rfl : j = n := by omega
      rw [List.take_of_length_le (by have := HLN.out; omega)]
      have hD : (DescV.depthL l : Int) + 1 ≤ 9223372036854775807 := by have := DescV.depthL_nodes l; have := HM.out; omega
      go_wp2_with fail
      go_ret
      exact ⟨by rw [Int.natCast_add]; rfl, HB0.out.trans (HB.out.mono HB0.out.size)⟩
theorem rdepth_any : ∀ (k : Nat) (F : Foot) (kd nd : Int) (l : List DescV) (a : Option Addr) (n cap : Nat) (w : World), RowOf (descRd k) 3 40 F w a n cap l → DescV.nodesL l < 1048576 →
    Calls Tryz.prog 88 #[.agg #[.int .i64 kd, .int .i64 nd, .slice a n cap]] w fun e w' => e = .returned (.int .i64 ((DescV.depthL l + 1 : Nat) : Int)) ∧ Below w.heap.size w w'
  | 0 => rdepth_step 0 fun j h => by omega
  | k + 1 => rdepth_step (k + 1) fun j h => by
    obtain rfl : k = j := by omega
    exact rdepth_any k
end Go.Proofs.YtephllgddhncgaaGreatDoor
/- valid.big, of trees of no more nodes than may be: what is left is how deep they are. -/
namespace Go.Proofs.YtephllgddhncgaaGreatDoor.Lex
open Go.RowKit Go.Shelf
set_option linter.unusedSimpArgs false
set_option linter.unusedVariables false
attribute [local go_sem] Oper.semAt_some
/-- Between two rounds: so many nodes are counted. -/
structure JB (w : World) (kd nd : Int) (s : Value) (k : Nat) (W : World) : Prop where
  n : W.heap[w.heap.size + 1 + 1]? = some (.cells #[.int .i64 (k : Int)] 3 (0, 0))
  box : W.heap[w.heap.size]? = some (.cells #[.int .i64 kd, .int .i64 nd, s] 42 (0, 0))
  res : W.heap[w.heap.size + 1]? = some (.cells #[.bool false] 4 (0, 0))
  below : Below w.heap.size w W
  size : w.heap.size + 4 ≤ W.heap.size
set_option maxRecDepth 100000 in
set_option maxHeartbeats 8000000 in
theorem bigV_small (k : Nat) (F : Foot) (kd nd : Int) (l : List DescV) (a : Option Addr) (n cap : Nat) (w : World) (hl : RowOf (descRd k) 3 40 F w a n cap l) (hm : 1 + DescV.nodesL l ≤ 60) :
    Calls Tryz.prog 79 #[.agg #[.int .i64 kd, .int .i64 nd, .slice a n cap]] w fun e w' => e = .returned (.bool (decide (12 < DescV.depthL l + 1))) ∧ Below w.heap.size w w' := by
  refine (callsIn_wide (n := 5)).1 ?_
  refine callsIn_of_wp_marks Tryz.func79 rfl trivial ?_ rfl
  simp only [Tryz.ntmps79, List.size_toArray, List.length_cons, List.length_nil, Nat.reduceAdd, Nat.reduceSub, Array.replicate_succ, Array.replicate_zero, List.push_toArray, List.append_toArray, List.nil_append, List.cons_append]
  have HL := Lib.hid (hl.mono (G := fun b => b < w.heap.size) (descRd_ok _) fun b hb _ => hb)
  have HM := Lib.hid hm
  clear hl hm
  gi_wp2
  refine ⟨trivial, ?_⟩
  refine (callsIn_wide.2 (allc_any kd nd a n cap _)).mono ?_
  rintro e w1 ⟨rfl, rfl⟩
  gi_wp2
  obtain ⟨W3, hW3⟩ : ∃ W3, W3 = ((((w.alloc (.cells #[.int .i64 kd, .int .i64 nd, .slice a n cap] 42)).alloc (.cells #[.bool false] 4)).alloc (.cells #[.int .i64 0] 3)).alloc (.cells #[.int .i64 kd, .int .i64 nd, .slice a n cap] 42)) := ⟨_, rfl⟩
  have hb3 : Below w.heap.size w W3 := by rw [hW3]; exact ((((Below.refl _ _).alloc (Nat.le_refl _) _).alloc (by simp) _).alloc (by simp; omega) _).alloc (by simp; omega) _
  have hz3 : W3.heap.size = w.heap.size + 4 := by rw [hW3]; simp
  have gs : W3.heap[w.heap.size]? = some (.cells #[.int .i64 kd, .int .i64 nd, .slice a n cap] 42 (0, 0)) ∧ W3.heap[w.heap.size + 1]? = some (.cells #[.bool false] 4 (0, 0)) ∧ W3.heap[w.heap.size + 1 + 1]? = some (.cells #[.int .i64 0] 3 (0, 0)) ∧ W3.heap[w.heap.size + 1 + 1 + 1]? = some (.cells #[.int .i64 kd, .int .i64 nd, .slice a n cap] 42 (0, 0)) := by
    rw [hW3]
    simp only [heap_alloc_iff, World.size_alloc]
    refine ⟨?_, ?_, ?_, ?_⟩ <;> simp
    all_goals omega
  obtain ⟨g0, g1, g2, g3⟩ := gs
  have HL3 := Lib.hid (HL.out.keep (descRd_ok _) (Fix.of_below hb3))
  rw [← hW3]
  clear hW3
  refine wp_rangeAll (α := Value) rfl (by omega) (gf := 115) (lb := #[.pointer (some ⟨w.heap.size + 1 + 1 + 1, 0, none⟩)]) rfl trivial (enters_of Tryz.func115 (by kernel_rfl) rfl) (fun x => #[x]) (fun x => rfl)
    (JB w kd nd (.slice a n cap)) (fun _ _ _ => True) (KpN w.heap.size (w.heap.size + 1 + 1)) (fun _ => False) (1 + DescV.nodesL l) ?h0 ?hKt ?hKp ?hJs ?hJb ?hJp ?hOp ?hseq (fun x => { tmps := #[.agg #[.int .i64 kd, .int .i64 nd, .slice a n cap], .pointer (some ⟨w.heap.size, 0, none⟩), .pointer (some ⟨w.heap.size + 1, 0, none⟩), .pointer (some ⟨w.heap.size + 1 + 1, 0, none⟩), .agg #[.int .i64 kd, .int .i64 nd, .slice a n cap], .func (.func 115) #[] #[.pointer (some ⟨w.heap.size + 1 + 1 + 1, 0, none⟩)], x, undef, undef, undef, undef, undef, undef, undef], defers := [] }) ?assign ?body ?done
  case h0 => exact ⟨g2, g0, g1, hb3, by omega⟩
  case hKt => exact fun A B C h1 h2 => h1.trans h2
  case hKp => exact fun W lo o o' hle hl ho => ⟨Fix.of_grown (grownBy_putObj' W lo o') (fun b _ hf e => by cases e; omega), fun b _ c T f e => putN_cells hl ho e⟩
  case hJs => exact fun i W h => h.elim
  case hJb =>
    intro i W W' hj hb
    have hs := hj.size
    exact ⟨(hb.block _ (by omega)).trans hj.n, (hb.block _ (by omega)).trans hj.box, (hb.block _ (by omega)).trans hj.res, hj.below.trans (hb.mono (by omega)), Nat.le_trans hs hb.size⟩
  case hJp =>
    intro i W lo o o' hj hl hlo hoc
    have hs := hj.size
    exact ⟨putN_cells hlo hoc hj.n, putN_cells hlo hoc hj.box, putN_cells hlo hoc hj.res, putN_below hj.below (by omega) (by omega), by rw [World.putObj_size]; exact hs⟩
  case hOp => exact fun _ _ _ _ _ _ _ _ _ _ => trivial
  case hseq =>
    intro L K W hb hKb hKs hY h0
    have hbW := hb3.trans (hb.mono (by omega))
    exact all1_any L _ w.heap.size (w.heap.size + 1 + 1) K hKb (fun m i x W1 hi hK => yieldN rfl m (hY i x W1 hi hK trivial)) k _ kd nd l a n cap (w.heap.size + 1 + 1 + 1) W (HL.out.keep (descRd_ok _) (Fix.of_below hbW)) h0 (by have := hb.size; omega) (Nat.le_refl _) ((hb.block _ (by omega)).trans g3)
  case assign =>
    intro lo x W K hK
    dsimp only
    gi_wp2
    first
      | exact hK
      | exact (by kernel_rfl : #[(6 : Nat)].zip #[x] = #[(6, x)]) ▸ hK
      | (rw [show #[(6 : Nat)].zip #[x] = #[(6, x)] from rfl]; exact hK)
      | (have e : #[(6 : Nat)].zip #[x] = #[(6, x)] := by simp
         rw [e]; exact hK)
  case body =>
    intro lo i x W hi hj _
    have HJ := Lib.hid hj
    have hM := HM.out
    have hi64 : (i : Int) + 1 ≤ 9223372036854775807 := by omega
    have hi60 : ¬ (60 : Int) < (i : Int) + 1 := by omega
    have t0 := cell_at (o := 0) hj.n rfl
    have f0 := free_at (o := 0) hj.n
    clear hj
    gi_wp2
    have hB : Below w.heap.size w (W.setCell ⟨w.heap.size + 1 + 1, 0, none⟩ (.int .i64 ((i : Int) + 1))) := HJ.out.below.setCell (by show w.heap.size ≤ w.heap.size + 1 + 1; omega) _
    refine ⟨KeepsOthers.setCell _ _ _, ⟨Fix.setCell _ _ _ (fun h => by have h' : w.heap.size + 1 + 1 < w.heap.size := h; omega), fun b hb c T f e => (Below.heap_setCell _ _ _ _ hb).trans e⟩, ⟨?_, (Below.heap_setCell _ _ _ _ (by show w.heap.size ≠ w.heap.size + 1 + 1; omega)).trans HJ.out.box, (Below.heap_setCell _ _ _ _ (by show w.heap.size + 1 ≠ w.heap.size + 1 + 1; omega)).trans HJ.out.res, hB, by have := HJ.out.size; simpa [World.setCell] using this⟩⟩
    have h := heap_set_at (o := 0) (.int .i64 ((i : Int) + 1)) HJ.out.n
    exact h
  case done =>
    intro D W hD hj hdf
    have HJ := Lib.hid hj
    have HD := Lib.hid hdf
    have hsz := hj.size
    have t0 := cell_at (o := 0) hj.box rfl
    have t1 := cell_at (o := 1) hj.box rfl
    have t2 := cell_at (o := 2) hj.box rfl
    have HDP := Lib.hid (depth_any k _ kd nd l a n cap W (HL.out.keep (descRd_ok _) (Fix.of_below hj.below)) (by have := HM.out; omega))
    have HT : Hid (∀ w9, Below W.heap.size W w9 → w9.heap[w.heap.size + 1]? = some (.cells #[.bool false] 4 (0, 0))) := Lib.hid fun w9 hb => (hb.block _ (by omega)).trans HJ.out.res
    clear hj hdf
    gi_wp2
    refine ⟨trivial, ?_⟩
    refine (callsIn_wide.2 HDP.out).mono ?_
    rintro e w9 ⟨rfl, hb9⟩
    have HB9 := Lib.hid hb9
    have gr := HT.out w9 hb9
    have fr := free_at (o := 0) gr
    have hK0 : w9.heap[D]? = some (.deferred (some [])) := (hb9.block _ (Array.getElem?_eq_some_iff.1 HD.out).1).trans HD.out
    have HK0 := Lib.hid hK0
    have tr := cell_at (o := 0) gr rfl
    have GR := Lib.hid gr
    clear hb9 gr hK0
    gi_wp2
    have hne : D ≠ w.heap.size + 1 := by omega
    have hDK : (w9.setCell ⟨w.heap.size + 1, 0, none⟩ (.bool (decide ((12 : Int) < (DescV.depthL l : Int) + 1)))).heap[D]? = some (.deferred (some [])) := (Below.heap_setCell _ _ _ _ hne).trans HK0.out
    have hBB : Below w.heap.size w (w9.setCell ⟨w.heap.size + 1, 0, none⟩ (.bool (decide ((12 : Int) < (DescV.depthL l : Int) + 1)))) := (HJ.out.below.trans (HB9.out.mono (by omega))).setCell (by show w.heap.size ≤ w.heap.size + 1; omega) _
    have hRR := heap_set_at (o := 0) (.bool (decide ((12 : Int) < (DescV.depthL l : Int) + 1))) GR.out
    generalize w9.setCell ⟨w.heap.size + 1, 0, none⟩ (.bool (decide ((12 : Int) < (DescV.depthL l : Int) + 1))) = wz at *
    refine ⟨by simp, .inl ⟨_, _, rfl, run_takeDeferred hDK, ?_⟩⟩
    have hwz : w.heap.size ≤ wz.heap.size := hBB.size
    have hPP : Below w.heap.size w (wz.putObj D (.deferred none)) := putN_below hBB (by omega) hwz
    have hc : (wz.putObj D (.deferred none)).cell? ⟨w.heap.size + 1, 0, none⟩ = some (.bool (decide ((12 : Int) < (DescV.depthL l : Int) + 1))) := cell_at (putN_cells hDK rfl hRR) rfl
    refine ⟨.bool (decide ((12 : Int) < (DescV.depthL l : Int) + 1)), by simp [results, Tryz.results79, go_sem, hc], ?_, hPP⟩
    rw [show decide ((12 : Int) < (DescV.depthL l : Int) + 1) = decide (12 < DescV.depthL l + 1) from decide_eq_decide.2 (by omega)]
end Go.Proofs.YtephllgddhncgaaGreatDoor.Lex
