/- entry.Sort: a copy of entries, by their keys. -/
import Derived.Test.YtdhkndoglcnllaaDoorEnts
import Derived.Test.YtdhkndoglcnllaaDoorCmpE
import Derived.Test.YtdhkndoglcnllaaDoorClone
import Derived.Test.YtdhkndoglcnllaaDoorHeldZ
namespace Go.Proofs.YtdhkndoglcnllaaDoor.Stab
open Go Go.RowKit
set_option linter.unusedSimpArgs false
set_option linter.unusedVariables false
theorem mk_ents (n : Nat) (hn : n ≤ 1099511627776) (w : World) : (Instr.makeSlice 22 (.int .i64 0) (.int .i64 (n : Int))).run Tryd.prog w = .ok (.slice (some ⟨w.heap.size, 0, none⟩) 0 n) (w.alloc (.cells (madeCells #[.int .i64 0, .int .i64 0, .int .i64 0, .int .i64 0, .slice none 0 0] (n * 5)) 37)) := by
  obtain ⟨i, hi, hz0, hz1, hz2⟩ := info_parts (show (Tryd.prog.info? 37).map (fun i => (i.zero, i.size, i.bytes)) = some (some (.agg #[.int .i64 0, .int .i64 0, .int .i64 0, .int .i64 0, .slice none 0 0]), 5, 56) by kernel_rfl)
  have hr := run_make (P := Tryd.prog) w 22 37 i _ Tryd.underlying22 hi hz0 .i64 .i64 0 n (by omega) (by omega) (by rw [hz2]; omega) (by omega)
  simp only [Int.toNat_natCast, hz1] at hr
  exact hr
theorem entElem : Elem Tryd.prog 22 37 5 56 := ⟨Tryd.underlying22, ⟨.agg #[.int .i64 0, .int .i64 0, .int .i64 0, .int .i64 0, .slice none 0 0], by kernel_rfl, rfl⟩, by omega⟩
/-- Between two rounds: the first i entries are copied. -/
structure SoS (k : Nat) (bx : Array Value) (l : List EntryV) (n : Nat) (w : World) (i : Nat) (wr : World) : Prop where
  row : ∃ L, L.length = i ∧ Ents k (w.heap.size + 1) (w.heap.size + 1) n wr L (l.take i)
  box : wr.heap[w.heap.size]? = some (.cells bx 43 (0, 0))
  below : Below w.heap.size w wr
  size : w.heap.size + 2 ≤ wr.heap.size
def SortPost (k n : Nat) (l : List EntryV) (w : World) (e : Ending) (w' : World) : Prop :=
  ∃ a c, e = .returned (.slice a n c) ∧ RowOf (entryRd k) 5 56 (From w.heap.size) w' a n c (sortE l) ∧ Below w.heap.size w w'
set_option maxRecDepth 100000 in
set_option maxHeartbeats 4000000 in
theorem sorted_any (k : Nat) (F : Foot) (l : List EntryV) (a : Option Addr) (n cap : Nat) (w : World) (hn : n ≤ 1099511627776) (hl : RowOf (entryRd k) 5 56 F w a n cap l) :
    Calls Tryd.prog 14 #[.agg #[.slice a n cap, .func (.func 10) #[] #[]]] w (SortPost k n l w) := by
  obtain ⟨bx, hbx⟩ : ∃ bx : Array Value, bx = #[.slice a n cap, .func (.func 10) #[] #[]] := ⟨_, rfl⟩
  obtain ⟨W1, hW1⟩ : ∃ W1, W1 = (w.alloc (.cells bx 43)).alloc (.cells (madeCells #[.int .i64 0, .int .i64 0, .int .i64 0, .int .i64 0, .slice none 0 0] (n * 5)) 37) := ⟨_, rfl⟩
  have HL := Lib.hid hl
  have HLN := Lib.hid hl.len
  have hmk := mk_ents n hn
  have HS0 : Hid (SoS k bx l n w 0 W1) := Lib.hid (by
    have h2 := heap_alloc_new (w.alloc (.cells bx 43)) (.cells (madeCells #[.int .i64 0, .int .i64 0, .int .i64 0, .int .i64 0, .slice none 0 0] (n * 5)) 37)
    rw [show (w.alloc (.cells bx 43)).heap.size = w.heap.size + 1 by simp, ← hW1] at h2
    refine ⟨⟨[], rfl, ⟨⟨rfl, .inr ⟨w.heap.size + 1, n, _, rfl, Nat.le_refl _, h2, Nat.zero_le _, by unfold maxLen; omega, by rw [size_madeCells], by simp [cellsOf]⟩⟩, rfl, fun i e h => by simp at h⟩⟩, ?_, ?_, ?_⟩
    · rw [hW1, Lib.alloc_old _ _ _ (by simp)]
      exact heap_alloc_new w _
    · rw [hW1]; exact ((Below.refl _ _).alloc (Nat.le_refl _) _).alloc (by simp) _
    · rw [hW1]; simp)
  have HRM := Lib.hid hl.room
  have HMX : Hid (n ≤ maxLen) := Lib.hid (by have := hl.le; have := hl.max; omega)
  have hbz : bx[0]? = some (.slice a n cap) ∧ bx[1]? = some (.func (.func 10) #[] #[]) := by rw [hbx]; exact ⟨rfl, rfl⟩
  have HBX := Lib.hid hbz
  clear hl hbz
  go_enter Tryd.func14, Tryd.ntmps14
  go_upto_region 3 with fail
  clear hmk
  rw [← hbx, ← hW1]
  clear hbx hW1
  go_loopg [3, 13] n (fun g lv iv wr => ∃ i : Nat, i ≤ n ∧ g = n - i ∧ lv = .slice (some ⟨w.heap.size + 1, 0, none⟩) i n ∧ iv = .int .i64 i ∧ SoS k bx l n w i wr)
  case atStart => exact ⟨0, by omega, rfl, rfl, rfl, HS0.out⟩
  case round =>
    obtain ⟨i, hi, rfl, rfl, rfl, hst⟩ := hrel
    obtain ⟨wo, rfl⟩ : ∃ wo : World, wo = wr := ⟨_, rfl⟩
    have HST := Lib.hid hst
    have hzo := hst.size
    clear hst
    by_cases hlt : i < n
    · have hlti : (i : Int) < (n : Int) := by omega
      have hil : i < l.length := by have := HLN.out; omega
      obtain ⟨b, o, hbw, kn, kd, dk, dn, dl, da, dm, dc, rfl, hx, ⟨p0, p1, p2, p3, p4⟩, hwn, hwd, hk⟩ := (HL.out.keep (entryRd_ok _) (Fix.of_below HST.out.below)).entry i hil
      have HTK := Lib.hid (List.take_succ_eq_append_getElem hil)
      rw [hx] at HTK
      obtain ⟨k, rfl⟩ : ∃ j, k = j + 1 := by
        cases k with
        | zero => exact hk.elim
        | succ j => exact ⟨j, rfl⟩
      obtain ⟨a', n', c', he, hwk, hwm, hkd⟩ := hk
      cases he
      have HK := Lib.hid hkd
      have HWK := Lib.hid hwk
      have HWM := Lib.hid hwm
      have HWN := Lib.hid hwn
      have HWD := Lib.hid hwd
      clear hkd hwk hwm hwn hwd hx
      go_upto_region 5 with fail
      obtain ⟨W4, hW4⟩ : ∃ W4, W4 = wo.alloc (.cells #[.int .i64 kn, .int .i64 kd, .int .i64 dk, .int .i64 dn, .slice da dm dc] 37) := ⟨_, rfl⟩
      have hb4 : Below wo.heap.size wo W4 := by rw [hW4]; exact (Below.refl _ _).alloc (Nat.le_refl _) _
      have g4 : W4.heap[wo.heap.size]? = some (.cells #[.int .i64 kn, .int .i64 kd, .int .i64 dk, .int .i64 dn, .slice da dm dc] 37 (0, 0)) := by rw [hW4]; exact heap_alloc_new wo _
      have hz4 : W4.heap.size = wo.heap.size + 1 := by rw [hW4]; simp
      have HB4 := Lib.hid hb4
      have HSS : Hid (∀ W, Below W4.heap.size W4 W → W.cell? ⟨wo.heap.size, 0, none⟩ = some (.int .i64 kn) ∧ W.cell? ⟨wo.heap.size, 1, none⟩ = some (.int .i64 kd) ∧ W.cell? ⟨wo.heap.size, 2, none⟩ = some (.int .i64 dk) ∧ W.cell? ⟨wo.heap.size, 3, none⟩ = some (.int .i64 dn) ∧ W.cell? ⟨wo.heap.size, 4, none⟩ = some (.slice da dm dc)) := Lib.hid fun W hb => by
        have g := (hb.block _ (by omega)).trans g4
        exact ⟨cell_at g rfl, cell_at g rfl, cell_at g rfl, cell_at g rfl, cell_at g rfl⟩
      have hbz := Below.refl W4.heap.size W4
      have HT0 := Lib.hid (HSS.out W4.drew hbz.drew)
      have HK4 := Lib.hid (HK.out.keep (descRd_ok k) (Fix.of_below (hb4.drew)))
      rw [← hW4]
      clear hW4 p0 p1 p2 p3 p4
      refine Lex.wp_region_z (fun W => W.cell? ⟨wo.heap.size, 0, none⟩ = some (.int .i64 kn) ∧ W.cell? ⟨wo.heap.size, 1, none⟩ = some (.int .i64 kd) ∧ W.cell? ⟨wo.heap.size, 2, none⟩ = some (.int .i64 dk) ∧ W.cell? ⟨wo.heap.size, 3, none⟩ = some (.int .i64 dn) ∧ W.cell? ⟨wo.heap.size, 4, none⟩ = some (.slice da dm dc)) 9 (by kernel_rfl) ?_
      change Lex.wpZ _ _ _ _ _ _ 10 #[false, false, false, false, false, false, false, false, false, false] _ W4.drew
      (refine Lex.wpZ_take (i := 0) (v := ?_) rfl (by kernel_rfl) (by kernel_rfl) (by kernel_rfl) (by kernel_rfl) (fun _ _ _ h => h) HT0.out (Or.inl ⟨by rfl, ?_⟩) ?_; rotate_left 1; (focus (intro w0 hw0; (try dsimp only at hw0); obtain ⟨s0, s1, s2, s3, s4⟩ := hw0; go_simp; try with_reducible rfl)); simp only [Act.put, List.getElem_toArray, List.getElem_cons_zero, List.getElem_cons_succ, List.setIfInBounds_toArray, List.set_cons_zero, List.set_cons_succ])
      (refine Lex.wpZ_take (i := 1) (v := ?_) rfl (by kernel_rfl) (by kernel_rfl) (by kernel_rfl) (by kernel_rfl) (fun _ _ _ h => h) HT0.out (Or.inl ⟨by rfl, ?_⟩) ?_; rotate_left 1; (focus (intro w0 hw0; (try dsimp only at hw0); obtain ⟨s0, s1, s2, s3, s4⟩ := hw0; go_simp; try with_reducible rfl)); simp only [Act.put, List.getElem_toArray, List.getElem_cons_zero, List.getElem_cons_succ, List.setIfInBounds_toArray, List.set_cons_zero, List.set_cons_succ])
      (refine Lex.wpZ_take (i := 2) (v := ?_) rfl (by kernel_rfl) (by kernel_rfl) (by kernel_rfl) (by kernel_rfl) (fun _ _ _ h => h) HT0.out (Or.inl ⟨by rfl, ?_⟩) ?_; rotate_left 1; (focus (intro w0 hw0; (try dsimp only at hw0); obtain ⟨s0, s1, s2, s3, s4⟩ := hw0; go_simp; try with_reducible rfl)); simp only [Act.put, List.getElem_toArray, List.getElem_cons_zero, List.getElem_cons_succ, List.setIfInBounds_toArray, List.set_cons_zero, List.set_cons_succ])
      (refine Lex.wpZ_take (i := 3) (v := ?_) rfl (by kernel_rfl) (by kernel_rfl) (by kernel_rfl) (by kernel_rfl) (fun _ _ _ h => h) HT0.out (Or.inl ⟨by rfl, ?_⟩) ?_; rotate_left 1; (focus (intro w0 hw0; (try dsimp only at hw0); obtain ⟨s0, s1, s2, s3, s4⟩ := hw0; go_simp; try with_reducible rfl)); simp only [Act.put, List.getElem_toArray, List.getElem_cons_zero, List.getElem_cons_succ, List.setIfInBounds_toArray, List.set_cons_zero, List.set_cons_succ])
      (refine Lex.wpZ_take (i := 4) (v := ?_) rfl (by kernel_rfl) (by kernel_rfl) (by kernel_rfl) (by kernel_rfl) (fun _ _ _ h => h) HT0.out (Or.inl ⟨by rfl, ?_⟩) ?_; rotate_left 1; (focus (intro w0 hw0; (try dsimp only at hw0); obtain ⟨s0, s1, s2, s3, s4⟩ := hw0; go_simp; try with_reducible rfl)); simp only [Act.put, List.getElem_toArray, List.getElem_cons_zero, List.getElem_cons_succ, List.setIfInBounds_toArray, List.set_cons_zero, List.set_cons_succ])
      refine Lex.wpZ_ready (rs := [5]) (by kernel_rfl) (by simp) ?_
      refine Lex.ReadyZ.cons rfl (fun K hK => ?_) Lex.ReadyZ.nil
      go_simp
      refine (clone_any k F dk dn dl da dm dc _ HK4.out).mono ?_
      rintro e w5 ⟨a5, c5, rfl, hr5, hb5⟩
      have hb5z : Below W4.heap.size W4 w5 := hbz.drew.trans hb5
      have HT5 := Lib.hid (HSS.out w5 hb5z)
      have HR5 := Lib.hid hr5
      refine hK.out _ _ (.inr HT5.out) ?_
      clear hK K hb5 hr5
      try simp only [Act.put, List.getElem_toArray, List.getElem_cons_zero, List.getElem_cons_succ, List.setIfInBounds_toArray, List.set_cons_zero, List.set_cons_succ]
      (refine Lex.wpZ_take (i := 6) (v := ?_) rfl (by kernel_rfl) (by kernel_rfl) (by kernel_rfl) (by kernel_rfl) (fun _ _ _ h => h) HT5.out (Or.inl ⟨by rfl, ?_⟩) ?_; rotate_left 1; (focus (intro w0 hw0; (try dsimp only at hw0); obtain ⟨s0, s1, s2, s3, s4⟩ := hw0; go_simp; try with_reducible rfl)); simp only [Act.put, List.getElem_toArray, List.getElem_cons_zero, List.getElem_cons_succ, List.setIfInBounds_toArray, List.set_cons_zero, List.set_cons_succ])
      refine Lex.wpZ_ready (rs := [7]) (by kernel_rfl) (by simp) ?_
      refine Lex.ReadyZ.cons rfl (fun K hK => ?_) Lex.ReadyZ.nil
      go_simp
      obtain ⟨w6, hw6⟩ : ∃ w6, w6 = w5.alloc (.cells #[.int .i64 kn, .int .i64 kd, .int .i64 dk, .int .i64 dn, .slice a5 dm c5] 37) := ⟨_, rfl⟩
      have hb6 : Below w5.heap.size w5 w6 := by rw [hw6]; exact (Below.refl _ _).alloc (Nat.le_refl _) _
      have hb6z : Below W4.heap.size W4 w6 := hb5z.trans (hb6.mono hb5z.size)
      have hsrc : Src w6 (some ⟨w5.heap.size, 0, none⟩) 1 1 5 [.int .i64 kn, .int .i64 kd, .int .i64 dk, .int .i64 dn, .slice a5 dm c5] := by rw [hw6]; exact src_new3 _ 37 5 rfl (cells_one ⟨kn, kd, dk, dn, a5, dm, c5⟩)
      have HT6 := Lib.hid (HSS.out w6 hb6z)
      have HSRC := Lib.hid hsrc
      have hB6 : Below wo.heap.size wo w6 := HB4.out.trans (hb6z.mono HB4.out.size)
      have HB6 := Lib.hid hB6
      have HR6 : Hid (EntOf (k + 1) (From (w.heap.size + 1 + 1)) w6 ⟨kn, kd, dk, dn, a5, dm, c5⟩ ((kn, kd), DescV.mk dk dn dl)) := Lib.hid ⟨rfl, rfl, HWN.out, HWD.out, a5, dm, c5, rfl, HWK.out, HWM.out, (HR5.out.mono (descRd_ok _) (fun q _ hq => by have hq' : W4.drew.heap.size ≤ q := hq; have e4 : W4.drew.heap.size = W4.heap.size := rfl; show w.heap.size + 1 + 1 ≤ q; omega)).keep (descRd_ok _) (Fix.of_below hb6)⟩
      rw [← hw6]
      refine hK.out _ _ (.inr HT6.out) ?_
      clear hK K hw6 hb6 hsrc hB6
      try simp only [Act.put, List.getElem_toArray, List.getElem_cons_zero, List.getElem_cons_succ, List.setIfInBounds_toArray, List.set_cons_zero, List.set_cons_succ]
      refine Lex.wpZ_ready (rs := [8]) (by kernel_rfl) (by simp) ?_
      refine Lex.ReadyZ.cons rfl (fun K hK => ?_) Lex.ReadyZ.nil
      obtain ⟨L, hLn, hE⟩ := HST.out.row
      subst hLn
      have HE := Lib.hid (hE.below HB6.out)
      clear hE
      refine step_appS rfl _ _ 22 rfl entElem _ _ _ _ rfl _ _ _ _ rfl HE.out.row HSRC.out (by omega) ?_
      intro w7 ho7 hg7
      have HE7 := Lib.hid (HE.out.add HR6.out ho7 hg7)
      have hz64 := hb6z.size
      have hz7 : w6.heap.size ≤ w7.heap.size := hg7.size
      have HT7 : Hid (w7.cell? ⟨wo.heap.size, 0, none⟩ = some (.int .i64 kn) ∧ w7.cell? ⟨wo.heap.size, 1, none⟩ = some (.int .i64 kd) ∧ w7.cell? ⟨wo.heap.size, 2, none⟩ = some (.int .i64 dk) ∧ w7.cell? ⟨wo.heap.size, 3, none⟩ = some (.int .i64 dn) ∧ w7.cell? ⟨wo.heap.size, 4, none⟩ = some (.slice da dm dc)) := Lib.hid (by
        obtain ⟨q0, q1, q2, q3, q4⟩ := HT6.out
        have e : ∀ o, w7.cell? ⟨wo.heap.size, o, none⟩ = w6.cell? ⟨wo.heap.size, o, none⟩ := fun o => World.cell?_of_block (a := ⟨wo.heap.size, o, none⟩) (hg7.block wo.heap.size (by omega) (fun e => by have e2 : wo.heap.size = w.heap.size + 1 := Option.some.inj e; omega))
        rw [e, e, e, e, e]
        exact ⟨q0, q1, q2, q3, q4⟩)
      have HBX7 : Hid (w7.heap[w.heap.size]? = some (.cells bx 43 (0, 0))) := Lib.hid ((hg7.block _ (by omega) (fun e => by have := Option.some.inj e; omega)).trans ((HB6.out.block _ (by omega)).trans HST.out.box))
      have HBW7 : Hid (Below w.heap.size w w7) := Lib.hid ((HST.out.below.trans (HB6.out.mono (by omega))).grown hg7 (by omega) (fun q hq => by have := Option.some.inj hq; omega))
      refine hK.out _ _ (.inr HT7.out) ?_
      clear hK K ho7 hg7
      try simp only [Act.put, List.getElem_toArray, List.getElem_cons_zero, List.getElem_cons_succ, List.setIfInBounds_toArray, List.set_cons_zero, List.set_cons_succ]
      refine Lex.wpZ_ready (rs := [9]) (by kernel_rfl) (by simp) ?_
      refine Lex.ReadyZ.cons rfl (fun K hK => ?_) Lex.ReadyZ.nil
      go_simp
      refine hK.out _ _ (.inl rfl) ?_
      clear hK K
      try simp only [Act.put, List.getElem_toArray, List.getElem_cons_zero, List.getElem_cons_succ, List.setIfInBounds_toArray, List.set_cons_zero, List.set_cons_succ]
      refine Lex.wpZ_done (by kernel_rfl) ?_ _
      go_wp2_with fail
      go_roundg (n - (L.length + 1))
      case measure => omega
      case rel =>
        exact ⟨L.length + 1, by omega, rfl, rfl, by go_num, ⟨L ++ [⟨kn, kd, dk, dn, a5, dm, c5⟩], by simp, by rw [HTK.out]; exact HE7.out⟩, HBX7.out, HBW7.out, by omega⟩
    · obtain rfl : i = n := by omega
      obtain ⟨L, hLn, hE⟩ := HST.out.row
      rw [List.take_of_length_le (by have := HLN.out; omega)] at hE
      subst hLn
      have hst : St (w.heap.size + 1) (w.heap.size + 1) wo L wo := ⟨hE.full, Below.refl _ _, fun _ _ _ => rfl⟩
      have hcm : CmpAt (w.heap.size + 1) (w.heap.size + 1) wo ⟨w.heap.size, 0, none⟩ cfE := ⟨cfE_ord, fun L' W x y hs => clo_any x y w.heap.size W (cell_at ((hs.keep w.heap.size (by omega) (by omega)).trans HST.out.box) HBX.out.2)⟩
      have HC := Lib.hid (ssf_any (Nat.le_refl _) hcm (cap := L.length) hn L rfl wo hst)
      have HE := Lib.hid hE
      clear hst hcm hE
      go_wp2_with (go_at_call 24; (with_reducible refine HC.out.mono ?_); rintro e w2 ⟨rfl, L', hs1, hs2, hs3, hs4⟩; have HP1 := Lib.hid hs1; have HP2 := Lib.hid hs2; have HP3 := Lib.hid hs3; have HP4 := Lib.hid hs4; clear hs1 hs2 hs3 hs4)
      go_ret
      refine ⟨_, _, rfl, (sorted_row rfl HE.out HP1.out HP2.out HP3.out HP4.out HRM.out HMX.out).mono (entryRd_ok _) (fun b _ hb => by have hb' : w.heap.size + 1 ≤ b := hb; show w.heap.size ≤ b; omega), HST.out.below.trans (HP4.out.below.mono (by omega))⟩
set_option maxRecDepth 100000 in
set_option maxHeartbeats 4000000 in
theorem sort_any (k : Nat) (F : Foot) (l : List EntryV) (a : Option Addr) (n cap : Nat) (w : World) (hn : n ≤ 1099511627776) (hl : RowOf (entryRd k) 5 56 F w a n cap l) :
    Calls Tryd.prog 8 #[.slice a n cap] w (SortPost k n l w) := by
  have HC := Lib.hid (sorted_any k F l a n cap w hn hl)
  clear hl hn
  go_enter Tryd.func8, Tryd.ntmps8
  go_wp2_with (go_at_call 14; (with_reducible refine HC.out.mono ?_); rintro e w2 ⟨a2, c2, rfl, hr, hb⟩; have HR := Lib.hid hr; have HB := Lib.hid hb; clear hr hb)
  go_ret
  exact ⟨_, _, rfl, HR.out, HB.out⟩
end Go.Proofs.YtdhkndoglcnllaaDoor.Stab
