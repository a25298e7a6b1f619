/- valid.wrong: is any node of a tree not right? -/
import Derived.Test.YtibabpahpiijgaaGreatDoorNode
import Derived.Test.YtibabpahpiijgaaGreatDoorHeldZ
import Derived.Deep.RegionLawGrows
namespace Go.Proofs.YtibabpahpiijgaaGreatDoor
open Go.RowKit
set_option linter.unusedSimpArgs false
set_option linter.unusedVariables false
namespace DescV
mutual
def rightD : DescV → Bool | .mk k n l => nodeB k n l && rightL l
def rightL : List DescV → Bool | [] => true | d :: l => d.rightD && rightL l
end
theorem rightL_all (l : List DescV) : rightL l = l.all rightD := by
  induction l with
  | nil => rfl
  | cons d l ih => rw [rightL, ih]; rfl
end DescV
section
variable {P : Program} {ops : Array Oper} {S : World → Prop}
theorem yieldsIf_slice_hm {op : Oper} {a : Act} (hw : Region.wanted op (yielded ops a.tmps) = true) (t : TypeId) (x h m : Operand) (ho : op.op = .slice t x none (some h) (some m)) (ht : P.underlying t = some (.slice (P.elem t)))
    {ad : Option Addr} {n cap : Nat} (hx : a.eval x = .slice ad n cap) (hh : a.eval h = .int .i64 (n : Int)) (hm : a.eval m = .int .i64 (n : Int)) (hk : n ≤ cap) {s : Nat} (hsz : ∀ w, (sizeOf (P.elem t)).run P w = .ok s w) : YieldsIf P ops S op (.slice ad n n) a :=
  .inl ⟨hw, fun w _ => by
    have hr := run_slice_hm (w := w) (P := P) t ad n cap ht .i64 .i64 (n : Int) (n : Int) (by omega) (by omega) (by omega)
    have e : sliced ad 0 (n : Int).toNat (n : Int).toNat s = .slice ad n n := by
      unfold sliced
      rw [Int.toNat_natCast, Nat.sub_zero]
      split
      · rfl
      · cases ad <;> simp [Addr.add]
    unfold execOp
    simp only [ho, Option.map_some, Option.map_none, hx, hh, hm, Sem.run_bind, Sem.run_pure, run_sliceAt_slice (h := ht), hr, Result.andThen_ok, hsz, e]⟩
end
/-- A row of integers somewhere: a path. -/
def IsPath (w : World) (ao : Option Addr) (n cap : Nat) : Prop := ∃ xs, w.ownsRow 0 3 1 (.slice ao n cap) n xs
theorem IsPath.below {w w' : World} {ao : Option Addr} {n cap : Nat} (h : IsPath w ao n cap) (hb : Below w.heap.size w w') : IsPath w' ao n cap := by
  obtain ⟨xs, h⟩ := h
  exact ⟨xs, own_below h hb⟩
theorem IsPath.le {w : World} {ao : Option Addr} {n cap : Nat} (h : IsPath w ao n cap) : n ≤ cap := by
  obtain ⟨xs, _, ⟨hv, h0⟩ | ⟨g, cap', cur, hv, _, _, hle, _⟩⟩ := h
  · cases hv; omega
  · cases hv; exact hle
def WrongPost (b : Bool) (w : World) (e : Ending) (w' : World) : Prop := ∃ ao n c, e = .returned (.tuple #[.slice ao n c, .bool (!b)]) ∧ Below w.heap.size w w'
set_option maxRecDepth 100000 in
set_option maxHeartbeats 4000000 in
theorem wrong_step (k : Nat) (ih : ∀ j, k = j + 1 → ∀ (F : Foot) (kd nd : Int) (l : List DescV) (a : Option Addr) (n cap : Nat) (po : Option Addr) (pn pc : Nat) (w : World), RowOf (descRd j) 3 40 F w a n cap l → IsPath w po pn pc → pn + j ≤ 1048576 →
    Calls Tryz.prog 90 #[.agg #[.int .i64 kd, .int .i64 nd, .slice a n cap], .slice po pn pc] w (WrongPost (DescV.mk kd nd l).rightD w)) (F : Foot) (kd nd : Int) (l : List DescV) (a : Option Addr) (n cap : Nat) (po : Option Addr) (pn pc : Nat) (w : World)
    (hl : RowOf (descRd k) 3 40 F w a n cap l) (hp : IsPath w po pn pc) (hpk : pn + k ≤ 1048576) :
    Calls Tryz.prog 90 #[.agg #[.int .i64 kd, .int .i64 nd, .slice a n cap], .slice po pn pc] w (WrongPost (DescV.mk kd nd l).rightD w) := by
  obtain ⟨W1, hW1⟩ : ∃ W1, W1 = w.alloc (.cells #[.int .i64 kd, .int .i64 nd, .slice a n cap] 25) := ⟨_, rfl⟩
  have hb1 : Below w.heap.size w W1 := by rw [hW1]; exact (Below.refl _ _).alloc (Nat.le_refl _) _
  have g1 : W1.heap[w.heap.size]? = some (.cells #[.int .i64 kd, .int .i64 nd, .slice a n cap] 25 (0, 0)) := by rw [hW1]; exact heap_alloc_new w _
  have hz1 : w.heap.size < W1.heap.size := by rw [hW1]; simp
  have c0 : W1.cell? ⟨w.heap.size, 0, none⟩ = some (.int .i64 kd) := cell_at (o := 0) g1 rfl
  have c1 : W1.cell? ⟨w.heap.size, 1, none⟩ = some (.int .i64 nd) := cell_at (o := 1) g1 rfl
  have c2 : W1.cell? ⟨w.heap.size, 2, none⟩ = some (.slice a n cap) := cell_at (o := 2) g1 rfl
  have HB := Lib.hid hb1
  have HG1 := Lib.hid g1
  have HLN := Lib.hid hl.len
  have HRM := Lib.hid hl.room
  have HL := Lib.hid (hl.keep (descRd_ok _) (Fix.of_below hb1))
  have HP := Lib.hid (hp.below hb1)
  have HPL := Lib.hid hp.le
  have HIH := Lib.hid ih
  clear hl hb1 g1 hp ih
  cases hn : nodeB kd nd l with
  | false =>
    have HN := Lib.hid hn
    have HR : Hid ((DescV.mk kd nd l).rightD = false) := Lib.hid (by rw [DescV.rightD, hn]; rfl)
    clear hn
    go_enter Tryz.func90, Tryz.ntmps90
    go_upto_region 1 with fail
    rw [← hW1]
    clear hW1
    go_wp2_with (go_at_call 111; (with_reducible refine (node_any k F kd nd l a n cap _ HL.out).mono ?_); rintro e w2 ⟨rfl, hb2⟩; rw [HN.out]; have HB2 := Lib.hid (HB.out.trans (hb2.mono HB.out.size)); clear hb2)
    go_ret2
    exact ⟨_, _, _, by rw [HR.out]; rfl, HB2.out⟩
  | true =>
    have HN := Lib.hid hn
    have HR : Hid ((DescV.mk kd nd l).rightD = l.all DescV.rightD) := Lib.hid (by rw [DescV.rightD, hn, ← DescV.rightL_all]; rfl)
    clear hn
    go_enter Tryz.func90, Tryz.ntmps90
    go_upto_region 1 with fail
    rw [← hW1]
    clear hW1
    go_upto_region 3 with (go_at_call 111; (with_reducible refine (node_any k F kd nd l a n cap _ HL.out).mono ?_); rintro e w2 ⟨rfl, hb2⟩; rw [HN.out]; have HB2 := Lib.hid hb2; have c2' : w2.cell? ⟨w.heap.size, 2, none⟩ = some (.slice a n cap) := cell_at (o := 2) ((hb2.block _ hz1).trans HG1.out) rfl; clear hb2)
    have HBW := Lib.hid (HB.out.trans (HB2.out.mono HB.out.size))
    have HL2 := Lib.hid (HL.out.keep (descRd_ok _) (Fix.of_below HB2.out))
    have HP2 := Lib.hid (HP.out.below HB2.out)
    clear c0 c1 c2
    obtain ⟨W2, rfl⟩ : ∃ W : World, W = w2 := ⟨_, rfl⟩
    go_wp2_with fail
    clear c2'
    go_loopg [17] n (fun g iv wr => ∃ i : Nat, i ≤ n ∧ g = n - i ∧ iv = .int .i64 i ∧ (l.take i).all DescV.rightD = true ∧ Below W2.heap.size W2 wr)
    case atStart => exact ⟨0, by omega, rfl, rfl, rfl, Below.refl _ _⟩
    case round =>
      obtain ⟨i, hi, rfl, rfl, hall, hB⟩ := hrel
      obtain ⟨wo, rfl⟩ : ∃ wo : World, wo = wr := ⟨_, rfl⟩
      have HALL := Lib.hid hall
      have HBo := Lib.hid hB
      clear hall hB
      have hnn : n ≤ 3518437208880 := by have := HRM.out; omega
      by_cases hlt : i < n
      · have hlti : (i : Int) < (n : Int) := by omega
        have hil : i < l.length := by rw [HLN.out]; exact hlt
        obtain ⟨j, rfl⟩ : ∃ j, k = j + 1 := by
          cases k with
          | zero => exact absurd (row_no_zero HL.out) (fun e => by have := HLN.out; rw [e] at this; simp at this; omega)
          | succ j => exact ⟨j, rfl⟩
        obtain ⟨b, off, da, dm, dc, rfl, hbw, _, _, _, hk, p0, p1, p2⟩ := (HL2.out.keep (descRd_ok _) (Fix.of_below HBo.out)).desc i hil
        have HTK := Lib.hid (List.take_succ_eq_append_getElem hil)
        have HGET := Lib.hid (List.getElem_mem hil)
        generalize l[i]'hil = d at *
        obtain ⟨dk, dn, dl⟩ := d
        simp only [DescV.kind, DescV.n, DescV.kids] at p0 p1 p2 hk
        have HK := Lib.hid hk
        clear hk
        go_upto_region 6 with fail
        obtain ⟨W4, hW4⟩ : ∃ W4, W4 = wo.alloc (.cells #[.int .i64 dk, .int .i64 dn, .slice da dm dc] 25) := ⟨_, rfl⟩
        have hb4 : Below wo.heap.size wo W4 := by rw [hW4]; exact (Below.refl _ _).alloc (Nat.le_refl _) _
        have g4 : W4.heap[wo.heap.size]? = some (.cells #[.int .i64 dk, .int .i64 dn, .slice da dm dc] 25 (0, 0)) := by rw [hW4]; exact heap_alloc_new wo _
        have hz4 : W4.heap.size = wo.heap.size + 1 := by rw [hW4]; simp
        have HB4 := Lib.hid hb4
        have HSS : Hid (∀ W, Below W4.heap.size W4 W → W.cell? ⟨wo.heap.size, 0, none⟩ = some (.int .i64 dk) ∧ W.cell? ⟨wo.heap.size, 1, none⟩ = some (.int .i64 dn) ∧ W.cell? ⟨wo.heap.size, 2, none⟩ = some (.slice da dm dc)) := Lib.hid fun W hb => by
          have g := (hb.block _ (by omega)).trans g4
          exact ⟨cell_at g rfl, cell_at g rfl, cell_at g rfl⟩
        rw [← hW4]
        clear hW4 p0 p1 p2
        have hwd : Below W4.heap.size W4 W4.drew := (Below.refl _ _).drew
        refine Lex.wp_region_z (fun W => W.cell? ⟨wo.heap.size, 0, none⟩ = some (.int .i64 dk) ∧ W.cell? ⟨wo.heap.size, 1, none⟩ = some (.int .i64 dn) ∧ W.cell? ⟨wo.heap.size, 2, none⟩ = some (.slice da dm dc)) 15 (by kernel_rfl) ?_
        change Lex.wpZ _ _ _ _ _ _ 16 #[false, false, false, false, false, false, false, false, false, false, false, false, false, false, false, false] _ W4.drew
        generalize W4.drew = wd at *
        have HWD := Lib.hid hwd
        have HT0 := Lib.hid (HSS.out wd hwd)
        have HBD : Hid (Below wo.heap.size wo wd) := Lib.hid (HB4.out.trans (hwd.mono HB4.out.size))
        have HPD : Hid (IsPath wd po pn pc) := Lib.hid ((HP2.out.below HBo.out).below HBD.out)
        clear hwd
        (refine Lex.wpZ_take (i := 0) (v := ?_) rfl (by kernel_rfl) (by kernel_rfl) (by kernel_rfl) (by kernel_rfl) (fun _ _ _ h => h) HT0.out (Or.inl ⟨by rfl, ?_⟩) ?_; rotate_left 1; (focus (intro w0 hw0; (try dsimp only at hw0); obtain ⟨s0, s1, s2⟩ := hw0; go_simp; try with_reducible rfl)); simp only [Act.put, List.getElem_toArray, List.getElem_cons_zero, List.getElem_cons_succ, List.setIfInBounds_toArray, List.set_cons_zero, List.set_cons_succ])
        (refine Lex.wpZ_take (i := 1) (v := ?_) rfl (by kernel_rfl) (by kernel_rfl) (by kernel_rfl) (by kernel_rfl) (fun _ _ _ h => h) HT0.out (Or.inl ⟨by rfl, ?_⟩) ?_; rotate_left 1; (focus (intro w0 hw0; (try dsimp only at hw0); obtain ⟨s0, s1, s2⟩ := hw0; go_simp; try with_reducible rfl)); simp only [Act.put, List.getElem_toArray, List.getElem_cons_zero, List.getElem_cons_succ, List.setIfInBounds_toArray, List.set_cons_zero, List.set_cons_succ])
        (refine Lex.wpZ_take (i := 2) (v := ?_) rfl (by kernel_rfl) (by kernel_rfl) (by kernel_rfl) (by kernel_rfl) (fun _ _ _ h => h) HT0.out (Or.inl ⟨by rfl, ?_⟩) ?_; rotate_left 1; (focus (intro w0 hw0; (try dsimp only at hw0); obtain ⟨s0, s1, s2⟩ := hw0; go_simp; try with_reducible rfl)); simp only [Act.put, List.getElem_toArray, List.getElem_cons_zero, List.getElem_cons_succ, List.setIfInBounds_toArray, List.set_cons_zero, List.set_cons_succ])
        (refine Lex.wpZ_take (i := 3) (v := ?_) rfl (by kernel_rfl) (by kernel_rfl) (by kernel_rfl) (by kernel_rfl) (fun _ _ _ h => h) HT0.out (Or.inl ⟨by rfl, ?_⟩) ?_; rotate_left 1; (focus (intro w0 hw0; (try dsimp only at hw0); obtain ⟨s0, s1, s2⟩ := hw0; go_simp; try with_reducible rfl)); simp only [Act.put, List.getElem_toArray, List.getElem_cons_zero, List.getElem_cons_succ, List.setIfInBounds_toArray, List.set_cons_zero, List.set_cons_succ])
        (refine Lex.wpZ_take (i := 4) (v := ?_) rfl (by kernel_rfl) (by kernel_rfl) (by kernel_rfl) (by kernel_rfl) (fun _ _ _ h => h) HT0.out (Or.inl ⟨by rfl, ?_⟩) ?_; rotate_left 1; (focus (intro w0 hw0; (try dsimp only at hw0); obtain ⟨s0, s1, s2⟩ := hw0; go_simp; try with_reducible rfl)); simp only [Act.put, List.getElem_toArray, List.getElem_cons_zero, List.getElem_cons_succ, List.setIfInBounds_toArray, List.set_cons_zero, List.set_cons_succ])
        (refine Lex.wpZ_take (i := 5) (v := ?_) rfl (by kernel_rfl) (by kernel_rfl) (by kernel_rfl) (by kernel_rfl) (fun _ _ _ h => h) HT0.out (Or.inl ⟨by rfl, ?_⟩) ?_; rotate_left 1; (focus (intro w0 hw0; (try dsimp only at hw0); obtain ⟨s0, s1, s2⟩ := hw0; go_simp; try with_reducible rfl)); simp only [Act.put, List.getElem_toArray, List.getElem_cons_zero, List.getElem_cons_succ, List.setIfInBounds_toArray, List.set_cons_zero, List.set_cons_succ])
        refine Lex.wpZ_take (i := 6) (v := .slice po pn pn) rfl (by kernel_rfl) (by kernel_rfl) (by kernel_rfl) (by kernel_rfl) (fun _ _ _ h => h) HT0.out (yieldsIf_slice_hm rfl 85 _ _ _ rfl Tryz.underlying85 rfl rfl rfl HPL.out (s := 1) (fun w => by kernel_rfl)) ?_
        simp only [Act.put, List.getElem_toArray, List.getElem_cons_zero, List.getElem_cons_succ, List.setIfInBounds_toArray, List.set_cons_zero, List.set_cons_succ]
        (refine Lex.wpZ_take (i := 7) (v := ?_) rfl (by kernel_rfl) (by kernel_rfl) (by kernel_rfl) (by kernel_rfl) (fun _ _ _ h => h) HT0.out (Or.inl ⟨by rfl, ?_⟩) ?_; rotate_left 1; (focus (intro w0 hw0; (try dsimp only at hw0); obtain ⟨s0, s1, s2⟩ := hw0; go_simp; try with_reducible rfl)); simp only [Act.put, List.getElem_toArray, List.getElem_cons_zero, List.getElem_cons_succ, List.setIfInBounds_toArray, List.set_cons_zero, List.set_cons_succ])
        refine Lex.wpZ_ready (rs := [8]) (by kernel_rfl) (by simp) ?_
        refine Lex.ReadyZ.cons rfl (fun K hK => ?_) Lex.ReadyZ.nil
        go_simp
        obtain ⟨w5, hw5⟩ : ∃ w5, w5 = wd.alloc (.cells #[.int .i64 (i : Int)] 3) := ⟨_, rfl⟩
        have hb5 : Below wd.heap.size wd w5 := by rw [hw5]; exact (Below.refl _ _).alloc (Nat.le_refl _) _
        have g5 : w5.heap[wd.heap.size]? = some (.cells #[.int .i64 (i : Int)] 3 (0, 0)) := by rw [hw5]; exact heap_alloc_new wd _
        rw [← hw5]
        have HB5 := Lib.hid (HBD.out.trans (hb5.mono HBD.out.size))
        have HT5 := Lib.hid (HSS.out w5 (HWD.out.trans (hb5.mono HWD.out.size)))
        have HP5 := Lib.hid (HPD.out.below hb5)
        have HW5 := Lib.hid (HWD.out.trans (hb5.mono HWD.out.size))
        refine hK.out _ _ (.inr HT5.out) ?_
        clear hK K hw5
        try simp only [Act.put, List.getElem_toArray, List.getElem_cons_zero, List.getElem_cons_succ, List.setIfInBounds_toArray, List.set_cons_zero, List.set_cons_succ]
        refine Lex.wpZ_ready (rs := [9]) (by kernel_rfl) (by simp) ?_
        refine Lex.ReadyZ.cons rfl (fun K hK => ?_) Lex.ReadyZ.nil
        obtain ⟨ys, hown⟩ := HP5.out
        obtain ⟨ii, hi1, hi2, hi3, hi4⟩ : ∃ ii, Tryz.prog.info? 3 = some ii ∧ ii.zero = some (.int .i64 0) ∧ ii.size = 1 ∧ ii.bytes = 8 := info_parts (show (Tryz.prog.info? 3).map (fun i => (i.zero, i.size, i.bytes)) = some (some (.int .i64 0), 1, 8) by kernel_rfl)
        refine step_append_grows rfl _ _ 85 rfl 3 ii _ 1 8 Tryz.underlying85 hi1 hi2 hi3 hi4 rfl (by omega) po pn pn ys rfl (fun h => ?_) hown.1 (fun bb hbb j' u hu => ?_) ⟨wd.heap.size, 0, none⟩ 1 1 [.int .i64 (i : Int)] rfl rfl (fun j' u hu => ?_) (by simp [Value.oneCell']) (by omega) (by unfold maxLen; omega) (by omega) ?_
        · subst h
          rcases hown.2 with ⟨hv, h0⟩ | ⟨g, _, _, hv, _⟩
          · exact ⟨h0, h0⟩
          · cases hv
        · subst hbb
          rcases hown.2 with ⟨hv, h0⟩ | ⟨g, _, _, hv, _⟩
          · cases hv
          · cases hv
            exact hown.cells (g := g) rfl j' u hu
        · rw [Addr.add_lit, Nat.zero_add]
          exact cell_at g5 (by simpa using hu)
        intro v6 w6 ho6 hg6
        have hb6 : Below w5.heap.size w5 w6 := (Below.refl _ _).grown hg6 (Nat.le_refl _) (fun k h => by cases h)
        have HB6 := Lib.hid (HB5.out.trans (hb6.mono HB5.out.size))
        have HT6 := Lib.hid (HSS.out w6 (HW5.out.trans (hb6.mono HW5.out.size)))
        have HW6 := Lib.hid (HW5.out.trans (hb6.mono HW5.out.size))
        obtain ⟨a6, c6, rfl⟩ := own_val ho6
        have HP6 : Hid (IsPath w6 a6 (pn + 1) c6) := Lib.hid ⟨_, own_down ho6 (Nat.zero_le _)⟩
        have HCC := Lib.hid (HIH.out j rfl F dk dn dl da dm dc a6 (pn + 1) c6 w6 (HK.out.keep (descRd_ok _) (Fix.of_below HB6.out)) HP6.out (by omega))
        refine hK.out _ _ (.inr HT6.out) ?_
        clear hK K hown hi1 hi2 hi3 hi4 ho6 hg6 hb6 g5 hb5
        try simp only [Act.put, List.getElem_toArray, List.getElem_cons_zero, List.getElem_cons_succ, List.setIfInBounds_toArray, List.set_cons_zero, List.set_cons_succ]
        refine Lex.wpZ_ready (rs := [10]) (by kernel_rfl) (by simp) ?_
        refine Lex.ReadyZ.cons rfl (fun K hK => ?_) Lex.ReadyZ.nil
        go_simp
        refine HCC.out.mono ?_
        rintro e w7 ⟨a7, n7, c7, rfl, hb7⟩
        have HT7 := Lib.hid (HSS.out w7 (HW6.out.trans (hb7.mono HW6.out.size)))
        have HB7 := Lib.hid (HBo.out.trans ((HB6.out.trans (hb7.mono HB6.out.size)).mono HBo.out.size))
        refine hK.out _ _ (.inr HT7.out) ?_
        clear hK K hb7
        try simp only [Act.put, List.getElem_toArray, List.getElem_cons_zero, List.getElem_cons_succ, List.setIfInBounds_toArray, List.set_cons_zero, List.set_cons_succ]
        (refine Lex.wpZ_take (i := 11) (v := ?_) rfl (by kernel_rfl) (by kernel_rfl) (by kernel_rfl) (by kernel_rfl) (fun _ _ _ h => h) HT7.out (Or.inl ⟨by rfl, ?_⟩) ?_; rotate_left 1; (focus (intro w0 hw0; (try dsimp only at hw0); obtain ⟨s0, s1, s2⟩ := hw0; go_simp; try with_reducible rfl)); simp only [Act.put, List.getElem_toArray, List.getElem_cons_zero, List.getElem_cons_succ, List.setIfInBounds_toArray, List.set_cons_zero, List.set_cons_succ])
        (refine Lex.wpZ_take (i := 12) (v := ?_) rfl (by kernel_rfl) (by kernel_rfl) (by kernel_rfl) (by kernel_rfl) (fun _ _ _ h => h) HT7.out (Or.inl ⟨by rfl, ?_⟩) ?_; rotate_left 1; (focus (intro w0 hw0; (try dsimp only at hw0); obtain ⟨s0, s1, s2⟩ := hw0; go_simp; try with_reducible rfl)); simp only [Act.put, List.getElem_toArray, List.getElem_cons_zero, List.getElem_cons_succ, List.setIfInBounds_toArray, List.set_cons_zero, List.set_cons_succ])
        (refine Lex.wpZ_take (i := 13) (v := ?_) rfl (by kernel_rfl) (by kernel_rfl) (by kernel_rfl) (by kernel_rfl) (fun _ _ _ h => h) HT7.out (Or.inl ⟨by rfl, ?_⟩) ?_; rotate_left 1; (focus (intro w0 hw0; (try dsimp only at hw0); obtain ⟨s0, s1, s2⟩ := hw0; go_simp; try with_reducible rfl)); simp only [Act.put, List.getElem_toArray, List.getElem_cons_zero, List.getElem_cons_succ, List.setIfInBounds_toArray, List.set_cons_zero, List.set_cons_succ])
        (refine Lex.wpZ_take (i := 14) (v := ?_) rfl (by kernel_rfl) (by kernel_rfl) (by kernel_rfl) (by kernel_rfl) (fun _ _ _ h => h) HT7.out (Or.inl ⟨by rfl, ?_⟩) ?_; rotate_left 1; (focus (intro w0 hw0; (try dsimp only at hw0); obtain ⟨s0, s1, s2⟩ := hw0; go_simp; try with_reducible rfl)); simp only [Act.put, List.getElem_toArray, List.getElem_cons_zero, List.getElem_cons_succ, List.setIfInBounds_toArray, List.set_cons_zero, List.set_cons_succ])
        refine Lex.wpZ_ready (rs := [15]) (by kernel_rfl) (by simp) ?_
        refine Lex.ReadyZ.cons rfl (fun K hK => ?_) Lex.ReadyZ.nil
        go_simp
        refine hK.out _ _ (.inl rfl) ?_
        clear hK K
        try simp only [Act.put, List.getElem_toArray, List.getElem_cons_zero, List.getElem_cons_succ, List.setIfInBounds_toArray, List.set_cons_zero, List.set_cons_succ]
        refine Lex.wpZ_done (by kernel_rfl) ?_ _
        obtain ⟨t, ht⟩ : ∃ t, t = (DescV.mk dk dn dl).rightD := ⟨_, rfl⟩
        have HT := Lib.hid ht
        rw [← ht]
        clear ht
        cases t with
        | false =>
          have HF : Hid (l.all DescV.rightD = false) := Lib.hid (by
            cases h : l.all DescV.rightD with
            | false => rfl
            | true =>
              have := List.all_eq_true.1 h _ HGET.out
              rw [← HT.out] at this
              cases this)
          go_wp2_with fail
          go_ret2
          exact ⟨_, _, _, by rw [HR.out, HF.out]; rfl, HBW.out.trans (HB7.out.mono HBW.out.size)⟩
        | true =>
          go_wp2_with fail
          go_roundg (n - (i + 1))
          case measure => omega
          case rel => exact ⟨i + 1, by omega, rfl, by go_num, by rw [HTK.out, List.all_append, HALL.out]; simp [← HT.out], HB7.out⟩
      · obtain rfl : i = n := by omega
        have hlti : ¬ (i : Int) < (i : Int) := by omega
        have HA2 : Hid (l.all DescV.rightD = true) := Lib.hid (by have h := HALL.out; rw [List.take_of_length_le (by rw [HLN.out]; omega)] at h; exact h)
        go_wp2_with fail
        go_ret2
        exact ⟨_, _, _, by rw [HR.out, HA2.out]; rfl, HBW.out.trans (HBo.out.mono HBW.out.size)⟩
theorem wrong_any : ∀ (k : Nat) (F : Foot) (kd nd : Int) (l : List DescV) (a : Option Addr) (n cap : Nat) (po : Option Addr) (pn pc : Nat) (w : World), RowOf (descRd k) 3 40 F w a n cap l → IsPath w po pn pc → pn + k ≤ 1048576 →
    Calls Tryz.prog 90 #[.agg #[.int .i64 kd, .int .i64 nd, .slice a n cap], .slice po pn pc] w (WrongPost (DescV.mk kd nd l).rightD w)
  | 0 => wrong_step 0 fun j h => by omega
  | k + 1 => wrong_step (k + 1) fun j h => by
    obtain rfl : k = j := by omega
    exact wrong_any k
set_option maxRecDepth 100000 in
set_option maxHeartbeats 1000000 in
theorem wrongW_any (k : Nat) (F : Foot) (kd nd : Int) (l : List DescV) (a : Option Addr) (n cap : Nat) (w : World) (hl : RowOf (descRd k) 3 40 F w a n cap l) (hk : k ≤ 1048576) :
    Calls Tryz.prog 70 #[.agg #[.int .i64 kd, .int .i64 nd, .slice a n cap]] w (WrongPost (DescV.mk kd nd l).rightD w) := by
  have hb : Below w.heap.size w (w.alloc (.cells #[.int .i64 kd, .int .i64 nd, .slice a n cap] 25)) := (Below.refl _ _).alloc (Nat.le_refl _) _
  have HB := Lib.hid hb
  have HC := Lib.hid (wrong_any k F kd nd l a n cap none 0 0 _ (hl.keep (descRd_ok _) (Fix.of_below hb)) ⟨[], World.ownsRow_nil _ _ _ _⟩ (by omega))
  clear hl hb
  go_enter Tryz.func70, Tryz.ntmps70
  go_wp2_with (go_at_call 90; (with_reducible refine HC.out.mono ?_); rintro e w2 ⟨ao, m, c, rfl, hb2⟩; have HB2 := Lib.hid (HB.out.trans (hb2.mono HB.out.size)); clear hb2)
  go_ret2
  exact ⟨_, _, _, rfl, HB2.out⟩
end Go.Proofs.YtibabpahpiijgaaGreatDoor
