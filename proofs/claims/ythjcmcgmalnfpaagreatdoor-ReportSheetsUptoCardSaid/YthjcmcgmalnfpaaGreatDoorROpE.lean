/- A call and what belongs to it, as a text: the reference's Op. -/
import Derived.Test.YthjcmcgmalnfpaaGreatDoorOpE
import Derived.Test.YthjcmcgmalnfpaaGreatDoorPairH
import Derived.OrdersHeld
namespace Go.Proofs.YthjcmcgmalnfpaaGreatDoor.Lex
open Go.RowKit
set_option linter.unusedSimpArgs false
set_option linter.unusedVariables false
theorem sizeA {a b : ByteArray} {m n : Nat} (ha : a.size ≤ m) (hb : b.size ≤ n) : (a ++ b).size ≤ m + n := by rw [ByteArray.size_append]; omega
theorem itoa_in {n : Int} (h : InI n) : (bs (Lib.itoa n)).size ≤ 20 := by rw [size_bs]; exact itoa_len h
set_option maxRecDepth 100000 in
set_option maxHeartbeats 8000000 in
theorem ropE_any (k : Nat) (F : Foot) (o : OpD) (xa da ya : Option Addr) (xc dm dc yc : Nat) (w : World) (hi : OpIn k F w o xa xc da dm dc ya yc) :
    Calls Tryz.prog 19 #[.agg #[.int .i64 o.who, .int .i64 o.at_, .int .i64 o.ki, .int .i64 o.kn, .int .i64 o.kd, .string o.tx, .int .i64 o.ow, .int .i64 o.oa, .slice xa o.xs.length xc, .int .i64 o.e, .int .i64 o.dk, .int .i64 o.dn, .slice da dm dc, .int .i64 o.n, .int .i64 o.li, .string o.tt, .slice ya o.ys.length yc, .int .i64 o.fr, .int .i64 o.tz]] w fun e w' => e = .returned (.string (bs (opL o))) ∧ Below w.heap.size w w' := by
  obtain ⟨hb0, hcc⟩ := op_box w o xa da ya xc dm dc yc
  obtain ⟨W0, hW0⟩ : ∃ W0, W0 = w.alloc (.cells #[.int .i64 o.who, .int .i64 o.at_, .int .i64 o.ki, .int .i64 o.kn, .int .i64 o.kd, .string o.tx, .int .i64 o.ow, .int .i64 o.oa, .slice xa o.xs.length xc, .int .i64 o.e, .int .i64 o.dk, .int .i64 o.dn, .slice da dm dc, .int .i64 o.n, .int .i64 o.li, .string o.tt, .slice ya o.ys.length yc, .int .i64 o.fr, .int .i64 o.tz] 58) := ⟨_, rfl⟩
  rw [← hW0] at hb0 hcc
  have HB0 := Lib.hid hb0
  have HN : Hid (∀ W, Below W0.heap.size W0 W → W.cell? ⟨w.heap.size, 18, none⟩ = some (.int .i64 o.tz) ∧ W.cell? ⟨w.heap.size, 2, none⟩ = some (.int .i64 o.ki) ∧ W.cell? ⟨w.heap.size, 3, none⟩ = some (.int .i64 o.kn) ∧ W.cell? ⟨w.heap.size, 4, none⟩ = some (.int .i64 o.kd) ∧ W.cell? ⟨w.heap.size, 5, none⟩ = some (.string o.tx) ∧ W.cell? ⟨w.heap.size, 6, none⟩ = some (.int .i64 o.ow) ∧ W.cell? ⟨w.heap.size, 7, none⟩ = some (.int .i64 o.oa) ∧ W.cell? ⟨w.heap.size, 8, none⟩ = some (.slice xa o.xs.length xc) ∧ W.cell? ⟨w.heap.size, 9, none⟩ = some (.int .i64 o.e) ∧ W.cell? ⟨w.heap.size, 10, none⟩ = some (.int .i64 o.dk) ∧ W.cell? ⟨w.heap.size, 11, none⟩ = some (.int .i64 o.dn) ∧ W.cell? ⟨w.heap.size, 12, none⟩ = some (.slice da dm dc) ∧ W.cell? ⟨w.heap.size, 13, none⟩ = some (.int .i64 o.n) ∧ W.cell? ⟨w.heap.size, 14, none⟩ = some (.int .i64 o.li) ∧ W.cell? ⟨w.heap.size, 15, none⟩ = some (.string o.tt) ∧ W.cell? ⟨w.heap.size, 16, none⟩ = some (.slice ya o.ys.length yc)) := Lib.hid fun W hb => by
    obtain ⟨⟨a1, a2, a3, a4, a5, a6, a7, a8, a9, a10⟩, ⟨b1, b2, b3, b4, b5, b6, b7, b8⟩, c1⟩ := hcc W hb
    exact ⟨c1, a4, a5, a6, a7, a8, a9, a10, b1, b2, b3, b4, b5, b6, b7, b8⟩
  have HCC := Lib.hid hcc
  have HTO : Hid (∀ W, Below W0.heap.size W0 W → Calls Tryz.prog 32 #[.int .i64 o.ki, .agg #[.int .i64 o.e, .int .i64 o.dk, .int .i64 o.dn, .slice da dm dc, .int .i64 o.n, .int .i64 o.li, .string o.tt, .slice ya o.ys.length yc]] W fun e w' => e = .returned (.string (bs (o.told o.ki))) ∧ Below W.heap.size W w') := Lib.hid fun W hb => by
    have h := (hi.keep hb0).keep hb
    exact rtold_any o.ki o.e o.dk o.dn o.n o.li o.dl da dm dc o.tt o.ys ya yc k F W h.row h.nd h.n h.li h.tt h.ys (by have := h.yl; omega)
  have HCA : Hid (∀ W, Below W0.heap.size W0 W → Calls Tryz.prog 31 #[.agg #[.int .i64 o.ki, .int .i64 o.kn, .int .i64 o.kd, .string o.tx, .int .i64 o.ow, .int .i64 o.oa, .slice xa o.xs.length xc]] W fun e w' => e = .returned (.string (bs (callL o.call))) ∧ Below W.heap.size W w') := Lib.hid fun W hb => by
    have h := (hi.keep hb0).keep hb
    exact rcallE_any o.call xa xc W h.call h.xs
  have HIW : Hid (∀ W, Calls Tryz.prog 8 #[.int .i64 o.who] W fun e w' => e = .returned (.string (bs (Lib.itoa o.who))) ∧ W = w') := Lib.hid fun W => rint_any _ W hi.who.1 hi.who.2
  have HIA : Hid (∀ W, Calls Tryz.prog 8 #[.int .i64 o.at_] W fun e w' => e = .returned (.string (bs (Lib.itoa o.at_))) ∧ W = w') := Lib.hid fun W => rint_any _ W hi.at_.1 hi.at_.2
  have HIF : Hid (∀ W, Calls Tryz.prog 8 #[.int .i64 o.fr] W fun e w' => e = .returned (.string (bs (Lib.itoa o.fr))) ∧ W = w') := Lib.hid fun W => rint_any _ W hi.fr.1 hi.fr.2
  have HIZ : Hid (∀ W, Calls Tryz.prog 8 #[.int .i64 o.tz] W fun e w' => e = .returned (.string (bs (Lib.itoa o.tz))) ∧ W = w') := Lib.hid fun W => rint_any _ W hi.tz.1 hi.tz.2
  have htl : (bs (o.told o.ki)).size ≤ 20971600 := by rw [size_bs]; exact toldL_len (by rw [DescV.nodes]; have := hi.nd; omega) hi.n hi.li ⟨by omega, by have := hi.tt; omega⟩ (by have := hi.yl; omega)
  have hcl : (bs (callL o.call)).size ≤ 103103 := by rw [size_bs]; exact callL_len hi.call
  have hsa := itoa_in hi.who
  have hsb := itoa_in hi.at_
  have hsf := itoa_in hi.fr
  have hsz := itoa_in hi.tz
  have hbz := Below.refl W0.heap.size W0
  obtain ⟨R, hR⟩ : ∃ R, R = opL o := ⟨_, rfl⟩
  rw [← hR]
  obtain ⟨sa, ea⟩ : ∃ sa, bs (Lib.itoa o.who) = sa := ⟨_, rfl⟩
  obtain ⟨sb, eb⟩ : ∃ sb, bs (Lib.itoa o.at_) = sb := ⟨_, rfl⟩
  obtain ⟨sf, ef⟩ : ∃ sf, bs (Lib.itoa o.fr) = sf := ⟨_, rfl⟩
  obtain ⟨sz, ez⟩ : ∃ sz, bs (Lib.itoa o.tz) = sz := ⟨_, rfl⟩
  obtain ⟨sc, ec⟩ : ∃ sc, bs (callL o.call) = sc := ⟨_, rfl⟩
  obtain ⟨st, et⟩ : ∃ st, bs (o.told o.ki) = st := ⟨_, rfl⟩
  rw [ea] at HIW hsa
  rw [eb] at HIA hsb
  rw [ef] at HIF hsf
  rw [ez] at HIZ hsz
  rw [ec] at HCA hcl
  rw [et] at HTO htl
  have z1 : (sa ++ ⟨#[46]⟩).size ≤ 21 := sizeA (n := 1) hsa (Nat.le_refl 1)
  have z2 := sizeA z1 hsb
  have z3 : (sa ++ ⟨#[46]⟩ ++ sb ++ ⟨#[32]⟩).size ≤ 42 := sizeA (n := 1) z2 (Nat.le_refl 1)
  have z4 := sizeA z3 hsf
  have z5 : (sa ++ ⟨#[46]⟩ ++ sb ++ ⟨#[32]⟩ ++ sf ++ ⟨#[45]⟩).size ≤ 63 := sizeA (n := 1) z4 (Nat.le_refl 1)
  obtain ⟨sp, ep⟩ : ∃ sp, sa ++ ⟨#[46]⟩ ++ sb ++ ⟨#[32]⟩ ++ sf ++ ⟨#[45]⟩ = sp := ⟨_, rfl⟩
  rw [ep] at z5
  have EP := Lib.hid ep
  have hpe : sp = bs (Lib.itoa o.who ++ [46] ++ Lib.itoa o.at_ ++ [32] ++ Lib.itoa o.fr ++ [45]) := by
    rw [← ep, ← ea, ← eb, ← ef, show (⟨#[46]⟩ : ByteArray) = bs [46] from rfl, show (⟨#[32]⟩ : ByteArray) = bs [32] from rfl, show (⟨#[45]⟩ : ByteArray) = bs [45] from rfl, bs_bs, bs_bs, bs_bs, bs_bs, bs_bs]
  obtain ⟨⟨t0, t1, t17, -⟩, -, t18⟩ := hcc W0 hbz
  by_cases htz : o.tz = -1
  · have htb : (o.tz == -1) = true := by rw [htz]; rfl
    have y1 : (sp ++ ⟨#[46, 46, 32]⟩).size ≤ 66 := sizeA (n := 3) z5 (Nat.le_refl 3)
    have y2 := sizeA y1 hcl
    have HE : Hid (sp ++ ⟨#[46, 46, 32]⟩ ++ sc ++ ⟨#[58, 32, 46, 46, 46]⟩ = bs R) := Lib.hid (by
      rw [hpe, ← ec, show (⟨#[46, 46, 32]⟩ : ByteArray) = bs [46, 46, 32] from rfl, show (⟨#[58, 32, 46, 46, 46]⟩ : ByteArray) = bs [58, 32, 46, 46, 46] from rfl, bs_bs, bs_bs, bs_bs, hR, opL, if_pos htz, if_pos htz]
      simp)
    clear hR hb0 hcc hi htz ea eb ef ez ec et ep hpe
    go_enter Tryz.func19, Tryz.ntmps19
    go_upto_region 1 with fail
    rw [← hW0]
    clear hW0
    go_quiet ((first
      | (go_at_call 8; with_reducible exact qsame (HIW.out _))
      | (go_at_call 8; with_reducible exact qsame (HIA.out _))
      | (go_at_call 8; with_reducible exact qsame (HIF.out _))))
    rw [EP.out]
    have hbq : ∀ n, Below W0.heap.size W0 (W0.drewN n) := fun n => below_drewN hbz n
    have HBQ := Lib.hid hbq
    clear hbq hbz
    obtain ⟨⟨-, -, -, c2, c3, c4, c5, c6, c7, c8⟩, -, -⟩ := HCC.out (W0.drewN nq) (HBQ.out nq)
    go_wp2_with (go_at_call 31; (with_reducible refine (HCA.out _ (HBQ.out _)).mono ?_); rintro e w2 ⟨rfl, hb2⟩; have HB2 := Lib.hid (HB0.out.trans (((HBQ.out _).trans (hb2.mono (HBQ.out _).size)).mono HB0.out.size)); clear hb2)
    rw [HE.out]
    go_ret
    exact ⟨rfl, HB2.out⟩
  · have htb : (o.tz == -1) = false := by simpa using htz
    have y1 := sizeA z5 hsz
    have y2 : (sp ++ sz ++ ⟨#[32]⟩).size ≤ 84 := sizeA (n := 1) y1 (Nat.le_refl 1)
    have y3 := sizeA y2 hcl
    have y4 : (sp ++ sz ++ ⟨#[32]⟩ ++ sc ++ ⟨#[58, 32]⟩).size ≤ 103189 := sizeA (n := 2) y3 (Nat.le_refl 2)
    have y5 := sizeA y4 htl
    have HE : Hid (sp ++ sz ++ ⟨#[32]⟩ ++ sc ++ ⟨#[58, 32]⟩ ++ st = bs R) := Lib.hid (by
      rw [hpe, ← ec, ← ez, ← et, show (⟨#[32]⟩ : ByteArray) = bs [32] from rfl, show (⟨#[58, 32]⟩ : ByteArray) = bs [58, 32] from rfl, bs_bs, bs_bs, bs_bs, bs_bs, bs_bs, hR, opL, if_neg htz, if_neg htz])
    clear hR hb0 hcc hi htz ea eb ef ez ec et ep hpe
    go_enter Tryz.func19, Tryz.ntmps19
    go_upto_region 1 with fail
    rw [← hW0]
    clear hW0
    go_quiet ((first
      | (go_at_call 8; with_reducible exact qsame (HIW.out _))
      | (go_at_call 8; with_reducible exact qsame (HIA.out _))
      | (go_at_call 8; with_reducible exact qsame (HIF.out _))))
    rw [EP.out]
    go_wp2_with fail
    obtain ⟨W1, hW1⟩ : ∃ W1, W1 = W0.drewN nq := ⟨_, rfl⟩
    have hb1z : Below W0.heap.size W0 W1 := by rw [hW1]; exact below_drewN hbz nq
    rw [← hW1]
    clear hW1 t0 t1 t17 t18
    have HIY : Hid (∀ W, Below W0.heap.size W0 W → Calls Tryz.prog 8 #[.int .i64 o.tz] W fun e w' => e = .returned (.string sz) ∧ Below W0.heap.size W0 w') := Lib.hid fun W hb => (HIZ.out W).mono fun e w' h => ⟨h.1, h.2 ▸ hb⟩
    have HCY : Hid (∀ W, Below W0.heap.size W0 W → Calls Tryz.prog 31 #[.agg #[.int .i64 o.ki, .int .i64 o.kn, .int .i64 o.kd, .string o.tx, .int .i64 o.ow, .int .i64 o.oa, .slice xa o.xs.length xc]] W fun e w' => e = .returned (.string sc) ∧ Below W0.heap.size W0 w') := Lib.hid fun W hb => (HCA.out W hb).mono fun e w' h => ⟨h.1, hb.trans (h.2.mono hb.size)⟩
    have HTY : Hid (∀ W, Below W0.heap.size W0 W → Calls Tryz.prog 32 #[.int .i64 o.ki, .agg #[.int .i64 o.e, .int .i64 o.dk, .int .i64 o.dn, .slice da dm dc, .int .i64 o.n, .int .i64 o.li, .string o.tt, .slice ya o.ys.length yc]] W fun e w' => e = .returned (.string st) ∧ Below W0.heap.size W0 w') := Lib.hid fun W hb => (HTO.out W hb).mono fun e w' h => ⟨h.1, hb.trans (h.2.mono hb.size)⟩
    have HS := Lib.hid hb1z.drew
    refine wp_region_held (S := fun W => Below W0.heap.size W0 W) (by kernel_rfl) ?_
    change wpAnyH _ _ _ _ _ 19 #[false, false, false, false, false, false, false, false, false, false, false, false, false, false, false, false, false, false, false] _ W1.drew
    (refine wpAnyH_take (i := 0) (v := ?_) rfl (by kernel_rfl) (by kernel_rfl) (by kernel_rfl) (fun _ _ _ h => h) (Or.inl ⟨by rfl, ?_⟩) HS.out ?_; rotate_left 1; (focus (intro w0 hw0; clear hw0; go_simp; try with_reducible rfl)); simp only [Act.put, List.getElem_toArray, List.getElem_cons_zero, List.getElem_cons_succ, List.setIfInBounds_toArray, List.set_cons_zero, List.set_cons_succ])
    (refine wpAnyH_take (i := 1) (v := ?_) rfl (by kernel_rfl) (by kernel_rfl) (by kernel_rfl) (fun _ _ _ h => h) (Or.inl ⟨by rfl, ?_⟩) HS.out ?_; rotate_left 1; (focus (intro w0 hw0; clear hw0; go_simp; try with_reducible rfl)); simp only [Act.put, List.getElem_toArray, List.getElem_cons_zero, List.getElem_cons_succ, List.setIfInBounds_toArray, List.set_cons_zero, List.set_cons_succ])
    (refine wpAnyH_take (i := 2) (v := ?_) rfl (by kernel_rfl) (by kernel_rfl) (by kernel_rfl) (fun _ _ _ h => h) (Or.inl ⟨by rfl, ?_⟩) HS.out ?_; rotate_left 1; (focus (intro w0 hw0; obtain ⟨q1, q2, q3, q4, q5, q6, q7, q8, q9, qa, qb, qc, qd, qe, qf, qg⟩ := HN.out w0 hw0; clear hw0; go_simp; try with_reducible rfl)); simp only [Act.put, List.getElem_toArray, List.getElem_cons_zero, List.getElem_cons_succ, List.setIfInBounds_toArray, List.set_cons_zero, List.set_cons_succ])
    (refine wpAnyH_take (i := 6) (v := ?_) rfl (by kernel_rfl) (by kernel_rfl) (by kernel_rfl) (fun _ _ _ h => h) (Or.inl ⟨by rfl, ?_⟩) HS.out ?_; rotate_left 1; (focus (intro w0 hw0; clear hw0; go_simp; try with_reducible rfl)); simp only [Act.put, List.getElem_toArray, List.getElem_cons_zero, List.getElem_cons_succ, List.setIfInBounds_toArray, List.set_cons_zero, List.set_cons_succ])
    (refine wpAnyH_take (i := 7) (v := ?_) rfl (by kernel_rfl) (by kernel_rfl) (by kernel_rfl) (fun _ _ _ h => h) (Or.inl ⟨by rfl, ?_⟩) HS.out ?_; rotate_left 1; (focus (intro w0 hw0; obtain ⟨q1, q2, q3, q4, q5, q6, q7, q8, q9, qa, qb, qc, qd, qe, qf, qg⟩ := HN.out w0 hw0; clear hw0; go_simp; try with_reducible rfl)); simp only [Act.put, List.getElem_toArray, List.getElem_cons_zero, List.getElem_cons_succ, List.setIfInBounds_toArray, List.set_cons_zero, List.set_cons_succ])
    (refine wpAnyH_take (i := 11) (v := ?_) rfl (by kernel_rfl) (by kernel_rfl) (by kernel_rfl) (fun _ _ _ h => h) (Or.inl ⟨by rfl, ?_⟩) HS.out ?_; rotate_left 1; (focus (intro w0 hw0; clear hw0; go_simp; try with_reducible rfl)); simp only [Act.put, List.getElem_toArray, List.getElem_cons_zero, List.getElem_cons_succ, List.setIfInBounds_toArray, List.set_cons_zero, List.set_cons_succ])
    (refine wpAnyH_take (i := 12) (v := ?_) rfl (by kernel_rfl) (by kernel_rfl) (by kernel_rfl) (fun _ _ _ h => h) (Or.inl ⟨by rfl, ?_⟩) HS.out ?_; rotate_left 1; (focus (intro w0 hw0; clear hw0; go_simp; try with_reducible rfl)); simp only [Act.put, List.getElem_toArray, List.getElem_cons_zero, List.getElem_cons_succ, List.setIfInBounds_toArray, List.set_cons_zero, List.set_cons_succ])
    (refine wpAnyH_take (i := 13) (v := ?_) rfl (by kernel_rfl) (by kernel_rfl) (by kernel_rfl) (fun _ _ _ h => h) (Or.inl ⟨by rfl, ?_⟩) HS.out ?_; rotate_left 1; (focus (intro w0 hw0; obtain ⟨q1, q2, q3, q4, q5, q6, q7, q8, q9, qa, qb, qc, qd, qe, qf, qg⟩ := HN.out w0 hw0; clear hw0; go_simp; try with_reducible rfl)); simp only [Act.put, List.getElem_toArray, List.getElem_cons_zero, List.getElem_cons_succ, List.setIfInBounds_toArray, List.set_cons_zero, List.set_cons_succ])
    (refine wpAnyH_take (i := 14) (v := ?_) rfl (by kernel_rfl) (by kernel_rfl) (by kernel_rfl) (fun _ _ _ h => h) (Or.inl ⟨by rfl, ?_⟩) HS.out ?_; rotate_left 1; (focus (intro w0 hw0; clear hw0; go_simp; try with_reducible rfl)); simp only [Act.put, List.getElem_toArray, List.getElem_cons_zero, List.getElem_cons_succ, List.setIfInBounds_toArray, List.set_cons_zero, List.set_cons_succ])
    (refine wpAnyH_take (i := 15) (v := ?_) rfl (by kernel_rfl) (by kernel_rfl) (by kernel_rfl) (fun _ _ _ h => h) (Or.inl ⟨by rfl, ?_⟩) HS.out ?_; rotate_left 1; (focus (intro w0 hw0; obtain ⟨q1, q2, q3, q4, q5, q6, q7, q8, q9, qa, qb, qc, qd, qe, qf, qg⟩ := HN.out w0 hw0; clear hw0; go_simp; try with_reducible rfl)); simp only [Act.put, List.getElem_toArray, List.getElem_cons_zero, List.getElem_cons_succ, List.setIfInBounds_toArray, List.set_cons_zero, List.set_cons_succ])
    (refine wpAnyH_one (i := 3) (vi := .string sz) rfl (by kernel_rfl) HS.out ?_ ?_; (focus (intro W K hW hK; (try simp only [Act.put, List.getElem_toArray, List.getElem_cons_zero, List.getElem_cons_succ, List.setIfInBounds_toArray, List.set_cons_zero, List.set_cons_succ]); refine wpOp_step rfl (fun K2 hK2 => ?_); go_simp; refine (HIY.out _ hW).mono ?_; rintro e w' ⟨rfl, hb⟩; exact hK2 _ _ (hK _ hb))); clear HS; intro wn hS; have HS := Lib.hid hS; clear hS; simp only [Act.put, List.getElem_toArray, List.getElem_cons_zero, List.getElem_cons_succ, List.setIfInBounds_toArray, List.set_cons_zero, List.set_cons_succ])
    (refine wpAnyH_take (i := 4) (v := _) rfl (by kernel_rfl) (by kernel_rfl) (by kernel_rfl) (fun _ _ _ h => h) (yieldsIf_cat (by rfl) _ _ _ _ rfl _ _ rfl rfl (Nat.le_trans y1 (by decide))) HS.out ?_; simp only [Act.put, List.getElem_toArray, List.getElem_cons_zero, List.getElem_cons_succ, List.setIfInBounds_toArray, List.set_cons_zero, List.set_cons_succ])
    (refine wpAnyH_take (i := 5) (v := _) rfl (by kernel_rfl) (by kernel_rfl) (by kernel_rfl) (fun _ _ _ h => h) (yieldsIf_cat (by rfl) _ _ _ _ rfl _ _ rfl rfl (Nat.le_trans y2 (by decide))) HS.out ?_; simp only [Act.put, List.getElem_toArray, List.getElem_cons_zero, List.getElem_cons_succ, List.setIfInBounds_toArray, List.set_cons_zero, List.set_cons_succ])
    (refine wpAnyH_one (i := 8) (vi := .string sc) rfl (by kernel_rfl) HS.out ?_ ?_; (focus (intro W K hW hK; (try simp only [Act.put, List.getElem_toArray, List.getElem_cons_zero, List.getElem_cons_succ, List.setIfInBounds_toArray, List.set_cons_zero, List.set_cons_succ]); refine wpOp_step rfl (fun K2 hK2 => ?_); go_simp; refine (HCY.out _ hW).mono ?_; rintro e w' ⟨rfl, hb⟩; exact hK2 _ _ (hK _ hb))); clear HS; intro wn hS; have HS := Lib.hid hS; clear hS; simp only [Act.put, List.getElem_toArray, List.getElem_cons_zero, List.getElem_cons_succ, List.setIfInBounds_toArray, List.set_cons_zero, List.set_cons_succ])
    (refine wpAnyH_take (i := 9) (v := _) rfl (by kernel_rfl) (by kernel_rfl) (by kernel_rfl) (fun _ _ _ h => h) (yieldsIf_cat (by rfl) _ _ _ _ rfl _ _ rfl rfl (Nat.le_trans y3 (by decide))) HS.out ?_; simp only [Act.put, List.getElem_toArray, List.getElem_cons_zero, List.getElem_cons_succ, List.setIfInBounds_toArray, List.set_cons_zero, List.set_cons_succ])
    (refine wpAnyH_take (i := 10) (v := _) rfl (by kernel_rfl) (by kernel_rfl) (by kernel_rfl) (fun _ _ _ h => h) (yieldsIf_cat (by rfl) _ _ _ _ rfl _ _ rfl rfl (Nat.le_trans y4 (by decide))) HS.out ?_; simp only [Act.put, List.getElem_toArray, List.getElem_cons_zero, List.getElem_cons_succ, List.setIfInBounds_toArray, List.set_cons_zero, List.set_cons_succ])
    (refine wpAnyH_one (i := 16) (vi := .string st) rfl (by kernel_rfl) HS.out ?_ ?_; (focus (intro W K hW hK; (try simp only [Act.put, List.getElem_toArray, List.getElem_cons_zero, List.getElem_cons_succ, List.setIfInBounds_toArray, List.set_cons_zero, List.set_cons_succ]); refine wpOp_step rfl (fun K2 hK2 => ?_); go_simp; refine (HTY.out _ hW).mono ?_; rintro e w' ⟨rfl, hb⟩; exact hK2 _ _ (hK _ hb))); clear HS; intro wn hS; have HS := Lib.hid hS; clear hS; simp only [Act.put, List.getElem_toArray, List.getElem_cons_zero, List.getElem_cons_succ, List.setIfInBounds_toArray, List.set_cons_zero, List.set_cons_succ])
    (refine wpAnyH_take (i := 17) (v := _) rfl (by kernel_rfl) (by kernel_rfl) (by kernel_rfl) (fun _ _ _ h => h) (yieldsIf_cat (by rfl) _ _ _ _ rfl _ _ rfl rfl (Nat.le_trans y5 (by decide))) HS.out ?_; simp only [Act.put, List.getElem_toArray, List.getElem_cons_zero, List.getElem_cons_succ, List.setIfInBounds_toArray, List.set_cons_zero, List.set_cons_succ])
    (refine wpAnyH_take (i := 18) (v := ?_) rfl (by kernel_rfl) (by kernel_rfl) (by kernel_rfl) (fun _ _ _ h => h) (Or.inl ⟨by rfl, ?_⟩) HS.out ?_; rotate_left 1; (focus (intro w0 hw0; clear hw0; go_simp; try with_reducible rfl)); simp only [Act.put, List.getElem_toArray, List.getElem_cons_zero, List.getElem_cons_succ, List.setIfInBounds_toArray, List.set_cons_zero, List.set_cons_succ])
    refine wpAnyH_done (by kernel_rfl) ?_ _
    rw [HE.out]
    go_wp2_with fail
    go_ret
    exact ⟨rfl, HB0.out.trans (HS.out.mono HB0.out.size)⟩
end Go.Proofs.YthjcmcgmalnfpaaGreatDoor.Lex
