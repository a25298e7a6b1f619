/- What a call told, as a text: the reference's. -/
import Derived.Test.YthjcmcgmalnfpaaGreatDoorTold
import Derived.Test.YthjcmcgmalnfpaaGreatDoorRWord
import Derived.Laws.OwnMore
namespace Go.Proofs.YthjcmcgmalnfpaaGreatDoor.Lex
open Go.RowKit
set_option linter.unusedSimpArgs false
set_option linter.unusedVariables false
theorem cat2 {x y r : List UInt8} {sx sy : ByteArray} (hx : bs x = sx) (hy : bs y = sy) (h : r = x ++ [32] ++ y) : sx ++ ⟨#[32]⟩ ++ sy = bs r := by
  subst hx hy h
  rw [show (⟨#[32]⟩ : ByteArray) = bs [32] from rfl, bs_bs, bs_bs]
theorem size1 {sx : ByteArray} {n : Nat} (h : sx.size ≤ n) : (sx ++ ⟨#[32]⟩).size ≤ n + 1 := by
  rw [ByteArray.size_append]
  have : (⟨#[32]⟩ : ByteArray).size = 1 := rfl
  omega
theorem made_zero (n : Nat) : madeCells #[.int .u64 0] (n * 1) = Array.replicate n (.int .u64 0) := by
  apply Array.ext
  · simp [madeCells]
  · intro i h1 h2
    simp [madeCells, Nat.mod_one]
theorem mk_u64s (n : Nat) (hn : n ≤ 1048576) (w : World) : (Instr.makeSlice 48 (.int .i64 (n : Int)) (.int .i64 (n : Int))).run Tryz.prog w = .ok (.slice (some ⟨w.heap.size, 0, none⟩) n n) (w.alloc (.cells (Array.replicate n (.int .u64 0)) 77)) := by
  obtain ⟨i, hi, hz0, hz1, hz2⟩ := info_parts (show (Tryz.prog.info? 77).map (fun i => (i.zero, i.size, i.bytes)) = some (some (.int .u64 0), 1, 8) by kernel_rfl)
  have hr := run_make (P := Tryz.prog) w 48 77 i (.int .u64 0) Tryz.underlying48 hi hz0 .i64 .i64 n n (by omega) (Int.le_refl _) (by rw [hz2]; omega) (by omega)
  simp only [Int.toNat_natCast, hz1] at hr
  rw [show (Value.int .u64 0).cells = #[.int .u64 0] from rfl, made_zero] at hr
  exact hr
set_option maxRecDepth 100000 in
set_option maxHeartbeats 4000000 in
theorem rtold_any (kind e dk dn n li : Int) (dl : List DescV) (da : Option Addr) (dm dc : Nat) (tt : ByteArray) (ys : List Nat) (ya : Option Addr) (yc : Nat) (k : Nat) (F : Foot) (w : World)
    (hd : RowOf (descRd k) 3 40 F w da dm dc dl) (hnd : DescV.nodesL dl < 1048576) (hn : InI n) (hli : InI li) (htt : tt.size ≤ 9223372036854775807) (hu : U64s w ya ys) (hyl : ys.length ≤ 1048576) :
    Calls Tryz.prog 32 #[.int .i64 kind, .agg #[.int .i64 e, .int .i64 dk, .int .i64 dn, .slice da dm dc, .int .i64 n, .int .i64 li, .string tt, .slice ya ys.length yc]] w
      fun e' w' => e' = .returned (.string (bs (toldL kind e (.mk dk dn dl) n li tt.size ys))) ∧ Below w.heap.size w w' := by
  obtain ⟨W0, hW0⟩ : ∃ W0, W0 = w.alloc (.cells #[.int .i64 e, .int .i64 dk, .int .i64 dn, .slice da dm dc, .int .i64 n, .int .i64 li, .string tt, .slice ya ys.length yc] 56) := ⟨_, rfl⟩
  have hb0 : Below w.heap.size w W0 := by rw [hW0]; exact (Below.refl _ _).alloc (Nat.le_refl _) _
  have g0 : W0.heap[w.heap.size]? = some (.cells #[.int .i64 e, .int .i64 dk, .int .i64 dn, .slice da dm dc, .int .i64 n, .int .i64 li, .string tt, .slice ya ys.length yc] 56 (0, 0)) := by rw [hW0]; exact heap_alloc_new w _
  have hz0 : w.heap.size < W0.heap.size := (Array.getElem?_eq_some_iff.1 g0).1
  have HB0 := Lib.hid hb0
  have HC : Hid (∀ W, Below W0.heap.size W0 W → W.cell? ⟨w.heap.size, 0, none⟩ = some (.int .i64 e) ∧ W.cell? ⟨w.heap.size, 1, none⟩ = some (.int .i64 dk) ∧ W.cell? ⟨w.heap.size, 2, none⟩ = some (.int .i64 dn) ∧ W.cell? ⟨w.heap.size, 3, none⟩ = some (.slice da dm dc) ∧ W.cell? ⟨w.heap.size, 4, none⟩ = some (.int .i64 n) ∧ W.cell? ⟨w.heap.size, 5, none⟩ = some (.int .i64 li) ∧ W.cell? ⟨w.heap.size, 6, none⟩ = some (.string tt) ∧ W.cell? ⟨w.heap.size, 7, none⟩ = some (.slice ya ys.length yc)) := Lib.hid fun W hb => by
    have g := (hb.block _ hz0).trans g0
    exact ⟨cell_at g rfl, cell_at g rfl, cell_at g rfl, cell_at g rfl, cell_at g rfl, cell_at g rfl, cell_at g rfl, cell_at g rfl⟩
  have hbz := Below.refl W0.heap.size W0
  obtain ⟨t0, t1, t2, t3, t4, t5, t6, t7⟩ := HC.out W0 hbz
  have HBZ := Lib.hid hbz
  have HW := Lib.hid (rword_any' e W0)
  have hel := errW_len e
  obtain ⟨sx, hsx⟩ : ∃ sx, bs (errW e) = sx := ⟨_, rfl⟩
  have hxs : sx.size ≤ 8 := by rw [← hsx, size_bs]; exact hel
  have hx1 := size1 hxs
  have HSX := Lib.hid hsx
  rw [hsx] at HW
  obtain ⟨R, hR⟩ : ∃ R, R = toldL kind e (.mk dk dn dl) n li tt.size ys := ⟨_, rfl⟩
  rw [← hR]
  clear hsx hbz
  by_cases he : e = 0
  · subst he
    by_cases h12 : kind = 1 ∨ kind = 2
    · have hR2 : R = errW 0 ++ [32] ++ descT (.mk dk dn dl) := by rw [hR, toldL, if_neg (by simp), if_pos h12]
      have HCK : Hid (∀ W, Below W0.heap.size W0 W → Calls Tryz.prog 48 #[.agg #[.int .i64 dk, .int .i64 dn, .slice da dm dc]] W fun e w' => e = .returned (.int .i64 (chkD (.mk dk dn dl))) ∧ Below W0.heap.size W0 w') := Lib.hid fun W hb => (check_any k F dk dn dl da dm dc W ((hd.keep (descRd_ok _) (Fix.of_below hb0)).keep (descRd_ok _) (Fix.of_below hb)) hnd).mono fun e w' h => ⟨h.1, hb.trans (h.2.mono hb.size)⟩
      by_cases hck : chkD (.mk dk dn dl) = 0
      · have hnb : ¬ bigD (.mk dk dn dl) = true := fun h => by rw [chkD, if_pos h] at hck; cases hck
        have hal : (DescV.mk dk dn dl).heads.all okH = true := by
          rw [chkD, if_neg hnb] at hck
          cases ha : (DescV.mk dk dn dl).heads.all okH with
          | true => rfl
          | false => rw [ha] at hck; simp at hck
        obtain ⟨t, htx⟩ := textD_all _ hal
        have HTX : Hid (∀ W, Below W0.heap.size W0 W → Calls Tryz.prog 49 #[.agg #[.int .i64 dk, .int .i64 dn, .slice da dm dc]] W fun e w' => e = .returned (.string (bs t)) ∧ Below W0.heap.size W0 w') := Lib.hid fun W hb => (rtext_any k F dk dn dl da dm dc W t ((hd.keep (descRd_ok _) (Fix.of_below hb0)).keep (descRd_ok _) (Fix.of_below hb)) hnd htx).mono fun e w' h => ⟨h.1, hb.trans (h.2.mono hb.size)⟩
        obtain ⟨sy, hsy⟩ : ∃ sy, bs t = sy := ⟨_, rfl⟩
        have hys : sy.size ≤ 20971520 := by rw [← hsy, size_bs]; have := textD_len htx; rw [DescV.nodes] at this; omega
        have HE := Lib.hid (cat2 HSX.out hsy (by rw [hR2, descT, if_neg hnb, htx] : R = errW 0 ++ [32] ++ t))
        rw [hsy] at HTX
        rw [hck] at HCK
        clear hR2 hR g0 hb0 hd hnd hn hli hu hyl hel htt hck hnb hal htx hsy
        rcases h12 with rfl | rfl
        all_goals
          go_enter Tryz.func32, Tryz.ntmps32
          go_upto_region 1 with fail
          rw [← hW0]
          clear hW0
          go_wp2_with (first
            | (go_at_call 47; (with_reducible refine HW.out.mono ?_); rintro e w1 ⟨rfl, hb1⟩; have HB1 := Lib.hid (HB0.out.trans (hb1.mono HB0.out.size)); have HB01 := Lib.hid hb1; clear t0 t1 t2 t3 t4 t5 t6 t7; obtain ⟨t0, t1, t2, t3, t4, t5, t6, t7⟩ := HC.out w1 hb1; clear hb1)
            | (go_at_call 48; (with_reducible refine (HCK.out _ HB01.out).mono ?_); rintro e w2 ⟨rfl, hb2⟩; have HB2 := Lib.hid hb2; clear t0 t1 t2 t3 t4 t5 t6 t7; obtain ⟨t0, t1, t2, t3, t4, t5, t6, t7⟩ := HC.out w2 hb2; clear hb2)
            | (go_at_call 49; (with_reducible refine (HTX.out _ HB2.out).mono ?_); rintro e w3 ⟨rfl, hb3⟩; have HB3 := Lib.hid (HB0.out.trans (hb3.mono HB0.out.size)); clear hb3))
          rw [HE.out]
          go_ret
          exact ⟨rfl, HB3.out⟩
      · have hdt : descT (.mk dk dn dl) = [63] := by
          unfold descT
          split
          · rfl
          · rename_i hnb
            rw [chkD, if_neg hnb] at hck
            cases htx : textD (.mk dk dn dl) with
            | none => rfl
            | some t => rw [if_pos (textD_allok htx)] at hck; exact absurd rfl hck
        have hckb : (chkD (.mk dk dn dl) != 0) = true := by simpa using hck
        have HE : Hid (sx ++ ⟨#[32, 63]⟩ = bs R) := Lib.hid (by
          rw [hR2, hdt, ← HSX.out, show (⟨#[32, 63]⟩ : ByteArray) = bs [32, 63] from rfl, bs_bs]
          simp)
        generalize chkD (.mk dk dn dl) = ck at *
        clear hR2 hR g0 hb0 hd hnd hn hli hu hyl hel htt hck hdt
        rcases h12 with rfl | rfl
        all_goals
          go_enter Tryz.func32, Tryz.ntmps32
          go_upto_region 1 with fail
          rw [← hW0]
          clear hW0
          go_wp2_with (first
            | (go_at_call 47; (with_reducible refine HW.out.mono ?_); rintro e w1 ⟨rfl, hb1⟩; have HB1 := Lib.hid (HB0.out.trans (hb1.mono HB0.out.size)); have HB01 := Lib.hid hb1; clear t0 t1 t2 t3 t4 t5 t6 t7; obtain ⟨t0, t1, t2, t3, t4, t5, t6, t7⟩ := HC.out w1 hb1; clear hb1)
            | (go_at_call 48; (with_reducible refine (HCK.out _ HB01.out).mono ?_); rintro e w2 ⟨rfl, hb2⟩; have HB2 := Lib.hid (HB0.out.trans (hb2.mono HB0.out.size)); clear t0 t1 t2 t3 t4 t5 t6 t7; clear hb2))
          rw [HE.out]
          go_ret
          exact ⟨rfl, HB2.out⟩
    by_cases h34 : kind = 3 ∨ kind = 4
    · obtain ⟨sy, hsy⟩ : ∃ sy, bs (Lib.itoa n) = sy := ⟨_, rfl⟩
      have hys : sy.size ≤ 20 := by rw [← hsy, size_bs]; exact itoa_len hn
      have HE := Lib.hid (cat2 HSX.out hsy (by rw [hR, toldL, if_neg (by simp), if_neg h12, if_pos h34] : R = errW 0 ++ [32] ++ Lib.itoa n))
      have HI : Hid (∀ W, Calls Tryz.prog 8 #[.int .i64 n] W fun e w' => e = .returned (.string sy) ∧ W = w') := Lib.hid fun W => by rw [← hsy]; exact rint_any n W hn.1 hn.2
      clear hR g0 hb0 hd hnd hn hli hu hyl hel htt h12 hsy
      rcases h34 with rfl | rfl
      all_goals
        go_enter Tryz.func32, Tryz.ntmps32
        go_upto_region 1 with fail
        rw [← hW0]
        clear hW0
        go_wp2_with (first
          | (go_at_call 47; (with_reducible refine HW.out.mono ?_); rintro e w1 ⟨rfl, hb1⟩; have HB1 := Lib.hid (HB0.out.trans (hb1.mono HB0.out.size)); have HB01 := Lib.hid hb1; clear t0 t1 t2 t3 t4 t5 t6 t7; obtain ⟨t0, t1, t2, t3, t4, t5, t6, t7⟩ := HC.out w1 hb1; clear hb1)
          | (go_at_call 8; (with_reducible refine (HI.out _).mono ?_); rintro e w2 ⟨rfl, rfl⟩))
        rw [HE.out]
        go_ret
        exact ⟨rfl, HB1.out⟩
    by_cases h5 : kind = 5
    · obtain ⟨sy, hsy⟩ : ∃ sy, bs (Lib.itoa tt.size) = sy := ⟨_, rfl⟩
      have hin : InI tt.size := ⟨by omega, by omega⟩
      have hys : sy.size ≤ 20 := by rw [← hsy, size_bs]; exact itoa_len hin
      have HE := Lib.hid (cat2 HSX.out hsy (by rw [hR, toldL, if_neg (by simp), if_neg h12, if_neg h34, if_pos h5] : R = errW 0 ++ [32] ++ Lib.itoa tt.size))
      have HI : Hid (∀ W, Calls Tryz.prog 8 #[.int .i64 tt.size] W fun e w' => e = .returned (.string sy) ∧ W = w') := Lib.hid fun W => by rw [← hsy]; exact rint_any _ W hin.1 hin.2
      clear hR g0 hb0 hd hnd hn hli hu hyl hel htt h12 h34 hsy hin
      subst h5
      go_enter Tryz.func32, Tryz.ntmps32
      go_upto_region 1 with fail
      rw [← hW0]
      clear hW0
      go_wp2_with (first
        | (go_at_call 47; (with_reducible refine HW.out.mono ?_); rintro e w1 ⟨rfl, hb1⟩; have HB1 := Lib.hid (HB0.out.trans (hb1.mono HB0.out.size)); have HB01 := Lib.hid hb1; clear t0 t1 t2 t3 t4 t5 t6 t7; obtain ⟨t0, t1, t2, t3, t4, t5, t6, t7⟩ := HC.out w1 hb1; clear hb1)
        | (go_at_call 8; (with_reducible refine (HI.out _).mono ?_); rintro e w2 ⟨rfl, rfl⟩))
      rw [HE.out]
      go_ret
      exact ⟨rfl, HB1.out⟩
    by_cases h6 : kind = 6
    · obtain ⟨sy, hsy⟩ : ∃ sy, bs (Lib.itoa ys.length) = sy := ⟨_, rfl⟩
      obtain ⟨sz, hsz⟩ : ∃ sz, bs (Lib.decDigits (sumF ys)) = sz := ⟨_, rfl⟩
      have hin : InI ys.length := ⟨by omega, by omega⟩
      have hsl := sumF_lt ys
      have hys : sy.size ≤ 20 := by rw [← hsy, size_bs]; exact itoa_len hin
      have hzs : sz.size ≤ 20 := by rw [← hsz, size_bs]; exact decDigits_len64 (by omega)
      have HE : Hid (sx ++ ⟨#[32]⟩ ++ sy ++ ⟨#[32]⟩ ++ sz = bs R) := Lib.hid (by
        rw [hR, toldL, if_neg (by simp), if_neg h12, if_neg h34, if_neg h5, if_pos h6, ← HSX.out, ← hsy, ← hsz, show (⟨#[32]⟩ : ByteArray) = bs [32] from rfl, bs_bs, bs_bs, bs_bs, bs_bs])
      have hx2 : (sx ++ ⟨#[32]⟩ ++ sy).size ≤ 29 := by rw [ByteArray.size_append]; omega
      have hx3 := size1 hx2
      have HI : Hid (∀ W, Calls Tryz.prog 8 #[.int .i64 ys.length] W fun e w' => e = .returned (.string sy) ∧ W = w') := Lib.hid fun W => by rw [← hsy]; exact rint_any _ W hin.1 hin.2
      have HRW : Hid (∀ W, Calls Tryz.prog 20 #[.int .u64 (sumF ys : Nat)] W fun e w' => e = .returned (.string sz) ∧ W = w') := Lib.hid fun W => by rw [← hsz]; exact rword_any _ W (by omega)
      have HU : Hid (∀ W, Below W0.heap.size W0 W → U64s W ya ys) := Lib.hid fun W hb => (hu.keep hb0).keep hb
      have HYL := Lib.hid hyl
      clear hR g0 hb0 hd hnd hn hli hu hel htt h12 h34 h5 hsy hsz hin hsl
      subst h6
      go_enter Tryz.func32, Tryz.ntmps32
      go_upto_region 1 with fail
      rw [← hW0]
      clear hW0
      go_upto_region 18 with (go_at_call 47; (with_reducible refine HW.out.mono ?_); rintro e w1 ⟨rfl, hb1⟩; have HB1 := Lib.hid (HB0.out.trans (hb1.mono HB0.out.size)); have HB01 := Lib.hid hb1; clear t0 t1 t2 t3 t4 t5 t6 t7; obtain ⟨t0, t1, t2, t3, t4, t5, t6, t7⟩ := HC.out w1 hb1; clear hb1)
      have hmk := fun W => mk_u64s ys.length HYL.out W
      go_wp2_with fail
      obtain ⟨W2, hW2⟩ : ∃ W2, W2 = w1.alloc (.cells (Array.replicate ys.length (.int .u64 0)) 77) := ⟨_, rfl⟩
      have hb2 : Below w1.heap.size w1 W2 := by rw [hW2]; exact (Below.refl _ _).alloc (Nat.le_refl _) _
      have g2 : W2.heap[w1.heap.size]? = some (.cells (Array.replicate ys.length (.int .u64 0)) 77 (0, 0)) := by rw [hW2]; exact heap_alloc_new w1 _
      have HB2 := Lib.hid hb2
      have HG2 := Lib.hid g2
      rw [← hW2]
      clear hW2 hb2 g2 hmk t0 t1 t2 t3 t4 t5 t6 t7
      go_loopg [7] ys.length (fun g iv wr => ∃ (j : Nat) (arr : Array Value), j ≤ ys.length ∧ g = ys.length - j ∧ iv = .int .i64 (j : Int) ∧ arr.size = ys.length ∧ (∀ i, i < j → arr[i]? = some (.int .u64 1)) ∧ wr.heap[w1.heap.size]? = some (.cells arr 77 (0, 0)) ∧ Below w1.heap.size w1 wr)
      case atStart => exact ⟨0, _, by omega, by omega, rfl, by simp, fun i h => by omega, HG2.out, HB2.out⟩
      case round =>
        obtain ⟨j, arr, hj, rfl, rfl, hsz, hone, hg, hb⟩ := hrel
        obtain ⟨wo, rfl⟩ : ∃ wo : World, wo = wr := ⟨_, rfl⟩
        have HON := Lib.hid hone
        have HG := Lib.hid hg
        have HB := Lib.hid hb
        have HSZ := Lib.hid hsz
        clear hone hb
        by_cases hlt : j < ys.length
        · obtain ⟨u0, hu0⟩ : ∃ u0, arr[j]? = some u0 := ⟨_, Array.getElem?_eq_getElem (by omega : j < arr.size)⟩
          have c0 := cell_at (o := j) hg hu0
          have f0 := free_at (o := j) hg
          clear hg hsz hu0
          go_wp2_with fail
          go_roundg (ys.length - (j + 1))
          case measure => omega
          case rel =>
            refine ⟨j + 1, arr.setIfInBounds j (.int .u64 1), by omega, rfl, by go_num, by rw [Array.size_setIfInBounds]; exact HSZ.out, fun i hi => ?_, heap_set_at _ HG.out, HB.out.setCell (Nat.le_refl _) _⟩
            rw [Array.getElem?_setIfInBounds]
            split
            · rw [if_pos (by have := HSZ.out; omega)]
            · exact HON.out i (by omega)
        · obtain rfl : j = ys.length := by omega
          have hbo : Below W0.heap.size W0 wo := HB01.out.trans (HB.out.mono HB01.out.size)
          have HBO := Lib.hid hbo
          obtain ⟨t0, t1, t2, t3, t4, t5, t6, t7⟩ := HC.out wo hbo
          have HDOT : Hid (∀ m, Calls Tryz.prog 50 #[.slice ya ys.length yc, .slice (some ⟨w1.heap.size, 0, none⟩) ys.length ys.length] (wo.drewN m) fun e w' => e = .returned (.int .u64 (sumF ys : Nat)) ∧ ∃ q, w' = wo.drewN q) := Lib.hid fun m => by
            refine (dot_any ys ya (some ⟨w1.heap.size, 0, none⟩) yc ys.length ys.length (wo.drewN m) (HU.out _ (below_drewN hbo m)) (fun i hi => ⟨_, rfl, ?_⟩) (Nat.le_refl _) HYL.out).mono fun e w' h => ⟨h.1, ?_⟩
            · exact cell_at (show (wo.drewN m).heap[w1.heap.size]? = _ from HG.out) (HON.out i hi)
            · obtain ⟨q, hq⟩ := h.2
              exact ⟨m + q, by rw [hq, World.drewN_drewN]⟩
          generalize sumF ys = sm at *
          clear hg hsz hbo
          go_wp2_with fail
          go_quiet ((first
            | (go_at_call 8; exact qsame (HI.out _))
            | (go_at_call 50; exact (HDOT.out _))
            | (go_at_call 20; exact qsame (HRW.out _))))
          go_wp2_with fail
          rw [HE.out]
          go_ret
          exact ⟨rfl, HB0.out.trans ((below_drewN HBO.out _).mono HB0.out.size)⟩
    · have HR : Hid (R = errW 0) := Lib.hid (by rw [hR, toldL, if_neg (by simp), if_neg h12, if_neg h34, if_neg h5, if_neg h6])
      have HE : Hid (sx = bs R) := Lib.hid (by rw [HR.out]; exact HSX.out.symm)
      have k1 : (kind == 1) = false := by simp; omega
      have k2 : (kind == 2) = false := by simp; omega
      have k3 : (kind == 3) = false := by simp; omega
      have k4 : (kind == 4) = false := by simp; omega
      have k5 : (kind == 5) = false := by simp; omega
      have k6 : (kind == 6) = false := by simp; omega
      clear HR hR g0 hb0 hd hnd hn hli hu hyl hel htt h12 h34 h5 h6
      go_enter Tryz.func32, Tryz.ntmps32
      go_upto_region 1 with fail
      rw [← hW0]
      clear hW0
      go_wp2_with (go_at_call 47; (with_reducible refine HW.out.mono ?_); rintro e w1 ⟨rfl, hb1⟩; have HB1 := Lib.hid (HB0.out.trans (hb1.mono HB0.out.size)); have HB01 := Lib.hid hb1; clear t0 t1 t2 t3 t4 t5 t6 t7; obtain ⟨t0, t1, t2, t3, t4, t5, t6, t7⟩ := HC.out w1 hb1; clear hb1)
      rw [HE.out]
      go_ret
      exact ⟨rfl, HB1.out⟩
  · have hen : (e != 0) = true := by simpa using he
    by_cases hk : kind = 4
    · obtain ⟨sy, hsy⟩ : ∃ sy, bs (Lib.itoa li) = sy := ⟨_, rfl⟩
      have hys : sy.size ≤ 20 := by rw [← hsy, size_bs]; exact itoa_len hli
      have HE := Lib.hid (cat2 HSX.out hsy (by rw [hR, toldL, if_pos he, if_pos hk] : R = errW e ++ [32] ++ Lib.itoa li))
      have HI : Hid (∀ W, Calls Tryz.prog 8 #[.int .i64 li] W fun e w' => e = .returned (.string sy) ∧ W = w') := Lib.hid fun W => by rw [← hsy]; exact rint_any li W hli.1 hli.2
      subst hk
      clear hR he g0 hb0 hd hnd hn hli hu hyl hel htt hsy
      go_enter Tryz.func32, Tryz.ntmps32
      go_upto_region 1 with fail
      rw [← hW0]
      clear hW0
      go_wp2_with (first
        | (go_at_call 47; (with_reducible refine HW.out.mono ?_); rintro e w1 ⟨rfl, hb1⟩; have HB1 := Lib.hid (HB0.out.trans (hb1.mono HB0.out.size)); have HB01 := Lib.hid hb1; clear t0 t1 t2 t3 t4 t5 t6 t7; obtain ⟨t0, t1, t2, t3, t4, t5, t6, t7⟩ := HC.out w1 hb1; clear hb1)
        | (go_at_call 8; (with_reducible refine (HI.out _).mono ?_); rintro e w2 ⟨rfl, rfl⟩))
      rw [HE.out]
      go_ret
      exact ⟨rfl, HB1.out⟩
    · have hkb : (kind == 4) = false := by simpa using hk
      have HE : Hid (sx = bs R) := Lib.hid (by rw [hR, toldL, if_pos he, if_neg hk]; exact HSX.out.symm)
      clear hR he hk g0 hb0 hd hnd hn hli hu hyl hel htt
      go_enter Tryz.func32, Tryz.ntmps32
      go_upto_region 1 with fail
      rw [← hW0]
      clear hW0
      go_wp2_with (go_at_call 47; (with_reducible refine HW.out.mono ?_); rintro e w1 ⟨rfl, hb1⟩; have HB1 := Lib.hid (HB0.out.trans (hb1.mono HB0.out.size)); have HB01 := Lib.hid hb1; clear t0 t1 t2 t3 t4 t5 t6 t7; obtain ⟨t0, t1, t2, t3, t4, t5, t6, t7⟩ := HC.out w1 hb1; clear hb1)
      rw [HE.out]
      go_ret
      exact ⟨rfl, HB1.out⟩
end Go.Proofs.YthjcmcgmalnfpaaGreatDoor.Lex
