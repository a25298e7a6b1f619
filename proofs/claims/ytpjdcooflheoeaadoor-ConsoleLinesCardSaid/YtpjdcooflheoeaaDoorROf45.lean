/- The reference's load of some calls (printed by mk_rof.py). -/
import Derived.Test.YtpjdcooflheoeaaDoorRKind45
import Derived.OrdersHeld
namespace Go.Proofs.YtpjdcooflheoeaaDoor.Lex
open Go.RowKit
set_option linter.unusedSimpArgs false
set_option linter.unusedVariables false
def ofV (l : List OpV) : LoadV := l.foldl (fun s o => addV s (oneV o)) zeroV
theorem ofV_snoc (l : List OpV) (o : OpV) : ofV (l ++ [o]) = addV (ofV l) (oneV o) := by simp [ofV]
theorem loadsV_of : ∀ (n : Nat) (l : List OpV) (k : Nat), l.length = n → loadsV l k = ofV (ofKind k l)
  | 0, l, k, h => by
    obtain rfl : l = [] := List.eq_nil_of_length_eq_zero h
    rfl
  | n + 1, l, k, h => by
    have hne : l ≠ [] := fun e => by rw [e] at h; cases h
    have hd := List.dropLast_concat_getLast hne
    have ih := loadsV_of n l.dropLast k (by rw [List.length_dropLast]; omega)
    rw [← hd, loadsV_snoc, ofKind_snoc]
    split
    · rw [ofV_snoc, ih]
    · exact ih
theorem ofV_fits (l : List OpV) : ∀ n, (ofV (l.take n)).Fits n := fun n => by
  induction n with
  | zero => exact ⟨by simp [ofV], by simp [ofV], by simp [ofV], by simp [ofV], by simp [ofV]⟩
  | succ n ih =>
    by_cases h : n < l.length
    · rw [List.take_succ_eq_append_getElem h, ofV_snoc]
      exact addV_fits ih (oneV_fits _)
    · rw [List.take_of_length_le (by omega)]
      rw [List.take_of_length_le (by omega)] at ih
      exact Fits_mono ih (by omega)
structure OfSt (w : World) (s : LoadV) (wr : World) : Prop where
  r : wr.heap[w.heap.size]? = some (.cells zeroV.cells 43 (0, 0))
  s : wr.heap[w.heap.size + 1]? = some (.cells s.cells 43 (0, 0))
  below : Below w.heap.size w wr
  size : w.heap.size + 2 ≤ wr.heap.size
set_option maxRecDepth 100000 in
set_option maxHeartbeats 8000000 in
theorem rof_any (l : List OpV) (a : Option Addr) (cap : Nat) (w : World) (hl : l.length ≤ 1048576) (ho : OpRow w a l) :
    Calls Tryd.prog 14 #[.slice a l.length cap] w fun e w' => e = .returned (ofV l).val ∧ Below w.heap.size w w' := by
  have HO := Lib.hid ho
  clear ho
  go_enter Tryd.func14, Tryd.ntmps14
  go_wp2_with fail
  go_loopg [4] l.length (fun g iv wr => ∃ n : Nat, n ≤ l.length ∧ g = l.length - n ∧ iv = .int .i64 (n : Int) ∧ OfSt w (ofV (l.take n)) wr)
  case atStart =>
    refine ⟨0, by omega, rfl, rfl, ?_, ?_, ?_, by simp⟩
    · rw [Lib.alloc_old _ _ _ (by simp)]; exact heap_alloc_new w _
    · have h2 := heap_alloc_new (w.alloc (.cells #[.int .i64 0, .int .i64 0, .int .i64 0, .int .i64 0] 43)) (.cells #[.int .i64 0, .int .i64 0, .int .i64 0, .int .i64 0] 43)
      rw [show (w.alloc (.cells #[.int .i64 0, .int .i64 0, .int .i64 0, .int .i64 0] 43)).heap.size = w.heap.size + 1 by simp] at h2
      exact h2
    · exact ((Below.refl _ _).alloc (Nat.le_refl _) _).alloc (by simp) _
  case round =>
    obtain ⟨n, hn, rfl, rfl, hst⟩ := hrel
    obtain ⟨wo, rfl⟩ : ∃ wo : World, wo = wr := ⟨_, rfl⟩
    have hzo := hst.size
    have hz0 : w.heap.size < wo.heap.size := by omega
    have hz1 : w.heap.size + 1 < wo.heap.size := by omega
    have hne : ¬ w.heap.size = w.heap.size + 1 := by omega
    have HST := Lib.hid hst
    by_cases hlt : n < l.length
    · obtain ⟨g, off, rfl, hg0, _, _⟩ := HO.out n hlt
      obtain ⟨g', off', hgg, hg, hrg, hok⟩ := HO.out.keep hst.below n hlt
      cases hgg
      have HTK := Lib.hid (List.take_succ_eq_append_getElem hlt)
      have hft := ofV_fits l n
      generalize l[n]'hlt = o at *
      have HSN : Hid (ofV (l.take (n + 1)) = addV (ofV (l.take n)) (oneV o)) := Lib.hid (by rw [HTK.out, ofV_snoc])
      have hs0 : wo.heap[w.heap.size + 1]? = some (.cells (ofV (l.take n)).cells 43 (0, 0)) := hst.s
      generalize ofV (l.take n) = s at *
      have h2 := hft.c
      have h3 := hft.e
      have h4 := hft.n
      have h5 := hft.l0
      have HS0 := Lib.hid hs0
      have s0 := cell_at (o := 0) hs0 rfl
      have s1 := cell_at (o := 1) hs0 rfl
      have s2 := cell_at (o := 2) hs0 rfl
      have s3 := cell_at (o := 3) hs0 rfl
      have f0 := free_at (o := 0) hs0
      have f1 := free_at (o := 1) hs0
      have f2 := free_at (o := 2) hs0
      have f3 := free_at (o := 3) hs0
      have HR := Lib.hid hrg
      have HRL := Lib.hid (fun W => rlasted_any o W hok.fr hok.til)
      have c9 : wo.cell? ⟨g, off + n * 19 + 9, none⟩ = some (.int .i64 o.e) := hrg 9 _ rfl
      have c18 : wo.cell? ⟨g, off + n * 19 + 18, none⟩ = some (.int .i64 o.til) := hrg 18 _ rfl
      have hgR : ¬ g = w.heap.size := by omega
      have hgS : ¬ g = w.heap.size + 1 := by omega
      have hgS' : ¬ w.heap.size + 1 = g := by omega
      clear hs0 hst hrg hok
      by_cases hto : o.til = -1
      · have HX : Hid (addV s (oneV o) = ⟨s.c + 1, s.e, s.n, s.l⟩) := Lib.hid (by
          rw [oneV, if_pos hto]
          simp only [addV, Nat.add_zero]
          congr 1
          omega)
        have htb : (o.til == -1) = true := by rw [hto]; rfl
        clear hto
        go_wp2_with fail
        go_roundg (l.length - (n + 1))
        case measure => omega
        case rel =>
          refine ⟨n + 1, by omega, rfl, by go_num, ?_⟩
          rw [HSN.out, HX.out]
          exact ⟨(Below.heap_setCell _ _ _ _ hne).trans HST.out.r, heap_set_at (o := 0) _ HS0.out, HST.out.below.setCell (by show w.heap.size ≤ w.heap.size + 1; omega) _, by simp; omega⟩
      · have htb : (o.til == -1) = false := by simp [hto]
        by_cases he : o.e = 0
        · have HX : Hid (addV s (oneV o) = ⟨s.c + 1, s.e, s.n + 1, max s.l (lastV o.fr o.til)⟩) := Lib.hid (by rw [oneV, if_neg hto, if_pos he]; rfl)
          have heb : (o.e != 0) = false := by rw [he]; rfl
          clear hto he
          go_wp2_with fail
          obtain ⟨W10, hW10⟩ : ∃ W10, W10 = ((wo.setCell ⟨w.heap.size + 1, 0, none⟩ (.int .i64 ((s.c : Int) + 1))).setCell ⟨w.heap.size + 1, 2, none⟩ (.int .i64 ((s.n : Int) + 1))) := ⟨_, rfl⟩
          have gS : W10.heap[w.heap.size + 1]? = some (.cells #[.int .i64 ((s.c : Int) + 1), .int .i64 s.e, .int .i64 ((s.n : Int) + 1), .int .i64 s.l] 43 (0, 0)) := by rw [hW10]; exact heap_set_at (o := 2) (.int .i64 ((s.n : Int) + 1)) (heap_set_at (o := 0) (.int .i64 ((s.c : Int) + 1)) HS0.out)
          have gR : W10.heap[w.heap.size]? = some (.cells zeroV.cells 43 (0, 0)) := by rw [hW10, Below.heap_setCell _ _ _ _ hne, Below.heap_setCell _ _ _ _ hne]; exact HST.out.r
          have hbW : Below w.heap.size w W10 := by
            rw [hW10]
            have hB := HST.out.below
            repeat (first | with_reducible exact hB | with_reducible refine Below.setCell ?_ (by show w.heap.size ≤ w.heap.size + 1; omega) _)
          have hzW : W10.heap.size = wo.heap.size := by rw [hW10]; simp
          have HRW : Hid (∀ W, Below W10.heap.size W10 W → W.rangeAt g (off + n * 19) [o.x0, o.x1, .int .i64 o.ki, o.x3, o.x4, o.x5, o.x6, o.x7, o.x8, .int .i64 o.e, o.x10, o.x11, o.x12, o.x13, o.x14, o.x15, o.x16, .int .i64 o.fr, .int .i64 o.til]) := Lib.hid fun W hb j v hj => by
            refine (hb.cell (p := ⟨g, off + n * 19 + j, none⟩) (by show g < W10.heap.size; omega)).trans ?_
            refine (World.cell?_of_block (a := ⟨g, off + n * 19 + j, none⟩) ?_).trans (HR.out j v hj)
            show W10.heap[g]? = wo.heap[g]?
            rw [hW10, Below.heap_setCell _ _ _ _ hgS, Below.heap_setCell _ _ _ _ hgS]
          have hzS : w.heap.size + 1 < W10.heap.size := by omega
          have hzR : w.heap.size < W10.heap.size := by omega
          have hzg : g < W10.heap.size := by omega
          have HGS := Lib.hid gS
          have HGR := Lib.hid gR
          have HBW := Lib.hid hbW
          have hZ2 : w.heap.size + 2 ≤ W10.heap.size := by omega
          have hbz := Below.refl W10.heap.size W10
          have HSS : Hid (∀ W, Below W10.heap.size W10 W → W.cell? ⟨w.heap.size + 1, 3, none⟩ = some (.int .i64 s.l) ∧ W.rangeAt g (off + n * 19) [o.x0, o.x1, .int .i64 o.ki, o.x3, o.x4, o.x5, o.x6, o.x7, o.x8, .int .i64 o.e, o.x10, o.x11, o.x12, o.x13, o.x14, o.x15, o.x16, .int .i64 o.fr, .int .i64 o.til]) := Lib.hid fun W hb => ⟨cell_at (o := 3) ((hb.block _ hzS).trans gS) rfl, HRW.out W hb⟩
          rw [← hW10]
          clear hW10 gS gR hbW hzW s0 s1 s2 s3 f0 f1 f2 f3 c9 c18
          have HT0 := Lib.hid (HSS.out W10.drew hbz.drew)
          refine wp_region_held (S := fun W => (W.cell? ⟨w.heap.size + 1, 3, none⟩ = some (.int .i64 s.l) ∧ W.rangeAt g (off + n * 19) [o.x0, o.x1, .int .i64 o.ki, o.x3, o.x4, o.x5, o.x6, o.x7, o.x8, .int .i64 o.e, o.x10, o.x11, o.x12, o.x13, o.x14, o.x15, o.x16, .int .i64 o.fr, .int .i64 o.til])) (by kernel_rfl) ?_
          change wpAnyH _ _ _ _ _ 8 #[false, false, false, false, false, false, false, false] _ W10.drew
          (refine wpAnyH_take (i := 0) (v := ?_) rfl (by kernel_rfl) (by kernel_rfl) (by kernel_rfl) (fun _ _ _ h => h) (Or.inl ⟨by rfl, ?_⟩) HT0.out ?_; rotate_left 1; (focus (intro w0 hw0; (try dsimp only at hw0); obtain ⟨s3, -⟩ := hw0; go_simp; try with_reducible rfl)); simp only [Act.put, List.getElem_toArray, List.getElem_cons_zero, List.getElem_cons_succ, List.setIfInBounds_toArray, List.set_cons_zero, List.set_cons_succ])
          (refine wpAnyH_take (i := 1) (v := ?_) rfl (by kernel_rfl) (by kernel_rfl) (by kernel_rfl) (fun _ _ _ h => h) (Or.inl ⟨by rfl, ?_⟩) HT0.out ?_; rotate_left 1; (focus (intro w0 hw0; (try dsimp only at hw0); obtain ⟨s3, -⟩ := hw0; go_simp; try with_reducible rfl)); simp only [Act.put, List.getElem_toArray, List.getElem_cons_zero, List.getElem_cons_succ, List.setIfInBounds_toArray, List.set_cons_zero, List.set_cons_succ])
          (refine wpAnyH_take (i := 2) (v := ?_) rfl (by kernel_rfl) (by kernel_rfl) (by kernel_rfl) (fun _ _ _ h => h) (Or.inl ⟨by rfl, ?_⟩) HT0.out ?_; rotate_left 1; (focus (intro w0 hw0; (try dsimp only at hw0); obtain ⟨s3, -⟩ := hw0; go_simp; try with_reducible rfl)); simp only [Act.put, List.getElem_toArray, List.getElem_cons_zero, List.getElem_cons_succ, List.setIfInBounds_toArray, List.set_cons_zero, List.set_cons_succ])
          refine wpAnyH_take (i := 3) (v := .agg #[o.x0, o.x1, .int .i64 o.ki, o.x3, o.x4, o.x5, o.x6, o.x7, o.x8, .int .i64 o.e, o.x10, o.x11, o.x12, o.x13, o.x14, o.x15, o.x16, .int .i64 o.fr, .int .i64 o.til]) rfl (by kernel_rfl) (by kernel_rfl) (by kernel_rfl) (fun _ _ _ h => h) (yieldsIf_load_mid (by rfl) 72 _ rfl g (off + n * 19) rfl [o.x0, o.x1, .int .i64 o.ki, o.x3, o.x4, o.x5, o.x6, o.x7, o.x8, .int .i64 o.e, o.x10, o.x11, o.x12, o.x13, o.x14, o.x15, o.x16, .int .i64 o.fr, .int .i64 o.til] _ (fun W h => h.2) Tryd.underlying72 rfl (by kernel_rfl)) HT0.out ?_
          simp only [Act.put, List.getElem_toArray, List.getElem_cons_zero, List.getElem_cons_succ, List.setIfInBounds_toArray, List.set_cons_zero, List.set_cons_succ]
          (refine wpAnyH_take (i := 5) (v := ?_) rfl (by kernel_rfl) (by kernel_rfl) (by kernel_rfl) (fun _ _ _ h => h) (Or.inl ⟨by rfl, ?_⟩) HT0.out ?_; rotate_left 1; (focus (intro w0 hw0; (try dsimp only at hw0); obtain ⟨s3, -⟩ := hw0; go_simp; try with_reducible rfl)); simp only [Act.put, List.getElem_toArray, List.getElem_cons_zero, List.getElem_cons_succ, List.setIfInBounds_toArray, List.set_cons_zero, List.set_cons_succ])
          (refine wpAnyH_take (i := 6) (v := ?_) rfl (by kernel_rfl) (by kernel_rfl) (by kernel_rfl) (fun _ _ _ h => h) (Or.inl ⟨by rfl, ?_⟩) HT0.out ?_; rotate_left 1; (focus (intro w0 hw0; (try dsimp only at hw0); obtain ⟨s3, -⟩ := hw0; go_simp; try with_reducible rfl)); simp only [Act.put, List.getElem_toArray, List.getElem_cons_zero, List.getElem_cons_succ, List.setIfInBounds_toArray, List.set_cons_zero, List.set_cons_succ])
          refine wpAnyH_all (rs := [4]) (by kernel_rfl) (by simp) fun i hi => ?_
          obtain rfl := List.mem_singleton.1 hi
          refine wpOp_step rfl (fun K hK => ?_)
          go_simp
          refine (HRL.out _).mono ?_
          rintro e w11 ⟨rfl, hb11⟩
          have hb11z : Below W10.heap.size W10 w11 := hbz.drew.trans (hb11.mono (Nat.le_refl _))
          refine hK _ _ ⟨HSS.out _ hb11z, ?_⟩
          clear hK K hb11 hi
          try simp only [Act.put, List.getElem_toArray, List.getElem_cons_zero, List.getElem_cons_succ, List.setIfInBounds_toArray, List.set_cons_zero, List.set_cons_succ]
          have HT1 := Lib.hid (HSS.out _ hb11z)
          (refine wpAnyH_take (i := 7) (v := ?_) rfl (by kernel_rfl) (by kernel_rfl) (by kernel_rfl) (fun _ _ _ h => h) (Or.inl ⟨by rfl, ?_⟩) HT1.out ?_; rotate_left 1; (focus (intro w0 hw0; (try dsimp only at hw0); obtain ⟨s3, -⟩ := hw0; go_simp; try with_reducible rfl)); simp only [Act.put, List.getElem_toArray, List.getElem_cons_zero, List.getElem_cons_succ, List.setIfInBounds_toArray, List.set_cons_zero, List.set_cons_succ])
          refine wpAnyH_done (by kernel_rfl) ?_ _
          have hgz : g < w11.heap.size := Nat.lt_of_lt_of_le hzg hb11z.size
          generalize lastV o.fr o.til = lv at *
          by_cases hm : s.l < lv
          · have hmd : decide (s.l < lv) = true := decide_eq_true hm
            have hmx : max s.l lv = lv := by omega
            go_wp2_with (first
              | (refine wpList_load_mid rfl 72 _ rfl g (off + n * 19) rfl [o.x0, o.x1, .int .i64 o.ki, o.x3, o.x4, o.x5, o.x6, o.x7, o.x8, .int .i64 o.e, o.x10, o.x11, o.x12, o.x13, o.x14, o.x15, o.x16, .int .i64 o.fr, .int .i64 o.til] _ (HRW.out _ hb11z) Tryd.underlying72 rfl (by kernel_rfl) ?_)
              | (go_at_call 23; (with_reducible refine (HRL.out _).mono ?_); rintro e w12 ⟨rfl, hb12⟩; have hb12z : Below W10.heap.size W10 w12 := hb11z.trans (hb12.mono hb11z.size); have gs := (hb12z.block _ hzS).trans HGS.out; have t3 := cell_at (o := 3) gs rfl; have u3 := free_at (o := 3) gs; have HG12 := Lib.hid gs; have HB12 := Lib.hid hb12z; clear hb12 gs))
            go_roundg (l.length - (n + 1))
            case measure => omega
            case rel =>
              refine ⟨n + 1, by omega, rfl, by go_num, ?_⟩
              rw [HSN.out, HX.out, hmx]
              refine ⟨(Below.heap_setCell _ _ _ _ hne).trans ((HB12.out.block _ hzR).trans HGR.out), heap_set_at (o := 3) _ HG12.out, (HBW.out.trans (HB12.out.mono (by omega))).setCell (by show w.heap.size ≤ w.heap.size + 1; omega) _, ?_⟩
              have := HB12.out.size
              simp
              omega
          · have hmd : decide (s.l < lv) = false := decide_eq_false hm
            have hmx : max s.l lv = s.l := by omega
            have HB11 := Lib.hid hb11z
            go_wp2_with fail
            go_roundg (l.length - (n + 1))
            case measure => omega
            case rel =>
              refine ⟨n + 1, by omega, rfl, by go_num, ?_⟩
              rw [HSN.out, HX.out, hmx]
              refine ⟨(HB11.out.block _ hzR).trans HGR.out, (HB11.out.block _ hzS).trans HGS.out, HBW.out.trans (HB11.out.mono (by omega)), ?_⟩
              have := HB11.out.size
              omega
        · have HX : Hid (addV s (oneV o) = ⟨s.c + 1, s.e + 1, s.n + 1, max s.l (lastV o.fr o.til)⟩) := Lib.hid (by rw [oneV, if_neg hto, if_neg he]; rfl)
          have heb : (o.e != 0) = true := by simp [he]
          clear hto he
          go_wp2_with fail
          obtain ⟨W10, hW10⟩ : ∃ W10, W10 = (((wo.setCell ⟨w.heap.size + 1, 0, none⟩ (.int .i64 ((s.c : Int) + 1))).setCell ⟨w.heap.size + 1, 2, none⟩ (.int .i64 ((s.n : Int) + 1))).setCell ⟨w.heap.size + 1, 1, none⟩ (.int .i64 ((s.e : Int) + 1))) := ⟨_, rfl⟩
          have gS : W10.heap[w.heap.size + 1]? = some (.cells #[.int .i64 ((s.c : Int) + 1), .int .i64 ((s.e : Int) + 1), .int .i64 ((s.n : Int) + 1), .int .i64 s.l] 43 (0, 0)) := by rw [hW10]; exact heap_set_at (o := 1) (.int .i64 ((s.e : Int) + 1)) (heap_set_at (o := 2) (.int .i64 ((s.n : Int) + 1)) (heap_set_at (o := 0) (.int .i64 ((s.c : Int) + 1)) HS0.out))
          have gR : W10.heap[w.heap.size]? = some (.cells zeroV.cells 43 (0, 0)) := by rw [hW10, Below.heap_setCell _ _ _ _ hne, Below.heap_setCell _ _ _ _ hne, Below.heap_setCell _ _ _ _ hne]; exact HST.out.r
          have hbW : Below w.heap.size w W10 := by
            rw [hW10]
            have hB := HST.out.below
            repeat (first | with_reducible exact hB | with_reducible refine Below.setCell ?_ (by show w.heap.size ≤ w.heap.size + 1; omega) _)
          have hzW : W10.heap.size = wo.heap.size := by rw [hW10]; simp
          have HRW : Hid (∀ W, Below W10.heap.size W10 W → W.rangeAt g (off + n * 19) [o.x0, o.x1, .int .i64 o.ki, o.x3, o.x4, o.x5, o.x6, o.x7, o.x8, .int .i64 o.e, o.x10, o.x11, o.x12, o.x13, o.x14, o.x15, o.x16, .int .i64 o.fr, .int .i64 o.til]) := Lib.hid fun W hb j v hj => by
            refine (hb.cell (p := ⟨g, off + n * 19 + j, none⟩) (by show g < W10.heap.size; omega)).trans ?_
            refine (World.cell?_of_block (a := ⟨g, off + n * 19 + j, none⟩) ?_).trans (HR.out j v hj)
            show W10.heap[g]? = wo.heap[g]?
            rw [hW10, Below.heap_setCell _ _ _ _ hgS, Below.heap_setCell _ _ _ _ hgS, Below.heap_setCell _ _ _ _ hgS]
          have hzS : w.heap.size + 1 < W10.heap.size := by omega
          have hzR : w.heap.size < W10.heap.size := by omega
          have hzg : g < W10.heap.size := by omega
          have HGS := Lib.hid gS
          have HGR := Lib.hid gR
          have HBW := Lib.hid hbW
          have hZ2 : w.heap.size + 2 ≤ W10.heap.size := by omega
          have hbz := Below.refl W10.heap.size W10
          have HSS : Hid (∀ W, Below W10.heap.size W10 W → W.cell? ⟨w.heap.size + 1, 3, none⟩ = some (.int .i64 s.l) ∧ W.rangeAt g (off + n * 19) [o.x0, o.x1, .int .i64 o.ki, o.x3, o.x4, o.x5, o.x6, o.x7, o.x8, .int .i64 o.e, o.x10, o.x11, o.x12, o.x13, o.x14, o.x15, o.x16, .int .i64 o.fr, .int .i64 o.til]) := Lib.hid fun W hb => ⟨cell_at (o := 3) ((hb.block _ hzS).trans gS) rfl, HRW.out W hb⟩
          rw [← hW10]
          clear hW10 gS gR hbW hzW s0 s1 s2 s3 f0 f1 f2 f3 c9 c18
          have HT0 := Lib.hid (HSS.out W10.drew hbz.drew)
          refine wp_region_held (S := fun W => (W.cell? ⟨w.heap.size + 1, 3, none⟩ = some (.int .i64 s.l) ∧ W.rangeAt g (off + n * 19) [o.x0, o.x1, .int .i64 o.ki, o.x3, o.x4, o.x5, o.x6, o.x7, o.x8, .int .i64 o.e, o.x10, o.x11, o.x12, o.x13, o.x14, o.x15, o.x16, .int .i64 o.fr, .int .i64 o.til])) (by kernel_rfl) ?_
          change wpAnyH _ _ _ _ _ 8 #[false, false, false, false, false, false, false, false] _ W10.drew
          (refine wpAnyH_take (i := 0) (v := ?_) rfl (by kernel_rfl) (by kernel_rfl) (by kernel_rfl) (fun _ _ _ h => h) (Or.inl ⟨by rfl, ?_⟩) HT0.out ?_; rotate_left 1; (focus (intro w0 hw0; (try dsimp only at hw0); obtain ⟨s3, -⟩ := hw0; go_simp; try with_reducible rfl)); simp only [Act.put, List.getElem_toArray, List.getElem_cons_zero, List.getElem_cons_succ, List.setIfInBounds_toArray, List.set_cons_zero, List.set_cons_succ])
          (refine wpAnyH_take (i := 1) (v := ?_) rfl (by kernel_rfl) (by kernel_rfl) (by kernel_rfl) (fun _ _ _ h => h) (Or.inl ⟨by rfl, ?_⟩) HT0.out ?_; rotate_left 1; (focus (intro w0 hw0; (try dsimp only at hw0); obtain ⟨s3, -⟩ := hw0; go_simp; try with_reducible rfl)); simp only [Act.put, List.getElem_toArray, List.getElem_cons_zero, List.getElem_cons_succ, List.setIfInBounds_toArray, List.set_cons_zero, List.set_cons_succ])
          (refine wpAnyH_take (i := 2) (v := ?_) rfl (by kernel_rfl) (by kernel_rfl) (by kernel_rfl) (fun _ _ _ h => h) (Or.inl ⟨by rfl, ?_⟩) HT0.out ?_; rotate_left 1; (focus (intro w0 hw0; (try dsimp only at hw0); obtain ⟨s3, -⟩ := hw0; go_simp; try with_reducible rfl)); simp only [Act.put, List.getElem_toArray, List.getElem_cons_zero, List.getElem_cons_succ, List.setIfInBounds_toArray, List.set_cons_zero, List.set_cons_succ])
          refine wpAnyH_take (i := 3) (v := .agg #[o.x0, o.x1, .int .i64 o.ki, o.x3, o.x4, o.x5, o.x6, o.x7, o.x8, .int .i64 o.e, o.x10, o.x11, o.x12, o.x13, o.x14, o.x15, o.x16, .int .i64 o.fr, .int .i64 o.til]) rfl (by kernel_rfl) (by kernel_rfl) (by kernel_rfl) (fun _ _ _ h => h) (yieldsIf_load_mid (by rfl) 72 _ rfl g (off + n * 19) rfl [o.x0, o.x1, .int .i64 o.ki, o.x3, o.x4, o.x5, o.x6, o.x7, o.x8, .int .i64 o.e, o.x10, o.x11, o.x12, o.x13, o.x14, o.x15, o.x16, .int .i64 o.fr, .int .i64 o.til] _ (fun W h => h.2) Tryd.underlying72 rfl (by kernel_rfl)) HT0.out ?_
          simp only [Act.put, List.getElem_toArray, List.getElem_cons_zero, List.getElem_cons_succ, List.setIfInBounds_toArray, List.set_cons_zero, List.set_cons_succ]
          (refine wpAnyH_take (i := 5) (v := ?_) rfl (by kernel_rfl) (by kernel_rfl) (by kernel_rfl) (fun _ _ _ h => h) (Or.inl ⟨by rfl, ?_⟩) HT0.out ?_; rotate_left 1; (focus (intro w0 hw0; (try dsimp only at hw0); obtain ⟨s3, -⟩ := hw0; go_simp; try with_reducible rfl)); simp only [Act.put, List.getElem_toArray, List.getElem_cons_zero, List.getElem_cons_succ, List.setIfInBounds_toArray, List.set_cons_zero, List.set_cons_succ])
          (refine wpAnyH_take (i := 6) (v := ?_) rfl (by kernel_rfl) (by kernel_rfl) (by kernel_rfl) (fun _ _ _ h => h) (Or.inl ⟨by rfl, ?_⟩) HT0.out ?_; rotate_left 1; (focus (intro w0 hw0; (try dsimp only at hw0); obtain ⟨s3, -⟩ := hw0; go_simp; try with_reducible rfl)); simp only [Act.put, List.getElem_toArray, List.getElem_cons_zero, List.getElem_cons_succ, List.setIfInBounds_toArray, List.set_cons_zero, List.set_cons_succ])
          refine wpAnyH_all (rs := [4]) (by kernel_rfl) (by simp) fun i hi => ?_
          obtain rfl := List.mem_singleton.1 hi
          refine wpOp_step rfl (fun K hK => ?_)
          go_simp
          refine (HRL.out _).mono ?_
          rintro e w11 ⟨rfl, hb11⟩
          have hb11z : Below W10.heap.size W10 w11 := hbz.drew.trans (hb11.mono (Nat.le_refl _))
          refine hK _ _ ⟨HSS.out _ hb11z, ?_⟩
          clear hK K hb11 hi
          try simp only [Act.put, List.getElem_toArray, List.getElem_cons_zero, List.getElem_cons_succ, List.setIfInBounds_toArray, List.set_cons_zero, List.set_cons_succ]
          have HT1 := Lib.hid (HSS.out _ hb11z)
          (refine wpAnyH_take (i := 7) (v := ?_) rfl (by kernel_rfl) (by kernel_rfl) (by kernel_rfl) (fun _ _ _ h => h) (Or.inl ⟨by rfl, ?_⟩) HT1.out ?_; rotate_left 1; (focus (intro w0 hw0; (try dsimp only at hw0); obtain ⟨s3, -⟩ := hw0; go_simp; try with_reducible rfl)); simp only [Act.put, List.getElem_toArray, List.getElem_cons_zero, List.getElem_cons_succ, List.setIfInBounds_toArray, List.set_cons_zero, List.set_cons_succ])
          refine wpAnyH_done (by kernel_rfl) ?_ _
          have hgz : g < w11.heap.size := Nat.lt_of_lt_of_le hzg hb11z.size
          generalize lastV o.fr o.til = lv at *
          by_cases hm : s.l < lv
          · have hmd : decide (s.l < lv) = true := decide_eq_true hm
            have hmx : max s.l lv = lv := by omega
            go_wp2_with (first
              | (refine wpList_load_mid rfl 72 _ rfl g (off + n * 19) rfl [o.x0, o.x1, .int .i64 o.ki, o.x3, o.x4, o.x5, o.x6, o.x7, o.x8, .int .i64 o.e, o.x10, o.x11, o.x12, o.x13, o.x14, o.x15, o.x16, .int .i64 o.fr, .int .i64 o.til] _ (HRW.out _ hb11z) Tryd.underlying72 rfl (by kernel_rfl) ?_)
              | (go_at_call 23; (with_reducible refine (HRL.out _).mono ?_); rintro e w12 ⟨rfl, hb12⟩; have hb12z : Below W10.heap.size W10 w12 := hb11z.trans (hb12.mono hb11z.size); have gs := (hb12z.block _ hzS).trans HGS.out; have t3 := cell_at (o := 3) gs rfl; have u3 := free_at (o := 3) gs; have HG12 := Lib.hid gs; have HB12 := Lib.hid hb12z; clear hb12 gs))
            go_roundg (l.length - (n + 1))
            case measure => omega
            case rel =>
              refine ⟨n + 1, by omega, rfl, by go_num, ?_⟩
              rw [HSN.out, HX.out, hmx]
              refine ⟨(Below.heap_setCell _ _ _ _ hne).trans ((HB12.out.block _ hzR).trans HGR.out), heap_set_at (o := 3) _ HG12.out, (HBW.out.trans (HB12.out.mono (by omega))).setCell (by show w.heap.size ≤ w.heap.size + 1; omega) _, ?_⟩
              have := HB12.out.size
              simp
              omega
          · have hmd : decide (s.l < lv) = false := decide_eq_false hm
            have hmx : max s.l lv = s.l := by omega
            have HB11 := Lib.hid hb11z
            go_wp2_with fail
            go_roundg (l.length - (n + 1))
            case measure => omega
            case rel =>
              refine ⟨n + 1, by omega, rfl, by go_num, ?_⟩
              rw [HSN.out, HX.out, hmx]
              refine ⟨(HB11.out.block _ hzR).trans HGR.out, (HB11.out.block _ hzS).trans HGS.out, HBW.out.trans (HB11.out.mono (by omega)), ?_⟩
              have := HB11.out.size
              omega
    · obtain rfl : n = l.length := by omega
      have hs0 : wo.heap[w.heap.size + 1]? = some (.cells (ofV (l.take l.length)).cells 43 (0, 0)) := hst.s
      have hr0 := hst.r
      rw [List.take_length] at hs0
      obtain ⟨z, hz⟩ : ∃ z, z = ofV l := ⟨_, rfl⟩
      rw [← hz] at hs0
      have HZ := Lib.hid hz
      have s0 := cell_at (o := 0) hs0 rfl
      have s1 := cell_at (o := 1) hs0 rfl
      have s2 := cell_at (o := 2) hs0 rfl
      have s3 := cell_at (o := 3) hs0 rfl
      have r0 := cell_at (o := 0) hr0 rfl
      have r1 := cell_at (o := 1) hr0 rfl
      have r2 := cell_at (o := 2) hr0 rfl
      have r3 := cell_at (o := 3) hr0 rfl
      have q0 := free_at (o := 0) hr0
      have q1 := free_at (o := 1) hr0
      have q2 := free_at (o := 2) hr0
      have q3 := free_at (o := 3) hr0
      have HBW := Lib.hid hst.below
      clear hs0 hr0 hst hz
      go_wp2_with fail
      refine bodyPost_ret (v := z.val) (by simp [results, Tryd.results14, go_sem, *]) rfl ⟨by rw [HZ.out], set4_below HBW.out (Nat.le_refl _) _ _ _ _⟩
end Go.Proofs.YtpjdcooflheoeaaDoor.Lex
