/- LruPlays, walked. -/
import Derived.Test.YtjlpafpedoancaaLruI
import Derived.Deep.RegionHeld
namespace Go.Proofs.Ytjlpafpedoancaa.Ring
set_option linter.unusedSimpArgs false
set_option linter.unusedVariables false
open Go.RowKit
set_option maxHeartbeats 16000000 in
set_option maxRecDepth 100000 in
theorem lruPlays (room : Int) (a : Option Addr) (n cap : Nat) (L : List (Int × Int × Int)) (w : World) (h : ARow w a n cap L) :
    Calls Try.prog 9 #[.int .i64 room, .slice a n cap] w fun e w' => e = .returned (.bool true) ∧ Below w.heap.size w w' := by
  have HL := Lib.hid h.len
  have hle := h.le
  have hmx := h.max
  unfold maxLen at hmx
  have H := Lib.hid h
  clear h
  by_cases hn : 200 < n
  · go_enter Try.func9, Try.ntmps9
    go_wp2_with (go_at_call 29; (with_reducible refine (live _).mono ?_); rintro e w' ⟨rfl, hB⟩)
    go_ret
    exact ⟨rfl, hB⟩
  · by_cases hr : 1 ≤ room ∧ room ≤ 64
    · obtain ⟨c, rfl⟩ : ∃ c : Nat, (c : Int) = room := ⟨room.toNat, by omega⟩
      have hc1 : 1 ≤ c := by omega
      have hc2 : c ≤ 64 := by omega
      have t0 : decide (1 ≤ (c : Int) ∧ (c : Int) ≤ 64) = true := by simpa using hr
      clear hr
      go_enter Try.func9, Try.ntmps9
      go_wp2_with (first | (go_at_call 30; (with_reducible refine (new_yes _ _ (by omega) (by omega)).mono ?_); rintro e w' ⟨lb, mb, e, rfl, hl0, hb0⟩; have HL0 := Lib.hid hl0; have HB0 := Lib.hid hb0; clear hl0 hb0; obtain ⟨wn, rfl⟩ : ∃ wn : World, wn = w' := ⟨_, rfl⟩) | (go_at_call 34; (with_reducible refine (ris _ _).mono ?_); rintro e w' ⟨rfl, rfl⟩; rw [t0]) | (go_at_call 35; (with_reducible refine (room_some _ _ _ _ _ _ _ HL0.out).mono ?_); rintro e w' ⟨rfl, rfl⟩))
      go_loopg [8] n (fun g i wr => ∃ k : Nat, k ≤ n ∧ g = n - k ∧ i = .int .i64 k ∧ ∃ K a' c' b' d', Inv w wr lb mb e wn.heap.size c K K a' c' b' d' ∧ K.length ≤ c)
      case atStart =>
        refine ⟨0, by omega, rfl, rfl, [], none, 0, none, 0, Inv.start HL0.out HB0.out ((Below.refl _ _).alloc (Nat.le_refl _) _) (heap_alloc_new _ _), by simp⟩
      case round =>
        have HLT := Lib.hid (HL0.out.lt lb (by simp))
        clear HL0 HB0
        obtain ⟨k, hk, rfl, rfl, K, a', c', b', d', hI, hKc⟩ := hrel
        obtain ⟨wo, rfl⟩ : ∃ wo : World, wo = wr := ⟨_, rfl⟩
        have hlS := (Array.getElem?_eq_some_iff.1 hI.box).1
        have ⟨s0, s1, s2, f0, f1, f2⟩ := hI.cells
        have HI := Lib.hid hI
        clear hI
        generalize wn.heap.size = S at *
        by_cases hkn : k < n
        · obtain ⟨b0, o0, rfl, -, hx⟩ := (H.out.below HI.out.below).at_ (by omega)
          obtain ⟨⟨ado, ak, av⟩, hx0⟩ : ∃ x, L[k]? = some x := ⟨_, List.getElem?_eq_getElem (by have := HL.out; omega)⟩
          obtain ⟨x0, x1, x2⟩ := hx k _ hx0
          simp only at x0 x1 x2
          have hki : (k : Int) < (n : Int) := by omega
          have hk0 : (0 : Int) ≤ (k : Int) := by omega
          clear hx hx0
          go_upto_region 15 with (fail)
          have HI0 := Lib.hid (HI.out.keep ((Below.refl _ _).alloc (Nat.le_refl _) (.cells #[.int .i64 ado, .int .i64 ak, .int .i64 av] 55)))
          have HY := Lib.hid (heap_alloc_new wo (.cells #[.int .i64 ado, .int .i64 ak, .int .i64 av] 55))
          have hnd := Lib.hid HI.out.nodup
          clear HI s0 s1 s2 f0 f1 f2 x0 x1 x2 hlS HLT
          generalize hW0 : wo.alloc (.cells #[.int .i64 ado, .int .i64 ak, .int .i64 av] 55) = W0 at *
          clear hW0
          generalize wo.heap.size = Y at *
          have y0 : W0.cell? ⟨Y, 0, none⟩ = some (.int .i64 ado) := cell_at HY.out rfl
          have y1 : W0.cell? ⟨Y, 1, none⟩ = some (.int .i64 ak) := cell_at HY.out rfl
          have y2 : W0.cell? ⟨Y, 2, none⟩ = some (.int .i64 av) := cell_at HY.out rfl
          have ⟨s0, s1, s2, f0, f1, f2⟩ := HI0.out.cells
          by_cases d0 : ado = 0
          · subst d0
            go_upto_region 29 with (first | (go_at_call 36; (with_reducible refine (HI0.out.get ak).mono ?_); rintro e w' ⟨rfl, hI1, hk1, -⟩; have HI1 := Lib.hid hI1; have HY1 := hk1 _ _ _ _ (by decide) HY.out; have z0 : w'.cell? ⟨Y, 0, none⟩ = some (.int .i64 0) := cell_at HY1 rfl; have z1 : w'.cell? ⟨Y, 1, none⟩ = some (.int .i64 ak) := cell_at HY1 rfl; have z2 : w'.cell? ⟨Y, 2, none⟩ = some (.int .i64 av) := cell_at HY1 rfl; have ⟨s0, s1, s2, f0, f1, f2⟩ := HI1.out.cells; have HY2 := Lib.hid HY1; clear hI1 hk1 HY1) | (go_at_call 37; (with_reducible refine (HI1.out.rget hnd.out (by omega) ak).mono ?_); rintro e w' ⟨a2, c2, b2, d2, rfl, hI2, hI3, hb2⟩; have HI9 := Lib.hid hI2; have ⟨s0, s1, s2, f0, f1, f2⟩ := hI3.cells; clear hI2 hI3 hb2))
            have hE := HI9.out
            have hKE : (getS K ak).length ≤ c := Nat.le_trans (getS_length hnd.out ak) hKc
            generalize ((w'.setCell ⟨S, 0, none⟩ (.int .i64 c)).setCell ⟨S, 1, none⟩ (.slice a2 (getS K ak).length c2)).setCell ⟨S, 2, none⟩ (.slice b2 (getS K ak).length d2) = WE at *
            generalize (peekS K ak).fst.snd = pv at *
            generalize (peekS K ak).snd = po at *
            generalize getS K ak = K2 at *
            have HE := Lib.hid hE
            clear hE
            have ⟨s0, s1, s2, f0, f1, f2⟩ := HE.out.cells
            have s1d : WE.drew.cell? ⟨S, 1, none⟩ = some (.slice a2 K2.length c2) := s1
            have HKEYS := Lib.hid (fun (W : World) (hW : Below WE.heap.size WE W) => (HE.out.keep hW).keys (by omega))
            have HLEN := Lib.hid (fun (W : World) (hW : Below WE.heap.size WE W) => (HE.out.keep hW).len (by omega))
            go_region_held (fun W => W.cell? ⟨S, 1, none⟩ = some (.slice a2 K2.length c2)) (first | exact s17 | exact s15 | exact s1d | exact s1) (first | (go_at_call 32; (with_reducible refine (HKEYS.out _ (Below.refl _ _).drew).mono ?_); rintro e w' ⟨a5, c5, rfl, hr5, hb5⟩; have HR5 := Lib.hid hr5; have HB5 := Lib.hid (show Below WE.heap.size WE w' from (Below.refl _ _).drew.trans hb5); have s15 : w'.cell? ⟨S, 1, none⟩ = some (.slice a2 K2.length c2) := (HE.out.keep HB5.out).cells.2.1; clear hr5 hb5) | (go_at_call 33; (with_reducible refine (same_ints _ _ _ _ _ _ _ _ _ HR5.out (HE.out.keep HB5.out).k.row).mono ?_); rintro e w' ⟨rfl, q, rfl⟩; have HB6 := Lib.hid (below_drewN HB5.out q); have s15 : (w'.drewN q).cell? ⟨S, 1, none⟩ = some (.slice a2 K2.length c2) := (HE.out.keep HB6.out).cells.2.1) | (go_at_call 43; (with_reducible refine (HLEN.out _ HB6.out).mono ?_); rintro e w' ⟨rfl, hb7⟩; have HB7 := Lib.hid (HB6.out.trans (hb7.mono HB6.out.size)); have s17 : w'.cell? ⟨S, 1, none⟩ = some (.slice a2 K2.length c2) := (HE.out.keep HB7.out).cells.2.1; clear hb7))
            all_goals (go_wp2_with fail)
            all_goals (go_roundg (n - (k + 1)))
            all_goals first | omega | exact ⟨k + 1, by omega, rfl, by go_num, K2, a2, c2, b2, d2, HE.out.keep HB7.out, hKE⟩
          by_cases d1 : ado = 1
          · subst d1
            clear d0
            go_upto_region 29 with (first | (go_at_call 38; (with_reducible refine (HI0.out.peek ak).mono ?_); rintro e w' ⟨rfl, rfl⟩) | (go_at_call 39; (with_reducible refine (HI0.out.rpeek hnd.out ak).mono ?_); rintro e w' ⟨rfl, hI2, hb2⟩; have HI9 := Lib.hid hI2; have ⟨s0, s1, s2, f0, f1, f2⟩ := hI2.cells; clear hI2 hb2))
            have hE := HI9.out
            have hKE : (K).length ≤ c := hKc
            obtain ⟨WE, rfl⟩ : ∃ WE : World, WE = w' := ⟨_, rfl⟩
            generalize (peekS K ak).fst.snd = pv at *
            generalize (peekS K ak).snd = po at *
            obtain ⟨K2, rfl⟩ : ∃ K2, K2 = K := ⟨_, rfl⟩
            have HE := Lib.hid hE
            clear hE
            have ⟨s0, s1, s2, f0, f1, f2⟩ := HE.out.cells
            have s1d : WE.drew.cell? ⟨S, 1, none⟩ = some (.slice a' K2.length c') := s1
            have HKEYS := Lib.hid (fun (W : World) (hW : Below WE.heap.size WE W) => (HE.out.keep hW).keys (by omega))
            have HLEN := Lib.hid (fun (W : World) (hW : Below WE.heap.size WE W) => (HE.out.keep hW).len (by omega))
            go_region_held (fun W => W.cell? ⟨S, 1, none⟩ = some (.slice a' K2.length c')) (first | exact s17 | exact s15 | exact s1d | exact s1) (first | (go_at_call 32; (with_reducible refine (HKEYS.out _ (Below.refl _ _).drew).mono ?_); rintro e w' ⟨a5, c5, rfl, hr5, hb5⟩; have HR5 := Lib.hid hr5; have HB5 := Lib.hid (show Below WE.heap.size WE w' from (Below.refl _ _).drew.trans hb5); have s15 : w'.cell? ⟨S, 1, none⟩ = some (.slice a' K2.length c') := (HE.out.keep HB5.out).cells.2.1; clear hr5 hb5) | (go_at_call 33; (with_reducible refine (same_ints _ _ _ _ _ _ _ _ _ HR5.out (HE.out.keep HB5.out).k.row).mono ?_); rintro e w' ⟨rfl, q, rfl⟩; have HB6 := Lib.hid (below_drewN HB5.out q); have s15 : (w'.drewN q).cell? ⟨S, 1, none⟩ = some (.slice a' K2.length c') := (HE.out.keep HB6.out).cells.2.1) | (go_at_call 43; (with_reducible refine (HLEN.out _ HB6.out).mono ?_); rintro e w' ⟨rfl, hb7⟩; have HB7 := Lib.hid (HB6.out.trans (hb7.mono HB6.out.size)); have s17 : w'.cell? ⟨S, 1, none⟩ = some (.slice a' K2.length c') := (HE.out.keep HB7.out).cells.2.1; clear hb7))
            all_goals (go_wp2_with fail)
            all_goals (go_roundg (n - (k + 1)))
            all_goals first | omega | exact ⟨k + 1, by omega, rfl, by go_num, K2, a', c', b', d', HE.out.keep HB7.out, hKE⟩
          by_cases d2 : ado = 2
          · subst d2
            clear d0 d1
            go_upto_region 29 with (first | (go_at_call 31; (with_reducible refine (HI0.out.put hc1 ak av).mono ?_); rintro e w' ⟨rfl, hI1, hk1, -⟩; have HI1 := Lib.hid hI1; have HY1 := hk1 _ _ _ _ (by decide) HY.out; have z0 : w'.cell? ⟨Y, 0, none⟩ = some (.int .i64 2) := cell_at HY1 rfl; have z1 : w'.cell? ⟨Y, 1, none⟩ = some (.int .i64 ak) := cell_at HY1 rfl; have z2 : w'.cell? ⟨Y, 2, none⟩ = some (.int .i64 av) := cell_at HY1 rfl; have ⟨s0, s1, s2, f0, f1, f2⟩ := HI1.out.cells; have HY2 := Lib.hid HY1; clear hI1 hk1 HY1) | (go_at_call 40; (with_reducible refine (HI1.out.rput hnd.out hKc hc1 (by omega) ak av).mono ?_); rintro e w' ⟨a2, c2, b2, d2, rfl, hI2, hI3, hb2⟩; have HI9 := Lib.hid hI2; have ⟨s0, s1, s2, f0, f1, f2⟩ := hI3.cells; clear hI2 hI3 hb2))
            have hE := HI9.out
            have hKE : ((putS c K ak av).2).length ≤ c := put_length hKc hc1 ak av
            generalize ((w'.setCell ⟨S, 0, none⟩ (.int .i64 c)).setCell ⟨S, 1, none⟩ (.slice a2 (putS c K ak av).2.length c2)).setCell ⟨S, 2, none⟩ (.slice b2 (putS c K ak av).2.length d2) = WE at *
            generalize (putS c K ak av).fst.fst = pv at *
            generalize (putS c K ak av).fst.snd = po at *
            generalize (putS c K ak av).2 = K2 at *
            have HE := Lib.hid hE
            clear hE
            have ⟨s0, s1, s2, f0, f1, f2⟩ := HE.out.cells
            have s1d : WE.drew.cell? ⟨S, 1, none⟩ = some (.slice a2 K2.length c2) := s1
            have HKEYS := Lib.hid (fun (W : World) (hW : Below WE.heap.size WE W) => (HE.out.keep hW).keys (by omega))
            have HLEN := Lib.hid (fun (W : World) (hW : Below WE.heap.size WE W) => (HE.out.keep hW).len (by omega))
            go_region_held (fun W => W.cell? ⟨S, 1, none⟩ = some (.slice a2 K2.length c2)) (first | exact s17 | exact s15 | exact s1d | exact s1) (first | (go_at_call 32; (with_reducible refine (HKEYS.out _ (Below.refl _ _).drew).mono ?_); rintro e w' ⟨a5, c5, rfl, hr5, hb5⟩; have HR5 := Lib.hid hr5; have HB5 := Lib.hid (show Below WE.heap.size WE w' from (Below.refl _ _).drew.trans hb5); have s15 : w'.cell? ⟨S, 1, none⟩ = some (.slice a2 K2.length c2) := (HE.out.keep HB5.out).cells.2.1; clear hr5 hb5) | (go_at_call 33; (with_reducible refine (same_ints _ _ _ _ _ _ _ _ _ HR5.out (HE.out.keep HB5.out).k.row).mono ?_); rintro e w' ⟨rfl, q, rfl⟩; have HB6 := Lib.hid (below_drewN HB5.out q); have s15 : (w'.drewN q).cell? ⟨S, 1, none⟩ = some (.slice a2 K2.length c2) := (HE.out.keep HB6.out).cells.2.1) | (go_at_call 43; (with_reducible refine (HLEN.out _ HB6.out).mono ?_); rintro e w' ⟨rfl, hb7⟩; have HB7 := Lib.hid (HB6.out.trans (hb7.mono HB6.out.size)); have s17 : w'.cell? ⟨S, 1, none⟩ = some (.slice a2 K2.length c2) := (HE.out.keep HB7.out).cells.2.1; clear hb7))
            all_goals (go_wp2_with fail)
            all_goals (go_roundg (n - (k + 1)))
            all_goals first | omega | exact ⟨k + 1, by omega, rfl, by go_num, K2, a2, c2, b2, d2, HE.out.keep HB7.out, hKE⟩
          by_cases d3 : ado = 3
          · subst d3
            clear d0 d1 d2
            go_upto_region 29 with (first | (go_at_call 41; (with_reducible refine (HI0.out.del ak).mono ?_); rintro e w' ⟨rfl, hI1, hk1, -⟩; have HI1 := Lib.hid hI1; have HY1 := hk1 _ _ _ _ (by decide) HY.out; have z0 : w'.cell? ⟨Y, 0, none⟩ = some (.int .i64 3) := cell_at HY1 rfl; have z1 : w'.cell? ⟨Y, 1, none⟩ = some (.int .i64 ak) := cell_at HY1 rfl; have z2 : w'.cell? ⟨Y, 2, none⟩ = some (.int .i64 av) := cell_at HY1 rfl; have ⟨s0, s1, s2, f0, f1, f2⟩ := HI1.out.cells; have HY2 := Lib.hid HY1; clear hI1 hk1 HY1) | (go_at_call 39; (with_reducible refine (HI1.out.rpeek hnd.out ak).mono ?_); rintro e w' ⟨rfl, hI2, hb2⟩; have HI2 := Lib.hid hI2; have HY3 := (hb2.block Y (Array.getElem?_eq_some_iff.1 HY2.out).1).trans HY2.out; have z1 : w'.cell? ⟨Y, 1, none⟩ = some (.int .i64 ak) := cell_at HY3 rfl; have ⟨s0, s1, s2, f0, f1, f2⟩ := hI2.cells; clear hI2 hb2 HY3) | (go_at_call 42; (with_reducible refine (HI2.out.rdel hnd.out (by omega) ak).mono ?_); rintro e w' ⟨a2, c2, b2, d2, rfl, hI4, hI5, hb4⟩; have HI9 := Lib.hid hI4; have ⟨s0, s1, s2, f0, f1, f2⟩ := hI5.cells; clear hI4 hI5 hb4))
            have hE := HI9.out
            have hKE : (without K ak).length ≤ c := Nat.le_trans (without_length K ak) hKc
            generalize ((w'.setCell ⟨S, 0, none⟩ (.int .i64 c)).setCell ⟨S, 1, none⟩ (.slice a2 (without K ak).length c2)).setCell ⟨S, 2, none⟩ (.slice b2 (without K ak).length d2) = WE at *
            generalize (peekS K ak).fst.snd = pv at *
            generalize (peekS K ak).snd = po at *
            generalize without K ak = K2 at *
            have HE := Lib.hid hE
            clear hE
            have ⟨s0, s1, s2, f0, f1, f2⟩ := HE.out.cells
            have s1d : WE.drew.cell? ⟨S, 1, none⟩ = some (.slice a2 K2.length c2) := s1
            have HKEYS := Lib.hid (fun (W : World) (hW : Below WE.heap.size WE W) => (HE.out.keep hW).keys (by omega))
            have HLEN := Lib.hid (fun (W : World) (hW : Below WE.heap.size WE W) => (HE.out.keep hW).len (by omega))
            go_region_held (fun W => W.cell? ⟨S, 1, none⟩ = some (.slice a2 K2.length c2)) (first | exact s17 | exact s15 | exact s1d | exact s1) (first | (go_at_call 32; (with_reducible refine (HKEYS.out _ (Below.refl _ _).drew).mono ?_); rintro e w' ⟨a5, c5, rfl, hr5, hb5⟩; have HR5 := Lib.hid hr5; have HB5 := Lib.hid (show Below WE.heap.size WE w' from (Below.refl _ _).drew.trans hb5); have s15 : w'.cell? ⟨S, 1, none⟩ = some (.slice a2 K2.length c2) := (HE.out.keep HB5.out).cells.2.1; clear hr5 hb5) | (go_at_call 33; (with_reducible refine (same_ints _ _ _ _ _ _ _ _ _ HR5.out (HE.out.keep HB5.out).k.row).mono ?_); rintro e w' ⟨rfl, q, rfl⟩; have HB6 := Lib.hid (below_drewN HB5.out q); have s15 : (w'.drewN q).cell? ⟨S, 1, none⟩ = some (.slice a2 K2.length c2) := (HE.out.keep HB6.out).cells.2.1) | (go_at_call 43; (with_reducible refine (HLEN.out _ HB6.out).mono ?_); rintro e w' ⟨rfl, hb7⟩; have HB7 := Lib.hid (HB6.out.trans (hb7.mono HB6.out.size)); have s17 : w'.cell? ⟨S, 1, none⟩ = some (.slice a2 K2.length c2) := (HE.out.keep HB7.out).cells.2.1; clear hb7))
            all_goals (go_wp2_with fail)
            all_goals (go_roundg (n - (k + 1)))
            all_goals first | omega | exact ⟨k + 1, by omega, rfl, by go_num, K2, a2, c2, b2, d2, HE.out.keep HB7.out, hKE⟩
          have t1 : (ado == 0) = false := beq_eq_false_iff_ne.2 d0
          have t2 : (ado == 1) = false := beq_eq_false_iff_ne.2 d1
          have t3 : (ado == 2) = false := beq_eq_false_iff_ne.2 d2
          have t4 : (ado == 3) = false := beq_eq_false_iff_ne.2 d3
          have HI9 := HI0
          clear d0 d1 d2 d3
          go_upto_region 29 with (fail)
          have hE := HI9.out
          have hKE : (K).length ≤ c := hKc
          obtain ⟨WE, rfl⟩ : ∃ WE : World, WE = W0 := ⟨_, rfl⟩
          obtain ⟨K2, rfl⟩ : ∃ K2, K2 = K := ⟨_, rfl⟩
          have HE := Lib.hid hE
          clear hE
          have ⟨s0, s1, s2, f0, f1, f2⟩ := HE.out.cells
          have s1d : WE.drew.cell? ⟨S, 1, none⟩ = some (.slice a' K2.length c') := s1
          have HKEYS := Lib.hid (fun (W : World) (hW : Below WE.heap.size WE W) => (HE.out.keep hW).keys (by omega))
          have HLEN := Lib.hid (fun (W : World) (hW : Below WE.heap.size WE W) => (HE.out.keep hW).len (by omega))
          go_region_held (fun W => W.cell? ⟨S, 1, none⟩ = some (.slice a' K2.length c')) (first | exact s17 | exact s15 | exact s1d | exact s1) (first | (go_at_call 32; (with_reducible refine (HKEYS.out _ (Below.refl _ _).drew).mono ?_); rintro e w' ⟨a5, c5, rfl, hr5, hb5⟩; have HR5 := Lib.hid hr5; have HB5 := Lib.hid (show Below WE.heap.size WE w' from (Below.refl _ _).drew.trans hb5); have s15 : w'.cell? ⟨S, 1, none⟩ = some (.slice a' K2.length c') := (HE.out.keep HB5.out).cells.2.1; clear hr5 hb5) | (go_at_call 33; (with_reducible refine (same_ints _ _ _ _ _ _ _ _ _ HR5.out (HE.out.keep HB5.out).k.row).mono ?_); rintro e w' ⟨rfl, q, rfl⟩; have HB6 := Lib.hid (below_drewN HB5.out q); have s15 : (w'.drewN q).cell? ⟨S, 1, none⟩ = some (.slice a' K2.length c') := (HE.out.keep HB6.out).cells.2.1) | (go_at_call 43; (with_reducible refine (HLEN.out _ HB6.out).mono ?_); rintro e w' ⟨rfl, hb7⟩; have HB7 := Lib.hid (HB6.out.trans (hb7.mono HB6.out.size)); have s17 : w'.cell? ⟨S, 1, none⟩ = some (.slice a' K2.length c') := (HE.out.keep HB7.out).cells.2.1; clear hb7))
          all_goals (go_wp2_with fail)
          all_goals (go_roundg (n - (k + 1)))
          all_goals first | omega | exact ⟨k + 1, by omega, rfl, by go_num, K2, a', c', b', d', HE.out.keep HB7.out, hKE⟩
        · go_wp2_with (go_at_call 29; (with_reducible refine (live _).mono ?_); rintro e w' ⟨rfl, hB⟩)
          go_ret
          exact ⟨rfl, HI.out.below.trans (hB.mono HI.out.below.size)⟩
    · have t0 : decide (1 ≤ room ∧ room ≤ 64) = false := by simpa using hr
      have hr1 : room < 1 ∨ 64 < room := by omega
      clear hr
      go_enter Try.func9, Try.ntmps9
      go_wp2_with (first | (go_at_call 30; (with_reducible refine (new_no _ _ hr1).mono ?_); rintro e w' ⟨rfl, rfl⟩) | (go_at_call 34; (with_reducible refine (ris _ _).mono ?_); rintro e w' ⟨rfl, rfl⟩; rw [t0]) | (go_at_call 29; (with_reducible refine (live _).mono ?_); rintro e w' ⟨rfl, hB⟩))
      go_ret
      exact ⟨rfl, hB⟩
end Go.Proofs.Ytjlpafpedoancaa.Ring
