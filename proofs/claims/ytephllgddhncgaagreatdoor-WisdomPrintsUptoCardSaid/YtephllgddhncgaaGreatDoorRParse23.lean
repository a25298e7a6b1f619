/- The reference's Parse of a tree's text. -/
import Derived.Test.YtephllgddhncgaaGreatDoorRNode23
namespace Go.Proofs.YtephllgddhncgaaGreatDoor.Lex
open Go.RowKit
set_option linter.unusedSimpArgs false
set_option linter.unusedVariables false
set_option maxRecDepth 100000 in
set_option maxHeartbeats 4000000 in
theorem rparse_any (s : ByteArray) (w : World) (hs : s.size ≤ maxLen) : Calls Tryz.prog 54 #[.string s] w (ParsePost s.data.toList w) := by
  have hl : s.data.toList.length = s.size := by simp
  obtain ⟨W0, hW0⟩ : ∃ W0, W0 = w.alloc (.cells #[.int .i64 0, .int .i64 0, .slice none 0 0] 42) := ⟨_, rfl⟩
  have hb0 : Below w.heap.size w W0 := by rw [hW0]; exact (Below.refl _ _).alloc (Nat.le_refl _) _
  have g0 : W0.heap[w.heap.size]? = some (.cells #[.int .i64 0, .int .i64 0, .slice none 0 0] 42 (0, 0)) := by rw [hW0]; exact heap_alloc_new w _
  have HB0 := Lib.hid hb0
  have HG0 := Lib.hid g0
  unfold maxLen at hs
  by_cases hbig : 4096 < s.size
  · have HP : Hid (parseD s.data.toList = (12, zeroD)) := Lib.hid (by rw [parseD, if_pos (by omega)])
    have hbig' : (4096 : Int) < (s.size : Int) := by omega
    have c0 := cell_at (o := 0) g0 rfl
    have c1 := cell_at (o := 1) g0 rfl
    have c2 := cell_at (o := 2) g0 rfl
    have f0 := free_at (o := 0) g0
    have f1 := free_at (o := 1) g0
    have f2 := free_at (o := 2) g0
    clear hbig hb0 g0 hl
    go_enter Tryz.func54, Tryz.ntmps54
    go_upto_region 1 with fail
    rw [← hW0]
    clear hW0
    go_wp2_with fail
    refine bodyPost_ret (v := .tuple #[.agg #[.int .i64 0, .int .i64 0, .slice none 0 0], .int .i64 12]) (by simp [results, Tryz.results54, go_sem, *]) rfl ?_
    exact parse_post_bad HP.out (((HB0.out.setCell (Nat.le_refl _) _).setCell (Nat.le_refl _) _).setCell (Nat.le_refl _) _)
  · have hbig' : ¬ (4096 : Int) < (s.size : Int) := by omega
    have hs2 : s.size ≤ 4096 := by omega
    have HPD : Hid (parseD s.data.toList = match treeB s.data.toList with | none => (10, zeroD) | some d => if bigD d = true then (12, zeroD) else (0, d)) := Lib.hid (by rw [parseD, if_neg (by omega), tree_eq]; rfl)
    have HTN : Hid (∀ d, treeB s.data.toList = some d → d.nodes ≤ 4096) := Lib.hid fun d h => by rw [tree_eq] at h; have := tree_nodes h; omega
    have hnd := rnode_all (s.size + 1) s 0 W0 (by omega) (by omega) (by omega) (by omega)
    have htb : treeB s.data.toList = match nodeB (s.size + 1) (s.data.toList.drop 0) with | some (d, []) => some d | _ => none := by rw [List.drop_zero, treeB, hl]; rfl
    clear hbig hb0 g0
    cases hnt : nodeB (s.size + 1) (s.data.toList.drop 0) with
    | none =>
      have HND : Hid (Calls Tryz.prog 77 #[.string s, .int .i64 0] W0 fun e w' => Below W0.heap.size W0 w' ∧ ∃ k5 n5 a5 m5 c5, e = .returned (.tuple #[.agg #[.int .i64 k5, .int .i64 n5, .slice a5 m5 c5], .int .i64 (-1)])) := Lib.hid (hnd.mono fun e w' h => by
        obtain ⟨hb, k5, n5, a5, m5, c5, z5, he, hm⟩ := h
        rw [hnt] at hm
        obtain rfl : z5 = -1 := hm
        exact ⟨hb, k5, n5, a5, m5, c5, he⟩)
      have HP : Hid (parseD s.data.toList = (10, zeroD)) := Lib.hid (by rw [HPD.out, htb, hnt])
      have hne : ((-1 : Int) != (s.size : Int)) = true := by simp only [bne_iff_ne, ne_eq]; omega
      clear hnt hnd htb hl
      go_enter Tryz.func54, Tryz.ntmps54
      go_upto_region 1 with fail
      rw [← hW0]
      clear hW0
      go_wp2_with (go_at_call 77; (with_reducible refine HND.out.mono ?_); rintro e w1 ⟨hb1, k5, n5, a5, m5, c5, rfl⟩; have HB1 := Lib.hid ((HB0.out.trans (hb1.mono HB0.out.size)).alloc (Nat.le_trans HB0.out.size hb1.size) (.cells #[.int .i64 k5, .int .i64 n5, .slice a5 m5 c5] 42)); have HG1 := Lib.hid ((((hb1.alloc hb1.size (.cells #[.int .i64 k5, .int .i64 n5, .slice a5 m5 c5] 42))).block _ (Array.getElem?_eq_some_iff.1 HG0.out).1).trans HG0.out); clear hb1; have c0 := cell_at (o := 0) HG1.out rfl; have c1 := cell_at (o := 1) HG1.out rfl; have c2 := cell_at (o := 2) HG1.out rfl; have f0 := free_at (o := 0) HG1.out; have f1 := free_at (o := 1) HG1.out; have f2 := free_at (o := 2) HG1.out)
      refine bodyPost_ret (v := .tuple #[.agg #[.int .i64 0, .int .i64 0, .slice none 0 0], .int .i64 10]) (by simp [results, Tryz.results54, go_sem, *]) rfl ?_
      exact parse_post_bad HP.out (((HB1.out.setCell (Nat.le_refl _) _).setCell (Nat.le_refl _) _).setCell (Nat.le_refl _) _)
    | some y =>
      obtain ⟨d, r⟩ := y
      have HND : Hid (Calls Tryz.prog 77 #[.string s, .int .i64 0] W0 fun e w' => Below W0.heap.size W0 w' ∧ ∃ a5 m5 c5 p5, e = .returned (.tuple #[.agg #[.int .i64 d.kind, .int .i64 d.n, .slice a5 m5 c5], .int .i64 ((p5 : Nat) : Int)]) ∧ p5 ≤ s.size ∧ r = s.data.toList.drop p5 ∧ RowOf (descRd (s.size + 1)) 3 40 (From W0.heap.size) w' a5 m5 c5 d.kids) := Lib.hid (hnd.mono fun e w' h => by
        obtain ⟨hb, k5, n5, a5, m5, c5, z5, he, hm⟩ := h
        rw [hnt] at hm
        obtain ⟨p5, rfl, h5, h6, rfl, rfl, h7⟩ := hm
        exact ⟨hb, a5, m5, c5, p5, he, by omega, h6, h7⟩)
      have HTB : Hid (treeB s.data.toList = match some (d, r) with | some (d, []) => some d | _ => none) := Lib.hid (by rw [htb, hnt])
      have hl2 := hl
      have HLL := Lib.hid hl2
      clear hnt hnd htb hl hl2
      go_enter Tryz.func54, Tryz.ntmps54
      go_upto_region 1 with fail
      rw [← hW0]
      clear hW0
      go_upto_region 4 with (go_at_call 77; (with_reducible refine HND.out.mono ?_); rintro e w3 ⟨hb3, a3, m3, c3, p3, rfl, hp3, hr3, hrow3⟩; have HB3 := Lib.hid hb3; have HR3 := Lib.hid hr3; have HROW3 := Lib.hid hrow3; clear hb3 hr3 hrow3)
      have hBZ : Below w.heap.size w w3 := HB0.out.trans (HB3.out.mono HB0.out.size)
      have g3 : w3.heap[w.heap.size]? = some (.cells #[.int .i64 0, .int .i64 0, .slice none 0 0] 42 (0, 0)) := (HB3.out.block _ (Array.getElem?_eq_some_iff.1 HG0.out).1).trans HG0.out
      have hz0 : w.heap.size < W0.heap.size := (Array.getElem?_eq_some_iff.1 HG0.out).1
      have hz3 : W0.heap.size ≤ w3.heap.size := HB3.out.size
      obtain ⟨W4, hW4⟩ : ∃ W4, W4 = w3.alloc (.cells #[.int .i64 d.kind, .int .i64 d.n, .slice a3 m3 c3] 42) := ⟨_, rfl⟩
      have hb34 : Below w3.heap.size w3 W4 := by rw [hW4]; exact (Below.refl _ _).alloc (Nat.le_refl _) _
      have g4 : W4.heap[w3.heap.size]? = some (.cells #[.int .i64 d.kind, .int .i64 d.n, .slice a3 m3 c3] 42 (0, 0)) := by rw [hW4]; exact heap_alloc_new w3 _
      have HG4 := Lib.hid ((hb34.block _ (Array.getElem?_eq_some_iff.1 g3).1).trans g3)
      have HV4 := Lib.hid g4
      have HROW := Lib.hid (HROW3.out.keep (descRd_ok _) (Fix.of_below hb34))
      have HB4 := Lib.hid (hBZ.trans (hb34.mono hBZ.size))
      rw [← hW4]
      clear hW4 hBZ g3 hb34 g4
      have c0 := cell_at (o := 0) HG4.out rfl
      have c1 := cell_at (o := 1) HG4.out rfl
      have c2 := cell_at (o := 2) HG4.out rfl
      have f0 := free_at (o := 0) HG4.out
      have f1 := free_at (o := 1) HG4.out
      have f2 := free_at (o := 2) HG4.out
      have v0 := cell_at (o := 0) HV4.out rfl
      have v1 := cell_at (o := 1) HV4.out rfl
      have v2 := cell_at (o := 2) HV4.out rfl
      have n1 : ¬ w3.heap.size = w.heap.size := by omega
      have n2 : ¬ w.heap.size = w3.heap.size := by omega
      by_cases hlt : p3 = s.size
      · have hpn : ((p3 : Int) != (s.size : Int)) = false := by rw [hlt]; simp
        have hpm : (p3 != s.size) = false := by rw [hlt]; simp
        have htd : treeB s.data.toList = some d := by rw [HTB.out, HR3.out, List.drop_of_length_le (by have := HLL.out; omega)]
        have hnd := HTN.out d htd
        rw [DescV.nodes_kids] at hnd
        have HBG := Lib.hid (rbig_any (s.size + 1) _ d.kind d.n d.kids a3 m3 c3 W4 HROW.out (by omega))
        rw [← DescV.eta d] at HBG
        have HPB : Hid (parseD s.data.toList = if bigD d = true then (12, zeroD) else (0, d)) := Lib.hid (by rw [HPD.out, htd])
        clear hlt htd hnd
        generalize hbg : bigD d = bg at *
        have HBGE := Lib.hid hbg
        clear hbg
        cases bg with
        | true =>
          have HP : Hid (parseD s.data.toList = (12, zeroD)) := HPB
          go_wp2_with (go_at_call 78; (with_reducible refine HBG.out.mono ?_); rintro e w5 ⟨rfl, hb5⟩; have HB5 := Lib.hid (HB4.out.trans (hb5.mono HB4.out.size)); have HG5 := Lib.hid ((hb5.block _ (Array.getElem?_eq_some_iff.1 HG4.out).1).trans HG4.out); clear hb5 c0 c1 c2 f0 f1 f2 v0 v1 v2; have c0 := cell_at (o := 0) HG5.out rfl; have c1 := cell_at (o := 1) HG5.out rfl; have c2 := cell_at (o := 2) HG5.out rfl; have f0 := free_at (o := 0) HG5.out; have f1 := free_at (o := 1) HG5.out; have f2 := free_at (o := 2) HG5.out)
          refine bodyPost_ret (v := .tuple #[.agg #[.int .i64 0, .int .i64 0, .slice none 0 0], .int .i64 12]) (by simp [results, Tryz.results54, go_sem, *]) rfl ?_
          exact parse_post_bad HP.out (((HB5.out.setCell (Nat.le_refl _) _).setCell (Nat.le_refl _) _).setCell (Nat.le_refl _) _)
        | false =>
          have HP : Hid (parseD s.data.toList = (0, d)) := HPB
          go_wp2_with (go_at_call 78; (with_reducible refine HBG.out.mono ?_); rintro e w5 ⟨rfl, hb5⟩; have HB5 := Lib.hid (HB4.out.trans (hb5.mono HB4.out.size)); have HB45 := Lib.hid hb5; have HG5 := Lib.hid ((hb5.block _ (Array.getElem?_eq_some_iff.1 HG4.out).1).trans HG4.out); have HV5 := Lib.hid ((hb5.block _ (Array.getElem?_eq_some_iff.1 HV4.out).1).trans HV4.out); clear hb5 c0 c1 c2 f0 f1 f2 v0 v1 v2; have c0 := cell_at (o := 0) HG5.out rfl; have c1 := cell_at (o := 1) HG5.out rfl; have c2 := cell_at (o := 2) HG5.out rfl; have f0 := free_at (o := 0) HG5.out; have f1 := free_at (o := 1) HG5.out; have f2 := free_at (o := 2) HG5.out; have v0 := cell_at (o := 0) HV5.out rfl; have v1 := cell_at (o := 1) HV5.out rfl; have v2 := cell_at (o := 2) HV5.out rfl)
          refine bodyPost_ret (v := .tuple #[.agg #[.int .i64 d.kind, .int .i64 d.n, .slice a3 m3 c3], .int .i64 0]) (by simp [results, Tryz.results54, go_sem, *]) rfl ?_
          have fxs : ∀ (o : Nat) (u : Value) (W : World), Fix (From W0.heap.size) W (W.setCell ⟨w.heap.size, o, none⟩ u) := fun o u W => Fix.setCell W _ u fun hf => by have : W0.heap.size ≤ w.heap.size := hf; omega
          refine ⟨a3, m3, c3, by rw [HP.out], ?_, ((HB5.out.setCell (Nat.le_refl _) _).setCell (Nat.le_refl _) _).setCell (Nat.le_refl _) _⟩
          rw [HP.out]
          exact (((HROW.out.keep (descRd_ok _) (Fix.of_below HB45.out)).keep (descRd_ok _) (((fxs _ _ _).trans (fxs _ _ _)).trans (fxs _ _ _))).mono (descRd_ok _) (fun q _ hq => by have hq' : W0.heap.size ≤ q := hq; show w.heap.size ≤ q; omega)).imp fun _ _ h => descRd_mono (by omega) h
      · have hpn : ((p3 : Int) != (s.size : Int)) = true := by simp only [bne_iff_ne, ne_eq]; omega
        have hpm : (p3 != s.size) = true := by simpa using hlt
        have HP : Hid (parseD s.data.toList = (10, zeroD)) := Lib.hid (by rw [HPD.out, HTB.out, HR3.out, drop_byte (by omega : p3 < s.size)])
        clear hlt
        go_wp2_with fail
        refine bodyPost_ret (v := .tuple #[.agg #[.int .i64 0, .int .i64 0, .slice none 0 0], .int .i64 10]) (by simp [results, Tryz.results54, go_sem, *]) rfl ?_
        exact parse_post_bad HP.out (((HB4.out.setCell (Nat.le_refl _) _).setCell (Nat.le_refl _) _).setCell (Nat.le_refl _) _)
end Go.Proofs.YtephllgddhncgaaGreatDoor.Lex
