/- The law DtextPrints. -/
import Derived.Test.YtoiclfcgcgdfhaaDoorReads23
import Derived.WideShapes
namespace Go.Proofs.YtoiclfcgcgdfhaaDoor.Lex
open Go.RowKit
set_option linter.unusedSimpArgs false
set_option linter.unusedVariables false
theorem bs_inv (t : List UInt8) : (bs t).data.toList = t := by simp [bs]
theorem parseD_text {d : DescV} {t : List UInt8} (h : textD d = some t) (hb : bigD d = false) : parseD t = (0, d) := by
  have hl := textD_len h
  have hn : d.nodes ≤ 60 := by
    unfold bigD at hb
    simp at hb
    omega
  rw [parseD, if_neg (by omega), treeT_iff.2 h]
  dsimp only
  rw [if_neg (by rw [hb]; decide)]
set_option maxRecDepth 100000 in
set_option maxHeartbeats 4000000 in
theorem prints23 (k : Nat) (kd nd : Int) (l : List DescV) (a : Option Addr) (n cap : Nat) (w : World) (hl : RowOf (descRd k) 3 40 All w a n cap l) (hm : DescV.nodesL l < 1048576) (hx : HasMax w) (ht : HasTab w) :
    Calls Tryd.prog 3 #[.agg #[.int .i64 kd, .int .i64 nd, .slice a n cap]] w fun e w' => e = .returned (.bool true) ∧ Below w.heap.size w w' := by
  obtain ⟨hb0, hz0, hc⟩ := desc_box kd nd a n cap w
  obtain ⟨W0, hW0⟩ : ∃ W0, W0 = w.alloc (.cells #[.int .i64 kd, .int .i64 nd, .slice a n cap] 24) := ⟨_, rfl⟩
  rw [← hW0] at hb0 hz0 hc
  have HB0 := Lib.hid hb0
  have HC := Lib.hid hc
  have HROW : Hid (∀ W, Below W0.heap.size W0 W → RowOf (descRd k) 3 40 All W a n cap l) := Lib.hid fun W hb => hl.keep (descRd_ok _) (Fix.of_below (hb0.trans (hb.mono hb0.size)))
  have HM : Hid (∀ W, Below W0.heap.size W0 W → HasMax W) := Lib.hid fun W hb => (hx.below hb0).below hb
  have HTB : Hid (∀ W, Below W0.heap.size W0 W → HasTab W) := Lib.hid fun W hb => (ht.below hb0).below hb
  have HMU : Hid (∀ W, Below W0.heap.size W0 W → Calls Tryd.prog 5 #[.agg #[.int .i64 kd, .int .i64 nd, .slice a n cap]] W fun e w' => e = .returned (.bool (decide (80 < (DescV.mk kd nd l).nodes))) ∧ Below W0.heap.size W0 w') := Lib.hid fun W hb => (much_any k All kd nd l a n cap W (HROW.out W hb) hm).mono fun e w' h => ⟨h.1, hb.trans (h.2.mono hb.size)⟩
  have HLV : Hid (∀ W, Below W0.heap.size W0 W → Calls Tryd.prog 6 #[] W fun e w' => e = .returned (.bool true) ∧ Below W0.heap.size W0 w') := Lib.hid fun W hb => (live23 W (HM.out W hb) (HTB.out W hb)).mono fun e w' h => ⟨h.1, hb.trans (h.2.mono hb.size)⟩
  have HPR : Hid (∀ W, Below W0.heap.size W0 W → Calls Tryd.prog 7 #[.agg #[.int .i64 kd, .int .i64 nd, .slice a n cap]] W fun e w' => e = .returned (printD (.mk kd nd l)) ∧ Below W0.heap.size W0 w') := Lib.hid fun W hb => (print_any k All kd nd l a n cap W (HROW.out W hb) hm (HM.out W hb) (HTB.out W hb)).mono fun e w' h => ⟨h.1, hb.trans (h.2.mono hb.size)⟩
  have HCK : Hid (∀ W, Below W0.heap.size W0 W → Calls Tryd.prog 8 #[.agg #[.int .i64 kd, .int .i64 nd, .slice a n cap]] W fun e w' => e = .returned (.int .i64 (chkD (.mk kd nd l))) ∧ Below W0.heap.size W0 w') := Lib.hid fun W hb => (check_any k All kd nd l a n cap W (HROW.out W hb) hm).mono fun e w' h => ⟨h.1, hb.trans (h.2.mono hb.size)⟩
  have hbz := Below.refl W0.heap.size W0
  obtain ⟨t0, t1, t2⟩ := hc W0 hbz
  by_cases hmu : 80 < (DescV.mk kd nd l).nodes
  · rw [decide_eq_true hmu] at HMU
    clear hl hm hx ht hb0 hz0 hc hmu
    go_enter Tryd.func3, Tryd.ntmps3
    go_wp2_with (first
      | (rw [← hW0]; (go_at_call 5; (with_reducible refine (HMU.out _ hbz).mono ?_); rintro e w1 ⟨rfl, hb1⟩; have HB1 := Lib.hid hb1; clear hb1))
      | (go_at_call 6; (with_reducible refine (HLV.out _ HB1.out).mono ?_); rintro e w2 ⟨rfl, hb2⟩; have HB2 := Lib.hid hb2; clear hb2))
    go_ret
    exact ⟨rfl, HB0.out.trans (HB2.out.mono HB0.out.size)⟩
  rw [decide_eq_false hmu] at HMU
  have bad : ∀ z : Int, (z != 0) = true → printD (.mk kd nd l) = .tuple #[.string ⟨#[]⟩, .int .i64 z] → chkD (.mk kd nd l) = z → Calls Tryd.prog 3 #[.agg #[.int .i64 kd, .int .i64 nd, .slice a n cap]] w fun e w' => e = .returned (.bool true) ∧ Below w.heap.size w w' := by
    intro z hz hp hk
    rw [hp] at HPR
    rw [hk] at HCK
    have hzz : (z != z) = false := by simp
    clear hl hm hx ht hb0 hz0 hc hmu hp hk
    go_enter Tryd.func3, Tryd.ntmps3
    go_wp2_with (first
      | (rw [← hW0]; (go_at_call 5; (with_reducible refine (HMU.out _ hbz).mono ?_); rintro e w1 ⟨rfl, hb1⟩; have HB1 := Lib.hid hb1; clear t0 t1 t2; obtain ⟨t0, t1, t2⟩ := HC.out w1 hb1; clear hb1))
      | (go_at_call 7; (with_reducible refine (HPR.out _ HB1.out).mono ?_); rintro e w2 ⟨rfl, hb2⟩; have HB2 := Lib.hid hb2; clear t0 t1 t2; obtain ⟨t0, t1, t2⟩ := HC.out w2 hb2; clear hb2)
      | (go_at_call 8; (with_reducible refine (HCK.out _ HB2.out).mono ?_); rintro e w3 ⟨rfl, hb3⟩; have HB3 := Lib.hid hb3; clear t0 t1 t2; clear hb3)
      | (go_at_call 6; (with_reducible refine (HLV.out _ HB3.out).mono ?_); rintro e w4 ⟨rfl, hb4⟩; have HB4 := Lib.hid hb4; clear hb4))
    go_ret
    exact ⟨rfl, HB0.out.trans (HB4.out.mono HB0.out.size)⟩
  cases hbig : bigD (.mk kd nd l) with
  | true => exact bad 12 rfl (by rw [printD, if_pos hbig]) (by rw [chkD, if_pos hbig])
  | false =>
    have hnb : ¬ bigD (.mk kd nd l) = true := by rw [hbig]; decide
    cases htx : textD (.mk kd nd l) with
    | none =>
      refine bad 8 rfl (by rw [printD, if_neg hnb, htx]) ?_
      rw [chkD, if_neg hnb, if_neg]
      intro hall
      rw [textD_tok _ hall] at htx
      cases htx
    | some t =>
      rw [printD, if_neg hnb, htx] at HPR
      rw [chkD, if_neg hnb, if_pos (textD_heads _ _ htx)] at HCK
      have HPR : Hid (∀ W, Below W0.heap.size W0 W → Calls Tryd.prog 7 #[.agg #[.int .i64 kd, .int .i64 nd, .slice a n cap]] W fun e w' => e = .returned (.tuple #[.string (bs t), .int .i64 0]) ∧ Below W0.heap.size W0 w') := HPR
      have hlen := textD_len htx
      have htl : (bs t).size ≤ maxLen := by rw [size_bs]; unfold maxLen; omega
      have HPA : Hid (∀ W, Below W0.heap.size W0 W → Calls Tryd.prog 9 #[.string (bs t)] W fun e w' => ∃ a' m' c', e = .returned (.tuple #[.agg #[.int .i64 kd, .int .i64 nd, .slice a' m' c'], .int .i64 0]) ∧ RowOf (descRd 16384) 3 40 All w' a' m' c' l ∧ Below W0.heap.size W0 w') := Lib.hid fun W hb => (parse_any (bs t) W htl (HM.out W hb)).mono fun e w' h => by
        obtain ⟨a', m', c', he, hr, hb'⟩ := h
        rw [bs_inv, parseD_text htx hbig] at he hr
        exact ⟨a', m', c', he, hr.mono (descRd_ok _) (fun _ _ _ => trivial), hb.trans (hb'.mono hb.size)⟩
      have HTX : Hid (∀ W, Below W0.heap.size W0 W → Calls Tryd.prog 10 #[.agg #[.int .i64 kd, .int .i64 nd, .slice a n cap]] W fun e w' => e = .returned (.string (bs t)) ∧ Below W.heap.size W w') := Lib.hid fun W hb => rtext_any k All kd nd l a n cap W t (HROW.out W hb) hm htx
      have HSM : Hid (∀ W (a' : Option Addr) (m' c' : Nat), Below W0.heap.size W0 W → RowOf (descRd 16384) 3 40 All W a' m' c' l → Calls Tryd.prog 11 #[.agg #[.int .i64 kd, .int .i64 nd, .slice a' m' c'], .agg #[.int .i64 kd, .int .i64 nd, .slice a n cap]] W fun e w' => e = .returned (.bool true) ∧ Below W0.heap.size W0 w') := Lib.hid fun W a' m' c' hb hr => by
        have h := rsame_any (max k 16384) All All kd nd kd nd l l a' a m' n c' cap W (hr.imp fun _ _ h => descRd_mono (Nat.le_max_right _ _) h) ((HROW.out W hb).imp fun _ _ h => descRd_mono (Nat.le_max_left _ _) h)
        rw [cmpD_self] at h
        exact h.mono fun e w' h => ⟨h.1, hb.trans (h.2.mono hb.size)⟩
      clear bad hl hm hx ht hb0 hz0 hc hmu htx hlen htl hnb hbig
      generalize bs t = st at *
      have hss : (st.toList == st.toList) = true := by simp
      go_enter Tryd.func3, Tryd.ntmps3
      go_upto_region 10 with (first
        | (rw [← hW0]; (go_at_call 5; (with_reducible refine (HMU.out _ hbz).mono ?_); rintro e w1 ⟨rfl, hb1⟩; have HB1 := Lib.hid hb1; clear t0 t1 t2; obtain ⟨t0, t1, t2⟩ := HC.out w1 hb1; clear hb1))
        | (go_at_call 7; (with_reducible refine (HPR.out _ HB1.out).mono ?_); rintro e w2 ⟨rfl, hb2⟩; have HB2 := Lib.hid hb2; clear t0 t1 t2; obtain ⟨t0, t1, t2⟩ := HC.out w2 hb2; clear hb2)
        | (go_at_call 8; (with_reducible refine (HCK.out _ HB2.out).mono ?_); rintro e w3 ⟨rfl, hb3⟩; have HB3 := Lib.hid hb3; clear t0 t1 t2; clear hb3)
        | (go_at_call 9; (with_reducible refine (HPA.out _ HB3.out).mono ?_); rintro e w4 ⟨a4, m4, c4, rfl, hr4, hb4⟩; have HB4 := Lib.hid hb4; have HR4 := Lib.hid hr4; clear hb4 hr4))
      obtain ⟨W5, hW5⟩ : ∃ W5, W5 = w4.alloc (.cells #[.int .i64 kd, .int .i64 nd, .slice a4 m4 c4] 24) := ⟨_, rfl⟩
      have hb45 : Below w4.heap.size w4 W5 := by rw [hW5]; exact (Below.refl _ _).alloc (Nat.le_refl _) _
      have HG5 : Hid (W5.heap[w4.heap.size]? = some (.cells #[.int .i64 kd, .int .i64 nd, .slice a4 m4 c4] 24 (0, 0))) := Lib.hid (by rw [hW5]; exact heap_alloc_new w4 _)
      have HB5 := Lib.hid (HB4.out.trans (hb45.mono HB4.out.size))
      have HR5 := Lib.hid (HR4.out.keep (descRd_ok _) (Fix.of_below hb45))
      rw [← hW5]
      clear hW5 hb45
      obtain ⟨t0, t1, t2⟩ := HC.out W5 HB5.out
      go_wp2_with (first
        | (go_at_call 10; (with_reducible refine ((HTX.out _ HB5.out)).mono ?_); rintro e w6 ⟨rfl, hb6⟩; have HB6 := Lib.hid (HB5.out.trans (hb6.mono HB5.out.size)); have HR6 := Lib.hid (HR5.out.keep (descRd_ok _) (Fix.of_below hb6)); have HG6 := Lib.hid ((hb6.block _ (Array.getElem?_eq_some_iff.1 HG5.out).1).trans HG5.out); clear hb6 t0 t1 t2; obtain ⟨t0, t1, t2⟩ := HC.out w6 HB6.out; have v0 := cell_at (o := 0) HG6.out rfl; have v1 := cell_at (o := 1) HG6.out rfl; have v2 := cell_at (o := 2) HG6.out rfl)
        | (go_at_call 11; (with_reducible refine (HSM.out _ _ _ _ HB6.out HR6.out).mono ?_); rintro e w7 ⟨rfl, hb7⟩; have HB7 := Lib.hid hb7; clear hb7)
        | (go_at_call 6; (with_reducible refine (HLV.out _ HB7.out).mono ?_); rintro e w8 ⟨rfl, hb8⟩; have HB8 := Lib.hid hb8; clear hb8))
      go_ret
      exact ⟨rfl, HB0.out.trans (HB8.out.mono HB0.out.size)⟩
set_option maxRecDepth 100000 in
/-- What came in, opened. -/
theorem prints23_open {H : Type} {enc : TypeId × Value → H} {w : World} {b0 : Nat} {s0 : Nat → Bool} {e0 : Bool} {v0 : Value} {d0 : DataW H} {p0 : List MemPlace} {ww : World} {rr : Reach} {bb : Nat}
    (hv0 : Value.okWide Tryd.prog ww rr bb 24 v0) (h0 : DataW.Trod enc Tryd.prog w b0 s0 e0 24 v0 d0 p0) (q0 : ∀ q ∈ DataW.weights Tryd.prog 24 d0, q ≤ reachBytes) (hb : Rows.uptoBulk d0 ≤ 1048576) (hx : HasMax w) (ht : HasTab w) :
    Calls Tryd.prog 3 #[v0] w fun e w' => e = .returned (.bool true) ∧ Below w.heap.size w w' := by
  obtain ⟨f0, h0⟩ := h0
  obtain ⟨cs, rfl, _⟩ := Go.WideShapes.okWide_struct Tryd.underlying24 hv0
  obtain ⟨d, hd, hm⟩ := (ob_desc (f0 + 1)).get enc w b0 s0 e0 f0 _ _ (by omega) h0 q0
  obtain ⟨a, n, c, e, _, _, hr⟩ := hd
  have hcs : cs = #[.int .i64 d.kind, .int .i64 d.n, .slice a n c] := Array.toList_inj.1 e
  subst hcs
  have hn := DescV.nodes_kids d
  have hm' : d.nodes ≤ Rows.uptoBulk d0 := hm
  exact prints23 f0 d.kind d.n d.kids a n c w hr (by omega) hx ht
end Go.Proofs.YtoiclfcgcgdfhaaDoor.Lex
