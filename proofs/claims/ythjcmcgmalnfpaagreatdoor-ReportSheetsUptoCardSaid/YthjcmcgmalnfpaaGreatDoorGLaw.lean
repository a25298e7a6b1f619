/- GreatS, Law43S, OpenS43: laid into one text. -/
import Derived.Test.YthjcmcgmalnfpaaGreatDoorGreat43
import Derived.Test.YthjcmcgmalnfpaaGreatDoorGOp
import Derived.Test.YthjcmcgmalnfpaaGreatDoorLive43
import Derived.Test.YthjcmcgmalnfpaaGreatDoorGAll
import Derived.Test.YthjcmcgmalnfpaaGreatDoorLine
import Derived.OrdersHeld
import Derived.Test.YthjcmcgmalnfpaaGreatDoorOpV
import Derived.Laws.IdiomArrays
/- Are calls more than statements ask? -/
namespace Go.Proofs.YthjcmcgmalnfpaaGreatDoor.Lex
open Go.RowKit
set_option linter.unusedSimpArgs false
set_option linter.unusedVariables false
/-- Calls as they lie in a row, ahead of the guard. -/
structure PreAt (k : Nat) (F : Foot) (w : World) (a : Option Addr) (i : Nat) (e : OC) : Prop where
  lies : ∃ g off, a = some ⟨g, off, none⟩ ∧ g < w.heap.size ∧ w.rangeAt g (off + i * 19) e.cells
  row : RowOf (descRd k) 3 40 F w e.da e.dm e.dc e.o.dl
  nd : DescV.nodesL e.o.dl < 1048576
def CalmAll (l : List OC) : Prop := l.length ≤ 30 ∧ ∀ e ∈ l, e.o.Calm
def GreatAll (l : List OC) (w : World) (e : Ending) (w' : World) : Prop := (∃ g, e = .returned (.bool g) ∧ (g = false ↔ CalmAll l)) ∧ Below w.heap.size w w'
set_option maxRecDepth 100000 in
set_option maxHeartbeats 4000000 in
theorem great_all (k : Nat) (F : Foot) (l : List OC) (a : Option Addr) (cap : Nat) (w : World) (h : ∀ i (hi : i < l.length), PreAt k F w a i (l[i]'hi)) (hn : l.length ≤ 1099511627776) :
    Calls Tryz.prog 4 #[.slice a l.length cap] w (GreatAll l w) := by
  have HP := Lib.hid h
  clear h
  go_enter Tryz.func4, Tryz.ntmps4
  go_wp2_with fail
  go_loopg [3] l.length (fun g iv wr => ∃ i : Nat, i ≤ l.length ∧ g = l.length - i ∧ iv = .int .i64 i ∧ (∀ e ∈ l.take i, e.o.Calm) ∧ Below w.heap.size w wr)
  case atStart => exact ⟨0, by omega, rfl, rfl, by simp, Below.refl _ _⟩
  case round =>
    obtain ⟨i, hi, rfl, rfl, hcm, hB⟩ := hrel
    obtain ⟨wo, rfl⟩ : ∃ wo : World, wo = wr := ⟨_, rfl⟩
    have HB := Lib.hid hB
    have HCM := Lib.hid hcm
    clear hB hcm
    by_cases hlt : i < l.length
    · have hlti : (i : Int) < (l.length : Int) := by omega
      by_cases h60 : i < 60
      · have h60i : (i : Int) < 60 := by omega
        obtain ⟨g, off, hgo, hg, hrg0⟩ := (HP.out i hlt).lies
        subst hgo
        have HROW := Lib.hid ((HP.out i hlt).row.keep (descRd_ok _) (Fix.of_below HB.out))
        have HND := Lib.hid (HP.out i hlt).nd
        have HMEM := Lib.hid (List.getElem_mem hlt)
        have HTK := Lib.hid (List.take_succ_eq_append_getElem hlt)
        generalize l[i]'hlt = x at *
        have t5 := (HB.out.cell (p := ⟨g, off + i * 19 + 5, none⟩) hg).trans (hrg0 5 _ rfl)
        have t8 := (HB.out.cell (p := ⟨g, off + i * 19 + 8, none⟩) hg).trans (hrg0 8 _ rfl)
        have t16 := (HB.out.cell (p := ⟨g, off + i * 19 + 16, none⟩) hg).trans (hrg0 16 _ rfl)
        have t10 := (HB.out.cell (p := ⟨g, off + i * 19 + 10, none⟩) hg).trans (hrg0 10 _ rfl)
        have t11 := (HB.out.cell (p := ⟨g, off + i * 19 + 11, none⟩) hg).trans (hrg0 11 _ rfl)
        have t12 := (HB.out.cell (p := ⟨g, off + i * 19 + 12, none⟩) hg).trans (hrg0 12 _ rfl)
        obtain ⟨⟨who, at_, ki, kn, kd, tx, ow, oa, xs, e, dk, dn, dl, n, li, tt, ys, fr, tz⟩, xa, xc, da, dm, dc, ya, yc⟩ := x
        have HMU : Hid (Calls Tryz.prog 11 #[.agg #[.int .i64 dk, .int .i64 dn, .slice da dm dc]] wo fun e w' => e = .returned (.bool (decide (80 < (DescV.mk dk dn dl).nodes))) ∧ Below wo.heap.size wo w') := Lib.hid (much_any k F dk dn dl da dm dc wo HROW.out HND.out)
        have HBAD : Hid (¬ OpD.Calm ⟨who, at_, ki, kn, kd, tx, ow, oa, xs, e, dk, dn, dl, n, li, tt, ys, fr, tz⟩ → GreatAll l w (.returned (.bool true)) wo) := Lib.hid fun h => ⟨⟨true, rfl, fun h => (by cases h), fun h2 => (h (h2.2 _ HMEM.out)).elim⟩, HB.out⟩
        obtain ⟨n1, hn1⟩ : ∃ n1, n1 = xs.length := ⟨_, rfl⟩
        obtain ⟨n2, hn2⟩ : ∃ n2, n2 = ys.length := ⟨_, rfl⟩
        have s8 : wo.cell? ⟨g, off + i * 19 + 8, none⟩ = some (.slice xa n1 xc) := by rw [hn1]; exact t8
        have s16 : wo.cell? ⟨g, off + i * 19 + 16, none⟩ = some (.slice ya n2 yc) := by rw [hn2]; exact t16
        have s5 : wo.cell? ⟨g, off + i * 19 + 5, none⟩ = some (.string tx) := t5
        have s10 : wo.cell? ⟨g, off + i * 19 + 10, none⟩ = some (.int .i64 dk) := t10
        have s11 : wo.cell? ⟨g, off + i * 19 + 11, none⟩ = some (.int .i64 dn) := t11
        have s12 : wo.cell? ⟨g, off + i * 19 + 12, none⟩ = some (.slice da dm dc) := t12
        have HN1 := Lib.hid hn1
        have HN2 := Lib.hid hn2
        clear t5 t8 t16 t10 t11 t12 hrg0 hn1 hn2
        by_cases h500 : 500 < tx.size
        · have h500i : (500 : Int) < (tx.size : Int) := by omega
          have HG := Lib.hid (HBAD.out fun h => by have h1 : tx.size ≤ 500 := h.1; omega)
          go_wp2_with fail
          go_ret
          exact HG.out
        · have h500i : ¬ (500 : Int) < (tx.size : Int) := by omega
          by_cases hx : 100 < n1
          · have hxi : (100 : Int) < (n1 : Int) := by omega
            have HG := Lib.hid (HBAD.out fun h => by have h1 : xs.length ≤ 100 := h.2.1; have := HN1.out; omega)
            go_wp2_with fail
            go_ret
            exact HG.out
          · have hxi : ¬ (100 : Int) < (n1 : Int) := by omega
            by_cases hy : 100 < n2
            · have hyi : (100 : Int) < (n2 : Int) := by omega
              have HG := Lib.hid (HBAD.out fun h => by have h1 : ys.length ≤ 100 := h.2.2.1; have := HN2.out; omega)
              go_wp2_with fail
              go_ret
              exact HG.out
            · have hyi : ¬ (100 : Int) < (n2 : Int) := by omega
              by_cases hm : 80 < (DescV.mk dk dn dl).nodes
              · rw [decide_eq_true hm] at HMU
                have HG := Lib.hid (HBAD.out fun h => by have h1 : (DescV.mk dk dn dl).nodes ≤ 80 := h.2.2.2; omega)
                clear hm
                go_wp2_with (go_at_call 11; (with_reducible refine HMU.out.mono ?_); rintro e w2 ⟨rfl, hb2⟩; have HB2 := Lib.hid hb2; clear hb2)
                go_ret
                exact ⟨HG.out.1, HB.out.trans (HB2.out.mono HB.out.size)⟩
              · rw [decide_eq_false hm] at HMU
                have HCA : Hid (OpD.Calm ⟨who, at_, ki, kn, kd, tx, ow, oa, xs, e, dk, dn, dl, n, li, tt, ys, fr, tz⟩) := Lib.hid ⟨by show tx.size ≤ 500; omega, by show xs.length ≤ 100; have := HN1.out; omega, by show ys.length ≤ 100; have := HN2.out; omega, by show (DescV.mk dk dn dl).nodes ≤ 80; omega⟩
                clear hm
                go_wp2_with (go_at_call 11; (with_reducible refine HMU.out.mono ?_); rintro e w2 ⟨rfl, hb2⟩; have HB2 := Lib.hid hb2; clear hb2)
                go_roundg (l.length - (i + 1))
                case measure => omega
                case rel =>
                  refine ⟨i + 1, by omega, rfl, by go_num, fun e he => ?_, HB.out.trans (HB2.out.mono HB.out.size)⟩
                  rw [HTK.out] at he
                  rcases List.mem_append.1 he with he | he
                  · exact HCM.out e he
                  · rw [List.mem_singleton.1 he]; exact HCA.out
      · have h60i : ¬ (i : Int) < 60 := by omega
        have hl30 : 30 < l.length := by omega
        have hl30i : (30 : Int) < (l.length : Int) := by omega
        have HG : Hid (GreatAll l w (.returned (.bool true)) wo) := Lib.hid ⟨⟨true, rfl, fun h => (by cases h), fun h2 => (by have := h2.1; omega)⟩, HB.out⟩
        go_wp2_with fail
        go_ret
        exact HG.out
    · have hni : i = l.length := by omega
      have hlti : ¬ (i : Int) < (l.length : Int) := by omega
      have HCA : Hid (∀ e ∈ l, e.o.Calm) := Lib.hid fun e he => HCM.out e (by rw [List.take_of_length_le (by omega)]; exact he)
      clear hni
      by_cases h30 : 30 < l.length
      · have h30i : (30 : Int) < (l.length : Int) := by omega
        have HG : Hid (GreatAll l w (.returned (.bool true)) wo) := Lib.hid ⟨⟨true, rfl, fun h => (by cases h), fun h2 => (by have := h2.1; omega)⟩, HB.out⟩
        go_wp2_with fail
        go_ret
        exact HG.out
      · have h30i : ¬ (30 : Int) < (l.length : Int) := by omega
        have HG : Hid (GreatAll l w (.returned (.bool false)) wo) := Lib.hid ⟨⟨false, rfl, fun _ => ⟨by omega, HCA.out⟩, fun _ => rfl⟩, HB.out⟩
        go_wp2_with fail
        go_ret
        exact HG.out
end Go.Proofs.YthjcmcgmalnfpaaGreatDoor.Lex
/- The law ReportSheets, walked (printed by tools/mk_law43s.py). -/
namespace Go.Proofs.YthjcmcgmalnfpaaGreatDoor.Lex
open Go.RowKit
set_option linter.unusedSimpArgs false
set_option linter.unusedVariables false
/-- What calls show, ahead of the guard: what calm ones will show. -/
structure OcPre (k : Nat) (w : World) (a : Option Addr) (i : Nat) (e : OC) : Prop where
  pre : PreAt k All w a i e
  calm : e.o.Calm → OcIn k All w e
theorem oc_row {k : Nat} {w : World} {a : Option Addr} {l : List OC} (h : ∀ i (hi : i < l.length), OcPre k w a i (l[i]'hi)) (hc : ∀ e ∈ l, e.o.Calm) : OcRow k All w a l := fun i hi => by
  obtain ⟨g, off, h1, h2, h3⟩ := (h i hi).pre.lies
  exact ⟨g, off, h1, h2, h3, (h i hi).calm (hc _ (List.getElem_mem hi))⟩
/-- The text's parts, as the statement puts them together. -/
theorem want_text (s : Sh) : (((((((((opsT s.M ++ [112, 101, 110, 100, 105, 110, 103, 32]) ++ Lib.itoa s.p) ++ [10, 109, 101, 97, 115, 117, 114, 101, 100, 32]) ++ Lib.itoa s.m) ++ [32, 98, 117, 105, 108, 116, 32]) ++ Lib.itoa s.bu) ++ [32, 105, 110, 115, 101, 114, 116, 101, 100, 32]) ++ Lib.itoa s.ins) ++ [10]) ++ keptT s.K ++ [107, 110, 111, 119, 110, 32] ++ Lib.itoa s.nk ++ [10] ++ tabT s.T s.U = s.text := by
  simp [Sh.text, Sh.t5, Sh.t4, Sh.t3, Sh.t2, Sh.t1, partsT, Part.text]
theorem lfs_take {l : List UInt8} {i : Nat} (h : i < l.length) : lfs (l.take (i + 1)) = lfs (l.take i) + if l[i]'h = 10 then 1 else 0 := by
  rw [List.take_succ_eq_append_getElem h, lfs_app]
  congr 1
  unfold lfs
  by_cases e : l[i]'h = 10
  · simp [e]
  · simp [e]
set_option maxRecDepth 100000 in
set_option maxHeartbeats 16000000 in
theorem sheets_law (k : Nat) (l : List OC) (K : List (List KeyV)) (T : List NameV) (U : List Int) (p m bu ins : Int) (nk : Nat) (oa : Option Addr) (oc : Nat) (na : Option Addr) (nc : Nat) (ka : Option Addr) (kc : Nat) (ta : Option Addr) (tc : Nat) (ua : Option Addr) (uc : Nat) (w : World)
    (hl : ∀ i (hi : i < l.length), OcPre k w oa i (l[i]'hi)) (hln : l.length ≤ 1099511627776) (hK : RowOf (Rd.slice keyRd 2 16) 1 24 All w ka K.length kc K) (hT : RowOf nameRd 4 32 All w ta T.length tc T) (hU : RowOf (Rd.int .i64) 1 8 All w ua U.length uc U)
    (hp : InI p) (hm : InI m) (hbu : InI bu) (hins : InI ins) (hnk : nk ≤ 4398046511104) (hW : HasWords w) (hx : HasMax w) (ht : HasTab w) :
    Calls Tryz.prog 3 #[.agg #[.slice oa l.length oc, .int .i64 p, .int .i64 m, .int .i64 bu, .int .i64 ins, .slice ka K.length kc, .slice na nk nc, .slice ta T.length tc, .slice ua U.length uc]] w fun e w' => e = .returned (.bool true) ∧ Below w.heap.size w w' := by
  obtain ⟨W0, hW0⟩ : ∃ W0, W0 = w.alloc (.cells #[.slice oa l.length oc, .int .i64 p, .int .i64 m, .int .i64 bu, .int .i64 ins, .slice ka K.length kc, .slice na nk nc, .slice ta T.length tc, .slice ua U.length uc] 29) := ⟨_, rfl⟩
  have hb0 : Below w.heap.size w W0 := by rw [hW0]; exact (Below.refl _ _).alloc (Nat.le_refl _) _
  have g0 : W0.heap[w.heap.size]? = some (.cells #[.slice oa l.length oc, .int .i64 p, .int .i64 m, .int .i64 bu, .int .i64 ins, .slice ka K.length kc, .slice na nk nc, .slice ta T.length tc, .slice ua U.length uc] 29 (0, 0)) := by rw [hW0]; exact heap_alloc_new w _
  have hz0 : w.heap.size < W0.heap.size := (Array.getElem?_eq_some_iff.1 g0).1
  have HCC : Hid (∀ W, Below W0.heap.size W0 W → W.cell? ⟨w.heap.size, 0, none⟩ = some (.slice oa l.length oc) ∧ W.cell? ⟨w.heap.size, 1, none⟩ = some (.int .i64 p) ∧ W.cell? ⟨w.heap.size, 2, none⟩ = some (.int .i64 m) ∧ W.cell? ⟨w.heap.size, 3, none⟩ = some (.int .i64 bu) ∧ W.cell? ⟨w.heap.size, 4, none⟩ = some (.int .i64 ins) ∧ W.cell? ⟨w.heap.size, 5, none⟩ = some (.slice ka K.length kc) ∧ W.cell? ⟨w.heap.size, 6, none⟩ = some (.slice na nk nc) ∧ W.cell? ⟨w.heap.size, 7, none⟩ = some (.slice ta T.length tc) ∧ W.cell? ⟨w.heap.size, 8, none⟩ = some (.slice ua U.length uc)) := Lib.hid fun W hb => by
    have g := (hb.block _ hz0).trans g0
    exact ⟨cell_at g rfl, cell_at g rfl, cell_at g rfl, cell_at g rfl, cell_at g rfl, cell_at g rfl, cell_at g rfl, cell_at g rfl, cell_at g rfl⟩
  have HLV : Hid (∀ W, Below W0.heap.size W0 W → Calls Tryz.prog 5 #[] W fun e w' => e = .returned (.bool true) ∧ Below W0.heap.size W0 w') := Lib.hid fun W hb =>
    (live43 W ((hW.below hb0).below hb) ((hx.below hb0).below hb) ((ht.below hb0).below hb)).mono fun e w' h => ⟨h.1, hb.trans (h.2.mono hb.size)⟩
  have HGR : Hid (∀ g : Bool, (g = false ↔ CalmAll l) → Calls Tryz.prog 4 #[.slice oa l.length oc] W0 fun e w' => e = .returned (.bool g) ∧ Below W0.heap.size W0 w') := Lib.hid fun g hg => by
    refine (great_all k All l oa oc W0 (fun i hi => ?_) hln).mono ?_
    · have h := (hl i hi).pre
      obtain ⟨g, off, h1, h2, h3⟩ := h.lies
      exact ⟨⟨g, off, h1, Nat.lt_of_lt_of_le h2 hb0.size, fun j v hj => (hb0.cell (p := ⟨g, off + i * 19 + j, none⟩) h2).trans (h3 j v hj)⟩, h.row.keep (descRd_ok _) (Fix.of_below hb0), h.nd⟩
    · rintro e w' ⟨⟨g', rfl, hg'⟩, hb⟩
      refine ⟨?_, hb⟩
      have : g' = g := by
        cases g <;> cases g' <;> simp_all
      rw [this]
  have HB0 := Lib.hid hb0
  have hbz := Below.refl W0.heap.size W0
  obtain ⟨b0, b1, b2, b3, b4, b5, b6, b7, b8⟩ := HCC.out W0 hbz
  by_cases hcalm : CalmAll l
  rotate_left
  · have HG := Lib.hid (HGR.out true ⟨fun h => (by cases h), fun h => (hcalm h).elim⟩)
    clear hcalm HGR hl hK hT hU hb0 g0
    go_enter Tryz.func3, Tryz.ntmps3
    go_upto_region 1 with fail
    rw [← hW0]
    clear hW0
    go_wp2_with (first
      | (go_at_call 4; (with_reducible refine HG.out.mono ?_); rintro e w1 ⟨rfl, hb1⟩; have HB1 := Lib.hid hb1; obtain ⟨b0, b1, b2, b3, b4, b5, b6, b7, b8⟩ := HCC.out w1 hb1; clear hb1)
      | (go_at_call 5; (with_reducible refine (HLV.out _ HB1.out).mono ?_); rintro e w2 ⟨rfl, hb2⟩; have HB2 := Lib.hid hb2; clear hb2))
    go_ret
    exact ⟨rfl, HB0.out.trans (HB2.out.mono HB0.out.size)⟩
  have HG := Lib.hid (HGR.out false ⟨fun _ => hcalm, fun _ => rfl⟩)
  clear HGR
  by_cases hk30 : 30 < K.length
  · have hk30i : (30 : Int) < (K.length : Int) := by omega
    clear hcalm hl hK hT hU hb0 g0
    go_enter Tryz.func3, Tryz.ntmps3
    go_upto_region 1 with fail
    rw [← hW0]
    clear hW0
    go_wp2_with (first
      | (go_at_call 4; (with_reducible refine HG.out.mono ?_); rintro e w1 ⟨rfl, hb1⟩; have HB1 := Lib.hid hb1; obtain ⟨b0, b1, b2, b3, b4, b5, b6, b7, b8⟩ := HCC.out w1 hb1; clear hb1)
      | (go_at_call 5; (with_reducible refine (HLV.out _ HB1.out).mono ?_); rintro e w2 ⟨rfl, hb2⟩; have HB2 := Lib.hid hb2; clear hb2))
    go_ret
    exact ⟨rfl, HB0.out.trans (HB2.out.mono HB0.out.size)⟩
  have hk30i : ¬ (30 : Int) < (K.length : Int) := by omega
  by_cases ht60 : 60 < T.length
  · have ht60i : (60 : Int) < (T.length : Int) := by omega
    clear hcalm hl hK hT hU hb0 g0
    go_enter Tryz.func3, Tryz.ntmps3
    go_upto_region 1 with fail
    rw [← hW0]
    clear hW0
    go_wp2_with (first
      | (go_at_call 4; (with_reducible refine HG.out.mono ?_); rintro e w1 ⟨rfl, hb1⟩; have HB1 := Lib.hid hb1; obtain ⟨b0, b1, b2, b3, b4, b5, b6, b7, b8⟩ := HCC.out w1 hb1; clear hb1)
      | (go_at_call 5; (with_reducible refine (HLV.out _ HB1.out).mono ?_); rintro e w2 ⟨rfl, hb2⟩; have HB2 := Lib.hid hb2; clear hb2))
    go_ret
    exact ⟨rfl, HB0.out.trans (HB2.out.mono HB0.out.size)⟩
  have ht60i : ¬ (60 : Int) < (T.length : Int) := by omega
  by_cases hn60 : 60 < nk
  · have hn60i : (60 : Int) < (nk : Int) := by omega
    clear hcalm hl hK hT hU hb0 g0
    go_enter Tryz.func3, Tryz.ntmps3
    go_upto_region 1 with fail
    rw [← hW0]
    clear hW0
    go_wp2_with (first
      | (go_at_call 4; (with_reducible refine HG.out.mono ?_); rintro e w1 ⟨rfl, hb1⟩; have HB1 := Lib.hid hb1; obtain ⟨b0, b1, b2, b3, b4, b5, b6, b7, b8⟩ := HCC.out w1 hb1; clear hb1)
      | (go_at_call 5; (with_reducible refine (HLV.out _ HB1.out).mono ?_); rintro e w2 ⟨rfl, hb2⟩; have HB2 := Lib.hid hb2; clear hb2))
    go_ret
    exact ⟨rfl, HB0.out.trans (HB2.out.mono HB0.out.size)⟩
  have hn60i : ¬ (60 : Int) < (nk : Int) := by omega
  have HL := Lib.hid (oc_row hl hcalm.2)
  have HCA := Lib.hid hcalm
  have HK := Lib.hid hK
  have HT := Lib.hid hT
  have HU := Lib.hid hU
  have HIN := Lib.hid (And.intro hp (And.intro hm (And.intro hbu hins)))
  have HKT := Lib.hid (And.intro hW (And.intro hx ht))
  clear hl hcalm hK hT hU hp hm hbu hins hW hx ht g0 hb0
  go_enter Tryz.func3, Tryz.ntmps3
  go_upto_region 1 with fail
  rw [← hW0]
  clear hW0
  go_wp2_with (go_at_call 4; (with_reducible refine HG.out.mono ?_); rintro e w1 ⟨rfl, hb1⟩; have HB1 := Lib.hid hb1; obtain ⟨b0, b1, b2, b3, b4, b5, b6, b7, b8⟩ := HCC.out w1 hb1; clear hb1)
  clear b0 b1 b2 b3 b4 b5 b6 b7 b8 HG
  go_loopg [3] K.length (fun g iv wr => ∃ i : Nat, i ≤ K.length ∧ g = K.length - i ∧ iv = .int .i64 i ∧ (∀ ks ∈ K.take i, ks.length ≤ 60) ∧ Below W0.heap.size W0 wr)
  case atStart => exact ⟨0, by omega, rfl, rfl, by simp, HB1.out⟩
  case round =>
    obtain ⟨i, hi, rfl, rfl, hkk, hst⟩ := hrel
    obtain ⟨wo, rfl⟩ : ∃ wo : World, wo = wr := ⟨_, rfl⟩
    have HST := Lib.hid hst
    have HKK := Lib.hid hkk
    obtain ⟨b0, b1, b2, b3, b4, b5, b6, b7, b8⟩ := HCC.out wo hst
    clear hst hkk
    by_cases hlt : i < K.length
    · have hlti : (i : Int) < (K.length : Int) := by omega
      obtain ⟨b, off, ia, im, ic, hka, hbz', ck0, hks⟩ := row_keys HK.out i hlt
      subst hka
      have ck : wo.cell? ⟨b, off + i, none⟩ = some (.slice ia im ic) := (HST.out.cell (p := ⟨b, off + i, none⟩) (Nat.lt_of_lt_of_le hbz' HB0.out.size)).trans ((HB0.out.cell (p := ⟨b, off + i, none⟩) hbz').trans ck0)
      have HTK := Lib.hid (List.take_succ_eq_append_getElem hlt)
      have hml := hks.len
      by_cases h60 : 60 < im
      · have h60i : (60 : Int) < (im : Int) := by omega
        clear ck0 hks hml
        go_wp2_with (go_at_call 5; (with_reducible refine (HLV.out _ HST.out).mono ?_); rintro e w2 ⟨rfl, hb2⟩; have HB2 := Lib.hid hb2; clear hb2)
        go_ret
        exact ⟨rfl, HB0.out.trans (HB2.out.mono HB0.out.size)⟩
      · have h60i : ¬ (60 : Int) < (im : Int) := by omega
        have HM6 : Hid ((K[i]'hlt).length ≤ 60) := Lib.hid (by omega)
        clear ck0 hks hml
        go_wp2_with fail
        go_roundg (K.length - (i + 1))
        case measure => omega
        case rel =>
          refine ⟨i + 1, by omega, rfl, by go_num, fun ks hks => ?_, HST.out⟩
          rw [HTK.out] at hks
          rcases List.mem_append.1 hks with hks | hks
          · exact HKK.out ks hks
          · rw [List.mem_singleton.1 hks]; exact HM6.out
    · have hni : i = K.length := by omega
      have hlti : ¬ (i : Int) < (K.length : Int) := by omega
      have HKL : Hid (∀ (j : Nat) (ks : List KeyV), K[j]? = some ks → ks.length ≤ 60) := Lib.hid fun j ks h => HKK.out ks (by rw [List.take_of_length_le (by omega)]; exact List.mem_of_getElem? h)
      clear hni HKK
      obtain ⟨s, hs⟩ : ∃ s : Sh, s = ⟨sortO (l.map (·.o)), p, m, bu, ins, K, nk, T, U⟩ := ⟨_, rfl⟩
      have HOL : Hid (∀ o ∈ sortO (l.map (·.o)), (opL o).length ≤ 21100000) := Lib.hid fun o ho => by
        have hoo : Stab.Ord fun x y : OpD => StabW.ltW x.fr y.fr := Stab.ord_by StabW.ltW_ord fun x : OpD => x.fr
        have h := (Stab.Same.symm (Stab.isort_spec hoo (l.map (·.o))).2).mem hoo ho
        obtain ⟨e, he, rfl⟩ := List.mem_map.1 h
        obtain ⟨j, hj, rfl⟩ := List.getElem_of_mem he
        obtain ⟨_, _, _, _, _, h⟩ := HL.out j hj
        exact opL_len h.core
      have HLEN : Hid (s.text.length ≤ 4294967296) := Lib.hid (by
        have a1 : (opsT (sortO (l.map (·.o)))).length ≤ 21100001 * 30 := by
          refine Nat.le_trans (opsT_len HOL.out) (Nat.mul_le_mul_left _ ?_)
          rw [sortO_len, List.length_map]; exact HCA.out.1
        have a2 : (keptT K).length ≤ 4096 * 30 := Nat.le_trans (textN_len (B := 4096) fun j hj => by
          have h1 := HKL.out j _ (List.getElem?_eq_getElem hj)
          have h2 : K.getD j [] = K[j]'hj := by rw [List.getD_eq_getElem?_getD, List.getElem?_eq_getElem hj]; rfl
          obtain ⟨_, _, _, _, _, _, _, _, hks⟩ := row_keys HK.out j hj
          have h3 : (keysT (K[j]'hj)).length ≤ 44 * (K[j]'hj).length := keysT_len fun q hq => by
            obtain ⟨t, ht, rfl⟩ := List.getElem_of_mem hq
            obtain ⟨_, _, _, _, _, _, h1, h2⟩ := row_key hks t ht
            exact ⟨h1, h2⟩
          have h4 := itoa_len (n := (j : Int)) ⟨by omega, by omega⟩
          rw [h2]
          simp only [keptR, partsT, List.flatMap_cons, List.flatMap_nil, Part.text, List.length_append, List.length_cons, List.length_nil]
          omega) (Nat.mul_le_mul_left _ (by omega))
        have a3 : (tabT T U).length ≤ 256 * 60 := Nat.le_trans (textN_len (B := 256) fun j hj => by
          have h2 : T.getD j (0, 0, 0, 0) = T[j]'hj := by rw [List.getD_eq_getElem?_getD, List.getElem?_eq_getElem hj]; rfl
          obtain ⟨_, _, _, _, _, i1, i2, i3, i4⟩ := row_name HT.out j hj
          have c1 := itoa_len i1
          have c2 := itoa_len i2
          have c3 := itoa_len i3
          have c4 := itoa_len i4
          have c5 : (usesT U[j]?).length ≤ 20 := by
            cases hu : U[j]? with
            | none => show 1 ≤ 20; omega
            | some v =>
              obtain ⟨hu1, hu2⟩ := List.getElem?_eq_some_iff.1 hu
              obtain ⟨_, _, _, _, _, _, hwf⟩ := HU.out.int j hu1
              rw [hu2] at hwf
              exact itoa_len (wf_i64 hwf)
          rw [h2]
          simp only [tabR, partsT, List.flatMap_cons, List.flatMap_nil, Part.text, List.length_append, List.length_cons, List.length_nil]
          omega) (Nat.mul_le_mul_left _ (by omega))
        have b1 := itoa_len HIN.out.1
        have b2 := itoa_len HIN.out.2.1
        have b3 := itoa_len HIN.out.2.2.1
        have b4 := itoa_len HIN.out.2.2.2
        have b5 := itoa_len (n := (nk : Int)) ⟨by omega, by omega⟩
        rw [hs]
        simp only [Sh.text, Sh.t5, Sh.t4, Sh.t3, Sh.t2, Sh.t1, partsT, List.flatMap_cons, List.flatMap_nil, Part.text, List.length_append, List.length_cons, List.length_nil]
        omega)
      have HLF : Hid (lfs s.text = l.length + K.length + T.length + 3) := Lib.hid (by
        rw [s.lfs, hs]
        show (sortO (l.map (·.o))).length + _ + _ + 3 = _
        rw [sortO_len, List.length_map])
      obtain ⟨st, hst⟩ : ∃ st, bs s.text = st := ⟨_, rfl⟩
      obtain ⟨W8, hW8⟩ : ∃ W8, W8 = wo.alloc (.cells #[.slice oa l.length oc, .slice none 0 0, .int .i64 p, .slice na nk nc, .slice ka K.length kc, .slice ta T.length tc, .slice ua U.length uc, .int .i64 0, .int .i64 m, .int .i64 bu, .int .i64 ins, .slice none 0 0] 37) := ⟨_, rfl⟩
      have HB8 : Hid (Below W0.heap.size W0 W8) := Lib.hid (by rw [hW8]; exact HST.out.alloc HST.out.size _)
      have HR8 : Hid (W8.rangeAt wo.heap.size 0 [.slice oa l.length oc, .slice none 0 0, .int .i64 p, .slice na nk nc, .slice ka K.length kc, .slice ta T.length tc, .slice ua U.length uc, .int .i64 0, .int .i64 m, .int .i64 bu, .int .i64 ins, .slice none 0 0]) := Lib.hid (by
        have g8 : W8.heap[wo.heap.size]? = some (.cells #[.slice oa l.length oc, .slice none 0 0, .int .i64 p, .slice na nk nc, .slice ka K.length kc, .slice ta T.length tc, .slice ua U.length uc, .int .i64 0, .int .i64 m, .int .i64 bu, .int .i64 ins, .slice none 0 0] 37 (0, 0)) := by rw [hW8]; exact heap_alloc_new wo _
        intro j u hu
        rw [Nat.zero_add]
        exact cell_at (o := j) g8 (by simpa using hu))
      have HON8 : Hid (∀ v ∈ ([.slice oa l.length oc, .slice none 0 0, .int .i64 p, .slice na nk nc, .slice ka K.length kc, .slice ta T.length tc, .slice ua U.length uc, .int .i64 0, .int .i64 m, .int .i64 bu, .int .i64 ins, .slice none 0 0] : List Value), v.oneCell' = true) := Lib.hid (by
        intro v hv
        simp only [List.mem_cons, List.not_mem_nil, or_false] at hv
        rcases hv with rfl | rfl | rfl | rfl | rfl | rfl | rfl | rfl | rfl | rfl | rfl | rfl <;> rfl)
      have HWB : Hid (∀ W, Below W0.heap.size W0 W → Below w.heap.size w W) := Lib.hid fun W hb => HB0.out.trans (hb.mono HB0.out.size)
      have HALL : Hid (Calls Tryz.prog 6 #[.agg #[.slice oa l.length oc, .slice none 0 0, .int .i64 p, .slice na nk nc, .slice ka K.length kc, .slice ta T.length tc, .slice ua U.length uc, .int .i64 0, .int .i64 m, .int .i64 bu, .int .i64 ins, .slice none 0 0]] W8 fun e w' => e = .returned (.string st) ∧ Below W0.heap.size W0 w') := Lib.hid (by
        have hb := HWB.out W8 HB8.out
        have h := reportAll_any k All l s oa oc na nc ka K.length kc ta T.length tc ua U.length uc W8 (HL.out.keep hb) (by have := HCA.out.1; omega) (by rw [hs]) (by rw [hs]; exact HK.out.keep (Rd.slice_ok keyRd_ok43 _) (Fix.of_below hb)) (by rw [hs]; exact HT.out.keep nameRd_ok (Fix.of_below hb)) (by rw [hs]; exact HU.out.keep (Rd.int_ok _) (Fix.of_below hb))
          (by have := HLEN.out; omega) (by rw [hs]; exact HIN.out.1) (by rw [hs]; exact HIN.out.2.1) (by rw [hs]; exact HIN.out.2.2.1) (by rw [hs]; exact HIN.out.2.2.2) (by rw [hs]; show nk ≤ _; omega) (fun o ho => by rw [hs] at ho; have := HOL.out o ho; omega) (fun j ks h => by rw [hs] at h; have := HKL.out j ks h; omega) (by rw [hs]; show K.length ≤ _; omega) (by rw [hs]; show T.length ≤ _; omega) (HKT.out.1.below hb) (HKT.out.2.1.below hb) (HKT.out.2.2.below hb)
        rw [hst] at h
        rw [hs] at h
        exact h.mono fun e w' h => ⟨h.1, HB8.out.trans (h.2.mono HB8.out.size)⟩)
      have HS := Lib.hid hs
      have HSTT := Lib.hid hst
      clear hs hst
      go_upto_region 9 with (refine wpList_store_new rfl 37 _ _ rfl wo.heap.size rfl [.slice oa l.length oc, .slice none 0 0, .int .i64 p, .slice na nk nc, .slice ka K.length kc, .slice ta T.length tc, .slice ua U.length uc, .int .i64 0, .int .i64 m, .int .i64 bu, .int .i64 ins, .slice none 0 0] rfl rfl rfl (by kernel_rfl) HON8.out ?_)
      rw [← hW8]
      clear hW8
      go_upto_region 10 with (first
        | (refine wpList_load_mid rfl 37 _ rfl wo.heap.size 0 rfl [.slice oa l.length oc, .slice none 0 0, .int .i64 p, .slice na nk nc, .slice ka K.length kc, .slice ta T.length tc, .slice ua U.length uc, .int .i64 0, .int .i64 m, .int .i64 bu, .int .i64 ins, .slice none 0 0] _ HR8.out Tryz.underlying37 rfl (by kernel_rfl) ?_)
        | (go_at_call 6; (with_reducible refine HALL.out.mono ?_); rintro e w9 ⟨rfl, hb9⟩; have HB9 := Lib.hid hb9; clear hb9))
      clear b0 b1 b2 b3 b4 b5 b6 b7 b8
      have HB9D : Hid (Below W0.heap.size W0 w9.drew) := Lib.hid HB9.out.drew
      obtain ⟨r0, hr0⟩ : ∃ r0, r0 = bs (opsT s.M) := ⟨_, rfl⟩
      obtain ⟨rk, hrk⟩ : ∃ rk, rk = bs (keptT K) := ⟨_, rfl⟩
      obtain ⟨rt, hrt⟩ : ∃ rt, rt = bs (tabT T U) := ⟨_, rfl⟩
      obtain ⟨ip, hip⟩ : ∃ ip, ip = bs (Lib.itoa p) := ⟨_, rfl⟩
      obtain ⟨im, him⟩ : ∃ im, im = bs (Lib.itoa m) := ⟨_, rfl⟩
      obtain ⟨ib, hib⟩ : ∃ ib, ib = bs (Lib.itoa bu) := ⟨_, rfl⟩
      obtain ⟨ii, hii⟩ : ∃ ii, ii = bs (Lib.itoa ins) := ⟨_, rfl⟩
      obtain ⟨ik, hik⟩ : ∃ ik, ik = bs (Lib.itoa nk) := ⟨_, rfl⟩
      have hMM : s.M = sortO (l.map (·.o)) := by rw [HS.out]
      have hle := s.le
      have hlen := HLEN.out
      have hk1 : (keptT K).length ≤ 4294967296 := by have h := hle.2.2.2.2.2.1; rw [show s.K = K by rw [HS.out]] at h; omega
      have ht1 : (tabT T U).length ≤ 4294967296 := by have h := hle.2.2.2.2.2.2; rw [show s.T = T by rw [HS.out], show s.U = U by rw [HS.out]] at h; omega
      have ho1 : (opsT s.M).length ≤ 4294967296 := by have h := hle.1; unfold Sh.t1 at h; omega
      have HOPS : Hid (∀ W, Below W0.heap.size W0 W → Calls Tryz.prog 7 #[.slice oa l.length oc] W fun e w' => e = .returned (.string r0) ∧ Below W0.heap.size W0 w') := Lib.hid fun W hb => by
        rw [hr0]
        exact (rops_any k l s.M oa oc W (HL.out.keep (HWB.out W hb)) (by have := HCA.out.1; omega) hMM (by omega)).mono fun e w' h => ⟨h.1, hb.trans (h.2.mono hb.size)⟩
      have HKP : Hid (∀ W, Below W0.heap.size W0 W → Calls Tryz.prog 9 #[.slice ka K.length kc] W fun e w' => e = .returned (.string rk) ∧ Below W0.heap.size W0 w') := Lib.hid fun W hb => by
        rw [hrk]
        exact (rkept_any K ka K.length kc W (HK.out.keep (Rd.slice_ok keyRd_ok43 _) (Fix.of_below (HWB.out W hb))) (by omega) (fun j ks h => by have := HKL.out j ks h; omega) (by omega)).mono fun e w' h => ⟨h.1, hb.trans (h.2.mono hb.size)⟩
      have HTB : Hid (∀ W, Below W0.heap.size W0 W → Calls Tryz.prog 10 #[.slice ta T.length tc, .slice ua U.length uc] W fun e w' => e = .returned (.string rt) ∧ Below W0.heap.size W0 w') := Lib.hid fun W hb => by
        rw [hrt]
        exact (rtabs_any T U ta T.length tc ua U.length uc W (HT.out.keep nameRd_ok (Fix.of_below (HWB.out W hb))) (HU.out.keep (Rd.int_ok _) (Fix.of_below (HWB.out W hb))) (by omega) (by omega)).mono fun e w' h => ⟨h.1, hb.trans (h.2.mono hb.size)⟩
      have HRI : ∀ (n : Int) (sn : ByteArray), InI n → sn = bs (Lib.itoa n) → Hid (∀ W, Below W0.heap.size W0 W → Calls Tryz.prog 8 #[.int .i64 n] W fun e w' => e = .returned (.string sn) ∧ Below W0.heap.size W0 w') := fun n sn hn hs => Lib.hid fun W hb => by
        rw [hs]
        exact (rint_any n W hn.1 hn.2).mono fun e w' h => ⟨h.1, h.2 ▸ hb⟩
      have hnki : InI (nk : Int) := ⟨by omega, by omega⟩
      have HIP := HRI p ip HIN.out.1 hip
      have HIM := HRI m im HIN.out.2.1 him
      have HIB := HRI bu ib HIN.out.2.2.1 hib
      have HII := HRI ins ii HIN.out.2.2.2 hii
      have HIK := HRI nk ik hnki hik
      have d0 : r0.size ≤ 4294967296 := by rw [hr0, size_bs]; exact ho1
      have dp : ip.size ≤ 20 := by rw [hip]; exact itoa_in HIN.out.1
      have dm : im.size ≤ 20 := by rw [him]; exact itoa_in HIN.out.2.1
      have db : ib.size ≤ 20 := by rw [hib]; exact itoa_in HIN.out.2.2.1
      have di : ii.size ≤ 20 := by rw [hii]; exact itoa_in HIN.out.2.2.2
      have dk : ik.size ≤ 20 := by rw [hik]; exact itoa_in hnki
      have drk : rk.size ≤ 4294967296 := by rw [hrk, size_bs]; exact hk1
      have drt : rt.size ≤ 4294967296 := by rw [hrt, size_bs]; exact ht1
      have z1 : (r0 ++ ⟨#[112, 101, 110, 100, 105, 110, 103, 32]⟩).size ≤ 4294967304 := sizeA (n := 8) d0 (Nat.le_refl 8)
      have z2 := sizeA z1 dp
      have z3 : (r0 ++ ⟨#[112, 101, 110, 100, 105, 110, 103, 32]⟩ ++ ip ++ ⟨#[10, 109, 101, 97, 115, 117, 114, 101, 100, 32]⟩).size ≤ 4294967334 := sizeA (n := 10) z2 (Nat.le_refl 10)
      have z4 := sizeA z3 dm
      have z5 : (r0 ++ ⟨#[112, 101, 110, 100, 105, 110, 103, 32]⟩ ++ ip ++ ⟨#[10, 109, 101, 97, 115, 117, 114, 101, 100, 32]⟩ ++ im ++ ⟨#[32, 98, 117, 105, 108, 116, 32]⟩).size ≤ 4294967361 := sizeA (n := 7) z4 (Nat.le_refl 7)
      have z6 := sizeA z5 db
      have z7 : (r0 ++ ⟨#[112, 101, 110, 100, 105, 110, 103, 32]⟩ ++ ip ++ ⟨#[10, 109, 101, 97, 115, 117, 114, 101, 100, 32]⟩ ++ im ++ ⟨#[32, 98, 117, 105, 108, 116, 32]⟩ ++ ib ++ ⟨#[32, 105, 110, 115, 101, 114, 116, 101, 100, 32]⟩).size ≤ 4294967391 := sizeA (n := 10) z6 (Nat.le_refl 10)
      have z8 := sizeA z7 di
      have z9 : (r0 ++ ⟨#[112, 101, 110, 100, 105, 110, 103, 32]⟩ ++ ip ++ ⟨#[10, 109, 101, 97, 115, 117, 114, 101, 100, 32]⟩ ++ im ++ ⟨#[32, 98, 117, 105, 108, 116, 32]⟩ ++ ib ++ ⟨#[32, 105, 110, 115, 101, 114, 116, 101, 100, 32]⟩ ++ ii ++ ⟨#[10]⟩).size ≤ 4294967412 := sizeA (n := 1) z8 (Nat.le_refl 1)
      obtain ⟨v1, hv1⟩ : ∃ v1, r0 ++ ⟨#[112, 101, 110, 100, 105, 110, 103, 32]⟩ ++ ip ++ ⟨#[10, 109, 101, 97, 115, 117, 114, 101, 100, 32]⟩ ++ im ++ ⟨#[32, 98, 117, 105, 108, 116, 32]⟩ ++ ib ++ ⟨#[32, 105, 110, 115, 101, 114, 116, 101, 100, 32]⟩ ++ ii ++ ⟨#[10]⟩ = v1 := ⟨_, rfl⟩
      have y0 : v1.size ≤ 4294967412 := by rw [← hv1]; exact z9
      have y1 := sizeA y0 drk
      have y2 : (v1 ++ rk ++ ⟨#[107, 110, 111, 119, 110, 32]⟩).size ≤ 8589934714 := sizeA (n := 6) y1 (Nat.le_refl 6)
      have y3 := sizeA y2 dk
      have y4 : (v1 ++ rk ++ ⟨#[107, 110, 111, 119, 110, 32]⟩ ++ ik ++ ⟨#[10]⟩).size ≤ 8589934735 := sizeA (n := 1) y3 (Nat.le_refl 1)
      have y5 := sizeA y4 drt
      have HV1 := Lib.hid hv1
      have HV2 : Hid (v1 ++ rk ++ ⟨#[107, 110, 111, 119, 110, 32]⟩ ++ ik ++ ⟨#[10]⟩ ++ rt = st) := Lib.hid (by
        have h := want_text s
        rw [← HSTT.out, ← h, ← hv1, hr0, hip, him, hib, hii, hik, hrk, hrt]
        rw [show (⟨#[112, 101, 110, 100, 105, 110, 103, 32]⟩ : ByteArray) = bs [112, 101, 110, 100, 105, 110, 103, 32] from rfl, show (⟨#[10, 109, 101, 97, 115, 117, 114, 101, 100, 32]⟩ : ByteArray) = bs [10, 109, 101, 97, 115, 117, 114, 101, 100, 32] from rfl, show (⟨#[32, 98, 117, 105, 108, 116, 32]⟩ : ByteArray) = bs [32, 98, 117, 105, 108, 116, 32] from rfl, show (⟨#[32, 105, 110, 115, 101, 114, 116, 101, 100, 32]⟩ : ByteArray) = bs [32, 105, 110, 115, 101, 114, 116, 101, 100, 32] from rfl, show (⟨#[107, 110, 111, 119, 110, 32]⟩ : ByteArray) = bs [107, 110, 111, 119, 110, 32] from rfl, show (⟨#[10]⟩ : ByteArray) = bs [10] from rfl]
        simp only [bs_bs]
        rw [HS.out])
      have HSZ : Hid (st.size = s.text.length) := Lib.hid (by rw [← HSTT.out, size_bs])
      have HBYT : Hid (∀ j (h : j < st.size), ∃ h2 : j < s.text.length, st[j]'h = s.text[j]'h2) := Lib.hid fun j h => by
        have h0 := HSTT.out
        subst h0
        exact ⟨by rw [size_bs] at h; exact h, by simp [bs, ByteArray.getElem_eq_getElem_data]⟩
      have HSZL : Hid (st.size ≤ 4294967296) := Lib.hid (by rw [HSZ.out]; exact hlen)
      have hl30 := HCA.out.1
      clear hr0 hrk hrt hip him hib hii hik hMM hle hlen hk1 ht1 ho1 hv1 hnki
      have HST' := HS
      clear HS
      have HS := HB9D
      refine wp_region_held (S := fun W => Below W0.heap.size W0 W) (by kernel_rfl) ?_
      change wpAnyH _ _ _ _ _ 28 #[false, false, false, false, false, false, false, false, false, false, false, false, false, false, false, false, false, false, false, false, false, false, false, false, false, false, false, false] _ w9.drew
      (refine wpAnyH_take (i := 0) (v := ?_) rfl (by kernel_rfl) (by kernel_rfl) (by kernel_rfl) (fun _ _ _ h => h) (Or.inl ⟨by rfl, ?_⟩) HS.out ?_; rotate_left 1; (focus (intro w0 hw0; clear hw0; go_simp; try with_reducible rfl)); simp only [Act.put, List.getElem_toArray, List.getElem_cons_zero, List.getElem_cons_succ, List.setIfInBounds_toArray, List.set_cons_zero, List.set_cons_succ])
      (refine wpAnyH_take (i := 1) (v := ?_) rfl (by kernel_rfl) (by kernel_rfl) (by kernel_rfl) (fun _ _ _ h => h) (Or.inl ⟨by rfl, ?_⟩) HS.out ?_; rotate_left 1; (focus (intro w0 hw0; obtain ⟨b0, b1, b2, b3, b4, b5, b6, b7, b8⟩ := HCC.out w0 hw0; clear hw0; go_simp; try with_reducible rfl)); simp only [Act.put, List.getElem_toArray, List.getElem_cons_zero, List.getElem_cons_succ, List.setIfInBounds_toArray, List.set_cons_zero, List.set_cons_succ])
      (refine wpAnyH_take (i := 4) (v := ?_) rfl (by kernel_rfl) (by kernel_rfl) (by kernel_rfl) (fun _ _ _ h => h) (Or.inl ⟨by rfl, ?_⟩) HS.out ?_; rotate_left 1; (focus (intro w0 hw0; clear hw0; go_simp; try with_reducible rfl)); simp only [Act.put, List.getElem_toArray, List.getElem_cons_zero, List.getElem_cons_succ, List.setIfInBounds_toArray, List.set_cons_zero, List.set_cons_succ])
      (refine wpAnyH_take (i := 5) (v := ?_) rfl (by kernel_rfl) (by kernel_rfl) (by kernel_rfl) (fun _ _ _ h => h) (Or.inl ⟨by rfl, ?_⟩) HS.out ?_; rotate_left 1; (focus (intro w0 hw0; obtain ⟨b0, b1, b2, b3, b4, b5, b6, b7, b8⟩ := HCC.out w0 hw0; clear hw0; go_simp; try with_reducible rfl)); simp only [Act.put, List.getElem_toArray, List.getElem_cons_zero, List.getElem_cons_succ, List.setIfInBounds_toArray, List.set_cons_zero, List.set_cons_succ])
      (refine wpAnyH_take (i := 9) (v := ?_) rfl (by kernel_rfl) (by kernel_rfl) (by kernel_rfl) (fun _ _ _ h => h) (Or.inl ⟨by rfl, ?_⟩) HS.out ?_; rotate_left 1; (focus (intro w0 hw0; clear hw0; go_simp; try with_reducible rfl)); simp only [Act.put, List.getElem_toArray, List.getElem_cons_zero, List.getElem_cons_succ, List.setIfInBounds_toArray, List.set_cons_zero, List.set_cons_succ])
      (refine wpAnyH_take (i := 10) (v := ?_) rfl (by kernel_rfl) (by kernel_rfl) (by kernel_rfl) (fun _ _ _ h => h) (Or.inl ⟨by rfl, ?_⟩) HS.out ?_; rotate_left 1; (focus (intro w0 hw0; clear hw0; go_simp; try with_reducible rfl)); simp only [Act.put, List.getElem_toArray, List.getElem_cons_zero, List.getElem_cons_succ, List.setIfInBounds_toArray, List.set_cons_zero, List.set_cons_succ])
      (refine wpAnyH_take (i := 11) (v := ?_) rfl (by kernel_rfl) (by kernel_rfl) (by kernel_rfl) (fun _ _ _ h => h) (Or.inl ⟨by rfl, ?_⟩) HS.out ?_; rotate_left 1; (focus (intro w0 hw0; obtain ⟨b0, b1, b2, b3, b4, b5, b6, b7, b8⟩ := HCC.out w0 hw0; clear hw0; go_simp; try with_reducible rfl)); simp only [Act.put, List.getElem_toArray, List.getElem_cons_zero, List.getElem_cons_succ, List.setIfInBounds_toArray, List.set_cons_zero, List.set_cons_succ])
      (refine wpAnyH_take (i := 15) (v := ?_) rfl (by kernel_rfl) (by kernel_rfl) (by kernel_rfl) (fun _ _ _ h => h) (Or.inl ⟨by rfl, ?_⟩) HS.out ?_; rotate_left 1; (focus (intro w0 hw0; clear hw0; go_simp; try with_reducible rfl)); simp only [Act.put, List.getElem_toArray, List.getElem_cons_zero, List.getElem_cons_succ, List.setIfInBounds_toArray, List.set_cons_zero, List.set_cons_succ])
      (refine wpAnyH_take (i := 16) (v := ?_) rfl (by kernel_rfl) (by kernel_rfl) (by kernel_rfl) (fun _ _ _ h => h) (Or.inl ⟨by rfl, ?_⟩) HS.out ?_; rotate_left 1; (focus (intro w0 hw0; clear hw0; go_simp; try with_reducible rfl)); simp only [Act.put, List.getElem_toArray, List.getElem_cons_zero, List.getElem_cons_succ, List.setIfInBounds_toArray, List.set_cons_zero, List.set_cons_succ])
      (refine wpAnyH_take (i := 17) (v := ?_) rfl (by kernel_rfl) (by kernel_rfl) (by kernel_rfl) (fun _ _ _ h => h) (Or.inl ⟨by rfl, ?_⟩) HS.out ?_; rotate_left 1; (focus (intro w0 hw0; obtain ⟨b0, b1, b2, b3, b4, b5, b6, b7, b8⟩ := HCC.out w0 hw0; clear hw0; go_simp; try with_reducible rfl)); simp only [Act.put, List.getElem_toArray, List.getElem_cons_zero, List.getElem_cons_succ, List.setIfInBounds_toArray, List.set_cons_zero, List.set_cons_succ])
      (refine wpAnyH_take (i := 21) (v := ?_) rfl (by kernel_rfl) (by kernel_rfl) (by kernel_rfl) (fun _ _ _ h => h) (Or.inl ⟨by rfl, ?_⟩) HS.out ?_; rotate_left 1; (focus (intro w0 hw0; clear hw0; go_simp; try with_reducible rfl)); simp only [Act.put, List.getElem_toArray, List.getElem_cons_zero, List.getElem_cons_succ, List.setIfInBounds_toArray, List.set_cons_zero, List.set_cons_succ])
      (refine wpAnyH_take (i := 22) (v := ?_) rfl (by kernel_rfl) (by kernel_rfl) (by kernel_rfl) (fun _ _ _ h => h) (Or.inl ⟨by rfl, ?_⟩) HS.out ?_; rotate_left 1; (focus (intro w0 hw0; clear hw0; go_simp; try with_reducible rfl)); simp only [Act.put, List.getElem_toArray, List.getElem_cons_zero, List.getElem_cons_succ, List.setIfInBounds_toArray, List.set_cons_zero, List.set_cons_succ])
      (refine wpAnyH_take (i := 23) (v := ?_) rfl (by kernel_rfl) (by kernel_rfl) (by kernel_rfl) (fun _ _ _ h => h) (Or.inl ⟨by rfl, ?_⟩) HS.out ?_; rotate_left 1; (focus (intro w0 hw0; obtain ⟨b0, b1, b2, b3, b4, b5, b6, b7, b8⟩ := HCC.out w0 hw0; clear hw0; go_simp; try with_reducible rfl)); simp only [Act.put, List.getElem_toArray, List.getElem_cons_zero, List.getElem_cons_succ, List.setIfInBounds_toArray, List.set_cons_zero, List.set_cons_succ])
      (refine wpAnyH_one (i := 2) (vi := .string r0) rfl (by kernel_rfl) HS.out ?_ ?_; (focus (intro W K hW hK; (try simp only [Act.put, List.getElem_toArray, List.getElem_cons_zero, List.getElem_cons_succ, List.setIfInBounds_toArray, List.set_cons_zero, List.set_cons_succ]); refine wpOp_step rfl (fun K2 hK2 => ?_); go_simp; refine (HOPS.out _ hW).mono ?_; rintro e w' ⟨rfl, hb⟩; exact hK2 _ _ (hK _ hb))); clear HS; intro wn hS; have HS := Lib.hid hS; clear hS; simp only [Act.put, List.getElem_toArray, List.getElem_cons_zero, List.getElem_cons_succ, List.setIfInBounds_toArray, List.set_cons_zero, List.set_cons_succ])
      (refine wpAnyH_take (i := 3) (v := _) rfl (by kernel_rfl) (by kernel_rfl) (by kernel_rfl) (fun _ _ _ h => h) (yieldsIf_cat (by rfl) _ _ _ _ rfl _ _ rfl rfl (Nat.le_trans z1 (by decide))) HS.out ?_; simp only [Act.put, List.getElem_toArray, List.getElem_cons_zero, List.getElem_cons_succ, List.setIfInBounds_toArray, List.set_cons_zero, List.set_cons_succ])
      (refine wpAnyH_one (i := 6) (vi := .string ip) rfl (by kernel_rfl) HS.out ?_ ?_; (focus (intro W K hW hK; (try simp only [Act.put, List.getElem_toArray, List.getElem_cons_zero, List.getElem_cons_succ, List.setIfInBounds_toArray, List.set_cons_zero, List.set_cons_succ]); refine wpOp_step rfl (fun K2 hK2 => ?_); go_simp; refine (HIP.out _ hW).mono ?_; rintro e w' ⟨rfl, hb⟩; exact hK2 _ _ (hK _ hb))); clear HS; intro wn hS; have HS := Lib.hid hS; clear hS; simp only [Act.put, List.getElem_toArray, List.getElem_cons_zero, List.getElem_cons_succ, List.setIfInBounds_toArray, List.set_cons_zero, List.set_cons_succ])
      (refine wpAnyH_take (i := 7) (v := _) rfl (by kernel_rfl) (by kernel_rfl) (by kernel_rfl) (fun _ _ _ h => h) (yieldsIf_cat (by rfl) _ _ _ _ rfl _ _ rfl rfl (Nat.le_trans z2 (by decide))) HS.out ?_; simp only [Act.put, List.getElem_toArray, List.getElem_cons_zero, List.getElem_cons_succ, List.setIfInBounds_toArray, List.set_cons_zero, List.set_cons_succ])
      (refine wpAnyH_take (i := 8) (v := _) rfl (by kernel_rfl) (by kernel_rfl) (by kernel_rfl) (fun _ _ _ h => h) (yieldsIf_cat (by rfl) _ _ _ _ rfl _ _ rfl rfl (Nat.le_trans z3 (by decide))) HS.out ?_; simp only [Act.put, List.getElem_toArray, List.getElem_cons_zero, List.getElem_cons_succ, List.setIfInBounds_toArray, List.set_cons_zero, List.set_cons_succ])
      (refine wpAnyH_one (i := 12) (vi := .string im) rfl (by kernel_rfl) HS.out ?_ ?_; (focus (intro W K hW hK; (try simp only [Act.put, List.getElem_toArray, List.getElem_cons_zero, List.getElem_cons_succ, List.setIfInBounds_toArray, List.set_cons_zero, List.set_cons_succ]); refine wpOp_step rfl (fun K2 hK2 => ?_); go_simp; refine (HIM.out _ hW).mono ?_; rintro e w' ⟨rfl, hb⟩; exact hK2 _ _ (hK _ hb))); clear HS; intro wn hS; have HS := Lib.hid hS; clear hS; simp only [Act.put, List.getElem_toArray, List.getElem_cons_zero, List.getElem_cons_succ, List.setIfInBounds_toArray, List.set_cons_zero, List.set_cons_succ])
      (refine wpAnyH_take (i := 13) (v := _) rfl (by kernel_rfl) (by kernel_rfl) (by kernel_rfl) (fun _ _ _ h => h) (yieldsIf_cat (by rfl) _ _ _ _ rfl _ _ rfl rfl (Nat.le_trans z4 (by decide))) HS.out ?_; simp only [Act.put, List.getElem_toArray, List.getElem_cons_zero, List.getElem_cons_succ, List.setIfInBounds_toArray, List.set_cons_zero, List.set_cons_succ])
      (refine wpAnyH_take (i := 14) (v := _) rfl (by kernel_rfl) (by kernel_rfl) (by kernel_rfl) (fun _ _ _ h => h) (yieldsIf_cat (by rfl) _ _ _ _ rfl _ _ rfl rfl (Nat.le_trans z5 (by decide))) HS.out ?_; simp only [Act.put, List.getElem_toArray, List.getElem_cons_zero, List.getElem_cons_succ, List.setIfInBounds_toArray, List.set_cons_zero, List.set_cons_succ])
      (refine wpAnyH_one (i := 18) (vi := .string ib) rfl (by kernel_rfl) HS.out ?_ ?_; (focus (intro W K hW hK; (try simp only [Act.put, List.getElem_toArray, List.getElem_cons_zero, List.getElem_cons_succ, List.setIfInBounds_toArray, List.set_cons_zero, List.set_cons_succ]); refine wpOp_step rfl (fun K2 hK2 => ?_); go_simp; refine (HIB.out _ hW).mono ?_; rintro e w' ⟨rfl, hb⟩; exact hK2 _ _ (hK _ hb))); clear HS; intro wn hS; have HS := Lib.hid hS; clear hS; simp only [Act.put, List.getElem_toArray, List.getElem_cons_zero, List.getElem_cons_succ, List.setIfInBounds_toArray, List.set_cons_zero, List.set_cons_succ])
      (refine wpAnyH_take (i := 19) (v := _) rfl (by kernel_rfl) (by kernel_rfl) (by kernel_rfl) (fun _ _ _ h => h) (yieldsIf_cat (by rfl) _ _ _ _ rfl _ _ rfl rfl (Nat.le_trans z6 (by decide))) HS.out ?_; simp only [Act.put, List.getElem_toArray, List.getElem_cons_zero, List.getElem_cons_succ, List.setIfInBounds_toArray, List.set_cons_zero, List.set_cons_succ])
      (refine wpAnyH_take (i := 20) (v := _) rfl (by kernel_rfl) (by kernel_rfl) (by kernel_rfl) (fun _ _ _ h => h) (yieldsIf_cat (by rfl) _ _ _ _ rfl _ _ rfl rfl (Nat.le_trans z7 (by decide))) HS.out ?_; simp only [Act.put, List.getElem_toArray, List.getElem_cons_zero, List.getElem_cons_succ, List.setIfInBounds_toArray, List.set_cons_zero, List.set_cons_succ])
      (refine wpAnyH_one (i := 24) (vi := .string ii) rfl (by kernel_rfl) HS.out ?_ ?_; (focus (intro W K hW hK; (try simp only [Act.put, List.getElem_toArray, List.getElem_cons_zero, List.getElem_cons_succ, List.setIfInBounds_toArray, List.set_cons_zero, List.set_cons_succ]); refine wpOp_step rfl (fun K2 hK2 => ?_); go_simp; refine (HII.out _ hW).mono ?_; rintro e w' ⟨rfl, hb⟩; exact hK2 _ _ (hK _ hb))); clear HS; intro wn hS; have HS := Lib.hid hS; clear hS; simp only [Act.put, List.getElem_toArray, List.getElem_cons_zero, List.getElem_cons_succ, List.setIfInBounds_toArray, List.set_cons_zero, List.set_cons_succ])
      (refine wpAnyH_take (i := 25) (v := _) rfl (by kernel_rfl) (by kernel_rfl) (by kernel_rfl) (fun _ _ _ h => h) (yieldsIf_cat (by rfl) _ _ _ _ rfl _ _ rfl rfl (Nat.le_trans z8 (by decide))) HS.out ?_; simp only [Act.put, List.getElem_toArray, List.getElem_cons_zero, List.getElem_cons_succ, List.setIfInBounds_toArray, List.set_cons_zero, List.set_cons_succ])
      (refine wpAnyH_take (i := 26) (v := _) rfl (by kernel_rfl) (by kernel_rfl) (by kernel_rfl) (fun _ _ _ h => h) (yieldsIf_cat (by rfl) _ _ _ _ rfl _ _ rfl rfl (Nat.le_trans z9 (by decide))) HS.out ?_; simp only [Act.put, List.getElem_toArray, List.getElem_cons_zero, List.getElem_cons_succ, List.setIfInBounds_toArray, List.set_cons_zero, List.set_cons_succ])
      (refine wpAnyH_take (i := 27) (v := ?_) rfl (by kernel_rfl) (by kernel_rfl) (by kernel_rfl) (fun _ _ _ h => h) (Or.inl ⟨by rfl, ?_⟩) HS.out ?_; rotate_left 1; (focus (intro w0 hw0; clear hw0; go_simp; try with_reducible rfl)); simp only [Act.put, List.getElem_toArray, List.getElem_cons_zero, List.getElem_cons_succ, List.setIfInBounds_toArray, List.set_cons_zero, List.set_cons_succ])
      refine wpAnyH_done (by kernel_rfl) ?_ _
      rw [HV1.out]
      clear z1 z2 z3 z4 z5 z6 z7 z8 z9 d0 dp dm db di
      obtain ⟨wa, hwa⟩ : ∃ wa : World, wa = wn := ⟨_, rfl⟩
      rw [← hwa] at HS ⊢
      go_upto_region 11 with fail
      have HSA := Lib.hid HS.out.drew
      clear HS hwa
      have HS := HSA
      refine wp_region_held (S := fun W => Below W0.heap.size W0 W) (by kernel_rfl) ?_
      change wpAnyH _ _ _ _ _ 19 #[false, false, false, false, false, false, false, false, false, false, false, false, false, false, false, false, false, false, false] _ wa.drew
      (refine wpAnyH_take (i := 0) (v := ?_) rfl (by kernel_rfl) (by kernel_rfl) (by kernel_rfl) (fun _ _ _ h => h) (Or.inl ⟨by rfl, ?_⟩) HS.out ?_; rotate_left 1; (focus (intro w0 hw0; clear hw0; go_simp; try with_reducible rfl)); simp only [Act.put, List.getElem_toArray, List.getElem_cons_zero, List.getElem_cons_succ, List.setIfInBounds_toArray, List.set_cons_zero, List.set_cons_succ])
      (refine wpAnyH_take (i := 1) (v := ?_) rfl (by kernel_rfl) (by kernel_rfl) (by kernel_rfl) (fun _ _ _ h => h) (Or.inl ⟨by rfl, ?_⟩) HS.out ?_; rotate_left 1; (focus (intro w0 hw0; clear hw0; go_simp; try with_reducible rfl)); simp only [Act.put, List.getElem_toArray, List.getElem_cons_zero, List.getElem_cons_succ, List.setIfInBounds_toArray, List.set_cons_zero, List.set_cons_succ])
      (refine wpAnyH_take (i := 2) (v := ?_) rfl (by kernel_rfl) (by kernel_rfl) (by kernel_rfl) (fun _ _ _ h => h) (Or.inl ⟨by rfl, ?_⟩) HS.out ?_; rotate_left 1; (focus (intro w0 hw0; obtain ⟨b0, b1, b2, b3, b4, b5, b6, b7, b8⟩ := HCC.out w0 hw0; clear hw0; go_simp; try with_reducible rfl)); simp only [Act.put, List.getElem_toArray, List.getElem_cons_zero, List.getElem_cons_succ, List.setIfInBounds_toArray, List.set_cons_zero, List.set_cons_succ])
      (refine wpAnyH_take (i := 6) (v := ?_) rfl (by kernel_rfl) (by kernel_rfl) (by kernel_rfl) (fun _ _ _ h => h) (Or.inl ⟨by rfl, ?_⟩) HS.out ?_; rotate_left 1; (focus (intro w0 hw0; clear hw0; go_simp; try with_reducible rfl)); simp only [Act.put, List.getElem_toArray, List.getElem_cons_zero, List.getElem_cons_succ, List.setIfInBounds_toArray, List.set_cons_zero, List.set_cons_succ])
      (refine wpAnyH_take (i := 7) (v := ?_) rfl (by kernel_rfl) (by kernel_rfl) (by kernel_rfl) (fun _ _ _ h => h) (Or.inl ⟨by rfl, ?_⟩) HS.out ?_; rotate_left 1; (focus (intro w0 hw0; obtain ⟨b0, b1, b2, b3, b4, b5, b6, b7, b8⟩ := HCC.out w0 hw0; clear hw0; go_simp; try with_reducible rfl)); simp only [Act.put, List.getElem_toArray, List.getElem_cons_zero, List.getElem_cons_succ, List.setIfInBounds_toArray, List.set_cons_zero, List.set_cons_succ])
      (refine wpAnyH_take (i := 8) (v := ?_) rfl (by kernel_rfl) (by kernel_rfl) (by kernel_rfl) (fun _ _ _ h => h) (Or.inl ⟨by rfl, ?_⟩) HS.out ?_; rotate_left 1; (focus (intro w0 hw0; clear hw0; go_simp; try with_reducible rfl)); simp only [Act.put, List.getElem_toArray, List.getElem_cons_zero, List.getElem_cons_succ, List.setIfInBounds_toArray, List.set_cons_zero, List.set_cons_succ])
      (refine wpAnyH_take (i := 12) (v := ?_) rfl (by kernel_rfl) (by kernel_rfl) (by kernel_rfl) (fun _ _ _ h => h) (Or.inl ⟨by rfl, ?_⟩) HS.out ?_; rotate_left 1; (focus (intro w0 hw0; clear hw0; go_simp; try with_reducible rfl)); simp only [Act.put, List.getElem_toArray, List.getElem_cons_zero, List.getElem_cons_succ, List.setIfInBounds_toArray, List.set_cons_zero, List.set_cons_succ])
      (refine wpAnyH_take (i := 13) (v := ?_) rfl (by kernel_rfl) (by kernel_rfl) (by kernel_rfl) (fun _ _ _ h => h) (Or.inl ⟨by rfl, ?_⟩) HS.out ?_; rotate_left 1; (focus (intro w0 hw0; obtain ⟨b0, b1, b2, b3, b4, b5, b6, b7, b8⟩ := HCC.out w0 hw0; clear hw0; go_simp; try with_reducible rfl)); simp only [Act.put, List.getElem_toArray, List.getElem_cons_zero, List.getElem_cons_succ, List.setIfInBounds_toArray, List.set_cons_zero, List.set_cons_succ])
      (refine wpAnyH_take (i := 14) (v := ?_) rfl (by kernel_rfl) (by kernel_rfl) (by kernel_rfl) (fun _ _ _ h => h) (Or.inl ⟨by rfl, ?_⟩) HS.out ?_; rotate_left 1; (focus (intro w0 hw0; clear hw0; go_simp; try with_reducible rfl)); simp only [Act.put, List.getElem_toArray, List.getElem_cons_zero, List.getElem_cons_succ, List.setIfInBounds_toArray, List.set_cons_zero, List.set_cons_succ])
      (refine wpAnyH_take (i := 15) (v := ?_) rfl (by kernel_rfl) (by kernel_rfl) (by kernel_rfl) (fun _ _ _ h => h) (Or.inl ⟨by rfl, ?_⟩) HS.out ?_; rotate_left 1; (focus (intro w0 hw0; obtain ⟨b0, b1, b2, b3, b4, b5, b6, b7, b8⟩ := HCC.out w0 hw0; clear hw0; go_simp; try with_reducible rfl)); simp only [Act.put, List.getElem_toArray, List.getElem_cons_zero, List.getElem_cons_succ, List.setIfInBounds_toArray, List.set_cons_zero, List.set_cons_succ])
      (refine wpAnyH_one (i := 3) (vi := .string rk) rfl (by kernel_rfl) HS.out ?_ ?_; (focus (intro W K hW hK; (try simp only [Act.put, List.getElem_toArray, List.getElem_cons_zero, List.getElem_cons_succ, List.setIfInBounds_toArray, List.set_cons_zero, List.set_cons_succ]); refine wpOp_step rfl (fun K2 hK2 => ?_); go_simp; refine (HKP.out _ hW).mono ?_; rintro e w' ⟨rfl, hb⟩; exact hK2 _ _ (hK _ hb))); clear HS; intro wn hS; have HS := Lib.hid hS; clear hS; simp only [Act.put, List.getElem_toArray, List.getElem_cons_zero, List.getElem_cons_succ, List.setIfInBounds_toArray, List.set_cons_zero, List.set_cons_succ])
      (refine wpAnyH_take (i := 4) (v := _) rfl (by kernel_rfl) (by kernel_rfl) (by kernel_rfl) (fun _ _ _ h => h) (yieldsIf_cat (by rfl) _ _ _ _ rfl _ _ rfl rfl (Nat.le_trans y1 (by decide))) HS.out ?_; simp only [Act.put, List.getElem_toArray, List.getElem_cons_zero, List.getElem_cons_succ, List.setIfInBounds_toArray, List.set_cons_zero, List.set_cons_succ])
      (refine wpAnyH_take (i := 5) (v := _) rfl (by kernel_rfl) (by kernel_rfl) (by kernel_rfl) (fun _ _ _ h => h) (yieldsIf_cat (by rfl) _ _ _ _ rfl _ _ rfl rfl (Nat.le_trans y2 (by decide))) HS.out ?_; simp only [Act.put, List.getElem_toArray, List.getElem_cons_zero, List.getElem_cons_succ, List.setIfInBounds_toArray, List.set_cons_zero, List.set_cons_succ])
      (refine wpAnyH_one (i := 9) (vi := .string ik) rfl (by kernel_rfl) HS.out ?_ ?_; (focus (intro W K hW hK; (try simp only [Act.put, List.getElem_toArray, List.getElem_cons_zero, List.getElem_cons_succ, List.setIfInBounds_toArray, List.set_cons_zero, List.set_cons_succ]); refine wpOp_step rfl (fun K2 hK2 => ?_); go_simp; refine (HIK.out _ hW).mono ?_; rintro e w' ⟨rfl, hb⟩; exact hK2 _ _ (hK _ hb))); clear HS; intro wn hS; have HS := Lib.hid hS; clear hS; simp only [Act.put, List.getElem_toArray, List.getElem_cons_zero, List.getElem_cons_succ, List.setIfInBounds_toArray, List.set_cons_zero, List.set_cons_succ])
      (refine wpAnyH_take (i := 10) (v := _) rfl (by kernel_rfl) (by kernel_rfl) (by kernel_rfl) (fun _ _ _ h => h) (yieldsIf_cat (by rfl) _ _ _ _ rfl _ _ rfl rfl (Nat.le_trans y3 (by decide))) HS.out ?_; simp only [Act.put, List.getElem_toArray, List.getElem_cons_zero, List.getElem_cons_succ, List.setIfInBounds_toArray, List.set_cons_zero, List.set_cons_succ])
      (refine wpAnyH_take (i := 11) (v := _) rfl (by kernel_rfl) (by kernel_rfl) (by kernel_rfl) (fun _ _ _ h => h) (yieldsIf_cat (by rfl) _ _ _ _ rfl _ _ rfl rfl (Nat.le_trans y4 (by decide))) HS.out ?_; simp only [Act.put, List.getElem_toArray, List.getElem_cons_zero, List.getElem_cons_succ, List.setIfInBounds_toArray, List.set_cons_zero, List.set_cons_succ])
      (refine wpAnyH_one (i := 16) (vi := .string rt) rfl (by kernel_rfl) HS.out ?_ ?_; (focus (intro W K hW hK; (try simp only [Act.put, List.getElem_toArray, List.getElem_cons_zero, List.getElem_cons_succ, List.setIfInBounds_toArray, List.set_cons_zero, List.set_cons_succ]); refine wpOp_step rfl (fun K2 hK2 => ?_); go_simp; refine (HTB.out _ hW).mono ?_; rintro e w' ⟨rfl, hb⟩; exact hK2 _ _ (hK _ hb))); clear HS; intro wn hS; have HS := Lib.hid hS; clear hS; simp only [Act.put, List.getElem_toArray, List.getElem_cons_zero, List.getElem_cons_succ, List.setIfInBounds_toArray, List.set_cons_zero, List.set_cons_succ])
      (refine wpAnyH_take (i := 17) (v := _) rfl (by kernel_rfl) (by kernel_rfl) (by kernel_rfl) (fun _ _ _ h => h) (yieldsIf_cat (by rfl) _ _ _ _ rfl _ _ rfl rfl (Nat.le_trans y5 (by decide))) HS.out ?_; simp only [Act.put, List.getElem_toArray, List.getElem_cons_zero, List.getElem_cons_succ, List.setIfInBounds_toArray, List.set_cons_zero, List.set_cons_succ])
      (refine wpAnyH_take (i := 18) (v := ?_) rfl (by kernel_rfl) (by kernel_rfl) (by kernel_rfl) (fun _ _ _ h => h) (Or.inl ⟨by rfl, ?_⟩) HS.out ?_; rotate_left 1; (focus (intro w0 hw0; clear hw0; go_simp; try with_reducible rfl)); simp only [Act.put, List.getElem_toArray, List.getElem_cons_zero, List.getElem_cons_succ, List.setIfInBounds_toArray, List.set_cons_zero, List.set_cons_succ])
      refine wpAnyH_done (by kernel_rfl) ?_ _
      rw [HV2.out]
      clear y0 y1 y2 y3 y4 y5 drk drt dk
      have HSW := HS
      clear HS
      go_wp2_with fail
      go_loopg [7, 8] st.size (fun g lv iv wr => ∃ j : Nat, j ≤ st.size ∧ g = st.size - j ∧ iv = .int .i64 j ∧ lv = .int .i64 (lfs (s.text.take j) : Nat) ∧ Below W0.heap.size W0 wr)
      case atStart => exact ⟨0, by omega, rfl, rfl, rfl, HSW.out⟩
      case round =>
        obtain ⟨j, hj, rfl, rfl, rfl, hst⟩ := hrel
        obtain ⟨wj, rfl⟩ : ∃ wj : World, wj = wr := ⟨_, rfl⟩
        have HSJ := Lib.hid hst
        clear hst
        have hstl := HSZL.out
        by_cases hltj : j < st.size
        · have hltji : (j : Int) < (st.size : Int) := by omega
          obtain ⟨h2, hby⟩ := HBYT.out j hltj
          have HTK := Lib.hid (lfs_take h2)
          have hlj : lfs (s.text.take j) ≤ 4294967296 := Nat.le_trans List.countP_le_length (by rw [List.length_take]; omega)
          by_cases hc : s.text[j]'h2 = 10
          · have hbi : (((st[j]'hltj).toNat : Nat) : Int) = 10 := by rw [hby, hc]; rfl
            rw [if_pos hc] at HTK
            generalize lfs (s.text.take j) = nl at *
            clear hby hc
            go_wp2_with fail
            go_roundg (st.size - (j + 1))
            case measure => omega
            case rel => exact ⟨j + 1, by omega, rfl, by go_num, by rw [HTK.out]; go_num, HSJ.out⟩
          · have hbi : ¬ (((st[j]'hltj).toNat : Nat) : Int) = 10 := fun e => hc (by
              rw [← hby]
              have e2 : (st[j]'hltj).toNat = 10 := by omega
              exact UInt8.toNat_inj.1 e2)
            rw [if_neg hc, Nat.add_zero] at HTK
            generalize lfs (s.text.take j) = nl at *
            clear hby hc
            go_wp2_with fail
            go_roundg (st.size - (j + 1))
            case measure => omega
            case rel => exact ⟨j + 1, by omega, rfl, by go_num, by rw [HTK.out]; rfl, HSJ.out⟩
        · have hnj : j = st.size := by omega
          have hltji : ¬ (j : Int) < (st.size : Int) := by omega
          have HX : Hid (lfs (s.text.take j) = l.length + K.length + T.length + 3) := Lib.hid (by rw [hnj, HSZ.out, List.take_length]; exact HLF.out)
          rw [HX.out]
          obtain ⟨b0, b1, b2, b3, b4, b5, b6, b7, b8⟩ := HCC.out wj HSJ.out
          clear hnj
          go_wp2_with (go_at_call 5; (with_reducible refine (HLV.out _ HSJ.out).mono ?_); rintro e w2 ⟨rfl, hb2⟩; have HB2 := Lib.hid hb2; clear hb2)
          go_ret
          exact ⟨rfl, HB0.out.trans (HB2.out.mono HB0.out.size)⟩
end Go.Proofs.YthjcmcgmalnfpaaGreatDoor.Lex
/- What ReportSheets takes, opened; the table of words, off what a row lists. -/
namespace Go.Proofs.YthjcmcgmalnfpaaGreatDoor.Lex
open Go.RowKit
set_option linter.unusedVariables false
/-- What came in, ahead of the guard. -/
structure OpPre (k : Nat) (F : Foot) (w : World) (o : OpD) (xa : Option Addr) (da : Option Addr) (dm dc : Nat) (ya : Option Addr) : Prop where
  ki : InI o.ki
  kn : InI o.kn
  kd : InI o.kd
  ow : InI o.ow
  oa : InI o.oa
  xs : U64s w xa o.xs
  row : RowOf (descRd k) 3 40 F w da dm dc o.dl
  nd : DescV.nodesL o.dl < 1048576
  who : InI o.who
  at_ : InI o.at_
  fr : InI o.fr
  tz : InI o.tz
  n : InI o.n
  li : InI o.li
  tt : o.tt.size ≤ 9223372036854775807
  ys : U64s w ya o.ys
theorem OpPre.calm {k : Nat} {F : Foot} {w : World} {o : OpD} {xa da ya : Option Addr} {xc dm dc yc : Nat} (h : OpPre k F w o xa da dm dc ya) (hc : o.Calm) : OpIn k F w o xa xc da dm dc ya yc :=
  ⟨⟨⟨h.ki, h.kn, h.kd, h.ow, h.oa, by have := hc.1; show o.tx.size ≤ _; omega, by have := hc.2.1; show o.xs.length ≤ _; omega⟩, hc.1, hc.2.1, u64s_lt h.xs⟩, h.xs, h.row, h.nd, h.who, h.at_, h.fr, h.tz, h.n, h.li, h.tt, h.ys, hc.2.2.1⟩
theorem cells_of_strs {H : Type} {enc : TypeId × Value → H} {P : Program} {w : World} {base : Nat} {sp : Nat → Bool} {held : Bool} {fuel : Nat} {t e : TypeId} {n : Nat} {cs : List Value} {ss : List (List UInt8)} {p : List MemPlace}
    (ht : P.underlying t = some (.array n e)) (he : P.underlying e = some .string) (hce : P.cellsOf e = 1) (hct : P.cellsOf t = n)
    (h : DataW.trod enc P w base sp held fuel t cs = some (.agg (ss.map fun s => .lit (.string s)), p)) : cs = ss.map fun s => Value.string ⟨s.toArray⟩ := by
  obtain ⟨xs, m, _, hx, hl, hxs, hi⟩ := DataW.trod_array ht h
  rw [hct] at hl
  simp only [Prod.mk.injEq, DataW.agg.injEq] at hx
  obtain ⟨hx, _⟩ := hx
  have hxl : ss.length = n := by
    have := congrArg List.length hx
    simp at this
    omega
  apply List.ext_getElem?
  intro i
  by_cases h' : i < n
  · have e1 := hi i h'
    rw [hce, Nat.mul_one] at e1
    have e2 : (xs.map (·.1))[i]? = (ss.map fun s => (DataW.lit (.string s) : DataW H))[i]? := by rw [hx]
    rw [List.getElem?_map, List.getElem?_map, List.getElem?_eq_getElem (by omega : i < ss.length), List.getElem?_eq_getElem (by omega : i < xs.length)] at e2
    rw [List.getElem?_eq_getElem (by omega : i < xs.length)] at e1
    obtain ⟨s, h1, h2, _⟩ := DataW.trod_string he e1
    rw [h2] at e2
    simp only [Option.map_some, Option.some.injEq, DataW.lit.injEq, Lit.string.injEq] at e2
    have h3 : cs[i]? = some (.string s) := by
      have := congrArg (·[0]?) h1
      simpa [List.getElem?_take, List.getElem?_drop] using this
    rw [h3, List.getElem?_map, List.getElem?_eq_getElem (by omega : i < ss.length), ← e2]
    simp
  · rw [List.getElem?_eq_none (by omega), List.getElem?_eq_none (by simp; omega)]
theorem hasWords_of_laid {l : List (String × DataW Unit)} {W : World} (h : laidMetH Tryz.prog l W) (hp : (l.all fun x => x.2.handleName?.isNone) = true)
    (hm : ("dulcimer/report.words", (.agg (wordsE.map fun s => .lit (.string s)) : DataW Unit)) ∈ l) : HasWords W := by
  rw [MakeChecks.laidMetH_plain _ _ _ hp] at h
  obtain ⟨g, t, cs, fuel, p, h1, h2, h3, h4⟩ := Lib.laidMet.reads h hm
  obtain rfl : 0 = g := Option.some.inj ((show Tryz.prog.globalNamed "dulcimer/report.words" = some 0 by kernel_rfl).symm.trans h1)
  obtain rfl : 107 = t := Option.some.inj ((show (Tryz.prog.globals[0]?).map (·.type) = some 107 by kernel_rfl).symm.trans h2)
  have h5 := cells_of_strs Tryz.underlying107 Tryz.underlying9 (by kernel_rfl) (by kernel_rfl) h4
  intro i x hx
  rw [World.var?_cell (by kernel_rfl) h3 i, ← Array.getElem?_toList, h5, List.getElem?_map, hx]
  rfl
theorem wf_in {n : Int} (h : (Lit.int .i64 n).wf = true) : InI n := by
  simp only [Lit.wf, Bool.and_eq_true, decide_eq_true_eq] at h
  exact h
theorem u64s_of_row {F : Foot} {w : World} {a : Option Addr} {n cap : Nat} {xs : List Int} (h : RowOf (Rd.int .u64) 1 8 F w a n cap xs) : U64s w a (xs.map Int.toNat) ∧ (xs.map Int.toNat).length = n := by
  refine ⟨fun i hi => ?_, by simpa using h.len⟩
  have hi' : i < xs.length := by simpa using hi
  obtain ⟨b, off, h1, h2, _, h3, h4⟩ := h.int i hi'
  have hw : (0 : Int) ≤ xs[i] ∧ xs[i] ≤ 18446744073709551615 := by
    simp only [Lit.wf, Bool.and_eq_true, decide_eq_true_eq] at h4
    exact h4
  refine ⟨b, off, h1, h2, ?_, ?_⟩
  · rw [h3]
    simp only [List.getElem_map]
    rw [Int.toNat_of_nonneg hw.1]
  · simp only [List.getElem_map]
    omega
theorem descRd_cells' {k : Nat} {F : Foot} {w : World} {cs : List Value} {d : DescV} (h : descRd k F w cs d) : ∃ a n c, cs = [.int .i64 d.kind, .int .i64 d.n, .slice a n c] ∧ RowOf (descRd k) 3 40 F w a n c d.kids := by
  cases k with
  | zero => exact h.elim
  | succ k =>
    obtain ⟨a, n, c, h1, _, _, h4⟩ := h
    exact ⟨a, n, c, h1, h4.imp fun _ _ h => descRd_mono (Nat.le_succ k) h⟩
set_option maxRecDepth 100000 in
theorem opRd_oc {k : Nat} {w : World} {cs : List Value} {x : OpV} (h : opRd k All w cs x) :
    ∃ e : OC, cs = e.cells ∧ x.2.2.1.2.1 = .mk e.o.dk e.o.dn e.o.dl ∧ (DescV.nodesL e.o.dl < 1048576 → RowOf (descRd k) 3 40 All w e.da e.dm e.dc e.o.dl ∧ (e.o.Calm → OcIn k All w e)) := by
  obtain ⟨⟨wh, at'⟩, ⟨ki, ⟨kn, kd⟩, tx, ⟨ow, oa⟩, xs⟩, ⟨e, d, n, li, tt, ys⟩, fr, tz⟩ := x
  obtain ⟨_, _, rfl, ⟨_, _, rfl, ⟨rfl, f1⟩, rfl, f2⟩, _, _, rfl, ⟨_, _, rfl, ⟨rfl, f3⟩, _, _, rfl, ⟨_, _, rfl, ⟨rfl, f4⟩, rfl, f5⟩, _, _, rfl, ⟨rfl, f6⟩, _, _, rfl, ⟨_, _, rfl, ⟨rfl, f7⟩, rfl, f8⟩, xa, xm, xc, rfl, hx⟩, _, _, rfl, ⟨_, _, rfl, ⟨rfl, f9⟩, _, _, rfl, hd, _, _, rfl, ⟨rfl, f10⟩, _, _, rfl, ⟨rfl, f11⟩, _, _, rfl, ⟨rfl, f12⟩, ya, ym, yc, rfl, hy⟩, _, _, rfl, ⟨rfl, f13⟩, rfl, f14⟩ := h
  obtain ⟨da, dm, dc, rfl, hk⟩ := descRd_cells' hd
  obtain ⟨dk, dn, dl⟩ := d
  obtain ⟨hxu, hxl⟩ := u64s_of_row hx
  obtain ⟨hyu, hyl⟩ := u64s_of_row hy
  refine ⟨⟨⟨wh, at', ki, kn, kd, tx, ow, oa, xs.map Int.toNat, e, dk, dn, dl, n, li, tt, ys.map Int.toNat, fr, tz⟩, xa, xc, da, dm, dc, ya, yc⟩, ?_, rfl, fun hnd => ⟨hk, fun hc => ?_⟩⟩
  · show _ = ([.int .i64 wh, .int .i64 at', .int .i64 ki, .int .i64 kn, .int .i64 kd, .string tx, .int .i64 ow, .int .i64 oa, .slice xa (xs.map Int.toNat).length xc, .int .i64 e, .int .i64 dk, .int .i64 dn, .slice da dm dc, .int .i64 n, .int .i64 li, .string tt, .slice ya (ys.map Int.toNat).length yc, .int .i64 fr, .int .i64 tz] : List Value)
    rw [hxl, hyl]
    rfl
  · have hp : OpPre k All w ⟨wh, at', ki, kn, kd, tx, ow, oa, xs.map Int.toNat, e, dk, dn, dl, n, li, tt, ys.map Int.toNat, fr, tz⟩ xa da dm dc ya :=
      ⟨wf_in f3, wf_in f4, wf_in f5, wf_in f7, wf_in f8, hxu, hk, hnd, wf_in f1, wf_in f2, wf_in f13, wf_in f14, wf_in f10, wf_in f11, by have f : tt.size ≤ 140737488351232 := f12; show tt.size ≤ _; omega, hyu⟩
    exact ⟨hp.calm hc, fun _ _ _ => trivial, fun _ _ _ => trivial, by show (xs.map Int.toNat).length ≤ xc; rw [hxl]; exact hx.le, hx.nil, by show (ys.map Int.toNat).length ≤ yc; rw [hyl]; exact hy.le, hy.nil⟩
/-- A slice, whatever it shows. -/
def rSl : Rd Nat := fun _ _ cs n => ∃ a c, cs = [.slice a n c] ∧ n ≤ 4398046511104
theorem ob_sl {P : Program} {t e : TypeId} (ht : P.underlying t = some (.slice e)) (hb : P.bytesOf e = 56) (N : Nat) : OB P t rSl (fun _ => 0) N := by
  refine ⟨fun {H} enc w base spare held fuel cs x hf h hq => ?_⟩
  rcases DataW.trod_slice ht h with ⟨rfl, rfl⟩ | ⟨a, n, cap, elems, rest, f, rfl, rfl, rfl, _, hl, hm, hen, hel, _, _⟩
  · exact ⟨0, ⟨none, 0, rfl, by omega⟩, Nat.zero_le _⟩
  · refine ⟨n, ⟨some a, cap, rfl, ?_⟩, Nat.zero_le _⟩
    have hw0 : (elems.length + rest.length) * P.bytesOf e ≤ reachBytes := hq _ (by simp [DataW.weights, ht])
    rw [hb] at hw0
    unfold reachBytes at hw0
    omega
/-- Three numbers. -/
abbrev threeRd : Rd (Int × Int × Int) := .pair (.int .i64) (.pair (.int .i64) (.int .i64))
set_option maxRecDepth 100000 in
theorem ob_three (N : Nat) : OB Tryz.prog 23 threeRd (fun _ => 0) N := by
  refine ⟨fun {H} enc w base spare held fuel cs x hf h hq => ?_⟩
  obtain ⟨xs, m, _, hx, hl, hxs, hi⟩ := DataW.trod_array Tryz.underlying23 h
  have hl3 : cs.length = 3 := hl.trans (by kernel_rfl)
  match cs, hl3 with
  | [c0, c1, c2], _ =>
    obtain ⟨y0, y1, y2, n, rfl, h0, h1, h2⟩ := ChangeShapes.trod_array3 Tryz.underlying23 (by kernel_rfl) h
    obtain ⟨n0, e0, _, w0⟩ := DataW.trod_int Tryz.underlying3 h0
    obtain ⟨n1, e1, _, w1⟩ := DataW.trod_int Tryz.underlying3 h1
    obtain ⟨n2, e2, _, w2⟩ := DataW.trod_int Tryz.underlying3 h2
    cases e0
    cases e1
    cases e2
    exact ⟨(n0, n1, n2), ⟨[.int .i64 n0], [.int .i64 n1, .int .i64 n2], rfl, ⟨rfl, w0⟩, [.int .i64 n1], [.int .i64 n2], rfl, ⟨rfl, w1⟩, rfl, w2⟩, Nat.zero_le _⟩
theorem opRd_ok (k : Nat) : (opRd k).Ok 19 :=
  Rd.pair_ok keyRd_ok43 (Rd.pair_ok (Rd.pair_ok (Rd.int_ok _) (Rd.pair_ok keyRd_ok43 (Rd.pair_ok Rd.str_ok (Rd.pair_ok keyRd_ok43 (Rd.slice_ok (Rd.int_ok _) _)))))
    (Rd.pair_ok (Rd.pair_ok (Rd.int_ok _) (Rd.pair_ok (descRd_ok k) (Rd.pair_ok (Rd.int_ok _) (Rd.pair_ok (Rd.int_ok _) (Rd.pair_ok Rd.str_ok (Rd.slice_ok (Rd.int_ok _) _)))))) (Rd.pair_ok (Rd.int_ok _) (Rd.int_ok _))))
set_option maxRecDepth 100000 in
theorem ob_ops (N : Nat) : OB Tryz.prog 22 (.slice (opRd (N + 1)) 19 216) (fun l => (l.map fun x => x.2.2.1.2.1.nodes).sum) (N + 4) :=
  (ob_slice Tryz.underlying22 (by kernel_rfl) (by kernel_rfl) (by omega) (opRd_ok _) (ob_op N)).map id (fun h => h) (fun l => Nat.le_succ _)
set_option maxRecDepth 100000 in
theorem ob_keyss (N : Nat) : OB Tryz.prog 24 (.slice (.slice keyRd 2 16) 1 24) (fun _ => 0) (N + 3) :=
  (ob_slice Tryz.underlying24 (by kernel_rfl) (by kernel_rfl) (by omega) (Rd.slice_ok keyRd_ok43 _) (ob_slice Tryz.underlying32 (by kernel_rfl) (by kernel_rfl) (by omega) keyRd_ok43 (ob_key N))).map id (fun h => h) (fun l => Nat.zero_le _)
theorem ob_name (N : Nat) : OB Tryz.prog 74 nameRd (fun _ => 0) (N + 1) :=
  (ob_struct (tot := 4) Tryz.underlying74 (by kernel_rfl) (obf_cons (s := 1) rfl (by kernel_rfl) (ob_int Tryz.underlying3 N) (obf_cons (s := 1) rfl (by kernel_rfl) (ob_int Tryz.underlying3 N) (obf_cons (s := 1) rfl (by kernel_rfl) (ob_int Tryz.underlying3 N) (obf_one (s := 1) rfl (by kernel_rfl) rfl (ob_int Tryz.underlying3 N)))))).map id (fun h => h) (fun _ => Nat.zero_le _)
theorem ob_names (N : Nat) : OB Tryz.prog 26 (.slice nameRd 4 32) (fun _ => 0) (N + 2) :=
  (ob_slice Tryz.underlying26 (by kernel_rfl) (by kernel_rfl) (by omega) nameRd_ok (ob_name N)).map id (fun h => h) (fun l => Nat.zero_le _)
theorem ob_ints (N : Nat) : OB Tryz.prog 27 (.slice (.int .i64) 1 8) (fun _ => 0) (N + 1) :=
  (ob_slice Tryz.underlying27 (by kernel_rfl) (by kernel_rfl) (by omega) (Rd.int_ok _) (ob_int Tryz.underlying3 N)).map id (fun h => h) (fun l => Nat.zero_le _)
abbrev SheetV := List OpV × Int × (Int × Int × Int) × List (List KeyV) × Nat × List NameV × List Int
abbrev sheetRd (k : Nat) : Rd SheetV := .pair (.slice (opRd k) 19 216) (.pair (.int .i64) (.pair threeRd (.pair (.slice (.slice keyRd 2 16) 1 24) (.pair rSl (.pair (.slice nameRd 4 32) (.slice (.int .i64) 1 8))))))
set_option maxRecDepth 100000 in
theorem ob_sheet (N : Nat) : OB Tryz.prog 29 (sheetRd (N + 1)) (fun s => (s.1.map fun x => x.2.2.1.2.1.nodes).sum) (N + 5) :=
  (ob_struct (tot := 9) Tryz.underlying29 (by kernel_rfl) (N := N + 4)
    (obf_cons (s := 1) rfl (by kernel_rfl) (ob_ops N)
    (obf_cons (s := 1) rfl (by kernel_rfl) (ob_int Tryz.underlying3 _)
    (obf_cons (s := 3) rfl (by kernel_rfl) (ob_three _)
    (obf_cons (s := 1) rfl (by kernel_rfl) (ob_keyss (N + 1))
    (obf_cons (s := 1) rfl (by kernel_rfl) (ob_sl Tryz.underlying25 (by kernel_rfl) _)
    (obf_cons (s := 1) rfl (by kernel_rfl) (ob_names (N + 2))
    (obf_one (s := 1) rfl (by kernel_rfl) rfl (ob_ints (N + 3)))))))))).map id (fun h => h) (fun x => by
      show (x.1.map fun x => x.2.2.1.2.1.nodes).sum ≤ (x.1.map fun x => x.2.2.1.2.1.nodes).sum + _ + 1
      omega)
theorem le_sum {α : Type} {f : α → Nat} : ∀ {l : List α} {i : Nat} {x : α}, l[i]? = some x → f x ≤ (l.map f).sum
  | y :: l, 0, x, h => by
    obtain rfl : y = x := by simpa using h
    simp
  | y :: l, i + 1, x, h => by
    have := le_sum (f := f) (l := l) (i := i) (by simpa using h)
    simp only [List.map_cons, List.sum_cons]
    omega
set_option maxRecDepth 100000 in
/-- What came in, opened. -/
theorem sheets_open {H : Type} {enc : TypeId × Value → H} {w : World} {b0 : Nat} {s0 : Nat → Bool} {e0 : Bool} {v0 : Value} {d0 : DataW H} {p0 : List MemPlace} {ww : World} {rr : Reach} {bb : Nat}
    (hv0 : Value.okWide Tryz.prog ww rr bb 29 v0) (h0 : DataW.Trod enc Tryz.prog w b0 s0 e0 29 v0 d0 p0) (q0 : ∀ q ∈ DataW.weights Tryz.prog 29 d0, q ≤ reachBytes) (hb : Rows.uptoBulk d0 ≤ 1048576) (hW : HasWords w) (hx : HasMax w) (ht : HasTab w) :
    Calls Tryz.prog 3 #[v0] w fun e w' => e = .returned (.bool true) ∧ Below w.heap.size w w' := by
  obtain ⟨f0, h0⟩ := h0
  obtain ⟨cs, rfl, _⟩ := Go.WideShapes.okWide_struct Tryz.underlying29 hv0
  obtain ⟨x, hd, hm⟩ := (ob_sheet (f0 + 1)).get enc w b0 s0 e0 f0 _ _ (by omega) h0 q0
  obtain ⟨xo, p, ⟨m, bu, ins⟩, K, nk, T, U⟩ := x
  obtain ⟨_, _, e, ⟨oa, on, oc, rfl, ho⟩, _, _, rfl, ⟨rfl, wp⟩, _, _, rfl, ⟨_, _, rfl, ⟨rfl, wm⟩, _, _, rfl, ⟨rfl, wb⟩, rfl, wi⟩, _, _, rfl, ⟨ka, kn, kc, rfl, hK⟩, _, _, rfl, ⟨na, nc, rfl, hnk⟩, _, _, rfl, ⟨ta, tn, tc, rfl, hT⟩, ua, un, uc, rfl, hU⟩ := hd
  have hm' : (xo.map fun x => x.2.2.1.2.1.nodes).sum ≤ Rows.uptoBulk d0 := hm
  obtain ⟨l, hll, hlq⟩ := list_choose (Q := fun i e => OcPre (f0 + 1 + 1) w oa i e) xo.length fun i hi => by
    obtain ⟨b, off, cs', h1, h2, _, h3, h4, h5⟩ := ho.at_ i _ (List.getElem?_eq_getElem hi)
    obtain ⟨e, rfl, hxo, hp⟩ := opRd_oc h5
    have hn : DescV.nodesL e.o.dl < 1048576 := by
      have h6 := le_sum (f := fun x : OpV => x.2.2.1.2.1.nodes) (List.getElem?_eq_getElem hi)
      have h7 : (xo[i]'hi).2.2.1.2.1.nodes = DescV.nodesL e.o.dl + 1 := by rw [hxo, DescV.nodes_kids]; rfl
      have h8 : (xo[i]'hi).2.2.1.2.1.nodes ≤ (xo.map fun x => x.2.2.1.2.1.nodes).sum := h6
      omega
    exact ⟨e, ⟨⟨b, off, h1, h2, h4⟩, (hp hn).1, hn⟩, (hp hn).2⟩
  have hon : xo.length = on := ho.len
  have hkn := hK.len
  have htn := hT.len
  have hun := hU.len
  have hor := ho.room
  subst hkn htn hun
  obtain rfl : on = l.length := by omega
  have hcs : cs = #[.slice oa l.length oc, .int .i64 p, .int .i64 m, .int .i64 bu, .int .i64 ins, .slice ka K.length kc, .slice na nk nc, .slice ta T.length tc, .slice ua U.length uc] := Array.toList_inj.1 e
  subst hcs
  exact sheets_law _ l K T U p m bu ins nk oa oc na nc ka kc ta tc ua uc w (fun i hi => hlq i _ (List.getElem?_eq_getElem hi)) (by omega) hK hT hU (wf_in wp) (wf_in wm) (wf_in wb) (wf_in wi) hnk hW hx ht
end Go.Proofs.YthjcmcgmalnfpaaGreatDoor.Lex
