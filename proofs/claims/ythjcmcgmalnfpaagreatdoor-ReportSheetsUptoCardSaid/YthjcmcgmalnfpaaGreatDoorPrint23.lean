/- dtext.Print; the reference's Text. -/
import Derived.Test.YthjcmcgmalnfpaaGreatDoorText23
import Derived.Deep.RegionHeld3
namespace Go.Proofs.YthjcmcgmalnfpaaGreatDoor.Lex
open Go.RowKit
set_option linter.unusedSimpArgs false
set_option linter.unusedVariables false
/-- What Print tells. -/
def printD (d : DescV) : Value := if bigD d = true then .tuple #[.string ⟨#[]⟩, .int .i64 12] else match textD d with | none => .tuple #[.string ⟨#[]⟩, .int .i64 8] | some t => .tuple #[.string (bs t), .int .i64 0]
set_option maxRecDepth 100000 in
set_option maxHeartbeats 1000000 in
theorem print_any (k : Nat) (F : Foot) (kd nd : Int) (l : List DescV) (a : Option Addr) (n cap : Nat) (w : World) (hl : RowOf (descRd k) 3 40 F w a n cap l) (hm : DescV.nodesL l < 1048576) (hx : HasMax w) (ht : HasTab w) :
    Calls Tryz.prog 35 #[.agg #[.int .i64 kd, .int .i64 nd, .slice a n cap]] w fun e w' => e = .returned (printD (.mk kd nd l)) ∧ Below w.heap.size w w' := by
  obtain ⟨hb0, hz0, hc⟩ := desc_box kd nd a n cap w
  obtain ⟨W0, hW0⟩ : ∃ W0, W0 = w.alloc (.cells #[.int .i64 kd, .int .i64 nd, .slice a n cap] 54) := ⟨_, rfl⟩
  rw [← hW0] at hb0 hz0 hc
  have HB0 := Lib.hid hb0
  have HC := Lib.hid hc
  have H1 := Lib.hid (big_any k F kd nd l a n cap W0 (hl.keep (descRd_ok _) (Fix.of_below hb0)) hm)
  have H2 : Hid (∀ W, Below W0.heap.size W0 W → Calls Tryz.prog 52 #[.agg #[.int .i64 kd, .int .i64 nd, .slice a n cap]] W fun e w' => e = .returned (tup2 (textD (.mk kd nd l))) ∧ Below W0.heap.size W0 w') := Lib.hid fun W hb =>
    (text_any k F kd nd l a n cap W (hl.keep (descRd_ok _) (Fix.of_below (hb0.trans (hb.mono hb0.size)))) hm (hx.below (hb0.trans (hb.mono hb0.size))) (ht.below (hb0.trans (hb.mono hb0.size)))).mono fun e w' h => ⟨h.1, hb.trans (h.2.mono hb.size)⟩
  obtain ⟨t00, t01, t02⟩ := hc W0 (Below.refl _ _)
  unfold printD
  obtain ⟨R, hR⟩ : ∃ R : Value, (if bigD (.mk kd nd l) = true then Value.tuple #[.string ⟨#[]⟩, .int .i64 12] else match textD (.mk kd nd l) with | none => .tuple #[.string ⟨#[]⟩, .int .i64 8] | some t => .tuple #[.string (bs t), .int .i64 0]) = R := ⟨_, rfl⟩
  rw [hR]
  have HR := Lib.hid hR
  clear hl hm hx ht hb0 hz0 hc hR
  generalize bigD (.mk kd nd l) = B at *
  generalize textD (.mk kd nd l) = T at *
  cases B with
  | true =>
    clear H2
    go_enter Tryz.func35, Tryz.ntmps35
    go_wp2_with (rw [← hW0]; clear hW0; (go_at_call 51; (with_reducible refine H1.out.mono ?_); rintro e w1 ⟨rfl, hb1⟩; have HB1 := Lib.hid hb1; clear hb1))
    go_ret2
    exact ⟨by rw [← HR.out]; rfl, HB0.out.trans (HB1.out.mono HB0.out.size)⟩
  | false =>
    cases T with
    | none =>
      dsimp only [tup2] at H2
      go_enter Tryz.func35, Tryz.ntmps35
      go_wp2_with (first
        | (rw [← hW0]; clear hW0; (go_at_call 51; (with_reducible refine H1.out.mono ?_); rintro e w1 ⟨rfl, hb1⟩; have HB1 := Lib.hid hb1; obtain ⟨t10, t11, t12⟩ := HC.out w1 hb1; clear hb1))
        | (go_at_call 52; (with_reducible refine (H2.out _ HB1.out).mono ?_); rintro e w2 ⟨rfl, hb2⟩; have HB2 := Lib.hid hb2; clear hb2))
      go_ret2
      exact ⟨by rw [← HR.out]; rfl, HB0.out.trans (HB2.out.mono HB0.out.size)⟩
    | some t =>
      dsimp only [tup2] at H2
      go_enter Tryz.func35, Tryz.ntmps35
      go_wp2_with (first
        | (rw [← hW0]; clear hW0; (go_at_call 51; (with_reducible refine H1.out.mono ?_); rintro e w1 ⟨rfl, hb1⟩; have HB1 := Lib.hid hb1; obtain ⟨t10, t11, t12⟩ := HC.out w1 hb1; clear hb1))
        | (go_at_call 52; (with_reducible refine (H2.out _ HB1.out).mono ?_); rintro e w2 ⟨rfl, hb2⟩; have HB2 := Lib.hid hb2; clear hb2))
      go_ret2
      exact ⟨by rw [← HR.out]; rfl, HB0.out.trans (HB2.out.mono HB0.out.size)⟩
theorem join_snoc (ts : List (List UInt8)) (t : List UInt8) (h : ts ≠ []) : Lib.join (ts ++ [t]) [44] = Lib.join ts [44] ++ [44] ++ t := by
  cases ts with
  | nil => exact absurd rfl h
  | cons a r =>
    rw [List.cons_append, Lib.join_cons, Lib.join_cons]
    simp [Lib.joinTail]
/-- What is told so far: a word, its digits, the first i kids. -/
def soFar (hd : List UInt8) (ts : List (List UInt8)) (i : Nat) : List UInt8 := hd ++ if i = 0 then [] else [40] ++ Lib.join (ts.take i) [44]
theorem soFar_zero (hd : List UInt8) (ts : List (List UInt8)) : soFar hd ts 0 = hd := by simp [soFar]
theorem soFar_one {hd : List UInt8} {ts : List (List UInt8)} {t : List UInt8} (h : ts[0]? = some t) : soFar hd ts 1 = hd ++ [40] ++ t := by
  cases ts with
  | nil => simp at h
  | cons a r =>
    obtain rfl : a = t := by simpa using h
    simp [soFar, Lib.join_one]
theorem soFar_succ {hd : List UInt8} {ts : List (List UInt8)} {t : List UInt8} {i : Nat} (h : ts[i]? = some t) (h0 : 0 < i) : soFar hd ts (i + 1) = soFar hd ts i ++ [44] ++ t := by
  have hi := (List.getElem?_eq_some_iff.1 h).1
  rw [soFar, soFar, if_neg (by omega), if_neg (by omega), List.take_succ_eq_append_getElem hi, (List.getElem?_eq_some_iff.1 h).2, join_snoc _ _ (fun e => by have := congrArg List.length e; rw [List.length_take, List.length_nil] at this; omega)]
  simp
theorem textsD_get : ∀ {l : List DescV} {ts : List (List UInt8)}, textsD l = some ts → ∀ {i : Nat} (hi : i < l.length), ∃ t, ts[i]? = some t ∧ textD (l[i]'hi) = some t
  | [], ts, h, i, hi => by simp at hi
  | a :: l, ts, h, i, hi => by
    rw [textsD] at h
    cases ht : textD a with
    | none => rw [ht] at h; cases h
    | some t =>
      rw [ht] at h
      obtain ⟨r, hr, rfl⟩ := Option.map_eq_some_iff.1 h
      cases i with
      | zero => exact ⟨t, rfl, by simpa using ht⟩
      | succ i =>
        obtain ⟨u, h1, h2⟩ := textsD_get hr (i := i) (by simpa using hi)
        exact ⟨u, by simpa using h1, by simpa using h2⟩
set_option maxRecDepth 100000 in
set_option maxHeartbeats 4000000 in
theorem rtext_step (k : Nat) (ih : ∀ j, k = j + 1 → ∀ (F : Foot) (kd nd : Int) (l : List DescV) (a : Option Addr) (n cap : Nat) (w : World) (t : List UInt8), RowOf (descRd j) 3 40 F w a n cap l → DescV.nodesL l < 1048576 → textD (.mk kd nd l) = some t →
    Calls Tryz.prog 49 #[.agg #[.int .i64 kd, .int .i64 nd, .slice a n cap]] w fun e w' => e = .returned (.string (bs t)) ∧ Below w.heap.size w w') (F : Foot) (kd nd : Int) (l : List DescV) (a : Option Addr) (n cap : Nat) (w : World) (t : List UInt8) (hl : RowOf (descRd k) 3 40 F w a n cap l) (hm : DescV.nodesL l < 1048576) (htx : textD (.mk kd nd l) = some t) :
    Calls Tryz.prog 49 #[.agg #[.int .i64 kd, .int .i64 nd, .slice a n cap]] w fun e w' => e = .returned (.string (bs t)) ∧ Below w.heap.size w w' := by
  have HLN := Lib.hid hl.len
  have hn : n ≤ 3518437208880 := by have := hl.room; omega
  obtain ⟨hb0, hz0, hc⟩ := desc_box kd nd a n cap w
  obtain ⟨W0, hW0⟩ : ∃ W0, W0 = w.alloc (.cells #[.int .i64 kd, .int .i64 nd, .slice a n cap] 54) := ⟨_, rfl⟩
  rw [← hW0] at hb0 hz0 hc
  have HC := Lib.hid hc
  have HB0 := Lib.hid hb0
  have HL := Lib.hid (hl.keep (descRd_ok _) (Fix.of_below hb0))
  have HM := Lib.hid hm
  have HIH := Lib.hid ih
  have hlen := textD_len htx
  rw [textD] at htx
  split at htx
  · next hok =>
    obtain ⟨ts, hts, htt⟩ := Option.map_eq_some_iff.1 htx
    have hok' : 1 ≤ kd ∧ kd ≤ 7 ∧ 0 ≤ nd ∧ nd ≤ 999999999 := by unfold okH at hok; simpa using hok
    obtain ⟨h1, h2, h3, h4⟩ := hok'
    obtain ⟨q, rfl⟩ : ∃ q : Nat, nd = q := ⟨nd.toNat, by omega⟩
    have hq : q ≤ 999999999 := by omega
    rw [Int.toNat_natCast] at htt
    have HTS := Lib.hid hts
    have HTT : Hid (t = soFar (wordD kd ++ Lib.decDigits q) ts n ++ if n = 0 then [] else [41]) := Lib.hid (by
      rw [← htt, soFar]
      have hl := textsD_len hts
      by_cases h0 : n = 0
      · rw [if_pos h0, if_pos h0, if_pos (List.eq_nil_of_length_eq_zero (by rw [hl, HLN.out]; exact h0))]
        simp
      · rw [if_neg h0, if_neg h0, if_neg (fun e => by rw [e] at hl; have := HLN.out; simp at hl; omega), List.take_of_length_le (by rw [hl, HLN.out]; exact Nat.le_refl _)]
        simp)
    have HRW := Lib.hid (fun W => rword23 kd W (by omega) (by omega))
    have HRD := Lib.hid (fun W => rdig q W (by omega))
    have hlw : (bs (wordD kd)).size ≤ 5 := by rw [size_bs]; exact wordD_len kd
    have hld : (bs (Lib.decDigits q)).size ≤ 19 := by rw [size_bs]; exact decDigits_len (by omega)
    have hsum : ¬ 9223372036854775807 < (bs (wordD kd)).size + (bs (Lib.decDigits q)).size := by omega
    have HHD : Hid (bs (wordD kd) ++ bs (Lib.decDigits q) = bs (soFar (wordD kd ++ Lib.decDigits q) ts 0)) := Lib.hid (by rw [bs_bs, soFar_zero])
    have hts0 : (soFar (wordD kd ++ Lib.decDigits q) ts n).length ≤ 20971520 := by
      have : t.length ≤ 20971520 := by rw [DescV.nodes] at hlen; omega
      rw [HTT.out, List.length_append] at this
      omega
    have HMON : Hid (∀ i, i ≤ n → (soFar (wordD kd ++ Lib.decDigits q) ts i).length ≤ 20971520) := Lib.hid (by
      have step : ∀ i, i < n → (soFar (wordD kd ++ Lib.decDigits q) ts i).length ≤ (soFar (wordD kd ++ Lib.decDigits q) ts (i + 1)).length := fun i hi => by
        obtain ⟨u, hu, _⟩ := textsD_get hts (i := i) (by rw [HLN.out]; exact hi)
        by_cases h0 : i = 0
        · subst h0
          rw [soFar_one hu, soFar_zero]
          try (simp only [List.length_append] <;> omega)
        · rw [soFar_succ hu (by omega)]
          simp
      have down : ∀ m i, i + m = n → (soFar (wordD kd ++ Lib.decDigits q) ts i).length ≤ 20971520 := fun m => by
        induction m with
        | zero => intro i hi; rw [show i = n by omega]; exact hts0
        | succ m ih2 => intro i hi; exact Nat.le_trans (step i (by omega)) (ih2 (i + 1) (by omega))
      exact fun i hi => down (n - i) i (by omega))
    generalize wordD kd ++ Lib.decDigits q = hd at *
    have hbz := Below.refl W0.heap.size W0
    obtain ⟨t00, t01, t02⟩ := hc W0 hbz
    clear hl ih hm hlen htx hok hts htt h1 h2 h3 h4 hb0 hc hts0
    go_enter Tryz.func49, Tryz.ntmps49
    go_upto_region 1 with fail
    rw [← hW0]
    clear hW0
    go_region_held3 (fun W => W.cell? ⟨w.heap.size, 0, none⟩ = some (.int .i64 kd) ∧ W.cell? ⟨w.heap.size, 1, none⟩ = some (.int .i64 (q : Int)) ∧ W.cell? ⟨w.heap.size, 2, none⟩ = some (.slice a n cap)) (first | exact HC.out _ (by first | assumption | exact Below.drew (by assumption)))
      ((first
        | (go_at_call 70; (with_reducible refine (HRW.out _).mono ?_); rintro e w2 ⟨rfl, hb2⟩; have hb2z : Below W0.heap.size W0 w2 := Below.trans (by first | assumption | exact Below.drew (by assumption)) (hb2.mono (Nat.le_refl _)); clear hb2)
        | (go_at_call 33; (with_reducible refine (HRD.out _).mono ?_); rintro e w3 ⟨rfl, rfl⟩)))
    rw [HHD.out]
    have HB2 := Lib.hid hb2z
    go_wp2_with fail
    clear hb2z hbz t00 t01 t02 hsum hlw hld HRW HRD HHD
    go_loopg [3, 4] n (fun g sv iv wr => ∃ j : Nat, j ≤ n ∧ g = n - j ∧ iv = .int .i64 (j : Int) ∧ sv = .string (bs (soFar hd ts j)) ∧ Below W0.heap.size W0 wr)
    case atStart => exact ⟨0, by omega, rfl, rfl, rfl, HB2.out⟩
    case round =>
      obtain ⟨j, hj, rfl, rfl, rfl, hB⟩ := hrel
      obtain ⟨wo, rfl⟩ : ∃ wo : World, wo = wr := ⟨_, rfl⟩
      have HB := Lib.hid hB
      obtain ⟨b00, b01, b02⟩ := HC.out wo hB
      have hsz : (bs (soFar hd ts j)).size ≤ 20971520 := by rw [size_bs]; exact HMON.out j hj
      by_cases hlt : j < n
      · obtain ⟨k, rfl⟩ : ∃ q, k = q + 1 := by
          cases k with
          | zero => exact absurd (row_no_zero HL.out) (fun e => by have := HLN.out; rw [e] at this; simp at this; omega)
          | succ q => exact ⟨q, rfl⟩
        have hil : j < l.length := by have := HLN.out; omega
        obtain ⟨b, off, ax, nx, cx, rfl, hbw, _, _, _, hk, p0, p1, p2⟩ := (HL.out.keep (descRd_ok _) (Fix.of_below hB)).desc j hil
        obtain ⟨u, hu, htd⟩ := textsD_get HTS.out hil
        have HSUM := Lib.hid (DescV.nodesL_take_succ hil)
        have HLE := Lib.hid (DescV.nodesL_take_le l (j + 1))
        have HNK := Lib.hid (DescV.nodes_kids (l[j]'hil))
        generalize l[j]'hil = d at *
        obtain ⟨dk, dn, dl⟩ := d
        simp only [DescV.kind, DescV.n, DescV.kids] at p0 p1 p2 hk
        have HNK' : Hid ((DescV.mk dk dn dl).nodes = DescV.nodesL dl + 1) := HNK
        have hmd : DescV.nodesL dl < 1048576 := by have := HM.out; have := HSUM.out; have := HLE.out; have := HNK'.out; omega
        have HCX := Lib.hid (HIH.out k rfl F dk dn dl ax nx cx wo u hk hmd htd)
        have hus : (bs u).size ≤ 20971520 := by rw [size_bs]; have := textD_len htd; rw [DescV.nodes] at this; omega
        by_cases h0 : j = 0
        · subst h0
          rw [Nat.zero_mul, Nat.add_zero] at p0 p1 p2
          have HSO : Hid (bs (soFar hd ts 0) ++ ⟨#[40]⟩ ++ bs u = bs (soFar hd ts (0 + 1))) := Lib.hid (by rw [show (⟨#[40]⟩ : ByteArray) = bs [40] from rfl, bs_bs, bs_bs, soFar_one hu, soFar_zero])
          have hs1 : (bs (soFar hd ts 0) ++ ⟨#[40]⟩ : ByteArray).size ≤ 20971521 := by rw [ByteArray.size_append]; have : (⟨#[40]⟩ : ByteArray).size = 1 := rfl; omega
          clear hk hB hmd hu htd
          go_wp2_with (go_at_call 49; (with_reducible refine HCX.out.mono ?_); rintro e w5 ⟨rfl, hb5⟩; have HB5 := Lib.hid (HB.out.trans (hb5.mono HB.out.size)); clear hb5)
          rw [HSO.out]
          go_roundg (n - (0 + 1))
          case measure => omega
          case rel => exact ⟨0 + 1, by omega, rfl, by go_num, rfl, HB5.out⟩
        · have hj0 : ((j : Int) == 0) = false := by rw [beq_eq_false_iff_ne]; omega
          have HSO : Hid (bs (soFar hd ts j) ++ ⟨#[44]⟩ ++ bs u = bs (soFar hd ts (j + 1))) := Lib.hid (by rw [show (⟨#[44]⟩ : ByteArray) = bs [44] from rfl, bs_bs, bs_bs, soFar_succ hu (by omega)])
          have hs1 : (bs (soFar hd ts j) ++ ⟨#[44]⟩ : ByteArray).size ≤ 20971521 := by rw [ByteArray.size_append]; have : (⟨#[44]⟩ : ByteArray).size = 1 := rfl; omega
          clear hk hB hmd hu htd
          go_wp2_with (go_at_call 49; (with_reducible refine HCX.out.mono ?_); rintro e w5 ⟨rfl, hb5⟩; have HB5 := Lib.hid (HB.out.trans (hb5.mono HB.out.size)); clear hb5)
          rw [HSO.out]
          go_roundg (n - (j + 1))
          case measure => omega
          case rel => exact ⟨j + 1, by omega, rfl, by go_num, rfl, HB5.out⟩
      · obtain rfl : j = n := by omega
        by_cases h0 : 0 < j
        · have hj0 : (0 : Int) < j := by omega
          have HFIN : Hid (bs (soFar hd ts j) ++ ⟨#[41]⟩ = bs t) := Lib.hid (by rw [HTT.out, if_neg (by omega), show (⟨#[41]⟩ : ByteArray) = bs [41] from rfl, bs_bs])
          clear h0 hB
          go_wp2_with fail
          rw [HFIN.out]
          go_ret
          exact ⟨rfl, HB0.out.trans (HB.out.mono HB0.out.size)⟩
        · have hj0 : ¬ (0 : Int) < j := by omega
          have HFIN : Hid (bs (soFar hd ts j) = bs t) := Lib.hid (by rw [HTT.out, if_pos (by omega), List.append_nil])
          clear h0 hB
          go_wp2_with fail
          rw [HFIN.out]
          go_ret
          exact ⟨rfl, HB0.out.trans (HB.out.mono HB0.out.size)⟩
  · cases htx
theorem rtext_any : ∀ (k : Nat) (F : Foot) (kd nd : Int) (l : List DescV) (a : Option Addr) (n cap : Nat) (w : World) (t : List UInt8), RowOf (descRd k) 3 40 F w a n cap l → DescV.nodesL l < 1048576 → textD (.mk kd nd l) = some t →
    Calls Tryz.prog 49 #[.agg #[.int .i64 kd, .int .i64 nd, .slice a n cap]] w fun e w' => e = .returned (.string (bs t)) ∧ Below w.heap.size w w'
  | 0 => rtext_step 0 fun j h => by omega
  | k + 1 => rtext_step (k + 1) fun j h => by
    obtain rfl : k = j := by omega
    exact rtext_any k
end Go.Proofs.YthjcmcgmalnfpaaGreatDoor.Lex
