/- A tree's text: the program's. -/
import Derived.Test.YthjcmcgmalnfpaaGreatDoorWord23
import Derived.Test.YthjcmcgmalnfpaaGreatDoorBig23
namespace Go.Proofs.YthjcmcgmalnfpaaGreatDoor.Lex
open Go.RowKit
set_option linter.unusedSimpArgs false
set_option linter.unusedVariables false
mutual
/-- A tree's text, if it has one. -/
def textD : DescV → Option (List UInt8)
  | .mk k n l => if okH (k, n) = true then (textsD l).map fun ts => wordD k ++ Lib.decDigits n.toNat ++ (if ts = [] then [] else [40] ++ Lib.join ts [44] ++ [41]) else none
def textsD : List DescV → Option (List (List UInt8))
  | [] => some []
  | d :: l => match textD d with | none => none | some t => (textsD l).map fun ts => t :: ts
end
theorem textsD_snoc : ∀ (l : List DescV) (d : DescV), textsD (l ++ [d]) = match textsD l with | none => none | some ts => (textD d).map fun t => ts ++ [t]
  | [], d => by
    rw [List.nil_append, textsD, textsD]
    cases textD d <;> simp [textsD]
  | a :: l, d => by
    rw [List.cons_append, textsD, textsD, textsD_snoc l d]
    cases textD a with
    | none => rfl
    | some t =>
      cases textsD l with
      | none => rfl
      | some ts => cases textD d <;> rfl
theorem textsD_none {l : List DescV} {i : Nat} (hi : i < l.length) (h : textD (l[i]'hi) = none) : textsD l = none := by
  induction l generalizing i with
  | nil => simp at hi
  | cons a l ih =>
    rw [textsD]
    cases i with
    | zero =>
      rw [List.getElem_cons_zero] at h
      rw [h]
    | succ i =>
      rw [ih (i := i) (by simpa using hi) (by simpa using h)]
      cases textD a <;> rfl
theorem textsD_len : ∀ {l : List DescV} {ts : List (List UInt8)}, textsD l = some ts → ts.length = l.length
  | [], ts, h => by cases h; rfl
  | a :: l, ts, h => by
    rw [textsD] at h
    cases ht : textD a with
    | none => rw [ht] at h; cases h
    | some t =>
      rw [ht] at h
      obtain ⟨r, hr, rfl⟩ := Option.map_eq_some_iff.1 h
      rw [List.length_cons, List.length_cons, textsD_len hr]
theorem join_len : ∀ (ts : List (List UInt8)), (Lib.join ts [44]).length ≤ (ts.map fun t => t.length + 1).sum
  | [] => by simp [Lib.join_nil]
  | [a] => by rw [Lib.join_one]; simp
  | a :: b :: r => by
    have h := join_len (b :: r)
    rw [Lib.join_cons] at h ⊢
    rw [show Lib.joinTail [44] (b :: r) = [44] ++ b ++ Lib.joinTail [44] r by simp [Lib.joinTail]]
    simp only [List.length_append, List.length_cons, List.length_nil, List.map_cons, List.sum_cons] at h ⊢
    omega
mutual
theorem textD_len : ∀ {d : DescV} {t : List UInt8}, textD d = some t → t.length + 1 ≤ 20 * d.nodes
  | .mk k n l, t, h => by
    rw [textD] at h
    split at h
    · next hok =>
      obtain ⟨ts, hts, rfl⟩ := Option.map_eq_some_iff.1 h
      have h1 := textsD_sum hts
      have h2 := wordD_len k
      have h3 := join_len ts
      have h4 : (Lib.decDigits n.toNat).length ≤ 9 := by
        rw [Lib.decDigits_length]
        unfold okH at hok
        simp at hok
        exact nDigits_le 8 _ (by omega)
      rw [DescV.nodes]
      simp only [List.length_append]
      split
      · simp; omega
      · simp only [List.length_append, List.length_cons, List.length_nil]; omega
    · cases h
theorem textsD_sum : ∀ {l : List DescV} {ts : List (List UInt8)}, textsD l = some ts → (ts.map fun t => t.length + 1).sum ≤ 20 * DescV.nodesL l
  | [], ts, h => by cases h; simp
  | a :: l, ts, h => by
    rw [textsD] at h
    cases ht : textD a with
    | none => rw [ht] at h; cases h
    | some t =>
      rw [ht] at h
      obtain ⟨r, hr, rfl⟩ := Option.map_eq_some_iff.1 h
      have h1 := textD_len ht
      have h2 := textsD_sum hr
      rw [DescV.nodesL, List.map_cons, List.sum_cons]
      omega
end
/-- A text, or none. -/
def tup2 : Option (List UInt8) → Value
  | none => .tuple #[.string ⟨#[]⟩, .bool false]
  | some t => .tuple #[.string (bs t), .bool true]
theorem join_row {w : World} {B : Nat} {v : Value} {ts : List (List UInt8)} (h : w.ownsRow B 9 1 v ts.length (ts.map fun t => .string (bs t))) (h0 : 0 < ts.length) (hl : (Lib.join ts [44]).length ≤ 140737488355328) (hn : ts.length ≤ 140737488355328) :
    Calls Tryz.prog 78 #[v, .string ⟨#[44]⟩] w fun e w' => e = .returned (.string (bs (Lib.join ts [44]))) ∧ Below w.heap.size w w' := by
  obtain ⟨g, cp, rfl, hbg, hgl, hgc, hgm⟩ := own_some h h0
  have e : (ts.map bs).map (·.data.toList) = ts := by rw [List.map_map, show ((fun x : ByteArray => x.data.toList) ∘ bs) = id from rfl, List.map_id]
  have hJ := Tryz.strings_Join g 0 cp (ts.map bs) ⟨#[44]⟩ w (fun j x hx => by
    rw [Nat.zero_add]
    refine (own_cell h (i := j) (u := .string x) ?_).1
    rw [List.getElem?_map, Option.map_eq_some_iff] at hx
    obtain ⟨t, ht, rfl⟩ := hx
    rw [List.getElem?_map, ht]
    rfl) hgl (by simpa using hn) (by simpa using hgc) (by rw [e]; exact hl)
  rw [e] at hJ
  rw [List.length_map] at hJ
  exact hJ
set_option maxRecDepth 100000 in
set_option maxHeartbeats 4000000 in
theorem text_step (k : Nat) (ih : ∀ j, k = j + 1 → ∀ (F : Foot) (kd nd : Int) (l : List DescV) (a : Option Addr) (n cap : Nat) (w : World), RowOf (descRd j) 3 40 F w a n cap l → DescV.nodesL l < 1048576 → HasMax w → HasTab w →
    Calls Tryz.prog 52 #[.agg #[.int .i64 kd, .int .i64 nd, .slice a n cap]] w fun e w' => e = .returned (tup2 (textD (.mk kd nd l))) ∧ Below w.heap.size w w') (F : Foot) (kd nd : Int) (l : List DescV) (a : Option Addr) (n cap : Nat) (w : World) (hl : RowOf (descRd k) 3 40 F w a n cap l) (hm : DescV.nodesL l < 1048576) (hx : HasMax w) (ht : HasTab w) :
    Calls Tryz.prog 52 #[.agg #[.int .i64 kd, .int .i64 nd, .slice a n cap]] w fun e w' => e = .returned (tup2 (textD (.mk kd nd l))) ∧ Below w.heap.size w w' := by
  have HLN := Lib.hid hl.len
  have hn : n ≤ 3518437208880 := by have := hl.room; omega
  obtain ⟨hb0, hz0, hc⟩ := desc_box kd nd a n cap w
  obtain ⟨W0, hW0⟩ : ∃ W0, W0 = w.alloc (.cells #[.int .i64 kd, .int .i64 nd, .slice a n cap] 54) := ⟨_, rfl⟩
  rw [← hW0] at hb0 hz0 hc
  have HC := Lib.hid hc
  have HB0 := Lib.hid hb0
  have HL := Lib.hid (hl.keep (descRd_ok _) (Fix.of_below hb0))
  have HM := Lib.hid hm
  have HIH := Lib.hid ih
  have HX := Lib.hid (hx.below hb0)
  have HT := Lib.hid (ht.below hb0)
  obtain ⟨t00, t01, t02⟩ := hc W0 (Below.refl _ _)
  obtain ⟨R, hR⟩ : ∃ R, tup2 (textD (.mk kd nd l)) = R := ⟨_, rfl⟩
  rw [hR]
  have HR := Lib.hid hR
  have HWD : Hid (∀ W, Below W0.heap.size W0 W → Calls Tryz.prog 77 #[.int .i64 kd] W fun e w' => e = .returned (.string (bs (wordD kd))) ∧ Below W0.heap.size W0 w') := Lib.hid fun W hb => (word_any kd W ((hx.below hb0).below hb)).mono fun e w' h => ⟨h.1, hb.trans (h.2.mono hb.size)⟩
  clear hl ih hm hb0 hx ht hc hR
  by_cases h1 : nd < 0 ∨ 999999999 < nd
  · have HBAD : Hid (R = .tuple #[.string ⟨#[]⟩, .bool false]) := Lib.hid (by rw [← HR.out, textD, if_neg (by unfold okH; simp; omega)]; rfl)
    have HD := Lib.hid (dig_no nd W0 h1)
    have hb0 := Below.refl W0.heap.size W0
    clear h1
    go_enter Tryz.func52, Tryz.ntmps52
    go_wp2_with (first
      | (rw [← hW0]; clear hW0; (go_at_call 76; (with_reducible refine HD.out.mono ?_); rintro e w1 ⟨rfl, rfl⟩))
      | (go_at_call 77; (with_reducible refine (HWD.out _ hb0).mono ?_); rintro e w2 ⟨rfl, hb2⟩; have HB2 := Lib.hid hb2; clear hb2))
    go_ret2
    exact ⟨by rw [HBAD.out]; rfl, HB0.out.trans (HB2.out.mono HB0.out.size)⟩
  obtain ⟨q, rfl⟩ : ∃ q : Nat, nd = q := ⟨nd.toNat, by omega⟩
  have hq : q ≤ 999999999 := by omega
  have HD := Lib.hid (dig_yes q W0 hq HT.out)
  by_cases h2 : kd < 1 ∨ 7 < kd
  · have HBAD : Hid (R = .tuple #[.string ⟨#[]⟩, .bool false]) := Lib.hid (by rw [← HR.out, textD, if_neg (by unfold okH; simp; omega)]; rfl)
    have hw0 : bs (wordD kd) = ⟨#[]⟩ := by unfold wordD; rw [if_neg (by omega)]; rfl
    rw [hw0] at HWD
    clear h1 h2 hw0
    go_enter Tryz.func52, Tryz.ntmps52
    go_wp2_with (first
      | (rw [← hW0]; clear hW0; (go_at_call 76; (with_reducible refine HD.out.mono ?_); rintro e w1 ⟨rfl, hb1⟩; obtain ⟨t10, t11, t12⟩ := HC.out w1 hb1))
      | (go_at_call 77; (with_reducible refine (HWD.out _ hb1).mono ?_); rintro e w2 ⟨rfl, hb2⟩; have HB2 := Lib.hid hb2; clear hb2))
    go_ret2
    exact ⟨by rw [HBAD.out]; rfl, HB0.out.trans (HB2.out.mono HB0.out.size)⟩
  have hne : bs (wordD kd) ≠ ⟨#[]⟩ := fun e => by
    have h := congrArg ByteArray.data e
    exact wordD_ne (k := kd) (by omega) (by have := congrArg Array.toList h; simpa [bs] using this)
  have hne' : ((bs (wordD kd)).toList == ([] : List UInt8)) = false := by
    rw [beq_eq_false_iff_ne]
    intro e
    exact hne (by have := congrArg ByteArray.data (show bs (wordD kd) = ⟨#[]⟩ from ByteArray.ext (by simpa [bs, ByteArray.toList_eq] using e)); exact ByteArray.ext this)
  have HOK : Hid (R = tup2 ((textsD l).map fun ts => wordD kd ++ Lib.decDigits q ++ (if ts = [] then [] else [40] ++ Lib.join ts [44] ++ [41]))) := Lib.hid (by rw [← HR.out, textD, if_pos (by unfold okH; simp; omega)]; rfl)
  have lw : (bs (wordD kd)).size ≤ 5 := by rw [size_bs]; exact wordD_len kd
  have ld : (bs (Lib.decDigits q)).size ≤ 19 := by rw [size_bs]; exact decDigits_len (by omega)
  generalize hWD : bs (wordD kd) = sw at *
  generalize hDD : bs (Lib.decDigits q) = sd at *
  have HSW := Lib.hid hWD
  have HSD := Lib.hid hDD
  clear h1 h2 hWD hDD hne
  go_enter Tryz.func52, Tryz.ntmps52
  go_wp2_with (first
    | (rw [← hW0]; clear hW0; (go_at_call 76; (with_reducible refine HD.out.mono ?_); rintro e w1 ⟨rfl, hb1⟩; obtain ⟨t10, t11, t12⟩ := HC.out w1 hb1))
    | (go_at_call 77; (with_reducible refine (HWD.out _ hb1).mono ?_); rintro e w2 ⟨rfl, hb2⟩; have HB2 := Lib.hid hb2; obtain ⟨t20, t21, t22⟩ := HC.out w2 hb2; clear hb2))
  clear t00 t01 t02 t10 t11 t12 t20 t21 t22 hb1
  have HB2L := Lib.hid (HL.out.keep (descRd_ok _) (Fix.of_below HB2.out))
  go_loopg [7, 30] n (fun g kv iv wr => ∃ (j : Nat) (ts : List (List UInt8)) (va : Option Addr) (vc : Nat), j ≤ n ∧ g = n - j ∧ iv = .int .i64 (j : Int) ∧ kv = .slice va j vc ∧ textsD (l.take j) = some ts ∧ ts.length = j ∧ wr.ownsRow W0.heap.size 9 1 (.slice va j vc) j (ts.map fun t => .string (bs t)) ∧ Below W0.heap.size W0 wr)
  case atStart => exact ⟨0, [], none, 0, by omega, rfl, rfl, rfl, rfl, rfl, World.ownsRow_nil _ _ _ _, HB2.out⟩
  case round =>
    obtain ⟨j, ts, va, vc, hj, rfl, rfl, rfl, hts, htl, ho, hB⟩ := hrel
    obtain ⟨wo, rfl⟩ : ∃ wo : World, wo = wr := ⟨_, rfl⟩
    have HTS := Lib.hid hts
    have HTL := Lib.hid htl
    have HO := Lib.hid ho
    have HB := Lib.hid hB
    clear hts htl ho
    by_cases hlt : j < n
    · obtain ⟨k, rfl⟩ : ∃ q, k = q + 1 := by
        cases k with
        | zero => exact absurd (row_no_zero HL.out) (fun e => by have := HLN.out; rw [e] at this; simp at this; omega)
        | succ q => exact ⟨q, rfl⟩
      have hil : j < l.length := by have := HLN.out; omega
      obtain ⟨b, off, ax, nx, cx, rfl, hbw, _, _, _, hk, p0, p1, p2⟩ := (HL.out.keep (descRd_ok _) (Fix.of_below hB)).desc j hil
      have HTK := Lib.hid (List.take_succ_eq_append_getElem hil)
      have HSUM := Lib.hid (DescV.nodesL_take_succ hil)
      have HLE := Lib.hid (DescV.nodesL_take_le l (j + 1))
      have HNK := Lib.hid (DescV.nodes_kids (l[j]'hil))
      have HNO : Hid (textD (l[j]'hil) = none → textsD l = none) := Lib.hid (textsD_none hil)
      generalize l[j]'hil = d at *
      obtain ⟨dk, dn, dl⟩ := d
      simp only [DescV.kind, DescV.n, DescV.kids] at p0 p1 p2 hk
      have HNK' : Hid ((DescV.mk dk dn dl).nodes = DescV.nodesL dl + 1) := HNK
      have hmd : DescV.nodesL dl < 1048576 := by have := HM.out; have := HSUM.out; have := HLE.out; have := HNK'.out; omega
      have HB4 : Hid (Below wo.heap.size wo (wo.alloc (.cells #[.int .i64 dk, .int .i64 dn, .slice ax nx cx] 54))) := Lib.hid ((Below.refl _ _).alloc (Nat.le_refl _) _)
      have HCX := Lib.hid (HIH.out k rfl F dk dn dl ax nx cx _ (hk.keep (descRd_ok _) (Fix.of_below HB4.out)) hmd (HX.out.below (hB.trans (HB4.out.mono hB.size))) (HT.out.below (hB.trans (HB4.out.mono hB.size))))
      clear hk hB hmd
      cases htd : textD (.mk dk dn dl) with
      | none =>
        rw [htd] at HCX
        have HBAD : Hid (R = .tuple #[.string ⟨#[]⟩, .bool false]) := Lib.hid (by rw [HOK.out, HNO.out htd]; rfl)
        dsimp only [tup2] at HCX
        clear htd
        go_wp2_with (go_at_call 52; (with_reducible refine HCX.out.mono ?_); rintro e w5 ⟨rfl, hb5⟩; have HB5 := Lib.hid hb5; clear hb5)
        go_ret2
        exact ⟨by rw [HBAD.out]; rfl, HB0.out.trans ((HB.out.trans ((HB4.out.trans (HB5.out.mono HB4.out.size)).mono HB.out.size)).mono HB0.out.size)⟩
      | some t =>
        rw [htd] at HCX
        have HTS2 : Hid (textsD (l.take (j + 1)) = some (ts ++ [t])) := Lib.hid (by rw [HTK.out, textsD_snoc, HTS.out]; simp [htd])
        dsimp only [tup2] at HCX
        clear htd
        go_wp2_with (first
          | (go_at_call 52; (with_reducible refine HCX.out.mono ?_); rintro e w5 ⟨rfl, hb5⟩; have HB5 := Lib.hid (HB.out.trans ((HB4.out.trans (hb5.mono HB4.out.size)).mono HB.out.size)); have HO5 := Lib.hid (own_below HO.out (HB4.out.trans (hb5.mono HB4.out.size))); have hsz5 := HB5.out.size; clear hb5)
          | (at_builtin; refine wpl_app1 rfl _ _ 96 rfl strElem _ _ _ rfl _ rfl rfl HO5.out HB5.out (Nat.le_refl _) hsz5 (by omega) (by unfold maxLen; omega) ?_; intro v' w6 hown6 hb6 _; have HO6 := Lib.hid hown6; have HB6 := Lib.hid hb6; clear hown6 hb6))
        have HO6' : Hid (w6.ownsRow W0.heap.size 9 1 v' (j + 1) ((ts ++ [t]).map fun t => .string (bs t))) := Lib.hid (by rw [List.map_append]; exact HO6.out)
        obtain ⟨a6, c6, hv6, _⟩ := own_row HO6.out
        subst hv6
        go_roundg (n - (j + 1))
        case measure => omega
        case rel => exact ⟨j + 1, ts ++ [t], a6, c6, by omega, rfl, by go_num, rfl, HTS2.out, by rw [List.length_append, HTL.out]; rfl, HO6'.out, HB6.out⟩
    · obtain rfl : j = n := by omega
      have HTS2 : Hid (textsD l = some ts) := Lib.hid (by have := HTS.out; rwa [List.take_of_length_le (by have := HLN.out; omega)] at this)
      have HSUMT := Lib.hid (textsD_sum HTS2.out)
      have HJL := Lib.hid (join_len ts)
      by_cases h0 : 0 < j
      · have hj0 : (0 : Int) < j := by omega
        have hJ : Calls Tryz.prog 78 #[.slice va j vc, .string ⟨#[44]⟩] wo fun e w' => e = .returned (.string (bs (Lib.join ts [44]))) ∧ Below wo.heap.size wo w' := by
          have h := HO.out
          rw [← HTL.out] at h ⊢
          exact join_row h (by have := HTL.out; omega) (by have := HJL.out; have := HSUMT.out; have := HM.out; omega) (by have := HTL.out; omega)
        have HJ := Lib.hid hJ
        have HRT : Hid (R = .tuple #[.string (sw ++ sd ++ (⟨#[40]⟩ ++ bs (Lib.join ts [44]) ++ ⟨#[41]⟩)), .bool true]) := Lib.hid (by
          rw [HOK.out, HTS2.out, ← HSW.out, ← HSD.out]
          have hne : ts ≠ [] := fun e => by have := HTL.out; rw [e] at this; simp at this; omega
          simp only [Option.map_some, tup2, if_neg hne]
          rw [show (⟨#[40]⟩ : ByteArray) = bs [40] from rfl, show (⟨#[41]⟩ : ByteArray) = bs [41] from rfl, bs_bs, bs_bs, bs_bs, bs_bs])
        have lj : (bs (Lib.join ts [44])).size ≤ 20971520 := by rw [size_bs]; have := HJL.out; have := HSUMT.out; have := HM.out; omega
        generalize bs (Lib.join ts [44]) = sj at *
        have ls : (sw ++ sd).size ≤ 24 := by rw [ByteArray.size_append]; omega
        have l1 : (⟨#[40]⟩ ++ sj : ByteArray).size ≤ 20971521 := by rw [ByteArray.size_append]; have : (⟨#[40]⟩ : ByteArray).size = 1 := rfl; omega
        have l2 : (⟨#[40]⟩ ++ sj ++ ⟨#[41]⟩ : ByteArray).size ≤ 20971522 := by rw [ByteArray.size_append]; have : (⟨#[41]⟩ : ByteArray).size = 1 := rfl; omega
        clear hJ h0
        go_wp2_with (go_at_call 78; (with_reducible refine HJ.out.mono ?_); rintro e w7 ⟨rfl, hb7⟩; have HB7 := Lib.hid (HB.out.trans (hb7.mono HB.out.size)); clear hb7)
        go_ret2
        exact ⟨by rw [HRT.out]; rfl, HB0.out.trans (HB7.out.mono HB0.out.size)⟩
      · have hj0 : ¬ (0 : Int) < j := by omega
        have HRT : Hid (R = .tuple #[.string (sw ++ sd), .bool true]) := Lib.hid (by
          rw [HOK.out, HTS2.out, ← HSW.out, ← HSD.out]
          have hne : ts = [] := List.eq_nil_of_length_eq_zero (by have := HTL.out; omega)
          simp only [Option.map_some, tup2, if_pos hne]
          rw [bs_bs, List.append_nil])
        go_wp2_with fail
        go_ret2
        exact ⟨by rw [HRT.out]; rfl, HB0.out.trans (HB.out.mono HB0.out.size)⟩
theorem text_any : ∀ (k : Nat) (F : Foot) (kd nd : Int) (l : List DescV) (a : Option Addr) (n cap : Nat) (w : World), RowOf (descRd k) 3 40 F w a n cap l → DescV.nodesL l < 1048576 → HasMax w → HasTab w →
    Calls Tryz.prog 52 #[.agg #[.int .i64 kd, .int .i64 nd, .slice a n cap]] w fun e w' => e = .returned (tup2 (textD (.mk kd nd l))) ∧ Below w.heap.size w w'
  | 0 => text_step 0 fun j h => by omega
  | k + 1 => text_step (k + 1) fun j h => by
    obtain rfl : k = j := by omega
    exact text_any k
end Go.Proofs.YthjcmcgmalnfpaaGreatDoor.Lex
