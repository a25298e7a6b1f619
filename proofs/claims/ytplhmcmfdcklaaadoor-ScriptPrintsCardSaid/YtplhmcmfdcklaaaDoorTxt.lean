/- A text's digits read back: script.text. -/
import Derived.Test.YtplhmcmfdcklaaaDoorPH
import Derived.Test.YtplhmcmfdcklaaaDoorCall
import Derived.Laws.IdiomStrings
import Derived.Lib.BufferRead
import Derived.RegionTactic
namespace Go.Proofs.YtplhmcmfdcklaaaDoor.Lex
open Go.RowKit
set_option linter.unusedSimpArgs false
set_option linter.unusedVariables false
/-- Bytes out of pairs of digits; a last one alone is left. -/
def pairsH : List UInt8 → Option (List UInt8)
  | a :: b :: r => match hv a, hv b, pairsH r with
    | some x, some y, some l => some (UInt8.ofNat (x * 16 + y) :: l)
    | _, _, _ => none
  | _ => some []
theorem hv_hexd {d : Nat} (h : d < 16) : hv (hexd d) = some d := by
  have : ∀ d : Fin 16, hv (hexd d.1) = some d.1 := by decide +kernel
  exact this ⟨d, h⟩
theorem pairsH_hex : ∀ l : List UInt8, pairsH (hexOf l) = some l
  | [] => rfl
  | c :: l => by
    have e : hexOf (c :: l) = hexd (c.toNat / 16) :: hexd (c.toNat % 16) :: hexOf l := rfl
    have hc := c.toNat_lt
    rw [e, pairsH, hv_hexd (by omega), hv_hexd (by omega), pairsH_hex l]
    simp only
    congr 2
    rw [show c.toNat / 16 * 16 + c.toNat % 16 = c.toNat by omega]
    simp
/-- What words of a text's digits say. -/
def textW : List (List UInt8) → Option (List UInt8)
  | [] => some []
  | [w] => match pairsH w with
    | some l => if l ≠ [] ∧ hexOf l = w then some l else none
    | none => none
  | _ => none
theorem textW_iff {ws : List (List UInt8)} {l : List UInt8} : textW ws = some l ↔ hexW l = ws := by
  constructor
  · intro h
    match ws, h with
    | [], h => cases h; rfl
    | [w], h =>
      simp only [textW] at h
      cases e : pairsH w with
      | none => rw [e] at h; cases h
      | some m =>
        rw [e] at h
        simp only at h
        split at h
        · next hm =>
          cases h
          rw [hexW, if_neg hm.1, hm.2]
        · cases h
  · intro h
    subst h
    unfold hexW
    by_cases h0 : l = []
    · subst h0; rfl
    · rw [if_neg h0]
      simp [textW, pairsH_hex, h0]
theorem pu16_case {s : ByteArray} {e : Ending} {x y : Nat} (h : (∃ x y, hv (byteAt s 0) = some x ∧ hv (byteAt s 1) = some y ∧ e = .returned (.tuple #[.int .u64 (x * 16 + y : Nat), .nilIface])) ∨
       ((hv (byteAt s 0) = none ∨ hv (byteAt s 1) = none) ∧ e = .returned (.tuple #[.int .u64 0, .iface 137 (.int .i64 2)]))) (hx : hv (byteAt s 0) = some x) (hy : hv (byteAt s 1) = some y) : e = .returned (.tuple #[.int .u64 (x * 16 + y : Nat), .nilIface]) := by
  rcases h with ⟨x', y', h1, h2, h3⟩ | ⟨h1 | h1, _⟩
  · rw [hx] at h1
    rw [hy] at h2
    cases h1
    cases h2
    exact h3
  · rw [hx] at h1; cases h1
  · rw [hy] at h1; cases h1
theorem pu16_case2 {s : ByteArray} {e : Ending} (h : (∃ x y, hv (byteAt s 0) = some x ∧ hv (byteAt s 1) = some y ∧ e = .returned (.tuple #[.int .u64 (x * 16 + y : Nat), .nilIface])) ∨
       ((hv (byteAt s 0) = none ∨ hv (byteAt s 1) = none) ∧ e = .returned (.tuple #[.int .u64 0, .iface 137 (.int .i64 2)]))) (hn : hv (byteAt s 0) = none ∨ hv (byteAt s 1) = none) : e = .returned (.tuple #[.int .u64 0, .iface 137 (.int .i64 2)]) := by
  rcases h with ⟨x', y', h1, h2, h3⟩ | ⟨_, h⟩
  · rcases hn with hn | hn
    · rw [hn] at h1; cases h1
    · rw [hn] at h2; cases h2
  · exact h
set_option maxRecDepth 100000 in
theorem pu16_yes (s : ByteArray) (hs : s.size = 2) (w : World) (x y : Nat) (hx : hv (byteAt s 0) = some x) (hy : hv (byteAt s 1) = some y) :
    Calls Tryd.prog 79 #[.string s, .int .i64 16, .int .i64 8] w fun e w' => e = .returned (.tuple #[.int .u64 (x * 16 + y : Nat), .nilIface]) ∧ Below w.heap.size w w' := by
  have HC := Lib.hid (ipu16_any s hs w)
  have HX := Lib.hid hx
  have HY := Lib.hid hy
  clear hx hy hs
  go_enter Tryd.func79, Tryd.ntmps79
  go_wp2_with (go_at_call 96; (with_reducible refine HC.out.mono ?_); rintro e w1 ⟨hb, hh⟩; have he : e = .returned (.tuple #[.int .u64 (x * 16 + y : Nat), .nilIface]) := pu16_case hh HX.out HY.out; subst he; clear hh)
  go_ret2
  exact ⟨rfl, hb⟩
set_option maxRecDepth 100000 in
theorem pu16_no (s : ByteArray) (hs : s.size = 2) (w : World) (he : HasErrs w) (h : hv (byteAt s 0) = none ∨ hv (byteAt s 1) = none) :
    Calls Tryd.prog 79 #[.string s, .int .i64 16, .int .i64 8] w fun e w' => ∃ m N, e = .returned (.tuple #[.int .u64 m, .iface 140 (.pointer (some ⟨N, 0, none⟩))]) ∧ Below w.heap.size w w' := by
  have HC := Lib.hid (ipu16_any s hs w)
  have HE := Lib.hid he
  have H := Lib.hid h
  have hl : s.size ≤ 281474976710656 := by omega
  clear he h hs
  go_enter Tryd.func79, Tryd.ntmps79
  go_wp2_with (first
    | (go_at_call 96; (with_reducible refine HC.out.mono ?_); rintro e w1 ⟨hb, hh⟩; have he : e = .returned (.tuple #[.int .u64 0, .iface 137 (.int .i64 2)]) := pu16_case2 hh H.out; subst he; have HB := Lib.hid hb; clear hh hb)
    | (go_at_call 78; obtain ⟨⟨te, pe, hv1⟩, _⟩ := HE.out.below HB.out; refine (Tryd.strconv_toError_syntax _ s 16 8 _ _ hl hv1 (.inr ⟨_, _, rfl⟩)).mono ?_; rintro e w2 ⟨N, rfl, _, _, hb2⟩; have HB2 := Lib.hid (HB.out.trans (hb2.mono HB.out.size)); clear hb2 hv1))
  go_ret2
  exact ⟨_, _, rfl, HB2.out⟩
theorem byteElemL : Elem Tryd.prog 53 5 1 1 := ⟨Tryd.underlying53, ⟨.int .u8 0, by kernel_rfl, rfl⟩, by omega⟩
theorem own_conv {w : World} {base n : Nat} {v : Value} {l : List UInt8} (h : w.ownsRow base 5 1 v n (l.map fun c => .int .u8 (c.toNat : Int))) : (convert 53 9 v).run Tryd.prog w = .ok (.string (bs l)) w := by
  have hn : l.length = n := by have := h.1; simpa using this
  rcases h.2 with ⟨rfl, rfl⟩ | ⟨g, cap, cur, rfl, _⟩
  · obtain rfl : l = [] := List.eq_nil_of_length_eq_zero hn
    exact Lib.run_convert_nil_bytes w 53 9 5 0 Tryd.underlying53 Tryd.underlying5 Tryd.underlying9
  · subst hn
    exact run_convert_bytes_back (P := Tryd.prog) w 53 9 5 ⟨g, 0, none⟩ cap l Tryd.underlying53 Tryd.underlying5 Tryd.underlying9 (fun j hj => h.cells (g := g) rfl j _ (by simp [hj]))
theorem byteAt_extract {s : ByteArray} {a b j : Nat} (h : a + j < b) (hb : b ≤ s.size) : byteAt (s.extract a b) j = byteAt s (a + j) := by
  have hsz : (s.extract a b).size = b - a := by rw [ByteArray.size_extract]; omega
  rw [byteAt_eq (by rw [hsz]; omega), byteAt_eq (by omega)]
  exact ByteArray.getElem_extract (by rw [hsz]; omega)
theorem drop_two {w : List UInt8} {i : Nat} (h : i + 1 < w.length) : w.drop i = byteAt (bs w) i :: byteAt (bs w) (i + 1) :: w.drop (i + 2) := by
  have e : ∀ j (hj : j < w.length), byteAt (bs w) j = w[j] := fun j hj => by
    unfold byteAt
    rw [bs_list]
    simp [List.getD, hj]
  rw [List.drop_eq_getElem_cons (show i < w.length by omega), List.drop_eq_getElem_cons h, e i (by omega), e (i + 1) h]
theorem pairsH_short {w : List UInt8} (h : w.length ≤ 1) : pairsH w = some [] := by
  match w, h with
  | [], _ => rfl
  | [_], _ => rfl
theorem textW_pno {x : List UInt8} {more : List (List UInt8)} (h : pairsH x = none) : textW (x :: more) = none := by
  cases more with
  | nil => simp [textW, h]
  | cons y r => rfl
/-- What script.text makes of words. -/
def TextPost (ws : List (List UInt8)) (w : World) (e : Ending) (w' : World) : Prop :=
  Below w.heap.size w w' ∧ ∃ t ok, e = .returned (.tuple #[.string t, .bool ok]) ∧ (∀ l, textW ws = some l → t = bs l ∧ ok = true) ∧ (textW ws = none → ok = false)
theorem textPost_yes {ws : List (List UInt8)} {w w' : World} {l : List UInt8} (h : textW ws = some l) (hb : Below w.heap.size w w') : TextPost ws w (.returned (.tuple #[.string (bs l), .bool true])) w' :=
  ⟨hb, _, _, rfl, fun m hm => by rw [h] at hm; cases hm; exact ⟨rfl, rfl⟩, fun hn => by rw [h] at hn; cases hn⟩
theorem textPost_no {ws : List (List UInt8)} {w w' : World} {t : ByteArray} (h : textW ws = none) (hb : Below w.heap.size w w') : TextPost ws w (.returned (.tuple #[.string t, .bool false])) w' :=
  ⟨hb, _, _, rfl, fun m hm => by (rw [h] at hm; cases hm), fun _ => rfl⟩
theorem hex_one (l : List UInt8) (w : World) (hl : l ≠ []) (hs : l.length ≤ 549755813888) :
    Calls Tryd.prog 40 #[.string (bs l)] w fun e w' => ∃ g cap, e = .returned (.slice (some ⟨g, 0, none⟩) 1 cap) ∧ w'.cell? ⟨g, 0, none⟩ = some (.string (bs (hexOf l))) ∧ Below w.heap.size w w' := by
  refine (hex_any (bs l) w (by rw [size_bs]; omega)).mono ?_
  rintro e w' ⟨v, rfl, ho, hb⟩
  rw [bs_list, hexW, if_neg hl] at ho
  obtain ⟨g, cap, rfl, _⟩ := own_some ho (by simp)
  exact ⟨g, cap, rfl, (own_cell (i := 0) ho rfl).1, hb⟩
/-- What script.text makes of M words, the first x. -/
def TextCore (x : List UInt8) (M : Nat) (w : World) (e : Ending) (w' : World) : Prop :=
  Below w.heap.size w w' ∧ ∃ t ok, e = .returned (.tuple #[.string t, .bool ok]) ∧ (∀ l, M = 1 ∧ pairsH x = some l ∧ l ≠ [] ∧ hexOf l = x → t = bs l ∧ ok = true) ∧ ((¬ ∃ l, M = 1 ∧ pairsH x = some l ∧ l ≠ [] ∧ hexOf l = x) → ok = false)
theorem textCore_yes {x l : List UInt8} {w w' : World} (h : pairsH x = some l) (h0 : l ≠ []) (hh : hexOf l = x) (hb : Below w.heap.size w w') : TextCore x 1 w (.returned (.tuple #[.string (bs l), .bool true])) w' :=
  ⟨hb, _, _, rfl, fun m hm => by (rw [h] at hm; cases hm.2.1; exact ⟨rfl, rfl⟩), fun hn => absurd ⟨l, rfl, h, h0, hh⟩ hn⟩
theorem textCore_no {x : List UInt8} {M : Nat} {w w' : World} {t : ByteArray} (h : ∀ l, M = 1 → pairsH x = some l → l ≠ [] → hexOf l = x → False) (hb : Below w.heap.size w w') : TextCore x M w (.returned (.tuple #[.string t, .bool false])) w' :=
  ⟨hb, _, _, rfl, fun m hm => (h m hm.1 hm.2.1 hm.2.2.1 hm.2.2.2).elim, fun _ => rfl⟩
set_option maxRecDepth 100000 in
set_option maxHeartbeats 4000000 in
theorem text_core (x : List UInt8) (M g off cap : Nat) (w : World) (c0 : w.cell? ⟨g, off, none⟩ = some (.string (bs x))) (hM : 1 ≤ M) (hM2 : M ≤ 1099511627776) (hx : x.length ≤ 1099511627776) (he : HasErrs w) :
    Calls Tryd.prog 62 #[.slice (some ⟨g, off, none⟩) M cap] w (TextCore x M w) := by
  have HE := Lib.hid he
  have hxs : (bs x).size = x.length := size_bs x
  have hM0 : ((M : Int) == 0) = false := by simp only [beq_eq_false_iff_ne, ne_eq]; omega
  clear he
  go_enter Tryd.func62, Tryd.ntmps62
  go_wp2_with fail
  go_loopg [5, 6] x.length (fun gh v iv wr => ∃ (k : Nat) (l : List UInt8), 2 * k ≤ x.length ∧ gh = x.length - 2 * k ∧ iv = .int .i64 (2 * k : Nat) ∧ l.length = k ∧ pairsH x = (pairsH (x.drop (2 * k))).map (l ++ ·) ∧ wr.ownsRow w.heap.size 5 1 v k (l.map fun c => .int .u8 (c.toNat : Int)) ∧ Below w.heap.size w wr)
  case atStart => exact ⟨0, [], by omega, by omega, rfl, rfl, by simp, World.ownsRow_nil _ _ _ _, Below.refl _ _⟩
  case round =>
    obtain ⟨k, l, hk, rfl, rfl, hl, hp, hown, hbw⟩ := hrel
    obtain ⟨wo, rfl⟩ : ∃ wo : World, wo = wr := ⟨_, rfl⟩
    have HO := Lib.hid hown
    have HB := Lib.hid hbw
    have hsz := hbw.size
    by_cases hlt : 2 * k + 1 < x.length
    · have hlt1 : ((2 * k : Nat) : Int) + 1 < x.length := by omega
      have hlt2 : (((bs x).size : Nat) : Int) = x.length := by omega
      have hd := drop_two hlt
      have hes : ((bs x).extract (2 * k) (2 * k + 2)).size = 2 := by rw [ByteArray.size_extract, hxs]; omega
      have he0 : byteAt ((bs x).extract (2 * k) (2 * k + 2)) 0 = byteAt (bs x) (2 * k) := byteAt_extract (by omega) (by omega)
      have he1 : byteAt ((bs x).extract (2 * k) (2 * k + 2)) 1 = byteAt (bs x) (2 * k + 1) := byteAt_extract (by omega) (by omega)
      rw [hd, pairsH] at hp
      have HES := Lib.hid hes
      by_cases hyes : ∃ p q, hv (byteAt (bs x) (2 * k)) = some p ∧ hv (byteAt (bs x) (2 * k + 1)) = some q
      · obtain ⟨p, q, hp1, hq1⟩ := hyes
        have HP1 : Hid (hv (byteAt ((bs x).extract (2 * k) (2 * k + 2)) 0) = some p) := Lib.hid (by rw [he0]; exact hp1)
        have HQ1 : Hid (hv (byteAt ((bs x).extract (2 * k) (2 * k + 2)) 1) = some q) := Lib.hid (by rw [he1]; exact hq1)
        have hpl := hv_lt hp1
        have hql := hv_lt hq1
        have HNX : Hid (pairsH x = (pairsH (x.drop (2 * (k + 1)))).map ((l ++ [UInt8.ofNat (p * 16 + q)]) ++ ·)) := Lib.hid (by
          rw [hp1, hq1] at hp
          rw [hp, show 2 * (k + 1) = 2 * k + 2 by omega]
          cases pairsH (x.drop (2 * k + 2)) <;> simp)
        have HLL := Lib.hid hl
        have HPQ : Hid (((UInt8.ofNat (p * 16 + q)).toNat : Int) = p * 16 + q) := Lib.hid (by rw [UInt8.toNat_ofNat']; omega)
        clear hp hd he0 he1 hes hp1 hq1 hown hbw hl
        go_wp2_with (first
          | (go_at_call 79; (with_reducible refine (pu16_yes _ HES.out _ p q HP1.out HQ1.out).mono ?_); rintro e w2 ⟨rfl, hb2⟩; have HB2 := Lib.hid (HB.out.trans (hb2.mono HB.out.size)); have HO2 := Lib.hid (own_below HO.out hb2); have hsz2 := HB2.out.size; clear hb2)
          | (at_builtin; refine wpl_app1 rfl _ _ 53 rfl byteElemL _ _ _ rfl _ rfl rfl HO2.out HB2.out (Nat.le_refl _) hsz2 (by omega) (by unfold maxLen; omega) ?_; intro v' w4 hown4 hbw4 hg4; have HO4 := Lib.hid hown4; have HB4 := Lib.hid hbw4; clear hg4 hown4 hbw4))
        go_roundg (x.length - 2 * (k + 1))
        case measure => omega
        case rel => exact ⟨k + 1, _, by omega, rfl, by go_num, by simp [HLL.out], HNX.out, by have := HO4.out; rw [List.map_append, List.map_singleton, HPQ.out]; exact this, HB4.out⟩
      · have hno : hv (byteAt (bs x) (2 * k)) = none ∨ hv (byteAt (bs x) (2 * k + 1)) = none := by
          cases h1 : hv (byteAt (bs x) (2 * k)) with
          | none => exact .inl rfl
          | some p =>
            cases h2 : hv (byteAt (bs x) (2 * k + 1)) with
            | none => exact .inr rfl
            | some q => exact absurd ⟨p, q, h1, h2⟩ hyes
        have HNO : Hid (hv (byteAt ((bs x).extract (2 * k) (2 * k + 2)) 0) = none ∨ hv (byteAt ((bs x).extract (2 * k) (2 * k + 2)) 1) = none) := Lib.hid (by rw [he0, he1]; exact hno)
        have HPN : Hid (pairsH x = none) := Lib.hid (by
          rcases hno with h1 | h1
          · rw [h1] at hp; exact hp
          · rw [h1] at hp
            cases h2 : hv (byteAt (bs x) (2 * k)) <;> rw [h2] at hp <;> exact hp)
        clear hp hd he0 he1 hes hyes hno hown hbw hl
        go_wp2_with (go_at_call 79; (with_reducible refine (pu16_no _ HES.out _ (HE.out.below HB.out) HNO.out).mono ?_); rintro e w2 ⟨m, N, rfl, hb2⟩; have HB2 := Lib.hid (HB.out.trans (hb2.mono HB.out.size)); clear hb2)
        go_ret2
        exact textCore_no (fun l _ h => by (rw [HPN.out] at h; cases h)) HB2.out
    · have hlt1 : ¬ ((2 * k : Nat) : Int) + 1 < x.length := by omega
      have HPX : Hid (pairsH x = some l) := Lib.hid (by rw [hp, pairsH_short (by rw [List.length_drop]; omega)]; simp)
      have HK := Lib.hid hl
      have hlk : l.length ≤ 549755813888 := by omega
      have HKC := Lib.hid (own_conv hown)
      clear hp hown hbw
      have kc := HKC.out
      go_upto_region 13 with fail
      by_cases hm0 : M = 1
      · subst hm0
        by_cases hl0 : l = []
        · have HT : Hid (∀ l, pairsH x = some l → l ≠ [] → hexOf l = x → False) := Lib.hid fun m h h1 _ => by (rw [HPX.out] at h; cases h; exact h1 hl0)
          have hle : (bs l).toList.isEmpty = true := by rw [hl0, ByteArray.toList_eq]; rfl
          clear hl kc HKC HPX
          generalize bs l = S at *
          go_region
          all_goals
            go_wp2_with fail
            go_ret2
            exact textCore_no (fun l _ => HT.out l) HB.out.drew
        · have hle : (bs l).toList.isEmpty = false := by
            rw [ByteArray.toList_eq]
            cases l with
            | nil => exact absurd rfl hl0
            | cons c r => rfl
          by_cases hx : hexOf l = x
          · have HH := Lib.hid (fun w => hex_one l w hl0 hlk)
            have HL0 := Lib.hid hl0
            have HX2 : Hid (hexOf l = x) := Lib.hid hx
            rw [hx] at HH
            have HS : Hid (∃ S, S = bs l) := Lib.hid ⟨_, rfl⟩
            clear hl0 kc HKC hl hx
            generalize hS : bs l = S at *
            generalize hX : bs x = X at *
            have HSS := Lib.hid hS
            clear hS hX
            refine wp_region_any (by kernel_rfl) ?_
            change wpAny _ _ _ _ 18 #[false, false, false, false, false, false, false, false, false, false, false, false, false, false, false, false, false, false] _ (World.drew _)
            refine wpAny_take (i := 0) (v := ?_) rfl (by kernel_rfl) (by kernel_rfl) (by kernel_rfl) (fun _ _ _ h => h) (Or.inl ⟨by rfl, ?_⟩) ?_; rotate_left 1; focus (intro w0; go_simp; try with_reducible rfl)
            simp only [Act.put, List.getElem_toArray, List.getElem_cons_zero, List.getElem_cons_succ, List.setIfInBounds_toArray, List.set_cons_zero, List.set_cons_succ]
            refine wpAny_take (i := 1) (v := ?_) rfl (by kernel_rfl) (by kernel_rfl) (by kernel_rfl) (fun _ _ _ h => h) (Or.inl ⟨by rfl, ?_⟩) ?_; rotate_left 1; focus (intro w0; go_simp; try with_reducible rfl)
            simp only [Act.put, List.getElem_toArray, List.getElem_cons_zero, List.getElem_cons_succ, List.setIfInBounds_toArray, List.set_cons_zero, List.set_cons_succ]
            refine wpAny_take (i := 2) (v := ?_) rfl (by kernel_rfl) (by kernel_rfl) (by kernel_rfl) (fun _ _ _ h => h) (Or.inl ⟨by rfl, ?_⟩) ?_; rotate_left 1; focus (intro w0; go_simp; try with_reducible rfl)
            simp only [Act.put, List.getElem_toArray, List.getElem_cons_zero, List.getElem_cons_succ, List.setIfInBounds_toArray, List.set_cons_zero, List.set_cons_succ]
            refine wpAny_take (i := 3) (v := ?_) rfl (by kernel_rfl) (by kernel_rfl) (by kernel_rfl) (fun _ _ _ h => h) (Or.inl ⟨by rfl, ?_⟩) ?_; rotate_left 1; focus (intro w0; go_simp; try with_reducible rfl)
            simp only [Act.put, List.getElem_toArray, List.getElem_cons_zero, List.getElem_cons_succ, List.setIfInBounds_toArray, List.set_cons_zero, List.set_cons_succ]
            refine wpAny_take (i := 4) (v := ?_) rfl (by kernel_rfl) (by kernel_rfl) (by kernel_rfl) (fun _ _ _ h => h) (Or.inl ⟨by rfl, ?_⟩) ?_; rotate_left 1; focus (intro w0; go_simp; try with_reducible rfl)
            simp only [Act.put, List.getElem_toArray, List.getElem_cons_zero, List.getElem_cons_succ, List.setIfInBounds_toArray, List.set_cons_zero, List.set_cons_succ]
            refine wpAny_take (i := 5) (v := ?_) rfl (by kernel_rfl) (by kernel_rfl) (by kernel_rfl) (fun _ _ _ h => h) (Or.inl ⟨by rfl, ?_⟩) ?_; rotate_left 1; focus (intro w0; go_simp; try with_reducible rfl)
            simp only [Act.put, List.getElem_toArray, List.getElem_cons_zero, List.getElem_cons_succ, List.setIfInBounds_toArray, List.set_cons_zero, List.set_cons_succ]
            refine wpAny_take (i := 6) (v := ?_) rfl (by kernel_rfl) (by kernel_rfl) (by kernel_rfl) (fun _ _ _ h => h) (Or.inl ⟨by rfl, ?_⟩) ?_; rotate_left 1; focus (intro w0; go_simp; try with_reducible rfl)
            simp only [Act.put, List.getElem_toArray, List.getElem_cons_zero, List.getElem_cons_succ, List.setIfInBounds_toArray, List.set_cons_zero, List.set_cons_succ]
            refine wpAny_take (i := 7) (v := ?_) rfl (by kernel_rfl) (by kernel_rfl) (by kernel_rfl) (fun _ _ _ h => h) (Or.inl ⟨by rfl, ?_⟩) ?_; rotate_left 1; focus (intro w0; go_simp; try with_reducible rfl)
            simp only [Act.put, List.getElem_toArray, List.getElem_cons_zero, List.getElem_cons_succ, List.setIfInBounds_toArray, List.set_cons_zero, List.set_cons_succ]
            refine wpAny_take (i := 8) (v := ?_) rfl (by kernel_rfl) (by kernel_rfl) (by kernel_rfl) (fun _ _ _ h => h) (Or.inl ⟨by rfl, ?_⟩) ?_; rotate_left 1; focus (intro w0; go_simp; try with_reducible rfl)
            simp only [Act.put, List.getElem_toArray, List.getElem_cons_zero, List.getElem_cons_succ, List.setIfInBounds_toArray, List.set_cons_zero, List.set_cons_succ]
            refine wpAny_take (i := 9) (v := ?_) rfl (by kernel_rfl) (by kernel_rfl) (by kernel_rfl) (fun _ _ _ h => h) (Or.inl ⟨by rfl, ?_⟩) ?_; rotate_left 1; focus (intro w0; go_simp; try with_reducible rfl)
            simp only [Act.put, List.getElem_toArray, List.getElem_cons_zero, List.getElem_cons_succ, List.setIfInBounds_toArray, List.set_cons_zero, List.set_cons_succ]
            refine wpAny_take (i := 13) (v := ?_) rfl (by kernel_rfl) (by kernel_rfl) (by kernel_rfl) (fun _ _ _ h => h) (Or.inl ⟨by rfl, ?_⟩) ?_; rotate_left 1; focus (intro w0; go_simp; try with_reducible rfl)
            simp only [Act.put, List.getElem_toArray, List.getElem_cons_zero, List.getElem_cons_succ, List.setIfInBounds_toArray, List.set_cons_zero, List.set_cons_succ]
            refine wpAny_ready (rs := [10]) (by kernel_rfl) (by simp) ?_
            refine AllReady.cons rfl (fun K hK => ?_) AllReady.nil
            go_simp
            go_wp2_with (go_at_call 40; (with_reducible refine (HH.out _).mono ?_); rintro e w2 ⟨g2, cap2, rfl, hc2, hb2⟩; have HB2 := Lib.hid (HB.out.drew.trans (hb2.mono HB.out.drew.size)); clear hb2)
            refine wpAny_take (i := 11) (v := ?_) rfl (by kernel_rfl) (by kernel_rfl) (by kernel_rfl) (fun _ _ _ h => h) (Or.inl ⟨by rfl, ?_⟩) ?_; rotate_left 1; focus (intro w0; go_simp; try with_reducible rfl)
            simp only [Act.put, List.getElem_toArray, List.getElem_cons_zero, List.getElem_cons_succ, List.setIfInBounds_toArray, List.set_cons_zero, List.set_cons_succ]
            refine wpAny_take (i := 16) (v := ?_) rfl (by kernel_rfl) (by kernel_rfl) (by kernel_rfl) (fun _ _ _ h => h) (Or.inl ⟨by rfl, ?_⟩) ?_; rotate_left 1; focus (intro w0; go_simp; try with_reducible rfl)
            simp only [Act.put, List.getElem_toArray, List.getElem_cons_zero, List.getElem_cons_succ, List.setIfInBounds_toArray, List.set_cons_zero, List.set_cons_succ]
            refine wpAny_ready (rs := [12]) (by kernel_rfl) (by simp) ?_
            refine AllReady.cons rfl (fun K hK => ?_) AllReady.nil
            go_simp
            refine hK _ _ ?_
            clear hK K
            refine wpAny_take (i := 14) (v := ?_) rfl (by kernel_rfl) (by kernel_rfl) (by kernel_rfl) (fun _ _ _ h => h) (Or.inl ⟨by rfl, ?_⟩) ?_; rotate_left 1; focus (intro w0; go_simp; try with_reducible rfl)
            simp only [Act.put, List.getElem_toArray, List.getElem_cons_zero, List.getElem_cons_succ, List.setIfInBounds_toArray, List.set_cons_zero, List.set_cons_succ]
            refine wpAny_take (i := 15) (v := ?_) rfl (by kernel_rfl) (by kernel_rfl) (by kernel_rfl) (fun _ _ _ h => h) (Or.inl ⟨by rfl, ?_⟩) ?_; rotate_left 1; focus (intro w0; go_simp; try with_reducible rfl)
            simp only [Act.put, List.getElem_toArray, List.getElem_cons_zero, List.getElem_cons_succ, List.setIfInBounds_toArray, List.set_cons_zero, List.set_cons_succ]
            refine wpAny_take (i := 17) (v := ?_) rfl (by kernel_rfl) (by kernel_rfl) (by kernel_rfl) (fun _ _ _ h => h) (Or.inl ⟨by rfl, ?_⟩) ?_; rotate_left 1; focus (intro w0; go_simp; try with_reducible rfl)
            simp only [Act.put, List.getElem_toArray, List.getElem_cons_zero, List.getElem_cons_succ, List.setIfInBounds_toArray, List.set_cons_zero, List.set_cons_succ]
            refine wpAny_done (by kernel_rfl) ?_ _
            all_goals
              go_wp2_with fail
              go_ret2
              rw [← HSS.out]
              exact textCore_yes HPX.out HL0.out HX2.out HB2.out
          · have HT : Hid (∀ l, pairsH x = some l → l ≠ [] → hexOf l = x → False) := Lib.hid fun m h h1 h2 => by (rw [HPX.out] at h; cases h; exact hx h2)
            have HH := Lib.hid (fun w => hex_one l w hl0 hlk)
            have hne := text_ne fun e => hx (bs_inj e)
            clear hl0 hx kc HKC hl
            generalize hS : bs l = S at *
            generalize hX : bs x = X at *
            generalize hY : bs (hexOf l) = Y at *
            clear hS hX hY
            refine wp_region_any (by kernel_rfl) ?_
            change wpAny _ _ _ _ 18 #[false, false, false, false, false, false, false, false, false, false, false, false, false, false, false, false, false, false] _ (World.drew _)
            refine wpAny_take (i := 0) (v := ?_) rfl (by kernel_rfl) (by kernel_rfl) (by kernel_rfl) (fun _ _ _ h => h) (Or.inl ⟨by rfl, ?_⟩) ?_; rotate_left 1; focus (intro w0; go_simp; try with_reducible rfl)
            simp only [Act.put, List.getElem_toArray, List.getElem_cons_zero, List.getElem_cons_succ, List.setIfInBounds_toArray, List.set_cons_zero, List.set_cons_succ]
            refine wpAny_take (i := 1) (v := ?_) rfl (by kernel_rfl) (by kernel_rfl) (by kernel_rfl) (fun _ _ _ h => h) (Or.inl ⟨by rfl, ?_⟩) ?_; rotate_left 1; focus (intro w0; go_simp; try with_reducible rfl)
            simp only [Act.put, List.getElem_toArray, List.getElem_cons_zero, List.getElem_cons_succ, List.setIfInBounds_toArray, List.set_cons_zero, List.set_cons_succ]
            refine wpAny_take (i := 2) (v := ?_) rfl (by kernel_rfl) (by kernel_rfl) (by kernel_rfl) (fun _ _ _ h => h) (Or.inl ⟨by rfl, ?_⟩) ?_; rotate_left 1; focus (intro w0; go_simp; try with_reducible rfl)
            simp only [Act.put, List.getElem_toArray, List.getElem_cons_zero, List.getElem_cons_succ, List.setIfInBounds_toArray, List.set_cons_zero, List.set_cons_succ]
            refine wpAny_take (i := 3) (v := ?_) rfl (by kernel_rfl) (by kernel_rfl) (by kernel_rfl) (fun _ _ _ h => h) (Or.inl ⟨by rfl, ?_⟩) ?_; rotate_left 1; focus (intro w0; go_simp; try with_reducible rfl)
            simp only [Act.put, List.getElem_toArray, List.getElem_cons_zero, List.getElem_cons_succ, List.setIfInBounds_toArray, List.set_cons_zero, List.set_cons_succ]
            refine wpAny_take (i := 4) (v := ?_) rfl (by kernel_rfl) (by kernel_rfl) (by kernel_rfl) (fun _ _ _ h => h) (Or.inl ⟨by rfl, ?_⟩) ?_; rotate_left 1; focus (intro w0; go_simp; try with_reducible rfl)
            simp only [Act.put, List.getElem_toArray, List.getElem_cons_zero, List.getElem_cons_succ, List.setIfInBounds_toArray, List.set_cons_zero, List.set_cons_succ]
            refine wpAny_take (i := 5) (v := ?_) rfl (by kernel_rfl) (by kernel_rfl) (by kernel_rfl) (fun _ _ _ h => h) (Or.inl ⟨by rfl, ?_⟩) ?_; rotate_left 1; focus (intro w0; go_simp; try with_reducible rfl)
            simp only [Act.put, List.getElem_toArray, List.getElem_cons_zero, List.getElem_cons_succ, List.setIfInBounds_toArray, List.set_cons_zero, List.set_cons_succ]
            refine wpAny_take (i := 6) (v := ?_) rfl (by kernel_rfl) (by kernel_rfl) (by kernel_rfl) (fun _ _ _ h => h) (Or.inl ⟨by rfl, ?_⟩) ?_; rotate_left 1; focus (intro w0; go_simp; try with_reducible rfl)
            simp only [Act.put, List.getElem_toArray, List.getElem_cons_zero, List.getElem_cons_succ, List.setIfInBounds_toArray, List.set_cons_zero, List.set_cons_succ]
            refine wpAny_take (i := 7) (v := ?_) rfl (by kernel_rfl) (by kernel_rfl) (by kernel_rfl) (fun _ _ _ h => h) (Or.inl ⟨by rfl, ?_⟩) ?_; rotate_left 1; focus (intro w0; go_simp; try with_reducible rfl)
            simp only [Act.put, List.getElem_toArray, List.getElem_cons_zero, List.getElem_cons_succ, List.setIfInBounds_toArray, List.set_cons_zero, List.set_cons_succ]
            refine wpAny_take (i := 8) (v := ?_) rfl (by kernel_rfl) (by kernel_rfl) (by kernel_rfl) (fun _ _ _ h => h) (Or.inl ⟨by rfl, ?_⟩) ?_; rotate_left 1; focus (intro w0; go_simp; try with_reducible rfl)
            simp only [Act.put, List.getElem_toArray, List.getElem_cons_zero, List.getElem_cons_succ, List.setIfInBounds_toArray, List.set_cons_zero, List.set_cons_succ]
            refine wpAny_take (i := 9) (v := ?_) rfl (by kernel_rfl) (by kernel_rfl) (by kernel_rfl) (fun _ _ _ h => h) (Or.inl ⟨by rfl, ?_⟩) ?_; rotate_left 1; focus (intro w0; go_simp; try with_reducible rfl)
            simp only [Act.put, List.getElem_toArray, List.getElem_cons_zero, List.getElem_cons_succ, List.setIfInBounds_toArray, List.set_cons_zero, List.set_cons_succ]
            refine wpAny_take (i := 13) (v := ?_) rfl (by kernel_rfl) (by kernel_rfl) (by kernel_rfl) (fun _ _ _ h => h) (Or.inl ⟨by rfl, ?_⟩) ?_; rotate_left 1; focus (intro w0; go_simp; try with_reducible rfl)
            simp only [Act.put, List.getElem_toArray, List.getElem_cons_zero, List.getElem_cons_succ, List.setIfInBounds_toArray, List.set_cons_zero, List.set_cons_succ]
            refine wpAny_ready (rs := [10]) (by kernel_rfl) (by simp) ?_
            refine AllReady.cons rfl (fun K hK => ?_) AllReady.nil
            go_simp
            go_wp2_with (go_at_call 40; (with_reducible refine (HH.out _).mono ?_); rintro e w2 ⟨g2, cap2, rfl, hc2, hb2⟩; have HB2 := Lib.hid (HB.out.drew.trans (hb2.mono HB.out.drew.size)); clear hb2)
            refine wpAny_take (i := 11) (v := ?_) rfl (by kernel_rfl) (by kernel_rfl) (by kernel_rfl) (fun _ _ _ h => h) (Or.inl ⟨by rfl, ?_⟩) ?_; rotate_left 1; focus (intro w0; go_simp; try with_reducible rfl)
            simp only [Act.put, List.getElem_toArray, List.getElem_cons_zero, List.getElem_cons_succ, List.setIfInBounds_toArray, List.set_cons_zero, List.set_cons_succ]
            refine wpAny_take (i := 16) (v := ?_) rfl (by kernel_rfl) (by kernel_rfl) (by kernel_rfl) (fun _ _ _ h => h) (Or.inl ⟨by rfl, ?_⟩) ?_; rotate_left 1; focus (intro w0; go_simp; try with_reducible rfl)
            simp only [Act.put, List.getElem_toArray, List.getElem_cons_zero, List.getElem_cons_succ, List.setIfInBounds_toArray, List.set_cons_zero, List.set_cons_succ]
            refine wpAny_ready (rs := [12]) (by kernel_rfl) (by simp) ?_
            refine AllReady.cons rfl (fun K hK => ?_) AllReady.nil
            go_simp
            refine hK _ _ ?_
            clear hK K
            refine wpAny_take (i := 14) (v := ?_) rfl (by kernel_rfl) (by kernel_rfl) (by kernel_rfl) (fun _ _ _ h => h) (Or.inl ⟨by rfl, ?_⟩) ?_; rotate_left 1; focus (intro w0; go_simp; try with_reducible rfl)
            simp only [Act.put, List.getElem_toArray, List.getElem_cons_zero, List.getElem_cons_succ, List.setIfInBounds_toArray, List.set_cons_zero, List.set_cons_succ]
            refine wpAny_take (i := 15) (v := ?_) rfl (by kernel_rfl) (by kernel_rfl) (by kernel_rfl) (fun _ _ _ h => h) (Or.inl ⟨by rfl, ?_⟩) ?_; rotate_left 1; focus (intro w0; go_simp; try with_reducible rfl)
            simp only [Act.put, List.getElem_toArray, List.getElem_cons_zero, List.getElem_cons_succ, List.setIfInBounds_toArray, List.set_cons_zero, List.set_cons_succ]
            refine wpAny_take (i := 17) (v := ?_) rfl (by kernel_rfl) (by kernel_rfl) (by kernel_rfl) (fun _ _ _ h => h) (Or.inl ⟨by rfl, ?_⟩) ?_; rotate_left 1; focus (intro w0; go_simp; try with_reducible rfl)
            simp only [Act.put, List.getElem_toArray, List.getElem_cons_zero, List.getElem_cons_succ, List.setIfInBounds_toArray, List.set_cons_zero, List.set_cons_succ]
            refine wpAny_done (by kernel_rfl) ?_ _
            all_goals
              go_wp2_with fail
              go_ret2
              exact textCore_no (fun l _ => HT.out l) HB2.out
      · have hmf : ((M : Int) == 1) = false := by
          simp only [beq_eq_false_iff_ne, ne_eq]
          omega
        have HT : Hid (∀ l, M = 1 → pairsH x = some l → l ≠ [] → hexOf l = x → False) := Lib.hid fun m h _ _ _ => hm0 h
        clear hm0 kc HKC hl
        go_region
        all_goals
          go_wp2_with fail
          go_ret2
          exact textCore_no HT.out HB.out.drew
set_option maxRecDepth 100000 in
theorem text_any (ws : List (List UInt8)) (a : Option Addr) (cap : Nat) (w : World) (hs : Txt w a ws) (hsh : Short ws) (he : HasErrs w) :
    Calls Tryd.prog 62 #[.slice a ws.length cap] w (TextPost ws w) := by
  match ws, hs, hsh with
  | [], hs, hsh =>
    clear hs hsh he
    go_enter Tryd.func62, Tryd.ntmps62
    go_wp2_with fail
    go_ret2
    exact textPost_yes (l := []) rfl (Below.refl _ _)
  | x :: more, hs, hsh =>
    obtain ⟨g, off, rfl, _, c0⟩ := hs 0 (by simp)
    rw [List.getElem_cons_zero, Nat.add_zero] at c0
    refine (text_core x (x :: more).length g off cap w c0 (by simp) hsh.1 (hsh.2 x (by simp)) he).mono ?_
    rintro e w' ⟨hb, t, ok, he, h1, h2⟩
    refine ⟨hb, t, ok, he, fun l hl => ?_, fun hn => h2 ?_⟩
    · match more, hl with
      | [], hl =>
        simp only [textW] at hl
        cases e : pairsH x with
        | none => rw [e] at hl; cases hl
        | some m =>
          rw [e] at hl
          simp only at hl
          split at hl
          · next hm => cases hl; exact h1 _ ⟨rfl, e, hm.1, hm.2⟩
          · cases hl
    · rintro ⟨l, hM, hp, h0, hh⟩
      match more, hM with
      | [], _ => simp [textW, hp, h0, hh] at hn
end Go.Proofs.YtplhmcmfdcklaaaDoor.Lex
