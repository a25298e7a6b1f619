/- script: numbers as words, a line, bytes as digits: walked. -/
import Derived.Test.YthjcmcgmalnfpaaGreatDoorNum
import Derived.Test.YthjcmcgmalnfpaaGreatDoorBld
import Derived.Test.YthjcmcgmalnfpaaGreatDoorStr
import Derived.Test.YthjcmcgmalnfpaaGreatDoorWordC
import Derived.Test.YthjcmcgmalnfpaaGreatDoorLine
namespace Go.Proofs.YthjcmcgmalnfpaaGreatDoor.Lex
open Go.RowKit
set_option linter.unusedSimpArgs false
set_option linter.unusedVariables false
/-- What a slice of numbers shows. -/
def Ints (w : World) (a : Option Addr) (xs : List Int) : Prop := ∀ i (h : i < xs.length), ∃ g off, a = some ⟨g, off, none⟩ ∧ g < w.heap.size ∧ w.cell? ⟨g, off + i, none⟩ = some (.int .i64 (xs[i]'h)) ∧ -9223372036854775808 ≤ xs[i]'h ∧ xs[i]'h ≤ 9223372036854775807
theorem Ints.keep {w w' : World} {a : Option Addr} {xs : List Int} (h : Ints w a xs) (hb : Below w.heap.size w w') : Ints w' a xs := fun i hi => by
  obtain ⟨g, off, h1, h2, h3, h4⟩ := h i hi
  exact ⟨g, off, h1, Nat.lt_of_lt_of_le h2 hb.size, (hb.cell (p := ⟨g, off + i, none⟩) h2).trans h3, h4⟩
set_option maxRecDepth 100000 in
set_option maxHeartbeats 2000000 in
theorem ints_any (xs : List Int) (a : Option Addr) (cap : Nat) (w : World) (hn : xs.length ≤ 1099511627776) (hi : Ints w a xs) (ht : HasTab w) :
    Calls Tryz.prog 55 #[.slice a xs.length cap] w fun e w' => ∃ v, e = .returned v ∧ w'.ownsRow w.heap.size 9 1 v xs.length (xs.map fun n => .string (bs (Lib.itoa n))) ∧ Below w.heap.size w w' := by
  have HI := Lib.hid hi
  have HT := Lib.hid ht
  clear hi ht
  go_enter Tryz.func55, Tryz.ntmps55
  go_wp2_with fail
  go_loopg [3, 8] xs.length (fun g v iv wr => ∃ k : Nat, k ≤ xs.length ∧ g = xs.length - k ∧ iv = .int .i64 k ∧ wr.ownsRow w.heap.size 9 1 v k ((xs.take k).map fun n => .string (bs (Lib.itoa n))) ∧ Below w.heap.size w wr)
  case atStart => exact ⟨0, by omega, rfl, rfl, World.ownsRow_nil _ _ _ _, Below.refl _ _⟩
  case round =>
    obtain ⟨k, hk, rfl, rfl, hown, hbw⟩ := hrel
    obtain ⟨wo, rfl⟩ : ∃ wo : World, wo = wr := ⟨_, rfl⟩
    have HO := Lib.hid hown
    have HB := Lib.hid hbw
    have hsz := hbw.size
    by_cases hlt : k < xs.length
    · obtain ⟨g, off, rfl, _, c1, r1, r2⟩ := HI.out.keep hbw k hlt
      have HTK : Hid (xs.take (k + 1) = xs.take k ++ [xs[k]'hlt]) := Lib.hid (List.take_succ_eq_append_getElem hlt)
      generalize xs[k]'hlt = x at *
      clear hown hbw
      go_wp2_with (first | (go_at_call 25; (with_reducible refine (itoa_any x r1 r2 _ (HT.out.below HB.out)).mono ?_); rintro e w' ⟨rfl, hb2⟩; have HB2 := Lib.hid (HB.out.trans (hb2.mono HB.out.size)); have HO2 := Lib.hid (own_below HO.out hb2); have hsz2 := HB2.out.size; clear hb2) | (at_builtin; refine wpl_app1 rfl _ _ 96 rfl strElem _ _ _ rfl _ rfl rfl HO2.out HB2.out (Nat.le_refl _) hsz2 (by omega) (by unfold maxLen; omega) ?_; intro v' w3 hown3 hbw3 hg3; have HO3 := Lib.hid hown3; have HB3 := Lib.hid hbw3; clear hg3 hown3 hbw3))
      go_roundg (xs.length - (k + 1))
      case measure => omega
      case rel => exact ⟨k + 1, by omega, rfl, by go_num, by rw [HTK.out]; simpa using HO3.out, HB3.out⟩
    · obtain rfl : k = xs.length := by omega
      clear hown hbw
      go_wp2_with fail
      go_ret
      exact ⟨_, rfl, by simpa using HO.out, HB.out⟩
theorem glue_join : ∀ l : List (List UInt8), Lib.join l [32] = glue l
  | [] => rfl
  | [a] => by simp [Lib.join, List.intercalate, glue]
  | a :: b :: r => by
    have ih := glue_join (b :: r)
    simp only [Lib.join, List.intercalate, List.intersperse] at ih ⊢
    simp [glue, ← ih]
set_option maxRecDepth 100000 in
set_option maxHeartbeats 2000000 in
theorem line_any (word : List UInt8) (ws : List (List UInt8)) (a : Option Addr) (cap : Nat) (w : World) (hl : (glue (word :: ws)).length ≤ 1099511627776) (hn : ws.length ≤ 1099511627776) (hc : ws.length ≤ cap) (hnil : a = none → cap = 0) (hs : Shows w a ws) :
    Calls Tryz.prog 54 #[.string (bs word), .slice a ws.length cap] w fun e w' => e = .returned (.string (bs (glue (word :: ws) ++ [10]))) ∧ Below w.heap.size w w' := by
  have hw : (w.alloc (.cells #[.string (bs word)] 9)).ownsRow w.heap.size 9 1 (.slice (some ⟨w.heap.size, 0, none⟩) 1 1) 1 [.string (bs word)] :=
    ⟨rfl, .inr ⟨w.heap.size, 1, _, rfl, Nat.le_refl _, heap_alloc_new w _, Nat.le_refl _, by unfold maxLen; omega, rfl, rfl⟩⟩
  have hsrc : Src (w.alloc (.cells #[.string (bs word)] 9)) a ws.length cap 1 (ws.map fun l => .string (bs l)) := by
    refine ⟨by simp, fun e => ⟨by have := hnil e; omega, hnil e⟩, fun x hx j u hu => ?_, fun u hu => ?_⟩
    · have hj : j < ws.length := by have := (List.getElem?_eq_some_iff.1 hu).1; simpa using this
      obtain ⟨g, e, hc2⟩ := hs j hj
      rw [e] at hx
      cases hx
      rw [Addr.add_lit, Nat.zero_add, World.cell?_alloc_old _ _ _ (Nat.ne_of_lt (World.block_lt_of_cell? _ _ hc2)), hc2]
      rw [← hu]
      simp [hj]
    · obtain ⟨l, _, rfl⟩ := List.mem_map.1 hu
      rfl
  have HW := Lib.hid hw
  have HSRC := Lib.hid hsrc
  have HJ : Hid (Lib.join (((word :: ws).map bs).map (·.data.toList)) [32] = glue (word :: ws)) := Lib.hid (by rw [List.map_map, show ((fun x : ByteArray => x.data.toList) ∘ bs) = id from rfl, List.map_id, glue_join])
  have hlb : (bs (glue (word :: ws))).size ≤ 1099511627776 := by rw [size_bs]; exact hl
  have HL := Lib.hid hl
  have HG : Hid (bs (glue (word :: ws)) ++ ⟨#[10]⟩ = bs (glue (word :: ws) ++ [10])) := Lib.hid (by rw [← bs_bs]; rfl)
  clear hw hsrc hs hnil hl
  go_enter Tryz.func54, Tryz.ntmps54
  go_wp2_with (at_builtin; refine wpl_append rfl _ _ 96 rfl strElem _ _ _ rfl _ _ _ _ rfl HW.out HSRC.out (by unfold maxLen; omega) (by omega) (by simp) ?_; intro v' w3 hown3 hg3 _)
  obtain ⟨g, cp, rfl, hbg, hgl, hgc, hgm⟩ := own_some hown3 (by omega)
  have HB3 : Hid (Below w.heap.size w w3) := Lib.hid (((Below.refl _ w).alloc (Nat.le_refl _) _).grown hg3 (by simp) (fun k hk => by cases hk; exact Nat.le_refl _))
  have hcells : ∀ (j : Nat) x, ((word :: ws).map bs)[j]? = some x → w3.cell? ⟨g, 0 + j, none⟩ = some (.string x) := fun j x hx => by
    rw [Nat.zero_add]
    refine (own_cell hown3 (i := j) (u := .string x) ?_).1
    have : ([Value.string (bs word)] ++ ws.map fun l => Value.string (bs l)) = ((word :: ws).map bs).map Value.string := by simp
    rw [this, List.getElem?_map, hx]
    rfl
  have HJC := Tryz.strings_Join g 0 cp ((word :: ws).map bs) ⟨#[32]⟩ w3 hcells hgl (by simp; omega) (by simp; omega) (by show (Lib.join _ [32]).length ≤ _; rw [HJ.out]; have := HL.out; omega)
  have HJD : Hid (Calls Tryz.prog 78 #[.slice (some ⟨g, 0, none⟩) (1 + ws.length) cp, .string ⟨#[32]⟩] w3 fun e w' => e = .returned (.string (bs (glue (word :: ws)))) ∧ Below w3.heap.size w3 w') := Lib.hid (by
    have e : ((word :: ws).map bs).length = 1 + ws.length := by simp; omega
    rw [e] at HJC
    refine HJC.mono fun e w' ⟨h1, h2⟩ => ⟨?_, h2⟩
    rw [h1, ← HJ.out]
    rfl)
  clear hcells HJC hown3 hg3
  generalize bs (glue (word :: ws)) = z at *
  go_wp2_with (go_at_call 78; with_reducible refine HJD.out.mono ?_; rintro e w4 ⟨rfl, hb4⟩)
  go_ret
  exact ⟨congrArg (fun x => Ending.returned (Value.string x)) HG.out, HB3.out.trans (hb4.mono HB3.out.size)⟩
/-- A byte's two digits. -/
def hexd (d : Nat) : UInt8 := [48, 49, 50, 51, 52, 53, 54, 55, 56, 57, 97, 98, 99, 100, 101, 102].getD d 0
def hexOf (l : List UInt8) : List UInt8 := l.flatMap fun c => [hexd (c.toNat / 16), hexd (c.toNat % 16)]
theorem hexd_at {d : Nat} (h : d < (⟨#[48, 49, 50, 51, 52, 53, 54, 55, 56, 57, 97, 98, 99, 100, 101, 102]⟩ : ByteArray).size) : (⟨#[48, 49, 50, 51, 52, 53, 54, 55, 56, 57, 97, 98, 99, 100, 101, 102]⟩ : ByteArray)[d]'h = hexd d := by
  have h16 : d < 16 := h
  rcases (by omega : d = 0 ∨ d = 1 ∨ d = 2 ∨ d = 3 ∨ d = 4 ∨ d = 5 ∨ d = 6 ∨ d = 7 ∨ d = 8 ∨ d = 9 ∨ d = 10 ∨ d = 11 ∨ d = 12 ∨ d = 13 ∨ d = 14 ∨ d = 15) with rfl | rfl | rfl | rfl | rfl | rfl | rfl | rfl | rfl | rfl | rfl | rfl | rfl | rfl | rfl | rfl <;> rfl
theorem hexOf_len (l : List UInt8) : (hexOf l).length = 2 * l.length := by
  induction l with
  | nil => rfl
  | cons c l ih =>
    have e : hexOf (c :: l) = [hexd (c.toNat / 16), hexd (c.toNat % 16)] ++ hexOf l := rfl
    rw [e, List.length_append, ih, List.length_cons]
    simp only [List.length_cons, List.length_nil]
    omega
theorem hexOf_snoc (l : List UInt8) (c : UInt8) : hexOf (l ++ [c]) = hexOf l ++ [hexd (c.toNat / 16)] ++ [hexd (c.toNat % 16)] := by simp [hexOf]
/-- A text's bytes as words: one, or none. -/
def hexW (l : List UInt8) : List (List UInt8) := if l = [] then [] else [hexOf l]
set_option maxRecDepth 100000 in
set_option maxHeartbeats 2000000 in
theorem hex_any (s : ByteArray) (w : World) (hs : s.size ≤ 1099511627776) :
    Calls Tryz.prog 81 #[.string s] w fun e w' => ∃ v, e = .returned v ∧ w'.ownsRow w.heap.size 9 1 v (hexW s.data.toList).length ((hexW s.data.toList).map fun l => .string (bs l)) ∧ Below w.heap.size w w' := by
  by_cases h0 : s.data.toList = []
  · have h1 : s.toList.isEmpty = true := by rw [Lib.toList_data, h0]; rfl
    have e : hexW s.data.toList = [] := by rw [h0]; rfl
    rw [e]
    clear h0 e
    go_enter Tryz.func81, Tryz.ntmps81
    go_wp2_with fail
    go_ret
    exact ⟨_, rfl, World.ownsRow_nil _ _ _ _, Below.refl _ _⟩
  · have h1 : s.toList.isEmpty = false := by rw [Lib.toList_data]; exact (List.isEmpty_eq_false_iff).2 h0
    have e : hexW s.data.toList = [hexOf s.data.toList] := by rw [hexW, if_neg h0]
    rw [e]
    obtain ⟨W0, hW0⟩ : ∃ W0, W0 = w.alloc (.cells #[.pointer none, .slice none 0 0] 64) := ⟨_, rfl⟩
    obtain ⟨cap, W1, hconv, hcell, hb1, hz1⟩ := conv_bytes Tryz.underlying9 Tryz.underlying62 Tryz.underlying5 s W0
    have hz0 : W0.heap.size = w.heap.size + 1 := by rw [hW0]; simp
    have hbl : Bld W1 w.heap.size (w.heap.size + 2) [] := by
      have := bld_new w (w.heap.size + 2)
      rw [← hW0] at this
      exact this.keep hb1
    have HB1 : Hid (Below w.heap.size w W1) := Lib.hid (by
      have : Below w.heap.size w W0 := by rw [hW0]; exact (Below.refl _ _).alloc (Nat.le_refl _) _
      exact this.trans (hb1.mono (by omega)))
    have HBL := Lib.hid hbl
    rw [hz0] at hconv hcell
    rw [hW0] at hconv
    have HC := Lib.hid hcell
    have hz1' : w.heap.size + 2 ≤ W1.heap.size := by omega
    clear h0 e hcell hb1 hz1 hbl hW0 hz0
    go_enter Tryz.func81, Tryz.ntmps81
    go_wp2_with fail
    go_loopg [11] s.size (fun g iv wr => ∃ k : Nat, k ≤ s.size ∧ g = s.size - k ∧ iv = .int .i64 k ∧ Bld wr w.heap.size (w.heap.size + 2) (hexOf (s.data.toList.take k)) ∧ But w.heap.size (w.heap.size + 2) W1 wr)
    case atStart => exact ⟨0, by omega, rfl, rfl, HBL.out, But.refl _ _ _⟩
    case round =>
      obtain ⟨k, hk, rfl, rfl, hbl, hbut⟩ := hrel
      obtain ⟨wo, rfl⟩ : ∃ wo : World, wo = wr := ⟨_, rfl⟩
      by_cases hlt : k < s.size
      · have c1 : wo.cell? ⟨w.heap.size + 1, k, none⟩ = some (.int .u8 ((s[k]'hlt).toNat)) := (World.cell?_of_block (a := ⟨w.heap.size + 1, k, none⟩) (hbut.block (w.heap.size + 1) (by omega) (by omega))).trans (HC.out k hlt)
        have h255 : (s[k]'hlt).toNat < 256 := (s[k]'hlt).toNat_lt
        have HBU := Lib.hid hbut
        have HBO := Lib.hid hbl
        have hwo := hbut.size
        clear hbut hbl
        go_wp2_with fail
        have htl : (s.data.toList.take k).length ≤ k := List.length_take_le _ _
        have HLN : Hid ((hexOf (s.data.toList.take k)).length ≤ 2 * k) := Lib.hid (by rw [hexOf_len]; omega)
        have HSN : Hid (hexOf (s.data.toList.take (k + 1)) = hexOf (s.data.toList.take k) ++ [hexd ((s[k]'hlt).toNat / 16)] ++ [hexd ((s[k]'hlt).toNat % 16)]) := Lib.hid (by rw [take_succ_at hlt, hexOf_snoc, byteAt_eq hlt])
        refine (bld_byte _ _ _ _ _ HBO.out (by have := HLN.out; omega) (by omega)).mono ?_
        rintro e w1 ⟨rfl, hb1, hbut1⟩
        have HB1' := Lib.hid hb1
        have HU1 := Lib.hid (HBU.out.trans hbut1)
        have hw1 := hbut1.size
        clear hb1 hbut1
        go_wp2_with fail
        refine (bld_byte _ _ _ _ _ HB1'.out (by have := HLN.out; simp; omega) (by omega)).mono ?_
        rintro e w2 ⟨rfl, hb2, hbut2⟩
        have HB2 := Lib.hid hb2
        have HU2 := Lib.hid (HU1.out.trans hbut2)
        clear hb2 hbut2
        go_wp2_with fail
        go_roundg (s.size - (k + 1))
        case measure => omega
        case rel => exact ⟨k + 1, by omega, rfl, by go_num, by rw [HSN.out, ← hexd_at, ← hexd_at]; exact HB2.out, HU2.out⟩
      · have HL : Hid (s.data.toList.take k = s.data.toList) := Lib.hid (List.take_of_length_le (by simp; omega))
        have hsz := hbut.size
        have HBO := Lib.hid hbl
        have HBW : Hid (Below w.heap.size w wo) := Lib.hid (HB1.out.trans (hbut.below (Nat.le_refl _) (by omega)))
        clear hbl hbut
        go_wp2_with fail
        refine (bld_string _ _ _ _ HBO.out (by omega)).mono ?_
        rintro e w1 ⟨rfl, hb1⟩
        have HB := Lib.hid (HBW.out.trans (hb1.mono (by omega)))
        have hsz1 := hb1.size
        clear hb1
        rw [HL.out]
        go_wp2_with fail
        go_ret
        refine ⟨_, rfl, ⟨rfl, .inr ⟨w1.heap.size, 1, _, rfl, by omega, heap_alloc_new w1 _, Nat.le_refl _, by unfold maxLen; omega, rfl, rfl⟩⟩, HB.out.alloc (by omega) _⟩
end Go.Proofs.YthjcmcgmalnfpaaGreatDoor.Lex
