/- console: a page's line. -/
import Derived.Test.YtpjdcooflheoeaaDoorBldP
import Derived.Test.YtpjdcooflheoeaaDoorNum
import Derived.Test.YtpjdcooflheoeaaDoorStr
import Derived.Deep.RegionWith
namespace Go.Proofs.YtpjdcooflheoeaaDoor.Lex
open Go.RowKit
set_option linter.unusedSimpArgs false
set_option linter.unusedVariables false
theorem bs_list (l : List UInt8) : (bs l).data.toList = l := by simp [bs]
theorem bld_writeL (b C : Nat) (l x : List UInt8) (s : ByteArray) (w : World) (hs : s = bs x) (h : Bld w b C l) (hlen : l.length + x.length ≤ 140737488355328) (hBw : C ≤ w.heap.size) :
    Calls Tryd.prog 17 #[.pointer (some ⟨b, 0, none⟩), .string s] w fun e w' => (∃ n, e = .returned (.tuple #[.int .i64 n, .nilIface])) ∧ Bld w' b C (l ++ x) ∧ But b C w w' := by
  subst hs
  refine (bld_write b C l (bs x) w h (by rw [size_bs]; exact hlen) hBw).mono ?_
  rintro e w' ⟨rfl, h1, h2⟩
  rw [bs_list] at h1
  exact ⟨⟨_, rfl⟩, h1, h2⟩
/-- A number that an int holds. -/
def InI (n : Int) : Prop := -9223372036854775808 ≤ n ∧ n ≤ 9223372036854775807
theorem itoa_len {n : Int} (h : InI n) : (Lib.itoa n).length ≤ 20 := by
  obtain ⟨h1, h2⟩ := h
  unfold Lib.itoa
  split
  · have := nDigits_le 18 n.natAbs (by omega)
    rw [List.length_cons, Lib.decDigits_length]
    omega
  · have := nDigits_le 18 n.toNat (by omega)
    rw [Lib.decDigits_length]
    omega
/-- What a slice of numbers shows. -/
def Ints (w : World) (a : Option Addr) (xs : List Int) : Prop := ∀ i (h : i < xs.length), ∃ g off, a = some ⟨g, off, none⟩ ∧ g < w.heap.size ∧ w.cell? ⟨g, off + i, none⟩ = some (.int .i64 (xs[i]'h)) ∧ -9223372036854775808 ≤ xs[i]'h ∧ xs[i]'h ≤ 9223372036854775807
theorem Ints.keep {w w' : World} {a : Option Addr} {xs : List Int} (h : Ints w a xs) (hb : Below w.heap.size w w') : Ints w' a xs := fun i hi => by
  obtain ⟨g, off, h1, h2, h3, h4⟩ := h i hi
  exact ⟨g, off, h1, Nat.lt_of_lt_of_le h2 hb.size, (hb.cell (p := ⟨g, off + i, none⟩) h2).trans h3, h4⟩
theorem glue_snocW (l : List (List UInt8)) (w x : List UInt8) : glue (w :: (l ++ [x])) = glue (w :: l) ++ 32 :: x := by
  rw [← List.cons_append, glue_snoc _ _ (by simp)]
set_option maxRecDepth 100000 in
set_option maxHeartbeats 4000000 in
theorem pline_any (b C : Nat) (acc word : List UInt8) (xs : List Int) (a : Option Addr) (cap : Nat) (w : World) (h : Bld w b C acc) (hC : C ≤ w.heap.size) (ht : HasTab w) (htb : ∀ w', But b C w w' → HasTab w') (hi : ∀ w', But b C w w' → Ints w' a xs)
    (hn : xs.length ≤ 1048576) (hw : word.length ≤ 1048576) (ha : acc.length ≤ 1073741824) :
    Calls Tryd.prog 9 #[.pointer (some ⟨b, 0, none⟩), .string (bs word), .slice a xs.length cap] w fun e w' => e = .returned (.tuple #[]) ∧ Bld w' b C (acc ++ (glue (word :: xs.map Lib.itoa) ++ [10])) ∧ But b C w w' := by
  have HI := Lib.hid hi
  have HT := Lib.hid htb
  have HB := Lib.hid h
  clear hi ht htb h
  go_enter Tryd.func9, Tryd.ntmps9
  go_wp2_with fail
  refine (bld_writeL _ _ _ _ _ _ rfl HB.out (by omega) hC).mono ?_
  rintro e w1 ⟨⟨n1, rfl⟩, hb1, hu1⟩
  have HB1 := Lib.hid hb1
  have HU1 := Lib.hid hu1
  clear hb1 hu1
  go_wp2_with fail
  go_loopg [15] xs.length (fun g iv wr => ∃ (k : Nat) (t : List UInt8), k ≤ xs.length ∧ g = xs.length - k ∧ iv = .int .i64 k ∧ t = glue (word :: (xs.take k).map Lib.itoa) ∧ t.length ≤ word.length + 21 * k ∧ Bld wr b C (acc ++ t) ∧ But b C w wr)
  case atStart => exact ⟨0, word, by omega, rfl, rfl, rfl, by omega, HB1.out, HU1.out⟩
  case round =>
    obtain ⟨k, t, hk, rfl, rfl, ht, htl, hbl, hbu⟩ := hrel
    obtain ⟨wo, rfl⟩ : ∃ wo : World, wo = wr := ⟨_, rfl⟩
    have hsz := hbu.size
    have hCo : C ≤ wo.heap.size := by omega
    by_cases hlt : k < xs.length
    · obtain ⟨g, off, rfl, _, c1, r0, r1⟩ := HI.out wo hbu k hlt
      have HNX : Hid (glue (word :: (xs.take (k + 1)).map Lib.itoa) = t ++ 32 :: Lib.itoa (xs[k]'hlt)) := Lib.hid (by
        rw [List.take_succ_eq_append_getElem hlt, List.map_append, List.map_singleton, glue_snocW, ht])
      have HIL := Lib.hid (itoa_len (n := xs[k]'hlt) ⟨r0, r1⟩)
      have HRI := Lib.hid (fun W hT => itoa_any (xs[k]'hlt) r0 r1 W hT)
      generalize xs[k]'hlt = z at *
      have HX : Hid (⟨#[32]⟩ ++ bs (Lib.itoa z) = bs (32 :: Lib.itoa z)) := Lib.hid (by rw [show (⟨#[32]⟩ : ByteArray) = bs [32] from rfl, bs_bs]; rfl)
      have z2 : (bs (Lib.itoa z)).size ≤ 20 := by rw [size_bs]; exact HIL.out
      have HBL := Lib.hid hbl
      have HBU := Lib.hid hbu
      have HTT := Lib.hid htl
      clear ht hbl hbu htl
      go_wp2_with fail
      go_region_with (first
        | (go_at_call 18; (with_reducible refine (HRI.out _ (HT.out _ HBU.out.drew)).mono ?_); rintro e w2 ⟨rfl, hb2⟩; have HB2 := Lib.hid (HBL.out.drew.keep hb2); have HU2 := Lib.hid (HBU.out.drew.trans (But.of_below hb2 hCo)); have hs2 : wo.heap.size ≤ w2.heap.size := hb2.size; clear hb2)
        | (go_at_call 17; refine (bld_writeL _ _ _ (32 :: Lib.itoa z) _ _ HX.out HB2.out (by rw [List.length_append, List.length_cons]; have := HIL.out; have := HTT.out; omega) (by omega)).mono ?_; rintro e w3 ⟨⟨n3, rfl⟩, hb3, hu3⟩; have HB3 := Lib.hid hb3; have HU3 := Lib.hid (HU2.out.trans hu3); clear hb3 hu3))
      all_goals
        go_wp2_with fail
        go_roundg (xs.length - (k + 1))
        case measure => omega
        case rel => exact ⟨k + 1, t ++ 32 :: Lib.itoa z, by omega, rfl, by go_num, HNX.out.symm, by have h1 := HIL.out; have h2 := HTT.out; rw [List.length_append, List.length_cons]; omega, by rw [← List.append_assoc]; exact HB3.out, HU3.out⟩
    · obtain rfl : k = xs.length := by omega
      have HX : Hid (t = glue (word :: xs.map Lib.itoa)) := Lib.hid (by rw [ht, List.take_length])
      have HBL := Lib.hid hbl
      have HBU := Lib.hid hbu
      clear ht hbl hbu
      go_wp2_with (go_at_call 17; refine (bld_writeL _ _ _ [10] _ _ rfl HBL.out (by rw [List.length_append, List.length_singleton]; omega) hCo).mono ?_; rintro e w3 ⟨⟨n3, rfl⟩, hb3, hu3⟩; have HB3 := Lib.hid hb3; have HU3 := Lib.hid (HBU.out.trans hu3); clear hb3 hu3)
      go_end0
      exact ⟨rfl, by rw [← HX.out, ← List.append_assoc]; exact HB3.out, HU3.out⟩
end Go.Proofs.YtpjdcooflheoeaaDoor.Lex
