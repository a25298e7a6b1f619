/- The reference's texts of numbers and of bytes. -/
import Derived.Test.YthjcmcgmalnfpaaGreatDoorRWord
import Derived.Test.YthjcmcgmalnfpaaGreatDoorLine
import Derived.BigQuiet
import Derived.Deep.LoopGhost
namespace Go.Proofs.YthjcmcgmalnfpaaGreatDoor.Lex
open Go.RowKit
set_option linter.unusedSimpArgs false
set_option linter.unusedVariables false
set_option maxRecDepth 100000 in
/-- A word, and numbers. -/
theorem rints_any (word : List UInt8) (xs : List Int) (a : Option Addr) (cap : Nat) (w : World) (hw : word.length ≤ 1048576) (hn : xs.length ≤ 1048576) (hi : Ints w a xs) :
    Calls Tryz.prog 67 #[.string (bs word), .slice a xs.length cap] w fun e w' => e = .returned (.string (bs (glue (word :: xs.map Lib.itoa)))) ∧ w' = w := by
  have HI := Lib.hid hi
  clear hi
  go_enter Tryz.func67, Tryz.ntmps67
  go_wp2_with fail
  go_loop [0, 5] (fun tv kv => ∃ (k : Nat) (t : List UInt8), k ≤ xs.length ∧ kv = .int .i64 k ∧ tv = .string (bs t) ∧ t = glue (word :: (xs.take k).map Lib.itoa) ∧ t.length ≤ word.length + 21 * k) (fun _ kv => xs.length - (intOf kv).toNat)
  case atStart => exact ⟨0, word, by omega, rfl, rfl, rfl, by omega⟩
  case round =>
    obtain ⟨k, t, hk, rfl, rfl, ht, htl⟩ := hrel
    by_cases hlt : k < xs.length
    · obtain ⟨g, off, rfl, _, c1, r0, r1⟩ := HI.out k hlt
      have HNX : Hid (glue (word :: (xs.take (k + 1)).map Lib.itoa) = t ++ 32 :: Lib.itoa (xs[k]'hlt)) := Lib.hid (by
        rw [List.take_succ_eq_append_getElem hlt, List.map_append, ← List.cons_append, List.map_singleton, glue_snoc _ _ (by simp), ht])
      have HIL := Lib.hid (itoa_len (n := xs[k]'hlt) ⟨r0, r1⟩)
      have HRI := Lib.hid (fun w => rint_any (xs[k]'hlt) w r0 r1)
      generalize xs[k]'hlt = z at *
      have HX : Hid (bs t ++ bs [32] ++ bs (Lib.itoa z) = bs (t ++ 32 :: Lib.itoa z)) := Lib.hid (by rw [bs_bs, bs_bs]; simp)
      have z1 : (bs t).size ≤ 30000000 := by rw [size_bs]; omega
      have z2 : (bs (Lib.itoa z)).size ≤ 20 := by rw [size_bs]; exact HIL.out
      have HT := Lib.hid htl
      clear ht htl
      go_wp2_with (go_at_call 8; (with_reducible refine (HRI.out _).mono ?_); rintro e w1 ⟨rfl, rfl⟩)
      go_round
      case rel => exact ⟨k + 1, t ++ 32 :: Lib.itoa z, by omega, by go_num, congrArg Value.string HX.out, HNX.out.symm, by have h1 := HT.out; have h2 := HIL.out; rw [List.length_append, List.length_cons]; omega⟩
      case measure => simp [intOf]; omega
    · obtain rfl : k = xs.length := by omega
      have HX : Hid (t = glue (word :: xs.map Lib.itoa)) := Lib.hid (by rw [ht, List.take_length])
      clear ht htl
      go_wp2_with fail
      go_ret
      exact ⟨by rw [← HX.out]; rfl, rfl⟩
theorem hexd_ext {d : Nat} (h : d < 16) : (⟨#[48, 49, 50, 51, 52, 53, 54, 55, 56, 57, 97, 98, 99, 100, 101, 102]⟩ : ByteArray).extract d (d + 1) = bs [hexd d] := by
  rcases (by omega : d = 0 ∨ d = 1 ∨ d = 2 ∨ d = 3 ∨ d = 4 ∨ d = 5 ∨ d = 6 ∨ d = 7 ∨ d = 8 ∨ d = 9 ∨ d = 10 ∨ d = 11 ∨ d = 12 ∨ d = 13 ∨ d = 14 ∨ d = 15) with rfl | rfl | rfl | rfl | rfl | rfl | rfl | rfl | rfl | rfl | rfl | rfl | rfl | rfl | rfl | rfl <;> rfl
set_option maxRecDepth 100000 in
set_option maxHeartbeats 4000000 in
/-- A text's digits. -/
theorem rhex_any (s : ByteArray) (w : World) (hs : s.size ≤ 1048576) : Calls Tryz.prog 68 #[.string s] w fun e w' => e = .returned (.string (bs (hexOf s.data.toList))) ∧ ∃ d, w' = w.drewN d := by
  have hl : s.data.toList.length = s.size := by rw [Array.length_toList]; rfl
  go_enter Tryz.func68, Tryz.ntmps68
  go_wp2_with fail
  go_loopg [3, 5] s.size (fun g tv kv wr => ∃ k d : Nat, k ≤ s.size ∧ g = s.size - k ∧ kv = .int .i64 k ∧ tv = .string (bs (hexOf (s.data.toList.take k))) ∧ wr = w.drewN d)
  case atStart => exact ⟨0, 0, Nat.zero_le _, rfl, rfl, rfl, rfl⟩
  case round =>
    obtain ⟨k, d, hk, rfl, rfl, rfl, rfl⟩ := hrel
    by_cases hlt : k < s.size
    · have hb := byteAt_eq hlt
      have h255 := (s[k]'hlt).toNat_lt
      have HNX : Hid (hexOf (s.data.toList.take (k + 1)) = hexOf (s.data.toList.take k) ++ [hexd ((s[k]'hlt).toNat / 16)] ++ [hexd ((s[k]'hlt).toNat % 16)]) := Lib.hid (by
        rw [take_succ_at hlt, hexOf_snoc, hb])
      have htl : (hexOf (s.data.toList.take k)).length ≤ 2097152 := by rw [hexOf_len, List.length_take]; omega
      obtain ⟨p, hp⟩ : ∃ p, p = (s[k]'hlt).toNat / 16 := ⟨_, rfl⟩
      obtain ⟨q, hq⟩ : ∃ q, q = (s[k]'hlt).toNat % 16 := ⟨_, rfl⟩
      have hpi : (((s[k]'hlt).toNat : Nat) : Int) / 16 = (p : Int) := by omega
      have hqi : (((s[k]'hlt).toNat : Nat) : Int) % 16 = (q : Int) := by omega
      have hp16 : p < 16 := by omega
      have hq16 : q < 16 := by omega
      rw [← hp, ← hq] at HNX
      have hE1 := hexd_ext hp16
      have hE2 := hexd_ext hq16
      generalize hexOf (s.data.toList.take k) = t at *
      have z1 : (bs t).size ≤ 2097152 := by rw [size_bs]; exact htl
      have z2 : (bs [hexd p]).size = 1 := rfl
      have z3 : (bs [hexd q]).size = 1 := rfl
      have HX : Hid (bs t ++ bs [hexd p] ++ bs [hexd q] = bs (t ++ [hexd p] ++ [hexd q])) := Lib.hid (by rw [bs_bs, bs_bs])
      have hk1 : (k : Int) < (s.size : Int) := by omega
      have hp1 : (p : Int) < 16 := by omega
      have hq1 : (q : Int) < 16 := by omega
      clear hb hp hq htl
      go_wp2_with fail
      go_quiet (fail)
      go_wp2_with fail
      go_quiet (fail)
      go_wp2_with fail
      go_roundg (s.size - (k + 1))
      case measure => omega
      case rel => exact ⟨k + 1, _, by omega, rfl, by go_num, by rw [HNX.out, ← HX.out], rfl⟩
    · obtain rfl : k = s.size := by omega
      have HX : Hid (hexOf (s.data.toList.take s.size) = hexOf s.data.toList) := Lib.hid (by rw [← hl, List.take_length])
      go_wp2_with fail
      go_ret
      exact ⟨by rw [← HX.out]; rfl, d, rfl⟩
end Go.Proofs.YthjcmcgmalnfpaaGreatDoor.Lex
