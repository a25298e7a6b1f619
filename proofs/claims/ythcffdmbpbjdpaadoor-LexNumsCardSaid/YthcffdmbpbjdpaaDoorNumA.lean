/- The statement on numbers, walked. -/
import Derived.Test.YthcffdmbpbjdpaaDoorNum
import Derived.Test.YthcffdmbpbjdpaaDoorLexL
namespace Go.Proofs.YthcffdmbpbjdpaaDoor.Lex
open Go.RowKit
set_option linter.unusedSimpArgs false
set_option linter.unusedVariables false
theorem num_no (s : ByteArray) (w : World) (hs : s.size ≤ 9223372036854775807) (h : numOf s.data.toList = none) : Calls Tryd.prog 5 #[.string s] w fun e w' => e = .returned (.tuple #[.int .i64 0, .int .i64 10]) ∧ Below w.heap.size w w' :=
  (num s w hs).mono fun e w' ⟨h1, h2⟩ => ⟨by rw [h2, h], h1⟩
theorem num_yes (s : ByteArray) (m : Nat) (w : World) (hs : s.size ≤ 9223372036854775807) (h : numOf s.data.toList = some m) : Calls Tryd.prog 5 #[.string s] w fun e w' => e = .returned (.tuple #[.int .i64 m, .int .i64 0]) ∧ Below w.heap.size w w' :=
  (num s w hs).mono fun e w' ⟨h1, h2⟩ => ⟨by rw [h2, h], h1⟩
theorem rn_digits {k : Nat} (h : k ≤ 999999999) : rn (bs (Lib.decDigits k)).data.toList = k := rn_yes (numOf_digits h)
set_option maxRecDepth 100000 in
set_option maxHeartbeats 4000000 in
theorem law_tail_no (s : ByteArray) (n x y r : Int) (w : World) (hm : HasMax w) (h60 : s.size ≤ 60) (hn : n < 0 ∨ 999999999 < n)
    (h1 : ∀ w, Calls Tryd.prog 5 #[.string s] w fun e w' => e = .returned (.tuple #[.int .i64 x, .int .i64 y]) ∧ Below w.heap.size w w')
    (h2 : ∀ w, Calls Tryd.prog 6 #[.string s] w fun e w' => e = .returned (.int .i64 r) ∧ w = w')
    (hx : (r = -1 ∧ x = 0 ∧ y = 10) ∨ (0 ≤ r ∧ x = r ∧ y = 0)) : Calls Tryd.prog 3 #[.string s, .int .i64 n] w fun e w' => e = .returned (.bool true) ∧ Below w.heap.size w w' := by
  have HM := Lib.hid hm
  have H1 := Lib.hid h1
  have H2 := Lib.hid h2
  have HD : Hid (∀ w, Calls Tryd.prog 7 #[.int .i64 n] w fun e w' => e = .returned (.tuple #[.string ⟨#[]⟩, .int .i64 3]) ∧ w = w') := Lib.hid fun w => dig_no n w hn
  clear hm h1 h2
  rcases hx with ⟨rfl, rfl, rfl⟩ | ⟨hr, rfl, rfl⟩ <;> by_cases hn0 : n < 0
  · clear hn
    go_enter Tryd.func3, Tryd.ntmps3
    go_wp2_with fail
    refine (H1.out _).mono ?_
    rintro e w1 ⟨rfl, hb1⟩
    have HB1 := Lib.hid hb1
    clear hb1
    go_wp2_with (first | (go_at_call 6; (with_reducible refine (H2.out _).mono ?_); rintro e w' ⟨rfl, rfl⟩) | (go_at_call 7; (with_reducible refine (HD.out _).mono ?_); rintro e w' ⟨rfl, rfl⟩) | (go_at_call 4; (with_reducible refine (live _ (HM.out.below HB1.out)).mono ?_); rintro e w' ⟨rfl, hb⟩; have HB := Lib.hid (HB1.out.trans (hb.mono HB1.out.size)); clear hb))
    go_ret
    exact ⟨rfl, HB.out⟩
  · have hn1 : 999999999 < n := by omega
    clear hn
    go_enter Tryd.func3, Tryd.ntmps3
    go_wp2_with fail
    refine (H1.out _).mono ?_
    rintro e w1 ⟨rfl, hb1⟩
    have HB1 := Lib.hid hb1
    clear hb1
    go_wp2_with (first | (go_at_call 6; (with_reducible refine (H2.out _).mono ?_); rintro e w' ⟨rfl, rfl⟩) | (go_at_call 7; (with_reducible refine (HD.out _).mono ?_); rintro e w' ⟨rfl, rfl⟩) | (go_at_call 4; (with_reducible refine (live _ (HM.out.below HB1.out)).mono ?_); rintro e w' ⟨rfl, hb⟩; have HB := Lib.hid (HB1.out.trans (hb.mono HB1.out.size)); clear hb))
    go_ret
    exact ⟨rfl, HB.out⟩
  · clear hn
    go_enter Tryd.func3, Tryd.ntmps3
    go_wp2_with fail
    refine (H1.out _).mono ?_
    rintro e w1 ⟨rfl, hb1⟩
    have HB1 := Lib.hid hb1
    clear hb1
    go_wp2_with (first | (go_at_call 6; (with_reducible refine (H2.out _).mono ?_); rintro e w' ⟨rfl, rfl⟩) | (go_at_call 7; (with_reducible refine (HD.out _).mono ?_); rintro e w' ⟨rfl, rfl⟩) | (go_at_call 4; (with_reducible refine (live _ (HM.out.below HB1.out)).mono ?_); rintro e w' ⟨rfl, hb⟩; have HB := Lib.hid (HB1.out.trans (hb.mono HB1.out.size)); clear hb))
    go_ret
    exact ⟨rfl, HB.out⟩
  · have hn1 : 999999999 < n := by omega
    clear hn
    go_enter Tryd.func3, Tryd.ntmps3
    go_wp2_with fail
    refine (H1.out _).mono ?_
    rintro e w1 ⟨rfl, hb1⟩
    have HB1 := Lib.hid hb1
    clear hb1
    go_wp2_with (first | (go_at_call 6; (with_reducible refine (H2.out _).mono ?_); rintro e w' ⟨rfl, rfl⟩) | (go_at_call 7; (with_reducible refine (HD.out _).mono ?_); rintro e w' ⟨rfl, rfl⟩) | (go_at_call 4; (with_reducible refine (live _ (HM.out.below HB1.out)).mono ?_); rintro e w' ⟨rfl, hb⟩; have HB := Lib.hid (HB1.out.trans (hb.mono HB1.out.size)); clear hb))
    go_ret
    exact ⟨rfl, HB.out⟩
set_option maxRecDepth 100000 in
set_option maxHeartbeats 4000000 in
theorem law_tail_yes (s : ByteArray) (k : Nat) (x y r : Int) (w : World) (hm : HasMax w) (ht : HasTab w) (h60 : s.size ≤ 60) (hk : k ≤ 999999999)
    (h1 : ∀ w, Calls Tryd.prog 5 #[.string s] w fun e w' => e = .returned (.tuple #[.int .i64 x, .int .i64 y]) ∧ Below w.heap.size w w')
    (h2 : ∀ w, Calls Tryd.prog 6 #[.string s] w fun e w' => e = .returned (.int .i64 r) ∧ w = w')
    (hx : (r = -1 ∧ x = 0 ∧ y = 10) ∨ (0 ≤ r ∧ x = r ∧ y = 0)) : Calls Tryd.prog 3 #[.string s, .int .i64 k] w fun e w' => e = .returned (.bool true) ∧ Below w.heap.size w w' := by
  have HM := Lib.hid hm
  have HT := Lib.hid ht
  have H1 := Lib.hid h1
  have H2 := Lib.hid h2
  have HR := Lib.hid (rn_digits hk)
  have hdl : (bs (Lib.decDigits k)).size ≤ 9223372036854775807 := by
    have := decDigits_len (n := k) (by omega)
    simp only [bs, ByteArray.size, List.size_toArray]
    omega
  have HDL := Lib.hid hdl
  clear hm ht h1 h2 hdl
  rcases hx with ⟨rfl, rfl, rfl⟩ | ⟨hr, rfl, rfl⟩
  · go_enter Tryd.func3, Tryd.ntmps3
    go_wp2_with fail
    refine (H1.out _).mono ?_
    rintro e w1 ⟨rfl, hb1⟩
    have HB1 := Lib.hid hb1
    clear hb1
    go_wp2_with fail
    refine (H2.out _).mono ?_
    rintro e w' ⟨rfl, rfl⟩
    go_wp2_with fail
    refine (dig_yes k _ hk (HT.out.below HB1.out)).mono ?_
    rintro e w2 ⟨rfl, hb2⟩
    have HB2 := Lib.hid (HB1.out.trans (hb2.mono HB1.out.size))
    clear hb2
    go_wp2_with fail
    refine (rdig k _ (by omega)).mono ?_
    rintro e w' ⟨rfl, rfl⟩
    go_wp2_with fail
    refine (rnum _ _ HDL.out).mono ?_
    rintro e w' ⟨rfl, rfl⟩
    rw [HR.out]
    go_wp2_with (go_at_call 4; (with_reducible refine (live _ (HM.out.below HB2.out)).mono ?_); rintro e w' ⟨rfl, hb⟩; have HB := Lib.hid (HB2.out.trans (hb.mono HB2.out.size)); clear hb)
    go_ret
    exact ⟨rfl, HB.out⟩
  · go_enter Tryd.func3, Tryd.ntmps3
    go_wp2_with fail
    refine (H1.out _).mono ?_
    rintro e w1 ⟨rfl, hb1⟩
    have HB1 := Lib.hid hb1
    clear hb1
    go_wp2_with fail
    refine (H2.out _).mono ?_
    rintro e w' ⟨rfl, rfl⟩
    go_wp2_with fail
    refine (dig_yes k _ hk (HT.out.below HB1.out)).mono ?_
    rintro e w2 ⟨rfl, hb2⟩
    have HB2 := Lib.hid (HB1.out.trans (hb2.mono HB1.out.size))
    clear hb2
    go_wp2_with fail
    refine (rdig k _ (by omega)).mono ?_
    rintro e w' ⟨rfl, rfl⟩
    go_wp2_with fail
    refine (rnum _ _ HDL.out).mono ?_
    rintro e w' ⟨rfl, rfl⟩
    rw [HR.out]
    go_wp2_with (go_at_call 4; (with_reducible refine (live _ (HM.out.below HB2.out)).mono ?_); rintro e w' ⟨rfl, hb⟩; have HB := Lib.hid (HB2.out.trans (hb.mono HB2.out.size)); clear hb)
    go_ret
    exact ⟨rfl, HB.out⟩
theorem lawNums (s : ByteArray) (n : Int) (w : World) (hm : HasMax w) (ht : HasTab w) (hs : s.size ≤ maxLen) : Calls Tryd.prog 3 #[.string s, .int .i64 n] w fun e w' => e = .returned (.bool true) ∧ Below w.heap.size w w' := by
  unfold maxLen at hs
  by_cases h60 : 60 < s.size
  · have HM := Lib.hid hm
    clear hm ht
    go_enter Tryd.func3, Tryd.ntmps3
    go_wp2_with (go_at_call 4; (with_reducible refine (live _ HM.out).mono ?_); rintro e w' ⟨rfl, hb⟩; have HB := Lib.hid hb; clear hb)
    go_ret
    exact ⟨rfl, HB.out⟩
  · cases hn : numOf s.data.toList with
    | none =>
      have h1 := fun w => num_no s w (by omega) hn
      have h2 : ∀ w, Calls Tryd.prog 6 #[.string s] w fun e w' => e = .returned (.int .i64 (-1)) ∧ w = w' := fun w => (rnum s w (by omega)).mono fun e w' ⟨a, b⟩ => ⟨by rw [a, rn_no hn], b⟩
      by_cases hr : n < 0 ∨ 999999999 < n
      · exact law_tail_no s n _ _ _ w hm (by omega) hr h1 h2 (.inl ⟨rfl, rfl, rfl⟩)
      · obtain ⟨k, rfl⟩ : ∃ k : Nat, n = k := ⟨n.toNat, by omega⟩
        exact law_tail_yes s k _ _ _ w hm ht (by omega) (by omega) h1 h2 (.inl ⟨rfl, rfl, rfl⟩)
    | some m =>
      have h1 := fun w => num_yes s m w (by omega) hn
      have h2 : ∀ w, Calls Tryd.prog 6 #[.string s] w fun e w' => e = .returned (.int .i64 m) ∧ w = w' := fun w => (rnum s w (by omega)).mono fun e w' ⟨a, b⟩ => ⟨by rw [a, rn_yes hn], b⟩
      by_cases hr : n < 0 ∨ 999999999 < n
      · exact law_tail_no s n _ _ _ w hm (by omega) hr h1 h2 (.inr ⟨by omega, rfl, rfl⟩)
      · obtain ⟨k, rfl⟩ : ∃ k : Nat, n = k := ⟨n.toNat, by omega⟩
        exact law_tail_yes s k _ _ _ w hm ht (by omega) (by omega) h1 h2 (.inr ⟨by omega, rfl, rfl⟩)
end Go.Proofs.YthcffdmbpbjdpaaDoor.Lex
