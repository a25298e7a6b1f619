/- The statement on rules and loads. -/
import Derived.Test.YtpjdcooflheoeaaDoorLoads47
import Derived.Test.YtpjdcooflheoeaaDoorRLoads47
namespace Go.Proofs.YtpjdcooflheoeaaDoor.Lex
open Go.RowKit
set_option linter.unusedSimpArgs false
set_option linter.unusedVariables false
set_option maxRecDepth 100000 in
theorem console_law (xs : List Int) (l : List OpV) (a b : Option Addr) (c d : Nat) (w : World) (hx : xs.length ≤ 9223372036854775807) (hl : l.length ≤ 9223372036854775807) (hi : Ints w a xs) (ho : OpRow w b l) (ht : HasTab w) (hN : HasNames w) :
    Calls Tryd.prog 3 #[.slice a xs.length c, .slice b l.length d] w fun e w' => e = .returned (.bool true) ∧ Below w.heap.size w w' := by
  by_cases hg : 100 < xs.length ∨ 60 < l.length
  · have HT := Lib.hid ht
    clear hi ho ht hN
    by_cases hg1 : 100 < xs.length
    · have hg1' : (100 : Int) < xs.length := by omega
      clear hg
      go_enter Tryd.func3, Tryd.ntmps3
      go_wp2_with (go_at_call 4; (with_reducible refine (live_any _ HT.out).mono ?_); rintro e w5 ⟨rfl, hb5⟩; have HB5 := Lib.hid hb5; clear hb5)
      go_ret
      exact ⟨rfl, HB5.out⟩
    · have hg1' : ¬ (100 : Int) < xs.length := by omega
      have hg2' : (60 : Int) < l.length := by omega
      clear hg hg1
      go_enter Tryd.func3, Tryd.ntmps3
      go_wp2_with (go_at_call 4; (with_reducible refine (live_any _ HT.out).mono ?_); rintro e w5 ⟨rfl, hb5⟩; have HB5 := Lib.hid hb5; clear hb5)
      go_ret
      exact ⟨rfl, HB5.out⟩
  · have hg1' : ¬ (100 : Int) < xs.length := by omega
    have hg2' : ¬ (60 : Int) < l.length := by omega
    have H1 : Hid (∀ W, Below w.heap.size w W → Calls Tryd.prog 5 #[.slice a xs.length c] W fun e w' => e = .returned (.string (bs (lookL xs))) ∧ Below w.heap.size w w') :=
      Lib.hid fun W hb => (look_any xs a c W (by omega) (hi.keep hb) (ht.below hb)).mono fun e w' h => ⟨h.1, hb.trans (h.2.mono hb.size)⟩
    have H2 : Hid (∀ W, Below w.heap.size w W → Calls Tryd.prog 6 #[.slice a xs.length c] W fun e w' => e = .returned (.string (bs (lookL xs))) ∧ w' = W) :=
      Lib.hid fun W hb => rlook_any xs a c W (by omega) (hi.keep hb)
    have H3 : Hid (∀ W, Below w.heap.size w W → Calls Tryd.prog 7 #[.slice b l.length d] W fun e w' => e = .returned (.string (bs (textK (loadsV l) 8))) ∧ Below w.heap.size w w') :=
      Lib.hid fun W hb => (loads_any l b d W (by omega) (ho.keep hb) (ht.below hb) (hN.below hb)).mono fun e w' h => ⟨h.1, hb.trans (h.2.mono hb.size)⟩
    have H4 : Hid (∀ W, Below w.heap.size w W → Calls Tryd.prog 8 #[.slice b l.length d] W fun e w' => e = .returned (.string (bs (textK (loadsV l) 8))) ∧ Below w.heap.size w w') :=
      Lib.hid fun W hb => (rloads_any l b d W (by omega) (ho.keep hb)).mono fun e w' h => ⟨h.1, hb.trans (h.2.mono hb.size)⟩
    have H5 : Hid (∀ W, Below w.heap.size w W → Calls Tryd.prog 4 #[] W fun e w' => e = .returned (.bool true) ∧ Below w.heap.size w w') :=
      Lib.hid fun W hb => (live_any W (ht.below hb)).mono fun e w' h => ⟨h.1, hb.trans (h.2.mono hb.size)⟩
    have HB0 : Hid (Below w.heap.size w w) := Lib.hid (Below.refl _ _)
    clear hi ho ht hN hg
    generalize bs (lookL xs) = s1 at *
    generalize bs (textK (loadsV l) 8) = s2 at *
    go_enter Tryd.func3, Tryd.ntmps3
    go_wp2_with (first
      | (go_at_call 5; (with_reducible refine (H1.out _ HB0.out).mono ?_); rintro e w1 ⟨rfl, hb1⟩; have HB1 := Lib.hid hb1; clear hb1)
      | (go_at_call 6; (with_reducible refine (H2.out _ HB1.out).mono ?_); rintro e w2 ⟨rfl, rfl⟩)
      | (go_at_call 7; (with_reducible refine (H3.out _ HB1.out).mono ?_); rintro e w3 ⟨rfl, hb3⟩; have HB3 := Lib.hid hb3; clear hb3)
      | (go_at_call 8; (with_reducible refine (H4.out _ HB3.out).mono ?_); rintro e w4 ⟨rfl, hb4⟩; have HB4 := Lib.hid hb4; clear hb4)
      | (go_at_call 4; (with_reducible refine (H5.out _ HB4.out).mono ?_); rintro e w5 ⟨rfl, hb5⟩; have HB5 := Lib.hid hb5; clear hb5))
    go_ret
    exact ⟨rfl, HB5.out⟩
theorem ints_of_isRow {w : World} {a : Option Addr} {len cap : Nat} {zs : List Int} (h : IsRow .i64 w a len cap zs) : (zs.take len).length = len ∧ Ints w a (zs.take len) ∧ len ≤ 9223372036854775807 := by
  rcases h with ⟨rfl, rfl, rfl, rfl⟩ | ⟨x, rfl, hl, hm, hz, hc, hw⟩
  · exact ⟨rfl, fun i hi => by simp at hi, by omega⟩
  · have hlen : (zs.take len).length = len := by rw [List.length_take]; omega
    have hbig : (maxLen : Nat) ≤ 9223372036854775807 := Nat.le_refl _
    refine ⟨hlen, fun i hi => ?_, by omega⟩
    obtain ⟨b, off, spot⟩ := x
    have h0 := hc 0 (by omega)
    obtain rfl : spot = none := by simpa [Addr.add] using World.cell?_spot h0
    have h1 := hc i (by omega)
    rw [Addr.add_lit] at h1
    have hi2 : i < zs.length := by omega
    have h2 := hw (zs[i]'hi2) (List.getElem_mem hi2)
    simp only [Lit.wf, Bool.and_eq_true, decide_eq_true_eq] at h2
    refine ⟨b, off, rfl, World.block_lt_of_cell? w _ h0, ?_, ?_⟩
    · rw [h1, List.getElem_take, List.getD_eq_getElem?_getD, List.getElem?_eq_getElem hi2]
      rfl
    · rw [List.getElem_take]
      exact h2
end Go.Proofs.YtpjdcooflheoeaaDoor.Lex
