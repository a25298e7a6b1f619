/- console.Look. -/
import Derived.Test.YtpjdcooflheoeaaDoorRLoads47
namespace Go.Proofs.YtpjdcooflheoeaaDoor.Lex
open Go.RowKit
set_option linter.unusedSimpArgs false
set_option linter.unusedVariables false
theorem glueI_len : ∀ (xs : List Int) (w : List UInt8), (∀ x ∈ xs, InI x) → (glue (w :: xs.map Lib.itoa)).length ≤ w.length + 21 * xs.length
  | [], w, _ => by simp [glue]
  | x :: r, w, h => by
    have ih := glueI_len r (Lib.itoa x) fun y hy => h y (List.mem_cons_of_mem _ hy)
    have hx := itoa_len (h x (by simp))
    rw [List.map_cons, show glue (w :: Lib.itoa x :: r.map Lib.itoa) = w ++ 32 :: glue (Lib.itoa x :: r.map Lib.itoa) from rfl, List.length_append, List.length_cons, List.length_cons]
    omega
theorem trim_nl (l : List UInt8) : Lib.trimSuffix (l ++ [10]) [10] = l := by
  have : Lib.hasSuffix (l ++ [10]) [10] = true := by
    unfold Lib.hasSuffix
    rw [List.isSuffixOf_iff_suffix]
    exact ⟨l, rfl⟩
  rw [Lib.trimSuffix, if_pos this]
  simp
set_option maxRecDepth 100000 in
set_option maxHeartbeats 2000000 in
theorem look_any (xs : List Int) (a : Option Addr) (cap : Nat) (w : World) (hn : xs.length ≤ 1048576) (hi : Ints w a xs) (ht : HasTab w) :
    Calls Tryd.prog 5 #[.slice a xs.length cap] w fun e w' => e = .returned (.string (bs (lookL xs))) ∧ Below w.heap.size w w' := by
  by_cases h0 : xs = []
  · subst h0
    go_enter Tryd.func5, Tryd.ntmps5
    go_wp2_with fail
    go_ret
    exact ⟨rfl, Below.refl _ _⟩
  · have HL : Hid (lookL xs = glue (lookW :: xs.map Lib.itoa)) := Lib.hid (by rw [lookL, if_neg h0])
    have hx0 : ((xs.length : Int) == 0) = false := by have := List.length_pos_iff.2 h0; rw [beq_eq_false_iff_ne]; omega
    obtain ⟨W0, hW0⟩ : ∃ W0, W0 = w.alloc (.cells #[.pointer none, .slice none 0 0] 34) := ⟨_, rfl⟩
    have hb0 : Below w.heap.size w W0 := by rw [hW0]; exact (Below.refl _ _).alloc (Nat.le_refl _) _
    have hz0 : W0.heap.size = w.heap.size + 1 := by rw [hW0]; simp
    have hbl : Bld W0 w.heap.size (w.heap.size + 1) [] := by rw [hW0]; exact bld_new w _
    have HPL := Lib.hid (pline_any w.heap.size (w.heap.size + 1) [] lookW xs a cap W0 hbl (by omega) (ht.below hb0) (fun w' hb => ht.below (hb0.trans ((hb.below (B := w.heap.size) (Nat.le_refl _) (by omega))))) (fun w' hb => (hi.keep (hb0.trans (hb.below (Nat.le_refl _) (by omega))))) hn (by decide) (by simp))
    have HTL : Hid ((glue (lookW :: xs.map Lib.itoa) ++ [10]).length ≤ 9223372036854775807) := Lib.hid (by
      have := glueI_len xs lookW fun x hx => by
        obtain ⟨i, hi', rfl⟩ := List.mem_iff_getElem.1 hx
        obtain ⟨_, _, _, _, _, h4, h5⟩ := hi i hi'
        exact ⟨h4, h5⟩
      have e : lookW.length = 4 := rfl
      rw [List.length_append, List.length_singleton]
      omega)
    have HZ := Lib.hid hz0
    have HB0 := Lib.hid hb0
    clear h0 hi ht hb0 hz0 hbl
    go_enter Tryd.func5, Tryd.ntmps5
    go_wp2_with fail
    rw [← hW0]
    clear hW0
    refine HPL.out.mono ?_
    rintro e w1 ⟨rfl, hbl, hbu⟩
    rw [List.nil_append] at hbl
    have hu := hbu.size
    have hz := HZ.out
    have HBS := Lib.hid (bstr_any w.heap.size (w.heap.size + 1) _ w1 hbl (by simp))
    have HB1 : Hid (Below w.heap.size w w1) := Lib.hid (HB0.out.trans (hbu.below (Nat.le_refl _) (by omega)))
    have htl := HTL.out
    have HT := Lib.hid (fun W => Tryd.strings_TrimSuffix (bs (glue (lookW :: xs.map Lib.itoa) ++ [10])) (bs [10]) W (by rw [size_bs]; exact htl))
    clear hbl hbu htl hz
    go_wp2_with (first
      | (go_at_call 11; (with_reducible refine HBS.out.mono ?_); rintro e w2 ⟨rfl, hb2⟩; have HB2 : Hid (Below w.heap.size w w2) := Lib.hid (HB1.out.trans (hb2.mono (by omega))); clear hb2)
      | (go_at_call 10; refine (HT.out _).mono ?_; rintro e w3 ⟨rfl, rfl⟩))
    go_ret
    refine ⟨?_, HB2.out⟩
    rw [HL.out, bs_list, bs_list, trim_nl]
    rfl
set_option maxRecDepth 100000 in
set_option maxHeartbeats 2000000 in
theorem live_any (w : World) (ht : HasTab w) : Calls Tryd.prog 4 #[] w fun e w' => e = .returned (.bool true) ∧ Below w.heap.size w w' := by
  have HT := Lib.hid ht
  have H1 : Hid (∀ W, HasTab W → Calls Tryd.prog 5 #[.slice none 0 0] W fun e w' => e = .returned (.string ⟨#[108, 111, 111, 107, 32, 102, 105, 110, 101]⟩) ∧ Below W.heap.size W w') := Lib.hid fun W hT => look_any [] none 0 W (by simp) (fun i hi => by simp at hi) hT
  have e25 : bs (lookL [2, 5]) = ⟨#[108, 111, 111, 107, 32, 50, 32, 53]⟩ := by
    have h2 : Lib.itoa 2 = [50] := (itoa_nat 2).trans (decDigits_small (by omega))
    have h5 : Lib.itoa 5 = [53] := (itoa_nat 5).trans (decDigits_small (by omega))
    rw [lookL, if_neg (by simp), List.map_cons, List.map_cons, List.map_nil, h2, h5]
    rfl
  have H2 : Hid (∀ W : World, HasTab W → Calls Tryd.prog 5 #[.slice (some ⟨W.heap.size, 0, none⟩) 2 2] (W.alloc (.cells #[.int .i64 2, .int .i64 5] 3)) fun e w' => e = .returned (.string ⟨#[108, 111, 111, 107, 32, 50, 32, 53]⟩) ∧ Below (W.alloc (.cells #[.int .i64 2, .int .i64 5] 3)).heap.size (W.alloc (.cells #[.int .i64 2, .int .i64 5] 3)) w') := Lib.hid fun W hT => by
    have g := heap_alloc_new W (.cells #[.int .i64 2, .int .i64 5] 3)
    have h := look_any [2, 5] (some ⟨W.heap.size, 0, none⟩) 2 (W.alloc (.cells #[.int .i64 2, .int .i64 5] 3)) (by simp) (fun i hi => by
      have h2 : i < 2 := hi
      rcases (by omega : i = 0 ∨ i = 1) with rfl | rfl
      · exact ⟨_, 0, rfl, by simp, cell_at g rfl, by simp, by simp⟩
      · exact ⟨_, 0, rfl, by simp, cell_at g rfl, by simp, by simp⟩) (hT.below ((Below.refl _ _).alloc (Nat.le_refl _) _))
    rw [e25] at h
    exact h
  clear ht e25
  go_enter Tryd.func4, Tryd.ntmps4
  go_wp2_with (first
    | (go_at_call 5; refine (H1.out _ HT.out).mono ?_; clear H1; rintro e w1 ⟨rfl, hb1⟩; have HB1 := Lib.hid hb1; clear hb1)
    | (go_at_call 5; refine (H2.out _ (HT.out.below HB1.out)).mono ?_; rintro e w2 ⟨rfl, hb2⟩; have HB2 : Hid (Below w.heap.size w w2) := Lib.hid ((HB1.out.alloc HB1.out.size _).trans (hb2.mono (by have := HB1.out.size; simp; omega))); clear hb2))
  go_ret
  exact ⟨rfl, HB2.out⟩
end Go.Proofs.YtpjdcooflheoeaaDoor.Lex
