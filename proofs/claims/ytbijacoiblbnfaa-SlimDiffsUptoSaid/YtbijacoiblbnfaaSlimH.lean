/- The page's example; a script as the document's. -/
import Derived.Test.YtbijacoiblbnfaaSlimG
namespace Go.Proofs.Ytbijacoiblbnfaa
open Go.RowKit
set_option linter.unusedSimpArgs false
set_option linter.unusedVariables false
set_option maxRecDepth 100000 in
set_option maxHeartbeats 4000000 in
theorem like_any (st rm : Int) (aC aP aT : Option Addr) (n m q cC cP cT : Nat) (w : World) :
    Calls Try.prog 9 #[.agg #[.int .i64 st, .int .i64 rm, .slice aC n cC, .slice aP m cP, .slice aT q cT]] w fun e w' => e = .returned (.agg #[.int .i64 st, .int .i64 rm, .slice aC n cC, .slice none 0 0, .slice aT q cT]) ∧ Below w.heap.size w w' := by
  go_enter Try.func9, Try.ntmps9
  go_wp2_with fail
  exact bodyPost_ret (v := .agg #[.int .i64 st, .int .i64 rm, .slice aC n cC, .slice none 0 0, .slice aT q cT]) (by simp [results, Try.results9, go_sem]) rfl ⟨rfl, ((Below.refl _ _).alloc (Nat.le_refl _) _).alloc (by simp) _⟩
set_option maxRecDepth 100000 in
set_option maxHeartbeats 4000000 in
theorem none_zero (w : World) :
    Calls Try.prog 13 #[.agg #[.int .i64 0, .int .i64 0, .slice none 0 0, .slice none 0 0, .slice none 0 0]] w fun e w' => e = .returned (.bool true) ∧ Below w.heap.size w w' := by
  go_enter Try.func13, Try.ntmps13
  go_wp2_with fail
  refine (like_any _ _ _ _ _ _ _ _ _ _ _ _).mono ?_
  rintro e w1 ⟨rfl, hb1⟩
  have HB1 := Lib.hid hb1
  clear hb1
  go_wp2_with fail
  refine (clients_yes 0 0 All All none none none none none none 0 0 0 0 0 0 0 0 0 0 [] [] _ (RowOf.empty _ _ _ _ _) (RowOf.empty _ _ _ _ _) (RowOf.empty _ _ _ _ _) (RowOf.empty _ _ _ _ _)).mono ?_
  rintro e w2 ⟨rfl, hb2⟩
  have hB : Below (w.heap.size + 1) (w.alloc (.cells #[.int .i64 0, .int .i64 0, .slice none 0 0, .slice none 0 0, .slice none 0 0] 25)) w2 := by
    have h1 := HB1.out
    rw [show (w.alloc (.cells #[.int .i64 0, .int .i64 0, .slice none 0 0, .slice none 0 0, .slice none 0 0] 25)).heap.size = w.heap.size + 1 by simp] at h1
    exact h1.trans (hb2.mono (by have := HB1.out.size; simp at this; omega))
  have hg : w2.heap[w.heap.size]? = _ := (hB.block _ (by omega)).trans (heap_alloc_new w _)
  have c3 := cell_at (o := 3) hg rfl
  have HB := Lib.hid ((((Below.refl w.heap.size w).alloc (Nat.le_refl _) _).trans (hB.mono (by omega))))
  clear hb2 hB hg
  go_wp2_with fail
  go_ret
  exact ⟨rfl, HB.out⟩
set_option maxRecDepth 100000 in
set_option maxHeartbeats 4000000 in
theorem first_nil (f : Value) (w : World) :
    Calls Try.prog 25 #[.slice none 0 0, .slice none 0 0, f] w fun e w' => e = .returned (.int .i64 (-1)) ∧ w = w' := by
  go_enter Try.func25, Try.ntmps25
  go_wp2_with fail
  refine wp_loop_rounds 1 ?_
  rw [rounds_succ]
  go_wp2_with fail
  go_ret
  exact ⟨rfl, rfl⟩
set_option maxRecDepth 100000 in
set_option maxHeartbeats 4000000 in
theorem diff_nil (w : World) :
    Calls Try.prog 18 #[.slice none 0 0, .slice none 0 0] w fun e w' => e = .returned (.int .i64 (-1)) ∧ w = w' := by
  go_enter Try.func18, Try.ntmps18
  go_wp2_with (go_at_call 25; refine (first_nil _ _).mono ?_; rintro e w' ⟨rfl, rfl⟩)
  go_ret
  exact ⟨rfl, rfl⟩
theorem two_nil (w : World) : RowOf rowsRd 1 24 All (w.alloc (.cells #[.slice none 0 0, .slice none 0 0] 70)) (some ⟨w.heap.size, 0, none⟩) 2 2 [[], []] := by
  refine ⟨rfl, Nat.le_refl _, by unfold maxLen; omega, by omega, by simp, fun i x hx => ?_⟩
  have h := heap_alloc_new w (.cells #[.slice none 0 0, .slice none 0 0] 70)
  match i, hx with
  | 0, hx => cases hx; exact ⟨_, _, [.slice none 0 0], rfl, by simp, trivial, rfl, fun j u hu => by
      match j, hu with
      | 0, hu => cases hu; exact cell_at h rfl, ⟨none, 0, 0, rfl, RowOf.empty _ _ _ _ _⟩⟩
  | 1, hx => cases hx; exact ⟨_, _, [.slice none 0 0], rfl, by simp, trivial, rfl, fun j u hu => by
      match j, hu with
      | 0, hu => cases hu; exact cell_at h rfl, ⟨none, 0, 0, rfl, RowOf.empty _ _ _ _ _⟩⟩
theorem row_lit (w : World) (zs : List Int) (hl : zs.length ≤ 4096) (hw : ∀ z ∈ zs, (Lit.int .i64 z).wf = true) (c : Array Value) (hc : c = (zs.map (Value.int .i64)).toArray) : RowOf rI 1 8 All (w.alloc (.cells c 3)) (some ⟨w.heap.size, 0, none⟩) zs.length zs.length zs := by
  subst hc
  refine ⟨rfl, Nat.le_refl _, by unfold maxLen; omega, by omega, by simp, fun i x hx => ⟨_, _, [.int .i64 x], rfl, by simp, trivial, rfl, fun j u hu => ?_, rfl, hw x (List.mem_of_getElem? hx)⟩⟩
  match j, hu with
  | 0, hu =>
    cases hu
    refine cell_at (heap_alloc_new w _) ?_
    rw [Nat.zero_add, Nat.add_zero, Nat.mul_one, List.getElem?_toArray, List.getElem?_map, hx]
    rfl
theorem two_make (w : World) : (Instr.makeSlice 22 (.int .i64 2) (.int .i64 2)).run Try.prog w = .ok (.slice (some ⟨w.heap.size, 0, none⟩) 2 2) (w.alloc (.cells #[.slice none 0 0, .slice none 0 0] 70)) := by
  have h := calls_nil_make 2 (by omega) w
  have e : madeCells #[Value.slice none 0 0] 2 = #[.slice none 0 0, .slice none 0 0] := by
    apply Array.ext_getElem?
    intro k
    match k with
    | 0 => exact madeNil_get 2 0 (by omega)
    | 1 => exact madeNil_get 2 1 (by omega)
    | k + 2 => rw [Array.getElem?_eq_none (by rw [size_madeCells]; omega), Array.getElem?_eq_none (by simp)]
  rw [e] at h
  exact h
set_option maxRecDepth 100000 in
set_option maxHeartbeats 8000000 in
theorem live_true (w : World) : Calls Try.prog 5 #[] w fun e w' => e = .returned (.bool true) ∧ Below w.heap.size w w' := by
  have hmk := two_make
  go_enter Try.func5, Try.ntmps5
  go_wp2_with fail
  refine (even_ok 0 0 2 4 All _ none none 2 0 0 2 0 0 [[], []] [] [] _ (by omega) (.inr ⟨by omega, by decide⟩) rfl (by omega) (two_nil w) (RowOf.empty _ _ _ _ _) (RowOf.empty _ _ _ _ _)).mono ?_
  rintro e w1 ⟨a1, c1, a2, c2, a3, c3, rfl, r1, r2, r3, hb1⟩
  have hb : Below w.heap.size w w1 := ((Below.refl _ _).alloc (Nat.le_refl _) _).trans (hb1.mono (by simp))
  have HB := Lib.hid hb
  have R2 := Lib.hid r2
  clear hb hb1 r1 r2 r3
  go_wp2_with fail
  have hr4 := row_lit (w1.alloc (.cells #[.int .i64 0, .int .i64 0, .slice a1 2 c1, .slice a2 4 c2, .slice a3 0 c3] 25)) [0, 1, 0, 1] (by decide) (by decide) #[.int .i64 0, .int .i64 1, .int .i64 0, .int .i64 1] rfl
  rw [show (w1.alloc (.cells #[.int .i64 0, .int .i64 0, .slice a1 2 c1, .slice a2 4 c2, .slice a3 0 c3] 25)).heap.size = w1.heap.size + 1 by simp] at hr4
  with_reducible refine (isame_any (evenL 2 4) [0, 1, 0, 1] All All a2 (some ⟨w1.heap.size + 1, 0, none⟩) 4 4 c2 4 _ ((R2.out.mono (Rd.int_ok _) fun _ _ _ => trivial).keep (Rd.int_ok _) ((Fix.alloc _ _ _).trans (Fix.alloc _ _ _))) hr4).mono ?_
  rintro e w2 ⟨he, d, rfl⟩
  rw [show decide (evenL 2 4 = [0, 1, 0, 1]) = true by decide] at he
  subst he
  go_wp2_with (go_at_call 18; refine (diff_nil _).mono ?_; rintro e w' ⟨rfl, rfl⟩)
  go_ret
  exact ⟨rfl, below_drewN ((HB.out.alloc HB.out.size _).alloc (by simp; have := HB.out.size; omega) _) _⟩
end Go.Proofs.Ytbijacoiblbnfaa
