/- Rows of numbers of 64 bits: compared. -/
import Derived.Test.YtplhmcmfdcklaaaDoorCall
import Derived.Deep.LoopGhost
import Derived.Lib.SliceRun
namespace Go.Proofs.YtplhmcmfdcklaaaDoor.Lex
open Go.RowKit
set_option linter.unusedSimpArgs false
set_option linter.unusedVariables false
set_option maxRecDepth 100000 in
set_option maxHeartbeats 1000000 in
theorem fsame_yes (xs : List Nat) (a1 a2 : Option Addr) (c1 c2 : Nat) (w : World) (hn : xs.length ≤ 9223372036854775807) (h1 : U64s w a1 xs) (h2 : U64s w a2 xs) :
    Calls Tryd.prog 20 #[.slice a1 xs.length c1, .slice a2 xs.length c2] w fun e w' => e = .returned (.bool true) ∧ ∃ d, w' = w.drewN d := by
  have H1 := Lib.hid h1
  have H2 := Lib.hid h2
  clear h1 h2
  go_enter Tryd.func20, Tryd.ntmps20
  go_wp2_with fail
  go_loopg [5] xs.length (fun g iv wr => ∃ k d : Nat, k ≤ xs.length ∧ g = xs.length - k ∧ iv = .int .i64 k ∧ wr = w.drewN d)
  case atStart => exact ⟨0, 0, Nat.zero_le _, rfl, rfl, rfl⟩
  case round =>
    obtain ⟨k, d, hk, rfl, rfl, rfl⟩ := hrel
    by_cases hlt : k < xs.length
    · obtain ⟨g1, o1, rfl, _, d1, _⟩ := H1.out k hlt
      obtain ⟨g2, o2, rfl, _, d2, _⟩ := H2.out k hlt
      generalize xs[k]'hlt = z at *
      go_wp2_with fail
      go_quiet (fail)
      go_wp2_with fail
      go_roundg (xs.length - (k + 1))
      case measure => omega
      case rel => exact ⟨k + 1, _, by omega, rfl, by go_num, rfl⟩
    · go_wp2_with fail
      go_ret
      exact ⟨rfl, d, rfl⟩
theorem u64Elem : Elem Tryd.prog 26 57 1 8 := ⟨Tryd.underlying26, ⟨.int .u64 0, by kernel_rfl, rfl⟩, by omega⟩
theorem u64s_src {w : World} {a : Option Addr} {cap : Nat} {xs : List Nat} (h : U64s w a xs) (hc : xs.length ≤ cap) (hnil : a = none → cap = 0) : Src w a xs.length cap 1 (xs.map fun x => .int .u64 (x : Nat)) := by
  refine ⟨by simp, fun e => ⟨by have := hnil e; omega, hnil e⟩, fun x hx j u hu => ?_, fun u hu => ?_⟩
  · have hj : j < xs.length := by have := (List.getElem?_eq_some_iff.1 hu).1; simpa using this
    obtain ⟨g, off, e, _, c, _⟩ := h j hj
    rw [e] at hx
    cases hx
    rw [Addr.add_lit, c, ← hu]
    simp [hj]
  · obtain ⟨x, _, rfl⟩ := List.mem_map.1 hu
    rfl
set_option maxRecDepth 100000 in
set_option maxHeartbeats 1000000 in
theorem clone_some (xs : List Nat) (x : Addr) (cap : Nat) (w : World) (hn : xs.length ≤ 4194304) (h : U64s w (some x) xs) (hc : xs.length ≤ cap) :
    Calls Tryd.prog 19 #[.slice (some x) xs.length cap] w fun e w' => ∃ a' cap', e = .returned (.slice a' xs.length cap') ∧ U64s w' a' xs ∧ xs.length ≤ cap' ∧ (a' = none → cap' = 0) ∧ (∀ g o, a' = some ⟨g, o, none⟩ → w.heap.size ≤ g) ∧ Below w.heap.size w w' := by
  have HS := Lib.hid (u64s_src h hc (by simp))
  have he : ∀ (w : World), (binOp .eql 26 (.slice (some x) xs.length cap) (.slice none 0 0)).run Tryd.prog w = .ok (.bool false) w := fun w => by rw [Lib.run_eql_slice_nil w 26 57 (some x) xs.length cap 0 0 Tryd.underlying26]; rfl
  have hw : (w.alloc (.cells #[] 57)).ownsRow w.heap.size 57 1 (.slice (some ⟨w.heap.size, 0, none⟩) 0 0) 0 [] :=
    ⟨rfl, .inr ⟨w.heap.size, 0, _, rfl, Nat.le_refl _, heap_alloc_new w _, Nat.le_refl _, by simp, rfl, rfl⟩⟩
  have HW := Lib.hid hw
  have HS2 := Lib.hid (u64s_src (h.keep ((Below.refl _ w).alloc (Nat.le_refl _) (.cells #[] 57))) hc (by simp))
  have HL : Hid (∀ i (hi : i < xs.length), xs[i]'hi < 18446744073709551616) := Lib.hid fun i hi => by
    obtain ⟨_, _, _, _, _, h4⟩ := h i hi
    exact h4
  clear h hw HS
  go_enter Tryd.func19, Tryd.ntmps19
  go_wp2_with (at_builtin; refine wpl_append rfl _ _ 26 rfl u64Elem _ _ _ rfl _ _ _ _ rfl HW.out HS2.out (by unfold maxLen; omega) (by omega) (by simp) ?_; intro v' w3 hown3 hg3 _)
  obtain ⟨a', cap', rfl, q1, q2, q3⟩ := own_row hown3
  have hnil := own_nil hown3
  have HOL : Hid (∀ g o, a' = some ⟨g, o, none⟩ → w.heap.size ≤ g) := Lib.hid fun g o e => own_lt hown3 g (by rw [e]; rfl)
  have HB3 : Hid (Below w.heap.size w w3) := Lib.hid (((Below.refl _ w).alloc (Nat.le_refl _) _).grown hg3 (by simp) (fun k hk => by cases hk; exact Nat.le_refl _))
  have HR : Hid (U64s w3 a' xs) := Lib.hid fun i hi => by
    obtain ⟨g, e, c⟩ := q3 i (.int .u64 (xs[i]'hi : Nat)) (by simp [hi])
    exact ⟨g, 0, e, World.block_lt_of_cell? _ _ c, by rw [Nat.zero_add]; exact c, HL.out i hi⟩
  have HQ := Lib.hid q1
  have HNN := Lib.hid hnil
  clear hown3 hg3 q3 q1 hnil
  go_wp2_with fail
  go_ret
  exact ⟨a', cap', (congrArg (fun n => Ending.returned (Value.slice a' n cap')) (Nat.zero_add xs.length)), HR.out, by have := HQ.out; omega, HNN.out, HOL.out, HB3.out⟩
end Go.Proofs.YtplhmcmfdcklaaaDoor.Lex
