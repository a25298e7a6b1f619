/- The page's example, by report.Op. -/
import Derived.Test.YthjcmcgmalnfpaaGreatDoorGreat43
import Derived.Test.YthjcmcgmalnfpaaGreatDoorRow
namespace Go.Proofs.YthjcmcgmalnfpaaGreatDoor.Lex
open Go.RowKit
set_option linter.unusedSimpArgs false
set_option linter.unusedVariables false
def opEx : OpD := ⟨1, 0, 3, 8, 0, ⟨#[]⟩, 0, 0, [], 0, 0, 0, [], 1, 0, ⟨#[]⟩, [], 2, 5⟩
theorem u64s_nil (w : World) (a : Option Addr) : U64s w a [] := fun i hi => by simp at hi
theorem opEx_text : bs (opL opEx) = ⟨#[49, 46, 48, 32, 50, 45, 53, 32, 101, 118, 105, 99, 116, 32, 56, 32, 48, 58, 32, 111, 107, 32, 49]⟩ := by
  have h0 : Lib.itoa 0 = [48] := (itoa_nat 0).trans (decDigits_small (by omega))
  have h1 : Lib.itoa 1 = [49] := (itoa_nat 1).trans (decDigits_small (by omega))
  have h2 : Lib.itoa 2 = [50] := (itoa_nat 2).trans (decDigits_small (by omega))
  have h5 : Lib.itoa 5 = [53] := (itoa_nat 5).trans (decDigits_small (by omega))
  have h8 : Lib.itoa 8 = [56] := (itoa_nat 8).trans (decDigits_small (by omega))
  have e : opL opEx = [49, 46, 48, 32, 50, 45, 53, 32, 101, 118, 105, 99, 116, 32, 56, 32, 48, 58, 32, 111, 107, 32, 49] := by
    have hc : callL opEx.call = [101, 118, 105, 99, 116, 32, 56, 32, 48] := by
      show glue [[101, 118, 105, 99, 116], Lib.itoa 8, Lib.itoa 0] = _
      rw [h8, h0]
      decide
    have ht : opEx.told opEx.ki = [111, 107, 32, 49] := by
      show toldL 3 0 _ 1 _ _ _ = _
      unfold toldL
      rw [if_neg (by decide), if_neg (by decide), if_pos (by decide), h1]
      decide
    unfold opL
    rw [hc, ht, if_neg (by decide), if_neg (by decide)]
    show Lib.itoa 1 ++ [46] ++ Lib.itoa 0 ++ [32] ++ Lib.itoa 2 ++ [45] ++ Lib.itoa 5 ++ [32] ++ _ ++ [58, 32] ++ _ = _
    rw [h0, h1, h2, h5]
    decide
  rw [e]
  rfl
theorem opEx_in (w : World) : OpIn 0 All w opEx none 0 none 0 0 none 0 := by
  have hn : ∀ n : Int, 0 ≤ n → n ≤ 10 → InI n := fun n h0 h1 => ⟨by omega, by omega⟩
  exact ⟨⟨⟨hn _ (by decide) (by decide), hn _ (by decide) (by decide), hn _ (by decide) (by decide), hn _ (by decide) (by decide), hn _ (by decide) (by decide), by decide, by decide⟩, by decide, by decide, fun x h => by cases h⟩, u64s_nil w none, RowOf.empty _ _ _ _ _, by decide, hn _ (by decide) (by decide), hn _ (by decide) (by decide), hn _ (by decide) (by decide), hn _ (by decide) (by decide), hn _ (by decide) (by decide), hn _ (by decide) (by decide), by decide, u64s_nil w none, by decide⟩
theorem one19 (o : OpD) (xa da ya : Option Addr) (xc dm dc yc : Nat) : ∀ v ∈ [Value.int .i64 o.who, .int .i64 o.at_, .int .i64 o.ki, .int .i64 o.kn, .int .i64 o.kd, .string o.tx, .int .i64 o.ow, .int .i64 o.oa, .slice xa o.xs.length xc, .int .i64 o.e, .int .i64 o.dk, .int .i64 o.dn, .slice da dm dc, .int .i64 o.n, .int .i64 o.li, .string o.tt, .slice ya o.ys.length yc, .int .i64 o.fr, .int .i64 o.tz], v.oneCell' = true := by
  intro v hv
  simp only [List.mem_cons, List.not_mem_nil, or_false] at hv
  rcases hv with rfl | rfl | rfl | rfl | rfl | rfl | rfl | rfl | rfl | rfl | rfl | rfl | rfl | rfl | rfl | rfl | rfl | rfl | rfl <;> rfl
set_option maxRecDepth 100000 in
set_option maxHeartbeats 2000000 in
theorem live43 (w : World) (hW : HasWords w) (hm : HasMax w) (ht : HasTab w) : Calls Tryz.prog 5 #[] w fun e w' => e = .returned (.bool true) ∧ Below w.heap.size w w' := by
  obtain ⟨W0, hW0⟩ : ∃ W0, W0 = w.alloc (.cells #[.int .i64 1, .int .i64 0, .int .i64 3, .int .i64 8, .int .i64 0, .string ⟨#[]⟩, .int .i64 0, .int .i64 0, .slice none 0 0, .int .i64 0, .int .i64 0, .int .i64 0, .slice none 0 0, .int .i64 1, .int .i64 0, .string ⟨#[]⟩, .slice none 0 0, .int .i64 2, .int .i64 5] 58) := ⟨_, rfl⟩
  have hb0 : Below w.heap.size w W0 := by rw [hW0]; exact (Below.refl _ _).alloc (Nat.le_refl _) _
  have g0 : W0.heap[w.heap.size]? = some (.cells #[.int .i64 1, .int .i64 0, .int .i64 3, .int .i64 8, .int .i64 0, .string ⟨#[]⟩, .int .i64 0, .int .i64 0, .slice none 0 0, .int .i64 0, .int .i64 0, .int .i64 0, .slice none 0 0, .int .i64 1, .int .i64 0, .string ⟨#[]⟩, .slice none 0 0, .int .i64 2, .int .i64 5] 58 (0, 0)) := by rw [hW0]; exact heap_alloc_new w _
  have HR : Hid (W0.rangeAt w.heap.size 0 [.int .i64 1, .int .i64 0, .int .i64 3, .int .i64 8, .int .i64 0, .string ⟨#[]⟩, .int .i64 0, .int .i64 0, .slice none 0 0, .int .i64 0, .int .i64 0, .int .i64 0, .slice none 0 0, .int .i64 1, .int .i64 0, .string ⟨#[]⟩, .slice none 0 0, .int .i64 2, .int .i64 5]) := Lib.hid fun j u hu => by
    rw [Nat.zero_add]
    exact cell_at (o := j) g0 (by simpa using hu)
  have HO : Hid (Calls Tryz.prog 12 #[.agg #[.int .i64 1, .int .i64 0, .int .i64 3, .int .i64 8, .int .i64 0, .string ⟨#[]⟩, .int .i64 0, .int .i64 0, .slice none 0 0, .int .i64 0, .int .i64 0, .int .i64 0, .slice none 0 0, .int .i64 1, .int .i64 0, .string ⟨#[]⟩, .slice none 0 0, .int .i64 2, .int .i64 5]] W0 fun e w' => e = .returned (.string ⟨#[49, 46, 48, 32, 50, 45, 53, 32, 101, 118, 105, 99, 116, 32, 56, 32, 48, 58, 32, 111, 107, 32, 49]⟩) ∧ Below W0.heap.size W0 w') := Lib.hid (by
    have h := opE_any 0 All opEx none none none 0 0 0 0 W0 (opEx_in W0) (hW.below hb0) (hm.below hb0) (ht.below hb0)
    rw [opEx_text] at h
    exact h)
  have HB0 := Lib.hid hb0
  have HW0 := Lib.hid hW0
  clear hb0 hm ht hW hW0 g0
  go_enter Tryz.func5, Tryz.ntmps5
  go_wp2_with (first
    | (refine wpList_store_new rfl 58 _ _ rfl w.heap.size rfl [.int .i64 1, .int .i64 0, .int .i64 3, .int .i64 8, .int .i64 0, .string ⟨#[]⟩, .int .i64 0, .int .i64 0, .slice none 0 0, .int .i64 0, .int .i64 0, .int .i64 0, .slice none 0 0, .int .i64 1, .int .i64 0, .string ⟨#[]⟩, .slice none 0 0, .int .i64 2, .int .i64 5] rfl rfl rfl (by kernel_rfl) (one19 opEx none none none 0 0 0 0) ?_; rw [← HW0.out])
    | (refine wpList_load_mid rfl 58 _ rfl w.heap.size 0 rfl [.int .i64 1, .int .i64 0, .int .i64 3, .int .i64 8, .int .i64 0, .string ⟨#[]⟩, .int .i64 0, .int .i64 0, .slice none 0 0, .int .i64 0, .int .i64 0, .int .i64 0, .slice none 0 0, .int .i64 1, .int .i64 0, .string ⟨#[]⟩, .slice none 0 0, .int .i64 2, .int .i64 5] _ HR.out Tryz.underlying58 rfl (by kernel_rfl) ?_)
    | (go_at_call 12; (with_reducible refine HO.out.mono ?_); rintro e w1 ⟨rfl, hb1⟩; have HB1 := Lib.hid (HB0.out.trans (hb1.mono HB0.out.size)); clear hb1))
  go_ret
  exact ⟨rfl, HB1.out⟩
end Go.Proofs.YthjcmcgmalnfpaaGreatDoor.Lex
