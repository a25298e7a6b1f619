/- Is one call more than statements ask? -/
import Derived.Test.YthjcmcgmalnfpaaGreatDoorROpE
import Derived.Test.YthjcmcgmalnfpaaGreatDoorGTree
namespace Go.Proofs.YthjcmcgmalnfpaaGreatDoor.Lex
open Go.RowKit
set_option linter.unusedSimpArgs false
set_option linter.unusedVariables false
/-- A call of which statements ask no more. -/
def OpD.Calm (o : OpD) : Prop := o.tx.size ≤ 500 ∧ o.xs.length ≤ 100 ∧ o.ys.length ≤ 100 ∧ (DescV.mk o.dk o.dn o.dl).nodes ≤ 80
structure GreatP (o : OpD) (e : Ending) : Prop where
  out : ∃ g, e = .returned (.bool g) ∧ (g = false ↔ o.Calm)
set_option maxRecDepth 100000 in
set_option maxHeartbeats 4000000 in
theorem great1_any (k : Nat) (F : Foot) (o : OpD) (xa da ya : Option Addr) (xc dm dc yc b : Nat) (w : World) (hl : RowOf (descRd k) 3 40 F w da dm dc o.dl) (hnd : DescV.nodesL o.dl < 1048576)
    (hc : ∀ W, Below w.heap.size w W → W.cell? ⟨b, 5, none⟩ = some (.string o.tx) ∧ W.cell? ⟨b, 8, none⟩ = some (.slice xa o.xs.length xc) ∧ W.cell? ⟨b, 16, none⟩ = some (.slice ya o.ys.length yc) ∧ W.cell? ⟨b, 10, none⟩ = some (.int .i64 o.dk) ∧ W.cell? ⟨b, 11, none⟩ = some (.int .i64 o.dn) ∧ W.cell? ⟨b, 12, none⟩ = some (.slice da dm dc)) :
    Calls Tryz.prog 4 #[.slice (some ⟨b, 0, none⟩) 1 1] w fun e w' => GreatP o e ∧ Below w.heap.size w w' := by
  have HC := Lib.hid hc
  have HL := Lib.hid hl
  have HND := Lib.hid hnd
  obtain ⟨n1, hn1⟩ : ∃ n1, n1 = o.xs.length := ⟨_, rfl⟩
  obtain ⟨n2, hn2⟩ : ∃ n2, n2 = o.ys.length := ⟨_, rfl⟩
  rw [← hn1, ← hn2] at HC
  have HN1 := Lib.hid hn1
  have HN2 := Lib.hid hn2
  clear hc hl hnd hn1 hn2
  go_enter Tryz.func4, Tryz.ntmps4
  go_wp2_with fail
  go_loopg [3] 1 (fun g iv wr => ∃ i : Nat, i ≤ 1 ∧ g = 1 - i ∧ iv = .int .i64 i ∧ (i = 1 → o.Calm) ∧ Below w.heap.size w wr)
  case atStart => exact ⟨0, by omega, rfl, rfl, fun h => by omega, Below.refl _ _⟩
  case round =>
    obtain ⟨i, hi, rfl, rfl, hcm, hB⟩ := hrel
    obtain ⟨wo, rfl⟩ : ∃ wo : World, wo = wr := ⟨_, rfl⟩
    have HB := Lib.hid hB
    have HCM := Lib.hid hcm
    obtain ⟨t5, t8, t16, t10, t11, t12⟩ := HC.out wo hB
    clear hB hcm
    by_cases h1 : i = 1
    · subst h1
      clear t5 t8 t16 t10 t11 t12
      go_wp2_with fail
      go_ret
      exact ⟨⟨⟨_, rfl, ⟨fun _ => (by first | exact HCM.out rfl | exact HCM.out trivial), fun _ => rfl⟩⟩⟩, HB.out⟩
    · obtain rfl : i = 0 := by omega
      have HD := Lib.hid (HL.out.keep (descRd_ok _) (Fix.of_below HB.out))
      have HMU : Hid (Calls Tryz.prog 11 #[.agg #[.int .i64 o.dk, .int .i64 o.dn, .slice da dm dc]] wo fun e w' => e = .returned (.bool (decide (80 < (DescV.mk o.dk o.dn o.dl).nodes))) ∧ Below wo.heap.size wo w') := Lib.hid (much_any k F o.dk o.dn o.dl da dm dc wo HD.out HND.out)
      by_cases h500 : 500 < o.tx.size
      · have h500i : (500 : Int) < (o.tx.size : Int) := by omega
        go_wp2_with fail
        go_ret
        exact ⟨⟨⟨_, rfl, ⟨fun h => (by cases h), fun h => (by have := h.1; have := h.2.1; have := h.2.2.1; have := HN1.out; have := HN2.out; omega)⟩⟩⟩, HB.out⟩
      · have h500i : ¬ (500 : Int) < (o.tx.size : Int) := by omega
        by_cases hx : 100 < n1
        · have hxi : (100 : Int) < (n1 : Int) := by omega
          go_wp2_with fail
          go_ret
          exact ⟨⟨⟨_, rfl, ⟨fun h => (by cases h), fun h => (by have := h.1; have := h.2.1; have := h.2.2.1; have := HN1.out; have := HN2.out; omega)⟩⟩⟩, HB.out⟩
        · have hxi : ¬ (100 : Int) < (n1 : Int) := by omega
          by_cases hy : 100 < n2
          · have hyi : (100 : Int) < (n2 : Int) := by omega
            go_wp2_with fail
            go_ret
            exact ⟨⟨⟨_, rfl, ⟨fun h => (by cases h), fun h => (by have := h.1; have := h.2.1; have := h.2.2.1; have := HN1.out; have := HN2.out; omega)⟩⟩⟩, HB.out⟩
          · have hyi : ¬ (100 : Int) < (n2 : Int) := by omega
            by_cases hm : 80 < (DescV.mk o.dk o.dn o.dl).nodes
            · rw [decide_eq_true hm] at HMU
              have HMM := Lib.hid hm
              clear hm
              go_wp2_with (go_at_call 11; (with_reducible refine HMU.out.mono ?_); rintro e w2 ⟨rfl, hb2⟩; have HB2 := Lib.hid hb2; clear hb2)
              go_ret
              exact ⟨⟨⟨_, rfl, ⟨fun h => (by cases h), fun h => (by have := h.2.2.2; have := HMM.out; omega)⟩⟩⟩, HB.out.trans (HB2.out.mono HB.out.size)⟩
            · rw [decide_eq_false hm] at HMU
              have HCA : Hid o.Calm := Lib.hid ⟨by omega, by rw [← HN1.out]; omega, by rw [← HN2.out]; omega, by omega⟩
              clear hm
              go_wp2_with (go_at_call 11; (with_reducible refine HMU.out.mono ?_); rintro e w2 ⟨rfl, hb2⟩; have HB2 := Lib.hid hb2; clear hb2)
              go_roundg 0
              case measure => omega
              case rel => exact ⟨1, by omega, rfl, rfl, fun _ => HCA.out, HB.out.trans (HB2.out.mono HB.out.size)⟩
end Go.Proofs.YthjcmcgmalnfpaaGreatDoor.Lex
