/- What came in of the statement on rows of calls, read, and the statement's walk over it. -/
import Derived.Test.YtbijacoiblbnfaaDifL
import Derived.Test.YtbijacoiblbnfaaOpenO
import Derived.WideShapes
namespace Go.Proofs.Ytbijacoiblbnfaa
open Go.RowKit
set_option linter.unusedVariables false
theorem open_slice_b {H : Type} {α : Type} {P : Program} {t e : TypeId} {r : Rd α} {μ : List α → Nat} {size bytes N fuel : Nat} (ho : OB P t (Rd.slice r size bytes) μ N) (ht : P.underlying t = some (.slice e)) {enc : TypeId × Value → H} {w : World} {base : Nat} {sp : Nat → Bool} {held : Bool} {v : Value} {d : DataW H} {p : List MemPlace} {ww : World} {rr : Reach} {bb : Nat}
    (hv : Value.okWide P ww rr bb t v) (hN : fuel ≤ N) (h : DataW.trod enc P w base sp held fuel t v.cells.toList = some (d, p)) (hq : ∀ q ∈ DataW.weights P t d, q ≤ reachBytes) : ∃ a n c l, v = .slice a n c ∧ RowOf r size bytes All w a n c l ∧ μ l ≤ Rows.uptoBulk d := by
  obtain ⟨a, n, c, rfl⟩ := Go.WideShapes.okWide_slice ht hv
  obtain ⟨l, ⟨a', n', c', e, hr⟩, hm⟩ := ho.get enc w base sp held fuel _ _ hN h hq
  simp [Value.cells] at e
  obtain ⟨rfl, rfl, rfl⟩ := e
  exact ⟨_, _, _, l, rfl, hr, hm⟩
set_option maxRecDepth 100000 in
theorem diffs_open {H : Type} {enc : TypeId × Value → H} {w : World} {b0 b1 b2 : Nat} {s0 s1 s2 : Nat → Bool} {e0 e1 e2 : Bool} {v0 v1 v2 : Value} {d0 d1 d2 : DataW H} {p0 p1 p2 : List MemPlace} {ww : World} {rr : Reach} {bb : Nat}
    (hv0 : Value.okWide Try.prog ww rr bb 40 v0) (hv1 : Value.okWide Try.prog ww rr bb 40 v1) (hv2 : Value.okWide Try.prog ww rr bb 46 v2)
    (h0 : DataW.Trod enc Try.prog w b0 s0 e0 40 v0 d0 p0) (h1 : DataW.Trod enc Try.prog w b1 s1 e1 40 v1 d1 p1) (h2 : DataW.Trod enc Try.prog w b2 s2 e2 46 v2 d2 p2)
    (q0 : ∀ q ∈ DataW.weights Try.prog 40 d0, q ≤ reachBytes) (q1 : ∀ q ∈ DataW.weights Try.prog 40 d1, q ≤ reachBytes) (q2 : ∀ q ∈ DataW.weights Try.prog 46 d2, q ≤ reachBytes) (hb : Rows.uptoBulk d0 + Rows.uptoBulk d1 + Rows.uptoBulk d2 ≤ 1048576) :
    Calls Try.prog 4 #[v0, v1, v2] w fun e w' => e = .returned (.bool true) ∧ Below w.heap.size w w' := by
  obtain ⟨f0, h0⟩ := h0
  obtain ⟨f1, h1⟩ := h1
  obtain ⟨f2, h2⟩ := h2
  obtain ⟨N, hN⟩ : ∃ N, N = f0 + f1 + f2 := ⟨_, rfl⟩
  obtain ⟨oa, on, oc, lo, rfl, ho1, hm1⟩ := open_slice_b (ob_ops (N + 1)) Try.underlying40 hv0 (by omega) h0 q0
  obtain ⟨ob, om, od, lp, rfl, ho2, hm2⟩ := open_slice_b (ob_ops (N + 1)) Try.underlying40 hv1 (by omega) h1 q1
  obtain ⟨cs, rfl, _⟩ := Go.WideShapes.okWide_struct Try.underlying46 hv2
  obtain ⟨⟨y1, y2, ⟨z0, z1, z2⟩, lq, le, lt, lu⟩, g, hm3⟩ := (ob_sheet N).get enc w b2 s2 e2 f2 _ _ (by omega) h2 q2
  obtain ⟨_, _, e, ⟨sa, sn, sc, rfl, _⟩, _, _, rfl, ⟨rfl, hpw⟩, _, _, rfl, ⟨_, _, rfl, ⟨rfl, _⟩, _, _, rfl, ⟨rfl, _⟩, rfl, _⟩, _, _, rfl, ⟨qa, qn, qc, rfl, hq⟩, _, _, rfl, ⟨ka, kn, kc, rfl, hk⟩, _, _, rfl, ⟨ta, tn, tc, rfl, ht⟩, ua, un, uc, rfl, hu⟩ := g
  have hcs : cs = #[.slice sa sn sc, .int .i64 y2, .int .i64 z0, .int .i64 z1, .int .i64 z2, .slice qa qn qc, .slice ka kn kc, .slice ta tn tc, .slice ua un uc] := Array.toList_inj.1 e
  subst hcs
  simp only at hm1 hm2 hm3
  have hql : lq.length = qn := hq.len
  have hul : lu.length = un := hu.len
  exact diffs_law (N + 2) y2 z0 z1 z2 oa ob sa ka qa ta ua on oc om od sn sc kn kc qn qc tn tc un uc lo lp le lq lt lu w ho1 ho2 hk hq ht hu (by omega) (by omega) (by omega) (by omega) (by omega) hpw
end Go.Proofs.Ytbijacoiblbnfaa
