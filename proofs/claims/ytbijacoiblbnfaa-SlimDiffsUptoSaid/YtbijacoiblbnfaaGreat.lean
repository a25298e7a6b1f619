/- More than statements on rows of calls ask? -/
import Derived.Test.YtbijacoiblbnfaaOps
namespace Go.Proofs.Ytbijacoiblbnfaa
open Go.RowKit
set_option linter.unusedSimpArgs false
set_option linter.unusedVariables false
/-- A call of which statements ask no more. -/
def heavy (x : OpV) : Bool := decide (80 < x.2.2.1.2.1.nodes) || (decide (50 < x.2.2.1.2.2.2.2.2.length) || decide (50 < x.2.1.2.2.2.2.length))
def greatB (l : List OpV) : Bool := (l.take 60).any heavy || decide (40 < l.length)
theorem greatB_at {l : List OpV} {i : Nat} (h : i < l.length) (h60 : i < 60) (hx : heavy l[i] = true) : greatB l = true := by
  unfold greatB
  have : l[i] ∈ l.take 60 := List.mem_iff_getElem.2 ⟨i, by rw [List.length_take]; omega, by rw [List.getElem_take]⟩
  rw [Bool.or_eq_true]
  exact .inl (List.any_eq_true.2 ⟨_, this, hx⟩)
theorem greatB_end {l : List OpV} {i : Nat} (hi : i = l.length ∨ i = 60) (h : ∀ j (hj : j < l.length), j < i → heavy l[j] = false) : greatB l = decide (40 < l.length) := by
  have : (l.take 60).any heavy = false := by
    rw [List.any_eq_false]
    intro x hx
    obtain ⟨j, hj, rfl⟩ := List.mem_iff_getElem.1 hx
    rw [List.length_take] at hj
    rw [List.getElem_take, h j (by omega) (by omega)]
    simp
  unfold greatB
  rw [this, Bool.false_or]
theorem opRow_nodes {l : List OpV} (h : (l.map fun x => x.2.2.1.2.1.nodes).sum ≤ 1048576) (i : Nat) (hi : i < l.length) : (l[i]).2.2.1.2.1.nodes ≤ 1048576 := by
  have : ∀ (l : List OpV) (i : Nat) (hi : i < l.length), (l[i]).2.2.1.2.1.nodes ≤ (l.map fun x => x.2.2.1.2.1.nodes).sum := by
    intro l
    induction l with
    | nil => intro i hi; simp at hi
    | cons x l ih =>
      intro i hi
      cases i with
      | zero => simp
      | succ i =>
        have := ih i (by simpa using hi)
        simp only [List.getElem_cons_succ, List.map_cons, List.sum_cons]
        omega
  exact Nat.le_trans (this l i hi) h
set_option maxRecDepth 100000 in
set_option maxHeartbeats 4000000 in
theorem great_any (k : Nat) (l : List OpV) (a : Option Addr) (n c : Nat) (w : World) (hl : RowOf (opRd k) 19 216 All w a n c l) (hs : (l.map fun x => x.2.2.1.2.1.nodes).sum ≤ 1048576) :
    Calls Try.prog 15 #[.slice a n c] w fun e w' => e = .returned (.bool (greatB l)) ∧ Below w.heap.size w w' := by
  have hn := hl.room
  have HL := Lib.hid hl
  have HSZ := Lib.hid hs
  clear hl hs
  go_enter Try.func15, Try.ntmps15
  go_wp2_with fail
  go_loopg [3] n (fun g iv wr => ∃ i : Nat, i ≤ n ∧ i ≤ 60 ∧ g = n - i ∧ iv = .int .i64 i ∧ (∀ j (hj : j < l.length), j < i → heavy l[j] = false) ∧ Below w.heap.size w wr)
  case atStart => exact ⟨0, by omega, by omega, by omega, rfl, fun j _ h => by omega, Below.refl _ _⟩
  case round =>
    obtain ⟨i, hi, hi60, rfl, rfl, hc, hB⟩ := hrel
    obtain ⟨wo, rfl⟩ : ∃ wo : World, wo = wr := ⟨_, rfl⟩
    have HC := Lib.hid hc
    have HB := Lib.hid hB
    clear hc hB
    by_cases h1 : i < n
    · by_cases h2 : i < 60
      · have h1i : (i : Int) < n := by omega
        have h2i : (i : Int) < 60 := by omega
        have HN := Lib.hid (opRow_nodes HSZ.out i (by have := HL.out.len; omega))
        have HAT : Hid (heavy (l[i]'(by have := HL.out.len; omega)) = true → greatB l = true) := Lib.hid fun hx => greatB_at _ h2 hx
        have HNX : Hid (heavy (l[i]'(by have := HL.out.len; omega)) = false → ∀ j (hj : j < l.length), j < i + 1 → heavy l[j] = false) := Lib.hid fun h j hj hji => by
          by_cases e : j = i
          · subst e; exact h
          · exact HC.out j hj (by omega)
        obtain ⟨b1, o1, hb1, _, wh1, at1, ki1, kn1, kd1, tx1, ow1, oa1, xs1, e1, dk1, dn1, dl1, n1, li1, tt1, ys1, fr1, to1, xa1, xm1, xc1, da1, dm1, dc1, ya1, ym1, yc1, rfl, hv1, hc1, hx1, hd1, hy1, _⟩ := (HL.out.keep (opRd_ok _) (Fix.of_below HB.out)).op i (by have := HL.out.len; omega)
        rw [hv1] at HN HAT HNX
        have p10 : wo.cell? ⟨b1, o1 + i * 19 + 10, none⟩ = some (.int .i64 dk1) := hc1 10 _ rfl
        have p11 : wo.cell? ⟨b1, o1 + i * 19 + 11, none⟩ = some (.int .i64 dn1) := hc1 11 _ rfl
        have p12 : wo.cell? ⟨b1, o1 + i * 19 + 12, none⟩ = some (.slice da1 dm1 dc1) := hc1 12 _ rfl
        have p8 : wo.cell? ⟨b1, o1 + i * 19 + 8, none⟩ = some (.slice xa1 xm1 xc1) := hc1 8 _ rfl
        have p16 : wo.cell? ⟨b1, o1 + i * 19 + 16, none⟩ = some (.slice ya1 ym1 yc1) := hc1 16 _ rfl
        have r10 : wo.cell? ⟨b1, o1 + i * 19 + 9 + 1, none⟩ = some (.int .i64 dk1) := p10
        have r11 : wo.cell? ⟨b1, o1 + i * 19 + 9 + 1 + 1, none⟩ = some (.int .i64 dn1) := p11
        have r12 : wo.cell? ⟨b1, o1 + i * 19 + 9 + 1 + 2, none⟩ = some (.slice da1 dm1 dc1) := p12
        have r8 : wo.cell? ⟨b1, o1 + i * 19 + 2 + 6, none⟩ = some (.slice xa1 xm1 xc1) := p8
        have r16 : wo.cell? ⟨b1, o1 + i * 19 + 9 + 7, none⟩ = some (.slice ya1 ym1 yc1) := p16
        have HD := Lib.hid hd1
        have HNL : Hid (DescV.nodesL dl1 < 1048576) := Lib.hid (by have := HN.out; rw [DescV.nodes_kids] at this; exact this)
        have HLY := Lib.hid hy1.len
        have HLX := Lib.hid hx1.len
        have hym := hy1.room
        have hxm := hx1.room
        clear hv1 hc1 hx1 hd1 hy1
        by_cases hm : 80 < (DescV.mk dk1 dn1 dl1).nodes
        · have HR := Lib.hid (HAT.out (by simp [heavy, hm]))
          have HMM := Lib.hid hm
          clear hm
          go_wp2_with (go_at_call 16; (with_reducible refine (much_any k All dk1 dn1 dl1 da1 dm1 dc1 _ HD.out HNL.out).mono ?_); rintro e w2 ⟨he, hb2⟩; rw [decide_eq_true HMM.out] at he; subst he; have HB2 := Lib.hid hb2; clear hb2)
          go_ret
          exact ⟨by rw [HR.out]; rfl, HB.out.trans (HB2.out.mono HB.out.size)⟩
        · have HMM := Lib.hid hm
          by_cases hy : 50 < ym1
          · have HR := Lib.hid (HAT.out (by have := HLY.out; simp [heavy]; omega))
            clear hm
            go_wp2_with (go_at_call 16; (with_reducible refine (much_any k All dk1 dn1 dl1 da1 dm1 dc1 _ HD.out HNL.out).mono ?_); rintro e w2 ⟨he, hb2⟩; rw [decide_eq_false HMM.out] at he; subst he; obtain ⟨kc, kf⟩ := bcell hb2; have HB2 := Lib.hid hb2; clear hb2)
            go_ret
            exact ⟨by rw [HR.out]; rfl, HB.out.trans (HB2.out.mono HB.out.size)⟩
          · by_cases hx : 50 < xm1
            · have HR := Lib.hid (HAT.out (by have := HLX.out; simp [heavy]; omega))
              clear hm
              go_wp2_with (go_at_call 16; (with_reducible refine (much_any k All dk1 dn1 dl1 da1 dm1 dc1 _ HD.out HNL.out).mono ?_); rintro e w2 ⟨he, hb2⟩; rw [decide_eq_false HMM.out] at he; subst he; obtain ⟨kc, kf⟩ := bcell hb2; have HB2 := Lib.hid hb2; clear hb2)
              go_ret
              exact ⟨by rw [HR.out]; rfl, HB.out.trans (HB2.out.mono HB.out.size)⟩
            · have HR := Lib.hid (HNX.out (by have := HLX.out; have := HLY.out; have := HMM.out; simp [heavy]; omega))
              clear hm
              go_wp2_with (go_at_call 16; (with_reducible refine (much_any k All dk1 dn1 dl1 da1 dm1 dc1 _ HD.out HNL.out).mono ?_); rintro e w2 ⟨he, hb2⟩; rw [decide_eq_false HMM.out] at he; subst he; obtain ⟨kc, kf⟩ := bcell hb2; have HB2 := Lib.hid hb2; clear hb2)
              go_roundg (n - (i + 1))
              case measure => omega
              case rel => exact ⟨i + 1, by omega, by omega, rfl, by go_num, HR.out, HB.out.trans (HB2.out.mono HB.out.size)⟩
      · obtain rfl : i = 60 := by omega
        have HE := Lib.hid (greatB_end (l := l) (.inr rfl) HC.out)
        have h40 : 40 < n := by omega
        go_wp2_with fail
        go_ret
        exact ⟨by rw [HE.out]; simp; have := HL.out.len; omega, HB.out⟩
    · have HE := Lib.hid (greatB_end (l := l) (i := i) (.inl (by have := HL.out.len; omega)) HC.out)
      have HLL := Lib.hid HL.out.len
      go_wp2_with fail
      go_ret
      exact ⟨by rw [HE.out, HLL.out]; simp; try omega, HB.out⟩
end Go.Proofs.Ytbijacoiblbnfaa
