/- Sm3eW, StaW, HClo: laid into one text. -/
import Derived.Test.YthjcmcgmalnfpaaGreatDoorGSrt
import Derived.Test.YthjcmcgmalnfpaaGreatDoorGStab
import Derived.Deep.DeepCutAuto
/- A merge from the middle: under way (the walk up to the search loop). -/
namespace Go.Proofs.YthjcmcgmalnfpaaGreatDoor.StabW
open Go Go.RowKit Stab
set_option linter.unusedSimpArgs false
set_option linter.unusedVariables false
set_option maxRecDepth 100000 in
set_option maxHeartbeats 8000000 in
theorem symAt_step {B b : Nat} {W0 : World} (hB : B ≤ b) {cf : WC → WC → Int} (hcmp : CmpAt cf) {cap N : Nat} (hl : N ≤ 1099511627776) {q : Nat} (ih : SymAt B b W0 cf cap N q) : SymAt B b W0 cf cap N (q + 1) := by
  intro L a m c W hN hq h1 h2 h3 hu hv hst
  by_cases hs : m = a + 1 ∨ c = m + 1
  · exact symAt_small hB hcmp hl hN h1 h2 h3 hu hv hst hs
  have HST := Lib.hid hst
  have HCMP := Lib.hid hcmp
  have HU := Lib.hid hu
  have HV := Lib.hid hv
  have HIH := Lib.hid ih
  have HN := Lib.hid hN
  obtain ⟨d, hd1, hd2⟩ : ∃ d, m ≤ d + a ∧ d + a ≤ m := ⟨m - a, by omega, by omega⟩
  have wd : IntKind.i64.wrap ((m : Int) - (a : Int)) = (d : Int) := wrapS (n := m) (m := a) (i := d) (by omega) (by omega)
  have hdne : ¬ (d : Int) = 1 := by omega
  have hdb : ((d : Int) == 1) = false := by simpa using hdne
  obtain ⟨d', hd1', hd2'⟩ : ∃ d', c ≤ d' + m ∧ d' + m ≤ c := ⟨c - m, by omega, by omega⟩
  have wd' : IntKind.i64.wrap ((c : Int) - (m : Int)) = (d' : Int) := wrapS (n := c) (m := m) (i := d') (by omega) (by omega)
  have hdne' : ¬ (d' : Int) = 1 := by omega
  have hdb' : ((d' : Int) == 1) = false := by simpa using hdne'
  obtain ⟨t, ht1, ht2⟩ : ∃ t, t ≤ a + c ∧ a + c ≤ t := ⟨a + c, by omega, by omega⟩
  have wt := wrapN (n := a) (m := c) (i := t) (by omega) (by omega)
  obtain ⟨mid, hm1, hm2⟩ : ∃ mid, 2 * mid ≤ t ∧ t ≤ 2 * mid + 1 := ⟨t / 2, by omega, by omega⟩
  have hdiv : (t : Int) / 2 = (mid : Int) := by omega
  obtain ⟨n, hn1, hn2⟩ : ∃ n, n ≤ mid + m ∧ mid + m ≤ n := ⟨mid + m, by omega, by omega⟩
  have wn := wrapN (n := mid) (m := m) (i := n) (by omega) (by omega)
  obtain ⟨p, hp1, hp2⟩ : ∃ p, n ≤ p + 1 ∧ p + 1 ≤ n := ⟨n - 1, by omega, by omega⟩
  have wp : IntKind.i64.wrap ((n : Int) - 1) = (p : Int) := wrapS (n := n) (m := 1) (i := p) (by omega) (by omega)
  clear hst hcmp hu hv ih hN hs
  go_enter Tryz.func65, Tryz.ntmps65
  go_upto_if 140 with (fail)
  go_cut [20, 21] from 138 to 146 (fun sv rv wx => ∃ s0 r0 : Nat, sv = .int .i64 (s0 : Int) ∧ rv = .int .i64 (r0 : Int) ∧ a ≤ s0 ∧ n ≤ s0 + c ∧ (a < s0 → s0 + c ≤ n) ∧ s0 ≤ r0 ∧ r0 ≤ m ∧ r0 ≤ mid ∧ (r0 < m → mid ≤ r0) ∧ wx = W)
  case first =>
    by_cases hmm : mid < m
    · have hmmi : (mid : Int) < (m : Int) := by omega
      obtain ⟨s0, hs1, hs2⟩ : ∃ s0, n ≤ s0 + c ∧ s0 + c ≤ n := ⟨n - c, by omega, by omega⟩
      have ws0 : IntKind.i64.wrap ((n : Int) - (c : Int)) = (s0 : Int) := wrapS (n := n) (m := c) (i := s0) (by omega) (by omega)
      go_wp2_with fail
      go_meet
      exact ⟨s0, mid, rfl, rfl, by omega, by omega, by omega, by omega, by omega, by omega, by omega, rfl⟩
    · have hmmi : ¬ (mid : Int) < (m : Int) := by omega
      go_wp2_with fail
      go_meet
      exact ⟨a, m, rfl, rfl, by omega, by omega, by omega, by omega, by omega, by omega, by omega, rfl⟩
  case rest =>
  obtain ⟨s0, r0, rfl, rfl, z1, z2, z3, z4, z5, z6, z7, rfl⟩ := hcut
  go_upto_region 33 with fail
  go_loopg [20, 21, 23] (r0 - s0) (fun g iv jv hv' wr => ∃ i j : Nat, s0 ≤ i ∧ i ≤ j ∧ j ≤ r0 ∧ g = j - i ∧ iv = .int .i64 (i : Int) ∧ jv = .int .i64 (j : Int) ∧ (s0 < i → ∀ y z, L[p - (i - 1)]? = some y → L[i - 1]? = some z → ¬ cf y z < 0) ∧ (j < r0 → ∀ y z, L[p - j]? = some y → L[j]? = some z → cf y z < 0) ∧ St B b W0 L wr)
  case atStart => exact ⟨s0, r0, Nat.le_refl _, by omega, Nat.le_refl _, rfl, rfl, rfl, fun h => by omega, fun h => by omega, HST.out⟩
  case round =>
    obtain ⟨i, j, hsi, hij, hjr, rfl, rfl, rfl, hlo, hhi, hs⟩ := hrel
    obtain ⟨wo, rfl⟩ : ∃ wo : World, wo = wr := ⟨_, rfl⟩
    have HLO := Lib.hid hlo
    have HHI := Lib.hid hhi
    have HS := Lib.hid hs
    clear hlo hhi hs
    by_cases hlt : i < j
    · have hlti : (i : Int) < (j : Int) := by omega
      obtain ⟨s, hq1, hq2⟩ : ∃ s, s ≤ i + j ∧ i + j ≤ s := ⟨i + j, by omega, by omega⟩
      have wsum := wrapN (n := i) (m := j) (i := s) (by omega) (by omega)
      obtain ⟨h, hh1, hh2⟩ : ∃ h, 2 * h ≤ s ∧ s ≤ 2 * h + 1 := ⟨s / 2, by omega, by omega⟩
      have hdivh : (s : Int) / 2 = (h : Int) := by omega
      obtain ⟨e, he1, he2⟩ : ∃ e, p ≤ e + h ∧ e + h ≤ p := ⟨p - h, by omega, by omega⟩
      have we : IntKind.i64.wrap ((p : Int) - (h : Int)) = (e : Int) := wrapS (n := p) (m := h) (i := e) (by omega) (by omega)
      obtain ⟨y, hy⟩ : ∃ y, L[e]? = some y := ⟨_, List.getElem?_eq_getElem (by have := HN.out; omega)⟩
      obtain ⟨z, hz⟩ : ∃ z, L[h]? = some z := ⟨_, List.getElem?_eq_getElem (by have := HN.out; omega)⟩
      have HY := Lib.hid hy
      have HZ := Lib.hid hz
      have HE : Hid (p - h = e) := Lib.hid (by omega)
      have HCL : Hid (∀ W', Below wo.heap.size wo W' → Calls Tryz.prog 29 #[y.val, z.val] W' fun e w' => e = .returned (.int .i64 (cf y z)) ∧ Below wo.heap.size wo w') := Lib.hid fun W' hb => (HCMP.out.calls W' y z).mono fun e w' h => ⟨h.1, hb.trans (h.2.mono hb.size)⟩
      unfold WC.val at HCL
      have HCC : Hid (∀ W', Below wo.heap.size wo W' → W'.rangeAt b (e * 19) y.cells ∧ W'.rangeAt b (h * 19) z.cells) := Lib.hid fun W' hb => ⟨(HS.out.step hB hb).range hy, (HS.out.step hB hb).range hz⟩
      have hbz := Below.refl wo.heap.size wo
      have hN' : (h : Int) < (N : Int) := by omega
      have eN' : (e : Int) < (N : Int) := by omega
      have h0' : (0 : Int) ≤ (h : Int) := by omega
      have e0' : (0 : Int) ≤ (e : Int) := by omega
      clear hy hz
      by_cases hcf : cf y z < 0
      · have hcb : decide (cf y z < 0) = true := by simpa using hcf
        go_upto_region 35 with fail
        obtain ⟨wd, hwd⟩ : ∃ wd, wd = World.drew wo := ⟨_, rfl⟩
        have HSB : Hid (Below wo.heap.size wo wd) := Lib.hid (by rw [hwd]; exact (Below.refl _ _).drew)
        refine wp_region_held (S := fun W => Below wo.heap.size wo W) (by kernel_rfl) ?_
        change wpAnyH _ _ _ _ _ 14 #[false, false, false, false, false, false, false, false, false, false, false, false, false, false] _ (World.drew wo)
        rw [← hwd]
        clear hwd
        (refine wpAnyH_take (i := 0) (v := ?_) rfl (by kernel_rfl) (by kernel_rfl) (by kernel_rfl) (fun _ _ _ h => h) (Or.inl ⟨by rfl, ?_⟩) HSB.out ?_; rotate_left 1; (focus (intro w0 hw0; clear hw0; go_simp; try with_reducible rfl)); simp only [Act.put, List.getElem_toArray, List.getElem_cons_zero, List.getElem_cons_succ, List.setIfInBounds_toArray, List.set_cons_zero, List.set_cons_succ])
        (refine wpAnyH_take (i := 1) (v := ?_) rfl (by kernel_rfl) (by kernel_rfl) (by kernel_rfl) (fun _ _ _ h => h) (Or.inl ⟨by rfl, ?_⟩) HSB.out ?_; rotate_left 1; (focus (intro w0 hw0; clear hw0; go_simp; try with_reducible rfl)); simp only [Act.put, List.getElem_toArray, List.getElem_cons_zero, List.getElem_cons_succ, List.setIfInBounds_toArray, List.set_cons_zero, List.set_cons_succ])
        (refine wpAnyH_take (i := 2) (v := ?_) rfl (by kernel_rfl) (by kernel_rfl) (by kernel_rfl) (fun _ _ _ h => h) (Or.inl ⟨by rfl, ?_⟩) HSB.out ?_; rotate_left 1; (focus (intro w0 hw0; clear hw0; go_simp; try with_reducible rfl)); simp only [Act.put, List.getElem_toArray, List.getElem_cons_zero, List.getElem_cons_succ, List.setIfInBounds_toArray, List.set_cons_zero, List.set_cons_succ])
        (refine wpAnyH_take (i := 3) (v := ?_) rfl (by kernel_rfl) (by kernel_rfl) (by kernel_rfl) (fun _ _ _ h => h) (Or.inl ⟨by rfl, ?_⟩) HSB.out ?_; rotate_left 1; (focus (intro w0 hw0; clear hw0; go_simp; try with_reducible rfl)); simp only [Act.put, List.getElem_toArray, List.getElem_cons_zero, List.getElem_cons_succ, List.setIfInBounds_toArray, List.set_cons_zero, List.set_cons_succ])
        (refine wpAnyH_take (i := 4) (v := ?_) rfl (by kernel_rfl) (by kernel_rfl) (by kernel_rfl) (fun _ _ _ h => h) (Or.inl ⟨by rfl, ?_⟩) HSB.out ?_; rotate_left 1; (focus (intro w0 hw0; clear hw0; go_simp; try with_reducible rfl)); simp only [Act.put, List.getElem_toArray, List.getElem_cons_zero, List.getElem_cons_succ, List.setIfInBounds_toArray, List.set_cons_zero, List.set_cons_succ])
        (refine wpAnyH_take (i := 5) (v := ?_) rfl (by kernel_rfl) (by kernel_rfl) (by kernel_rfl) (fun _ _ _ h => h) (Or.inl ⟨by rfl, ?_⟩) HSB.out ?_; rotate_left 1; (focus (intro w0 hw0; clear hw0; go_simp; try with_reducible rfl)); simp only [Act.put, List.getElem_toArray, List.getElem_cons_zero, List.getElem_cons_succ, List.setIfInBounds_toArray, List.set_cons_zero, List.set_cons_succ])
        (refine wpAnyH_take (i := 6) (v := .agg y.cells.toArray) rfl (by kernel_rfl) (by kernel_rfl) (by kernel_rfl) (fun _ _ _ h => h) (yieldsIf_load_mid (by rfl) 58 _ rfl b (e * 19) rfl y.cells _ (fun W h => (HCC.out W h).1) Tryz.underlying58 rfl (by rw [y.len]; kernel_rfl)) HSB.out ?_; simp only [Act.put, List.getElem_toArray, List.getElem_cons_zero, List.getElem_cons_succ, List.setIfInBounds_toArray, List.set_cons_zero, List.set_cons_succ])
        (refine wpAnyH_take (i := 7) (v := ?_) rfl (by kernel_rfl) (by kernel_rfl) (by kernel_rfl) (fun _ _ _ h => h) (Or.inl ⟨by rfl, ?_⟩) HSB.out ?_; rotate_left 1; (focus (intro w0 hw0; clear hw0; go_simp; try with_reducible rfl)); simp only [Act.put, List.getElem_toArray, List.getElem_cons_zero, List.getElem_cons_succ, List.setIfInBounds_toArray, List.set_cons_zero, List.set_cons_succ])
        (refine wpAnyH_take (i := 8) (v := ?_) rfl (by kernel_rfl) (by kernel_rfl) (by kernel_rfl) (fun _ _ _ h => h) (Or.inl ⟨by rfl, ?_⟩) HSB.out ?_; rotate_left 1; (focus (intro w0 hw0; clear hw0; go_simp; try with_reducible rfl)); simp only [Act.put, List.getElem_toArray, List.getElem_cons_zero, List.getElem_cons_succ, List.setIfInBounds_toArray, List.set_cons_zero, List.set_cons_succ])
        (refine wpAnyH_take (i := 9) (v := ?_) rfl (by kernel_rfl) (by kernel_rfl) (by kernel_rfl) (fun _ _ _ h => h) (Or.inl ⟨by rfl, ?_⟩) HSB.out ?_; rotate_left 1; (focus (intro w0 hw0; clear hw0; go_simp; try with_reducible rfl)); simp only [Act.put, List.getElem_toArray, List.getElem_cons_zero, List.getElem_cons_succ, List.setIfInBounds_toArray, List.set_cons_zero, List.set_cons_succ])
        (refine wpAnyH_take (i := 10) (v := .agg z.cells.toArray) rfl (by kernel_rfl) (by kernel_rfl) (by kernel_rfl) (fun _ _ _ h => h) (yieldsIf_load_mid (by rfl) 58 _ rfl b (h * 19) rfl z.cells _ (fun W h => (HCC.out W h).2) Tryz.underlying58 rfl (by rw [z.len]; kernel_rfl)) HSB.out ?_; simp only [Act.put, List.getElem_toArray, List.getElem_cons_zero, List.getElem_cons_succ, List.setIfInBounds_toArray, List.set_cons_zero, List.set_cons_succ])
        refine Lex.wpAnyH_one (i := 11) (vi := .int .i64 (cf y z)) rfl (by kernel_rfl) HSB.out ?_ ?_
        · (intro W K hW hK; (try simp only [Act.put, List.getElem_toArray, List.getElem_cons_zero, List.getElem_cons_succ, List.setIfInBounds_toArray, List.set_cons_zero, List.set_cons_succ]); refine wpOp_step rfl (fun K2 hK2 => ?_); go_simp; refine (HCL.out _ hW).mono ?_; rintro e w9 ⟨rfl, hb⟩; exact hK2 _ _ (hK _ hb))
        clear HSB
        intro w2 hS2
        have HSB := Lib.hid hS2
        clear hS2
        simp only [Act.put, List.getElem_toArray, List.getElem_cons_zero, List.getElem_cons_succ, List.setIfInBounds_toArray, List.set_cons_zero, List.set_cons_succ]
        (refine wpAnyH_take (i := 12) (v := ?_) rfl (by kernel_rfl) (by kernel_rfl) (by kernel_rfl) (fun _ _ _ h => h) (Or.inl ⟨by rfl, ?_⟩) HSB.out ?_; rotate_left 1; (focus (intro w0 hw0; clear hw0; go_simp; try with_reducible rfl)); simp only [Act.put, List.getElem_toArray, List.getElem_cons_zero, List.getElem_cons_succ, List.setIfInBounds_toArray, List.set_cons_zero, List.set_cons_succ])
        (refine wpAnyH_take (i := 13) (v := ?_) rfl (by kernel_rfl) (by kernel_rfl) (by kernel_rfl) (fun _ _ _ h => h) (Or.inl ⟨by rfl, ?_⟩) HSB.out ?_; rotate_left 1; (focus (intro w0 hw0; clear hw0; go_simp; try with_reducible rfl)); simp only [Act.put, List.getElem_toArray, List.getElem_cons_zero, List.getElem_cons_succ, List.setIfInBounds_toArray, List.set_cons_zero, List.set_cons_succ])
        refine wpAnyH_done (by kernel_rfl) ?_ _
        all_goals
          have HS2 : Hid (St B b W0 L w2) := Lib.hid (HS.out.step hB HSB.out)
          go_wp2_with fail
          go_roundg (h - i)
          case measure => omega
          case rel =>
            refine ⟨i, h, hsi, by omega, by omega, rfl, rfl, rfl, HLO.out, fun _ y' z' k1 k2 => ?_, HS2.out⟩
            rw [HE.out, HY.out] at k1
            rw [HZ.out] at k2
            cases k1
            cases k2
            exact hcf
      · have hcb : decide (cf y z < 0) = false := by simpa using hcf
        go_upto_region 35 with fail
        obtain ⟨wd, hwd⟩ : ∃ wd, wd = World.drew wo := ⟨_, rfl⟩
        have HSB : Hid (Below wo.heap.size wo wd) := Lib.hid (by rw [hwd]; exact (Below.refl _ _).drew)
        refine wp_region_held (S := fun W => Below wo.heap.size wo W) (by kernel_rfl) ?_
        change wpAnyH _ _ _ _ _ 14 #[false, false, false, false, false, false, false, false, false, false, false, false, false, false] _ (World.drew wo)
        rw [← hwd]
        clear hwd
        (refine wpAnyH_take (i := 0) (v := ?_) rfl (by kernel_rfl) (by kernel_rfl) (by kernel_rfl) (fun _ _ _ h => h) (Or.inl ⟨by rfl, ?_⟩) HSB.out ?_; rotate_left 1; (focus (intro w0 hw0; clear hw0; go_simp; try with_reducible rfl)); simp only [Act.put, List.getElem_toArray, List.getElem_cons_zero, List.getElem_cons_succ, List.setIfInBounds_toArray, List.set_cons_zero, List.set_cons_succ])
        (refine wpAnyH_take (i := 1) (v := ?_) rfl (by kernel_rfl) (by kernel_rfl) (by kernel_rfl) (fun _ _ _ h => h) (Or.inl ⟨by rfl, ?_⟩) HSB.out ?_; rotate_left 1; (focus (intro w0 hw0; clear hw0; go_simp; try with_reducible rfl)); simp only [Act.put, List.getElem_toArray, List.getElem_cons_zero, List.getElem_cons_succ, List.setIfInBounds_toArray, List.set_cons_zero, List.set_cons_succ])
        (refine wpAnyH_take (i := 2) (v := ?_) rfl (by kernel_rfl) (by kernel_rfl) (by kernel_rfl) (fun _ _ _ h => h) (Or.inl ⟨by rfl, ?_⟩) HSB.out ?_; rotate_left 1; (focus (intro w0 hw0; clear hw0; go_simp; try with_reducible rfl)); simp only [Act.put, List.getElem_toArray, List.getElem_cons_zero, List.getElem_cons_succ, List.setIfInBounds_toArray, List.set_cons_zero, List.set_cons_succ])
        (refine wpAnyH_take (i := 3) (v := ?_) rfl (by kernel_rfl) (by kernel_rfl) (by kernel_rfl) (fun _ _ _ h => h) (Or.inl ⟨by rfl, ?_⟩) HSB.out ?_; rotate_left 1; (focus (intro w0 hw0; clear hw0; go_simp; try with_reducible rfl)); simp only [Act.put, List.getElem_toArray, List.getElem_cons_zero, List.getElem_cons_succ, List.setIfInBounds_toArray, List.set_cons_zero, List.set_cons_succ])
        (refine wpAnyH_take (i := 4) (v := ?_) rfl (by kernel_rfl) (by kernel_rfl) (by kernel_rfl) (fun _ _ _ h => h) (Or.inl ⟨by rfl, ?_⟩) HSB.out ?_; rotate_left 1; (focus (intro w0 hw0; clear hw0; go_simp; try with_reducible rfl)); simp only [Act.put, List.getElem_toArray, List.getElem_cons_zero, List.getElem_cons_succ, List.setIfInBounds_toArray, List.set_cons_zero, List.set_cons_succ])
        (refine wpAnyH_take (i := 5) (v := ?_) rfl (by kernel_rfl) (by kernel_rfl) (by kernel_rfl) (fun _ _ _ h => h) (Or.inl ⟨by rfl, ?_⟩) HSB.out ?_; rotate_left 1; (focus (intro w0 hw0; clear hw0; go_simp; try with_reducible rfl)); simp only [Act.put, List.getElem_toArray, List.getElem_cons_zero, List.getElem_cons_succ, List.setIfInBounds_toArray, List.set_cons_zero, List.set_cons_succ])
        (refine wpAnyH_take (i := 6) (v := .agg y.cells.toArray) rfl (by kernel_rfl) (by kernel_rfl) (by kernel_rfl) (fun _ _ _ h => h) (yieldsIf_load_mid (by rfl) 58 _ rfl b (e * 19) rfl y.cells _ (fun W h => (HCC.out W h).1) Tryz.underlying58 rfl (by rw [y.len]; kernel_rfl)) HSB.out ?_; simp only [Act.put, List.getElem_toArray, List.getElem_cons_zero, List.getElem_cons_succ, List.setIfInBounds_toArray, List.set_cons_zero, List.set_cons_succ])
        (refine wpAnyH_take (i := 7) (v := ?_) rfl (by kernel_rfl) (by kernel_rfl) (by kernel_rfl) (fun _ _ _ h => h) (Or.inl ⟨by rfl, ?_⟩) HSB.out ?_; rotate_left 1; (focus (intro w0 hw0; clear hw0; go_simp; try with_reducible rfl)); simp only [Act.put, List.getElem_toArray, List.getElem_cons_zero, List.getElem_cons_succ, List.setIfInBounds_toArray, List.set_cons_zero, List.set_cons_succ])
        (refine wpAnyH_take (i := 8) (v := ?_) rfl (by kernel_rfl) (by kernel_rfl) (by kernel_rfl) (fun _ _ _ h => h) (Or.inl ⟨by rfl, ?_⟩) HSB.out ?_; rotate_left 1; (focus (intro w0 hw0; clear hw0; go_simp; try with_reducible rfl)); simp only [Act.put, List.getElem_toArray, List.getElem_cons_zero, List.getElem_cons_succ, List.setIfInBounds_toArray, List.set_cons_zero, List.set_cons_succ])
        (refine wpAnyH_take (i := 9) (v := ?_) rfl (by kernel_rfl) (by kernel_rfl) (by kernel_rfl) (fun _ _ _ h => h) (Or.inl ⟨by rfl, ?_⟩) HSB.out ?_; rotate_left 1; (focus (intro w0 hw0; clear hw0; go_simp; try with_reducible rfl)); simp only [Act.put, List.getElem_toArray, List.getElem_cons_zero, List.getElem_cons_succ, List.setIfInBounds_toArray, List.set_cons_zero, List.set_cons_succ])
        (refine wpAnyH_take (i := 10) (v := .agg z.cells.toArray) rfl (by kernel_rfl) (by kernel_rfl) (by kernel_rfl) (fun _ _ _ h => h) (yieldsIf_load_mid (by rfl) 58 _ rfl b (h * 19) rfl z.cells _ (fun W h => (HCC.out W h).2) Tryz.underlying58 rfl (by rw [z.len]; kernel_rfl)) HSB.out ?_; simp only [Act.put, List.getElem_toArray, List.getElem_cons_zero, List.getElem_cons_succ, List.setIfInBounds_toArray, List.set_cons_zero, List.set_cons_succ])
        refine Lex.wpAnyH_one (i := 11) (vi := .int .i64 (cf y z)) rfl (by kernel_rfl) HSB.out ?_ ?_
        · (intro W K hW hK; (try simp only [Act.put, List.getElem_toArray, List.getElem_cons_zero, List.getElem_cons_succ, List.setIfInBounds_toArray, List.set_cons_zero, List.set_cons_succ]); refine wpOp_step rfl (fun K2 hK2 => ?_); go_simp; refine (HCL.out _ hW).mono ?_; rintro e w9 ⟨rfl, hb⟩; exact hK2 _ _ (hK _ hb))
        clear HSB
        intro w2 hS2
        have HSB := Lib.hid hS2
        clear hS2
        simp only [Act.put, List.getElem_toArray, List.getElem_cons_zero, List.getElem_cons_succ, List.setIfInBounds_toArray, List.set_cons_zero, List.set_cons_succ]
        (refine wpAnyH_take (i := 12) (v := ?_) rfl (by kernel_rfl) (by kernel_rfl) (by kernel_rfl) (fun _ _ _ h => h) (Or.inl ⟨by rfl, ?_⟩) HSB.out ?_; rotate_left 1; (focus (intro w0 hw0; clear hw0; go_simp; try with_reducible rfl)); simp only [Act.put, List.getElem_toArray, List.getElem_cons_zero, List.getElem_cons_succ, List.setIfInBounds_toArray, List.set_cons_zero, List.set_cons_succ])
        (refine wpAnyH_take (i := 13) (v := ?_) rfl (by kernel_rfl) (by kernel_rfl) (by kernel_rfl) (fun _ _ _ h => h) (Or.inl ⟨by rfl, ?_⟩) HSB.out ?_; rotate_left 1; (focus (intro w0 hw0; clear hw0; go_simp; try with_reducible rfl)); simp only [Act.put, List.getElem_toArray, List.getElem_cons_zero, List.getElem_cons_succ, List.setIfInBounds_toArray, List.set_cons_zero, List.set_cons_succ])
        refine wpAnyH_done (by kernel_rfl) ?_ _
        all_goals
          have HS2 : Hid (St B b W0 L w2) := Lib.hid (HS.out.step hB HSB.out)
          go_wp2_with fail
          go_roundg (j - (h + 1))
          case measure => omega
          case rel =>
            refine ⟨h + 1, j, by omega, by omega, hjr, rfl, by go_num, rfl, fun _ y' z' k1 k2 => ?_, HHI.out, HS2.out⟩
            rw [show h + 1 - 1 = h by omega] at k1 k2
            rw [HE.out, HY.out] at k1
            rw [HZ.out] at k2
            cases k1
            cases k2
            exact hcf
    · obtain rfl : i = j := by omega
      obtain ⟨en, hen1, hen2⟩ : ∃ en, n ≤ en + i ∧ en + i ≤ n := ⟨n - i, by omega, by omega⟩
      have wen : IntKind.i64.wrap ((n : Int) - (i : Int)) = (en : Int) := wrapS (n := n) (m := i) (i := en) (by omega) (by omega)
      have B1 : Hid (a < i → en < c → ∀ x y, L[i - 1]? = some x → L[en]? = some y → decide (cf y x < 0) = false) := Lib.hid fun k1 k2 x y e1 e2 => by
        have := HLO.out (by omega) y x (by rw [show p - (i - 1) = en by omega]; exact e2) e1
        simpa using this
      have B2 : Hid (i < m → m < en → ∀ x y, L[i]? = some x → L[en - 1]? = some y → decide (cf y x < 0) = true) := Lib.hid fun k1 k2 x y e1 e2 => by
        have := HHI.out (by omega) y x (by rw [show p - i = en - 1 by omega]; exact e2) e1
        simpa using this
      have q1 : a ≤ i := by omega
      have q2 : i ≤ m := by omega
      have q3 : m ≤ en := by omega
      have q4 : en ≤ c := by omega
      have q5 : Hid (mid = i + (en - m)) := Lib.hid (by omega)
      have q6 : mid < c := by omega
      have q7 : a < mid := by omega
      have q8 : c ≤ q + a := by omega
      have HNN : Hid (c ≤ L.length) := Lib.hid (by rw [HN.out]; exact h3)
      have HOO : Hid (Ord fun x y => decide (cf x y < 0)) := Lib.hid HCMP.out.ord
      have HCAP : Hid (N ≤ 1099511627776) := Lib.hid hl
      clear hlt hsi hij hjr HLO HHI hdiv wd wd' wt wp
      go_upto_region 39 with fail
      go_cut [185] from 178 to 185 (fun v wx => ∃ t : Bool, v = .bool t ∧ (t = true ↔ i < m ∧ m < en) ∧ wx = wo)
      case first =>
        by_cases c1 : i < m
        · have c1i : (i : Int) < (m : Int) := by omega
          by_cases c2 : m < en
          · have c2i : (m : Int) < (en : Int) := by omega
            go_wp2_with fail
            go_meet
            exact ⟨_, rfl, by simp [c1, c2], rfl⟩
          · have c2i : ¬ (m : Int) < (en : Int) := by omega
            go_wp2_with fail
            go_meet
            exact ⟨_, rfl, by simp [c1, c2], rfl⟩
        · have c1i : ¬ (i : Int) < (m : Int) := by omega
          go_wp2_with fail
          go_meet
          exact ⟨_, rfl, by simp [c1], rfl⟩
      obtain ⟨tb, rfl, htb, rfl⟩ := hcut
      have HTB := Lib.hid htb
      clear htb
      go_upto_if 185 with (fail)
      go_cut [] from 186 to 191 (fun wx => ∃ L1, Sec1 L L1 i m en mid ∧ St B b W0 L1 wx)
      case first =>
        rcases tb with _ | _
        rotate_left
        · have c0 : i < m ∧ m < en := HTB.out.1 rfl
          have c1 := c0.1
          have c2 := c0.2
          have HR := Lib.hid (rot_any B b W0 hB L cap i m en (.func (.func 29) #[] #[]) c1 c2 (by rw [HN.out]; omega) (by rw [HN.out]; exact HCAP.out) wc HS.out)
          rw [HN.out] at HR
          clear c0 c1 c2
          go_wp2_with (go_at_call 90; (with_reducible refine HR.out.mono ?_); rintro e w9 ⟨rfl, L1, ht1, hs1⟩; have HT1 := Lib.hid ht1; have HS1 := Lib.hid hs1; clear ht1 hs1)
          go_meet
          exact ⟨L1, sec1_turn q2 q3 q5.out HT1.out, HS1.out⟩
        · have HC0 : Hid (¬ (i < m ∧ m < en)) := Lib.hid fun h => by have := HTB.out.2 h; simp at this
          go_wp2_with fail
          go_meet
          exact ⟨L, sec1_same q2 q3 q5.out HC0.out, HS.out⟩
      case rest =>
        obtain ⟨L1, hsec, hs1⟩ := hcut
        obtain ⟨w1, rfl⟩ : ∃ w1 : World, w1 = wc := ⟨_, rfl⟩
        have HSEC := Lib.hid hsec
        have HS1 := Lib.hid hs1
        have HL1 : Hid (L1.length = N) := Lib.hid (hsec.len.trans HN.out)
        clear hsec hs1
        go_upto_region 41 with fail
        go_cut [199] from 192 to 199 (fun v wx => ∃ t : Bool, v = .bool t ∧ (t = true ↔ a < i ∧ i < mid) ∧ wx = w1)
        case first =>
          by_cases c1 : a < i
          · have c1i : (a : Int) < (i : Int) := by omega
            by_cases c2 : i < mid
            · have c2i : (i : Int) < (mid : Int) := by omega
              go_wp2_with fail
              go_meet
              exact ⟨_, rfl, by simp [c1, c2], rfl⟩
            · have c2i : ¬ (i : Int) < (mid : Int) := by omega
              go_wp2_with fail
              go_meet
              exact ⟨_, rfl, by simp [c1, c2], rfl⟩
          · have c1i : ¬ (a : Int) < (i : Int) := by omega
            go_wp2_with fail
            go_meet
            exact ⟨_, rfl, by simp [c1], rfl⟩
        obtain ⟨tb, rfl, htb, rfl⟩ := hcut
        have HTB := Lib.hid htb
        clear htb
        go_upto_if 199 with (fail)
        go_cut [] from 200 to 205 (fun wx => ∃ L2, On (fun x y => decide (cf x y < 0)) a mid L1 L2 ∧ St B b W0 L2 wx)
        case first =>
          rcases tb with _ | _
          rotate_left
          · have c0 : a < i ∧ i < mid := HTB.out.1 rfl
            have HG := Lib.hid (sec1_two HSEC.out q1 q2 q3 q4 HU.out HV.out)
            have HR := Lib.hid (HIH.out L1 a i mid wc HL1.out (by omega) c0.1 c0.2 (by omega) HG.out.1 HG.out.2 HS1.out)
            clear c0
            go_wp2_with (go_at_call 65; (with_reducible refine HR.out.mono ?_); rintro e w9 ⟨rfl, L2, ht1, hs2⟩; have HT1 := Lib.hid ht1; have HS2 := Lib.hid hs2; clear ht1 hs2)
            go_meet
            exact ⟨L2, HT1.out, HS2.out⟩
          · have HC0 : Hid (¬ (a < i ∧ i < mid)) := Lib.hid fun h => by have := HTB.out.2 h; simp at this
            go_wp2_with fail
            go_meet
            exact ⟨L1, two_same HSEC.out q5.out q1 q2 q3 q4 HU.out HV.out HC0.out, HS1.out⟩
        case rest =>
          obtain ⟨L2, hon2, hs2⟩ := hcut
          obtain ⟨w2, rfl⟩ : ∃ w2 : World, w2 = wc := ⟨_, rfl⟩
          have HON2 := Lib.hid hon2
          have HS2 := Lib.hid hs2
          have HL2 : Hid (L2.length = N) := Lib.hid (hon2.len.trans HL1.out)
          clear hon2 hs2
          have FIN : Hid (∀ L3, On (fun x y => decide (cf x y < 0)) mid c L2 L3 → On (fun x y => decide (cf x y < 0)) a c L L3) := Lib.hid fun L3 h =>
            sec1_all HOO.out HSEC.out q1 q2 q3 q4 HNN.out q5.out HU.out HV.out B1.out B2.out HON2.out h
          by_cases c1 : mid < en
          · have c1i : (mid : Int) < (en : Int) := by omega
            by_cases c2 : en < c
            · have c2i : (en : Int) < (c : Int) := by omega
              have HG := Lib.hid (sec1_three HSEC.out q5.out q1 q2 q3 q4 HU.out HV.out HON2.out)
              have HR := Lib.hid (HIH.out L2 mid en c w2 HL2.out (by omega) c1 c2 h3 HG.out.1 HG.out.2 HS2.out)
              go_wp2_with (go_at_call 65; (with_reducible refine HR.out.mono ?_); rintro e w9 ⟨rfl, L3, ht1, hs3⟩; have HT1 := Lib.hid ht1; have HS3 := Lib.hid hs3; clear ht1 hs3)
              go_end0
              exact ⟨rfl, L3, FIN.out _ HT1.out, HS3.out⟩
            · have c2i : ¬ (en : Int) < (c : Int) := by omega
              go_wp2_with fail
              go_end0
              exact ⟨rfl, L2, FIN.out _ (three_same HSEC.out q5.out q1 q2 q3 q4 HU.out HV.out HON2.out (fun h => c2 h.2)), HS2.out⟩
          · have c1i : ¬ (mid : Int) < (en : Int) := by omega
            go_wp2_with fail
            go_end0
            exact ⟨rfl, L2, FIN.out _ (three_same HSEC.out q5.out q1 q2 q3 q4 HU.out HV.out HON2.out (fun h => c1 h.1)), HS2.out⟩
end Go.Proofs.YthjcmcgmalnfpaaGreatDoor.StabW
/- slices.SortStableFunc at calls. -/
namespace Go.Proofs.YthjcmcgmalnfpaaGreatDoor.StabW
open Go Go.RowKit Stab
set_option linter.unusedSimpArgs false
set_option linter.unusedVariables false
theorem symAt_all {B b : Nat} {W0 : World} (hB : B ≤ b) {cf : WC → WC → Int} (hcmp : CmpAt cf) {cap N : Nat} (hl : N ≤ 1099511627776) : ∀ q, SymAt B b W0 cf cap N q
  | 0 => fun L a m c W hN hq => by omega
  | q + 1 => symAt_step hB hcmp hl (symAt_all hB hcmp hl q)
theorem srt_past {α : Type} {lt : α → α → Bool} {l : List α} {a b c : Nat} (h : Srt lt (sec l a b)) (hb : l.length ≤ b) (hc : l.length ≤ c) : Srt lt (sec l a c) := by
  rw [sec_past _ hb] at h
  rw [sec_past _ hc]
  exact h
set_option maxRecDepth 100000 in
set_option maxHeartbeats 4000000 in
theorem stab_any {B b : Nat} {W0 : World} (hB : B ≤ b) {cf : WC → WC → Int} (hcmp : CmpAt cf) {cap N : Nat} (hl : N ≤ 1099511627776) (L : List WC) (hN : L.length = N) (W : World) (hst : St B b W0 L W) :
    Calls Tryz.prog 44 #[.slice (some ⟨b, 0, none⟩) N cap, .int .i64 N, .func (.func 29) #[] #[]] W fun e w' => e = .returned (.tuple #[]) ∧ ∃ L', Srt (fun x y => decide (cf x y < 0)) L' ∧ Same (fun x y => decide (cf x y < 0)) L L' ∧ L'.length = N ∧ St B b W0 L' w' := by
  have HST := Lib.hid hst
  have HOO : Hid (Ord fun x y => decide (cf x y < 0)) := Lib.hid hcmp.ord
  have HINS : Hid (∀ (L' : List WC) (a c : Nat) (W' : World), L'.length = N → a ≤ c → c ≤ N → St B b W0 L' W' → Calls Tryz.prog 64 #[.slice (some ⟨b, 0, none⟩) N cap, .int .i64 a, .int .i64 c, .func (.func 29) #[] #[]] W' fun e w' => e = .returned (.tuple #[]) ∧ ∃ L'', On (fun x y => decide (cf x y < 0)) a c L' L'' ∧ St B b W0 L'' w') := Lib.hid fun L' a c W' h1 h2 h3 h4 => by
    have h := ins_any B b W0 hB cf hcmp L' cap a c h2 (by omega) (by omega) W' h4
    rw [h1] at h
    exact h
  have HSYM : Hid (∀ (L' : List WC) (a m c : Nat) (W' : World), L'.length = N → a < m → m < c → c ≤ N → Srt (fun x y => decide (cf x y < 0)) (sec L' a m) → Srt (fun x y => decide (cf x y < 0)) (sec L' m c) → St B b W0 L' W' →
      Calls Tryz.prog 65 #[.slice (some ⟨b, 0, none⟩) N cap, .int .i64 a, .int .i64 m, .int .i64 c, .func (.func 29) #[] #[]] W' fun e w' => e = .returned (.tuple #[]) ∧ ∃ L'', On (fun x y => decide (cf x y < 0)) a c L' L'' ∧ St B b W0 L'' w') := Lib.hid fun L' a m c W' h1 h2 h3 h4 h5 h6 h7 =>
    symAt_all hB hcmp hl (N + 1) L' a m c W' h1 (by omega) h2 h3 h4 h5 h6 h7
  have HN := Lib.hid hN
  clear hst hcmp hN
  go_enter Tryz.func44, Tryz.ntmps44
  go_upto_region 2 with fail
  go_loopg [7, 8] (N + 1) (fun g av bv wr => ∃ q : Nat, ∃ L' : List WC, g = N + 1 - q ∧ q * 20 ≤ N ∧ av = .int .i64 ((q * 20 : Nat) : Int) ∧ bv = .int .i64 ((q * 20 + 20 : Nat) : Int) ∧ L'.length = N ∧ Upto (fun x y => decide (cf x y < 0)) 20 q L' ∧ Same (fun x y => decide (cf x y < 0)) L L' ∧ St B b W0 L' wr)
  case atStart => exact ⟨0, L, rfl, by omega, rfl, rfl, HN.out, fun k hk => by omega, Same.refl _, HST.out⟩
  case round =>
    obtain ⟨q, L', rfl, hqn, rfl, rfl, hlen, hup, hsm, hs⟩ := hrel
    obtain ⟨wo, rfl⟩ : ∃ wo : World, wo = wr := ⟨_, rfl⟩
    have HLEN := Lib.hid hlen
    have HUP := Lib.hid hup
    have HSM := Lib.hid hsm
    have HS := Lib.hid hs
    clear hlen hup hsm hs
    obtain ⟨a, ha1, ha2⟩ : ∃ a, a ≤ q * 20 ∧ q * 20 ≤ a := ⟨q * 20, by omega, by omega⟩
    have HA : Hid (q * 20 = a) := Lib.hid (by omega)
    obtain ⟨e, he1, he2⟩ : ∃ e, e ≤ a + 20 ∧ a + 20 ≤ e := ⟨a + 20, by omega, by omega⟩
    have HE : Hid (a + 20 = e) := Lib.hid (by omega)
    rw [HA.out, HE.out]
    by_cases hle : e ≤ N
    · have hlei : (e : Int) ≤ (N : Int) := by omega
      have HC := Lib.hid (HINS.out L' a e wo HLEN.out (by omega) hle HS.out)
      obtain ⟨e2, hf1, hf2⟩ : ∃ e2, e2 ≤ e + 20 ∧ e + 20 ≤ e2 := ⟨e + 20, by omega, by omega⟩
      have we2 : IntKind.i64.wrap ((e : Int) + 20) = (e2 : Int) := wrapN (n := e) (m := 20) (i := e2) (by omega) (by omega)
      go_wp2_with (go_at_call 64; (with_reducible refine HC.out.mono ?_); rintro e w9 ⟨rfl, L1, ht1, hs1⟩; have HT1 := Lib.hid ht1; have HS1 := Lib.hid hs1; clear ht1 hs1)
      go_roundg (N + 1 - (q + 1))
      case measure => omega
      case rel =>
        have hup' : Upto (fun x y => decide (cf x y < 0)) 20 (q + 1) L1 := upto_step HUP.out (by rw [HA.out, HE.out]; exact HT1.out)
        exact ⟨q + 1, L1, rfl, by omega, by rw [show (q + 1) * 20 = e by omega], by rw [show (q + 1) * 20 + 20 = e2 by omega], by rw [HT1.out.len, HLEN.out], hup', HSM.out.trans (HT1.out.all (by omega)), HS1.out⟩
    · have hlei : ¬ (e : Int) ≤ (N : Int) := by omega
      have HC := Lib.hid (HINS.out L' a N wo HLEN.out (by omega) (Nat.le_refl N) HS.out)
      go_upto_region 7 with (go_at_call 64; (with_reducible refine HC.out.mono ?_); rintro e w9 ⟨rfl, L1, ht1, hs1⟩; have HT1 := Lib.hid ht1; have HS1 := Lib.hid hs1; clear ht1 hs1)
      have HR0 : Hid (Runs (fun x y => decide (cf x y < 0)) 20 L1) := Lib.hid (upto_end HUP.out HLEN.out (by omega) (by rw [HA.out]; exact HT1.out))
      have HSM1 := Lib.hid (HSM.out.trans (HT1.out.all (by omega)))
      have HL1 : Hid (L1.length = N) := Lib.hid (HT1.out.len.trans HLEN.out)
      clear HC HUP HSM HS HLEN
      go_loopg [6] (N + 1) (fun g sv wr => ∃ s : Nat, ∃ L' : List WC, 20 ≤ s ∧ g = N + 21 - s ∧ s ≤ 2 * N + 20 ∧ sv = .int .i64 (s : Int) ∧ L'.length = N ∧ Runs (fun x y => decide (cf x y < 0)) s L' ∧ Same (fun x y => decide (cf x y < 0)) L L' ∧ St B b W0 L' wr)
      case atStart => exact ⟨20, L1, by omega, by omega, by omega, rfl, HL1.out, HR0.out, HSM1.out, HS1.out⟩
      case round =>
        obtain ⟨s, L2, hs20, rfl, hsN, rfl, hlen, hrun, hsm, hs⟩ := hrel
        obtain ⟨wo2, rfl⟩ : ∃ wo2 : World, wo2 = wr := ⟨_, rfl⟩
        have HLEN := Lib.hid hlen
        have HRUN := Lib.hid hrun
        have HSM := Lib.hid hsm
        have HS := Lib.hid hs
        clear hlen hrun hsm hs
        by_cases hlt : s < N
        · have hlti : (s : Int) < (N : Int) := by omega
          obtain ⟨s2, hk1, hk2⟩ : ∃ s2, s2 ≤ 2 * s ∧ 2 * s ≤ s2 := ⟨2 * s, by omega, by omega⟩
          have ws2 : IntKind.i64.wrap (2 * (s : Int)) = (s2 : Int) := by
            rw [show (2 : Int) * (s : Int) = ((s : Nat) : Int) + ((s : Nat) : Int) by omega]
            exact wrapN (by omega) (by omega)
          have ws3 : IntKind.i64.wrap ((s : Int) * 2) = (s2 : Int) := by rw [Int.mul_comm]; exact ws2
          have HK : Hid (2 * s = s2) := Lib.hid (by omega)
          go_upto_region 9 with fail
          go_loopg [7, 8] (N + 1) (fun g av bv wr => ∃ (q : Nat) (a e : Nat), ∃ L' : List WC, g = N + 1 - q ∧ q ≤ a ∧ q * s2 = a ∧ a + s2 = e ∧ a ≤ N ∧ av = .int .i64 (a : Int) ∧ bv = .int .i64 (e : Int) ∧ L'.length = N ∧ Pass (fun x y => decide (cf x y < 0)) s q L' ∧ Same (fun x y => decide (cf x y < 0)) L L' ∧ St B b W0 L' wr)
          case atStart => exact ⟨0, 0, s2, L2, rfl, by omega, by omega, by omega, by omega, rfl, rfl, HLEN.out, pass_start HRUN.out, HSM.out, HS.out⟩
          case round =>
            obtain ⟨q, a, e, L3, rfl, hqa, hqs, hae, haN, rfl, rfl, hlen, hpass, hsm, hs⟩ := hrel
            obtain ⟨wo3, rfl⟩ : ∃ wo3 : World, wo3 = wr := ⟨_, rfl⟩
            have HQS : Hid (q * (2 * s) = a) := Lib.hid (by rw [HK.out]; exact hqs)
            have hae1 : e ≤ a + s2 := by omega
            have hae2 : a + s2 ≤ e := by omega
            have HLEN := Lib.hid hlen
            have HPASS := Lib.hid hpass
            have HSM := Lib.hid hsm
            have HS := Lib.hid hs
            clear hlen hpass hsm hs hqs hae
            obtain ⟨m, hm1, hm2⟩ : ∃ m, m ≤ a + s ∧ a + s ≤ m := ⟨a + s, by omega, by omega⟩
            have wm : IntKind.i64.wrap ((a : Int) + (s : Int)) = (m : Int) := wrapN (n := a) (m := s) (i := m) (by omega) (by omega)
            have HT : Hid (Srt (fun x y => decide (cf x y < 0)) (sec L3 a m) ∧ Srt (fun x y => decide (cf x y < 0)) (sec L3 m e)) := Lib.hid (by
              have h := pass_two HPASS.out
              rw [HQS.out, show a + s = m by omega, show a + 2 * s = e by omega] at h
              exact h)
            by_cases hle : e ≤ N
            · have hlei : (e : Int) ≤ (N : Int) := by omega
              have HC := Lib.hid (HSYM.out L3 a m e wo3 HLEN.out (by omega) (by omega) hle HT.out.1 HT.out.2 HS.out)
              obtain ⟨e2, hf1, hf2⟩ : ∃ e2, e2 ≤ e + s2 ∧ e + s2 ≤ e2 := ⟨e + s2, by omega, by omega⟩
              have we2 : IntKind.i64.wrap ((e : Int) + (s2 : Int)) = (e2 : Int) := wrapN (n := e) (m := s2) (i := e2) (by omega) (by omega)
              go_wp2_with (go_at_call 65; (with_reducible refine HC.out.mono ?_); rintro e' w9 ⟨rfl, L4, ht1, hs1⟩; have HT1 := Lib.hid ht1; have HS1 := Lib.hid hs1; clear ht1 hs1)
              go_roundg (N + 1 - (q + 1))
              case measure => omega
              case rel =>
                have hqs2 : (q + 1) * s2 = e := by
                  have h := HQS.out
                  rw [HK.out] at h
                  rw [Nat.add_mul, h]
                  omega
                exact ⟨q + 1, e, e2, L4, rfl, by omega, hqs2, by omega, hle, rfl, rfl, by rw [HT1.out.len, HLEN.out], pass_step HPASS.out (by rw [HQS.out, show a + 2 * s = e by omega]; exact HT1.out), HSM.out.trans (HT1.out.all (by omega)), HS1.out⟩
            · have hlei : ¬ (e : Int) ≤ (N : Int) := by omega
              by_cases hmn : m < N
              · have hmni : (m : Int) < (N : Int) := by omega
                have HC := Lib.hid (HSYM.out L3 a m N wo3 HLEN.out (by omega) hmn (Nat.le_refl N) HT.out.1 (srt_past HT.out.2 (by rw [HLEN.out]; omega) (by rw [HLEN.out]; omega)) HS.out)
                go_wp2_with (go_at_call 65; (with_reducible refine HC.out.mono ?_); rintro e' w9 ⟨rfl, L4, ht1, hs1⟩; have HT1 := Lib.hid ht1; have HS1 := Lib.hid hs1; clear ht1 hs1)
                go_roundg (N + 21 - s2)
                case measure => omega
                case rel =>
                  exact ⟨s2, L4, by omega, rfl, by omega, rfl, by rw [HT1.out.len, HLEN.out], by rw [← HK.out]; exact pass_end HPASS.out HLEN.out (by rw [HQS.out]; omega) (by rw [HQS.out]; exact HT1.out), HSM.out.trans (HT1.out.all (by omega)), HS1.out⟩
              · have hmni : ¬ (m : Int) < (N : Int) := by omega
                go_wp2_with fail
                go_roundg (N + 21 - s2)
                case measure => omega
                case rel =>
                  exact ⟨s2, L3, by omega, rfl, by omega, rfl, HLEN.out, by rw [← HK.out]; exact pass_end HPASS.out HLEN.out (by rw [HQS.out]; omega) (On.refl (pass_end' HPASS.out HLEN.out (by rw [HQS.out]; omega))), HSM.out, HS.out⟩
        · have hlti : ¬ (s : Int) < (N : Int) := by omega
          go_wp2_with fail
          go_end0
          exact ⟨rfl, L2, runs_all HRUN.out (by rw [HLEN.out]; omega), HSM.out, HLEN.out, HS.out⟩
set_option maxRecDepth 100000 in
set_option maxHeartbeats 4000000 in
/-- The whole: sorted, what is equal in its order. -/
theorem ssf_any {B b : Nat} {W0 : World} (hB : B ≤ b) {cf : WC → WC → Int} (hcmp : CmpAt cf) {cap N : Nat} (hl : N ≤ 1099511627776) (L : List WC) (hN : L.length = N) (W : World) (hst : St B b W0 L W) :
    Calls Tryz.prog 28 #[.slice (some ⟨b, 0, none⟩) N cap, .func (.func 29) #[] #[]] W fun e w' => e = .returned (.tuple #[]) ∧ ∃ L', Srt (fun x y => decide (cf x y < 0)) L' ∧ Same (fun x y => decide (cf x y < 0)) L L' ∧ L'.length = N ∧ St B b W0 L' w' := by
  have HC := Lib.hid (stab_any hB hcmp (cap := cap) hl L hN W hst)
  clear hcmp hst hN
  go_enter Tryz.func28, Tryz.ntmps28
  go_wp2_with (go_at_call 44; (with_reducible refine HC.out.mono ?_); rintro e' w9 ⟨rfl, hx⟩; have HX := Lib.hid hx; clear hx)
  go_end0
  exact ⟨rfl, HX.out⟩
end Go.Proofs.YthjcmcgmalnfpaaGreatDoor.StabW
/- The closure that calls are sorted by: which began first. -/
namespace Go.Proofs.YthjcmcgmalnfpaaGreatDoor.StabW
open Go Go.RowKit Stab
set_option linter.unusedSimpArgs false
set_option linter.unusedVariables false
/-- How two numbers stand to each other. -/
def c3W (x y : Int) : Int := if x < y then -1 else if y < x then 1 else 0
theorem c3W_ways (x y : Int) : (x < y ∧ c3W x y = -1) ∨ (y < x ∧ c3W x y = 1) ∨ (x = y ∧ c3W x y = 0) := by
  unfold c3W
  by_cases h : x < y
  · exact .inl ⟨h, if_pos h⟩
  · by_cases h2 : y < x
    · exact .inr (.inl ⟨h2, by rw [if_neg h, if_pos h2]⟩)
    · exact .inr (.inr ⟨by omega, by rw [if_neg h, if_neg h2]⟩)
def ltW (x y : Int) : Bool := decide (c3W x y < 0)
theorem ltW_iff {x y : Int} : ltW x y = true ↔ x < y := by
  unfold ltW
  rw [decide_eq_true_iff]
  rcases c3W_ways x y with ⟨h, e⟩ | ⟨h, e⟩ | ⟨h, e⟩ <;> rw [e] <;> simp <;> omega
theorem ltW_ord : Ord ltW := by
  refine ⟨fun a b h => ?_, fun a b c h1 h2 => ?_⟩
  · cases e : ltW b a with
    | false => rfl
    | true =>
      have h1 := ltW_iff.1 h
      have h2 := ltW_iff.1 e
      omega
  · cases e : ltW a c with
    | false => rfl
    | true =>
      have h3 := ltW_iff.1 e
      have h1' : ¬ a < b := fun h => by rw [ltW_iff.2 h] at h1; cases h1
      have h2' : ¬ b < c := fun h => by rw [ltW_iff.2 h] at h2; cases h2
      omega
set_option maxHeartbeats 1000000 in
theorem nanW (x : Int) (w : World) : Calls Tryz.prog 45 #[.int .i64 x] w fun e w' => e = .returned (.bool false) ∧ w = w' := by
  have hx : (x != x) = false := by simp
  go_enter Tryz.func45, Tryz.ntmps45
  go_wp2_with fail
  go_ret
  exact ⟨by simp, rfl⟩
set_option maxHeartbeats 1000000 in
theorem compareW (x y : Int) (w : World) : Calls Tryz.prog 30 #[.int .i64 x, .int .i64 y] w fun e w' => e = .returned (.int .i64 (c3W x y)) ∧ w = w' := by
  rcases c3W_ways x y with ⟨h, hc⟩ | ⟨h, hc⟩ | ⟨h, hc⟩
  · have HC := Lib.hid hc
    clear hc
    go_enter Tryz.func30, Tryz.ntmps30
    go_wp2_with (go_at_call 45; (with_reducible refine (nanW _ _).mono ?_); rintro e w' ⟨rfl, rfl⟩)
    go_ret
    exact ⟨by rw [HC.out]; rfl, rfl⟩
  · have HC := Lib.hid hc
    clear hc
    have h2 : ¬ x < y := by omega
    go_enter Tryz.func30, Tryz.ntmps30
    go_wp2_with (go_at_call 45; (with_reducible refine (nanW _ _).mono ?_); rintro e w' ⟨rfl, rfl⟩)
    go_ret
    exact ⟨by rw [HC.out]; rfl, rfl⟩
  · subst h
    have HC := Lib.hid hc
    clear hc
    go_enter Tryz.func30, Tryz.ntmps30
    go_wp2_with (go_at_call 45; (with_reducible refine (nanW _ _).mono ?_); rintro e w' ⟨rfl, rfl⟩)
    go_ret
    exact ⟨by rw [HC.out]; rfl, rfl⟩
/-- How calls are held against each other. -/
def cfW (x y : WC) : Int := c3W x.fr y.fr
set_option maxRecDepth 100000 in
set_option maxHeartbeats 4000000 in
theorem hclo_any (x y : WC) (w : World) : Calls Tryz.prog 29 #[x.val, y.val] w fun e w' => e = .returned (.int .i64 (cfW x y)) ∧ Below w.heap.size w w' := by
  unfold WC.val
  obtain ⟨W0, hW0⟩ : ∃ W0, W0 = (w.alloc (.cells x.cells.toArray 58)).alloc (.cells y.cells.toArray 58) := ⟨_, rfl⟩
  have HB0 : Hid (Below w.heap.size w W0) := Lib.hid (by rw [hW0]; exact ((Below.refl _ _).alloc (Nat.le_refl _) _).alloc (by simp) _)
  have g0 : W0.heap[w.heap.size]? = some (.cells x.cells.toArray 58 (0, 0)) := by
    rw [hW0, Lib.alloc_old _ _ _ (by simp)]
    exact heap_alloc_new w _
  have g1 : W0.heap[w.heap.size + 1]? = some (.cells y.cells.toArray 58 (0, 0)) := by
    rw [hW0]
    have := heap_alloc_new (w.alloc (.cells x.cells.toArray 58)) (.cells y.cells.toArray 58)
    simpa using this
  have t0 := cell_at (o := 17) g0 (by simpa using x.at17)
  have t1 := cell_at (o := 17) g1 (by simpa using y.at17)
  have hx : x.cells.toArray.size = 19 := by simpa using x.len
  have hy : y.cells.toArray.size = 19 := by simpa using y.len
  clear g0 g1
  go_enter Tryz.func29, Tryz.ntmps29
  go_upto_region 1 with fail
  rw [← hW0]
  clear hW0 hx hy
  go_wp2_with (go_at_call 30; (with_reducible refine (compareW _ _ _).mono ?_); rintro e w' ⟨rfl, rfl⟩)
  go_ret
  exact ⟨rfl, HB0.out⟩
theorem cfW_ord : Ord fun x y => decide (cfW x y < 0) := ord_by ltW_ord fun x : WC => x.fr
theorem cmpAtW : CmpAt cfW := ⟨cfW_ord, fun W x y => hclo_any x y W⟩
end Go.Proofs.YthjcmcgmalnfpaaGreatDoor.StabW
