/- A merge from the middle: under way (the walk up to the search loop). -/
import Derived.Test.YtdhkndoglcnllaaDoorSm1
import Derived.Test.YtdhkndoglcnllaaDoorSm3
import Derived.Test.YtdhkndoglcnllaaDoorStab6
import Derived.Deep.DeepCutAuto
namespace Go.Proofs.YtdhkndoglcnllaaDoor.Stab
open Go Go.RowKit
set_option linter.unusedSimpArgs false
set_option linter.unusedVariables false
set_option maxRecDepth 100000 in
set_option maxHeartbeats 8000000 in
theorem symAt_step {B b : Nat} {W0 : World} (hB : B ≤ b) {pa : Addr} {cf : EC → EC → Int} (hcmp : CmpAt B b W0 pa cf) {cap N : Nat} (hl : N ≤ 1099511627776) {q : Nat} (ih : SymAt B b W0 pa cf cap N q) : SymAt B b W0 pa cf cap N (q + 1) := by
  intro L a m c W hN hq h1 h2 h3 hu hv hst
  by_cases hs : m = a + 1 ∨ c = m + 1
  · exact symAt_small hB hcmp hl hN h1 h2 h3 hu hv hst hs
  have HST := Lib.hid hst
  have HCMP := Lib.hid hcmp
  have HU := Lib.hid hu
  have HV := Lib.hid hv
  have HIH := Lib.hid ih
  have HN := Lib.hid hN
  obtain ⟨d, hd1, hd2⟩ : ∃ d, m ≤ d + a ∧ d + a ≤ m := ⟨m - a, by omega, by omega⟩
  have wd : IntKind.i64.wrap ((m : Int) - (a : Int)) = (d : Int) := wrapS (n := m) (m := a) (i := d) (by omega) (by omega)
  have hdne : ¬ (d : Int) = 1 := by omega
  have hdb : ((d : Int) == 1) = false := by simpa using hdne
  obtain ⟨d', hd1', hd2'⟩ : ∃ d', c ≤ d' + m ∧ d' + m ≤ c := ⟨c - m, by omega, by omega⟩
  have wd' : IntKind.i64.wrap ((c : Int) - (m : Int)) = (d' : Int) := wrapS (n := c) (m := m) (i := d') (by omega) (by omega)
  have hdne' : ¬ (d' : Int) = 1 := by omega
  have hdb' : ((d' : Int) == 1) = false := by simpa using hdne'
  obtain ⟨t, ht1, ht2⟩ : ∃ t, t ≤ a + c ∧ a + c ≤ t := ⟨a + c, by omega, by omega⟩
  have wt := wrapN (n := a) (m := c) (i := t) (by omega) (by omega)
  obtain ⟨mid, hm1, hm2⟩ : ∃ mid, 2 * mid ≤ t ∧ t ≤ 2 * mid + 1 := ⟨t / 2, by omega, by omega⟩
  have hdiv : (t : Int) / 2 = (mid : Int) := by omega
  obtain ⟨n, hn1, hn2⟩ : ∃ n, n ≤ mid + m ∧ mid + m ≤ n := ⟨mid + m, by omega, by omega⟩
  have wn := wrapN (n := mid) (m := m) (i := n) (by omega) (by omega)
  obtain ⟨p, hp1, hp2⟩ : ∃ p, n ≤ p + 1 ∧ p + 1 ≤ n := ⟨n - 1, by omega, by omega⟩
  have wp : IntKind.i64.wrap ((n : Int) - 1) = (p : Int) := wrapS (n := n) (m := 1) (i := p) (by omega) (by omega)
  clear hst hcmp hu hv ih hN hs
  go_enter Tryd.func45, Tryd.ntmps45
  go_upto_if 140 with (fail)
  go_cut [20, 21] from 138 to 146 (fun sv rv wx => ∃ s0 r0 : Nat, sv = .int .i64 (s0 : Int) ∧ rv = .int .i64 (r0 : Int) ∧ a ≤ s0 ∧ n ≤ s0 + c ∧ (a < s0 → s0 + c ≤ n) ∧ s0 ≤ r0 ∧ r0 ≤ m ∧ r0 ≤ mid ∧ (r0 < m → mid ≤ r0) ∧ wx = W)
  case first =>
    by_cases hmm : mid < m
    · have hmmi : (mid : Int) < (m : Int) := by omega
      obtain ⟨s0, hs1, hs2⟩ : ∃ s0, n ≤ s0 + c ∧ s0 + c ≤ n := ⟨n - c, by omega, by omega⟩
      have ws0 : IntKind.i64.wrap ((n : Int) - (c : Int)) = (s0 : Int) := wrapS (n := n) (m := c) (i := s0) (by omega) (by omega)
      go_wp2_with fail
      go_meet
      exact ⟨s0, mid, rfl, rfl, by omega, by omega, by omega, by omega, by omega, by omega, by omega, rfl⟩
    · have hmmi : ¬ (mid : Int) < (m : Int) := by omega
      go_wp2_with fail
      go_meet
      exact ⟨a, m, rfl, rfl, by omega, by omega, by omega, by omega, by omega, by omega, by omega, rfl⟩
  case rest =>
  obtain ⟨s0, r0, rfl, rfl, z1, z2, z3, z4, z5, z6, z7, rfl⟩ := hcut
  go_upto_region 33 with fail
  go_loopg [20, 21, 23] (r0 - s0) (fun g iv jv hv' wr => ∃ i j : Nat, s0 ≤ i ∧ i ≤ j ∧ j ≤ r0 ∧ g = j - i ∧ iv = .int .i64 (i : Int) ∧ jv = .int .i64 (j : Int) ∧ (s0 < i → ∀ y z, L[p - (i - 1)]? = some y → L[i - 1]? = some z → ¬ cf y z < 0) ∧ (j < r0 → ∀ y z, L[p - j]? = some y → L[j]? = some z → cf y z < 0) ∧ St B b W0 L wr)
  case atStart => exact ⟨s0, r0, Nat.le_refl _, by omega, Nat.le_refl _, rfl, rfl, rfl, fun h => by omega, fun h => by omega, HST.out⟩
  case round =>
    obtain ⟨i, j, hsi, hij, hjr, rfl, rfl, rfl, hlo, hhi, hs⟩ := hrel
    obtain ⟨wo, rfl⟩ : ∃ wo : World, wo = wr := ⟨_, rfl⟩
    have HLO := Lib.hid hlo
    have HHI := Lib.hid hhi
    have HS := Lib.hid hs
    clear hlo hhi hs
    by_cases hlt : i < j
    · have hlti : (i : Int) < (j : Int) := by omega
      obtain ⟨s, hq1, hq2⟩ : ∃ s, s ≤ i + j ∧ i + j ≤ s := ⟨i + j, by omega, by omega⟩
      have wsum := wrapN (n := i) (m := j) (i := s) (by omega) (by omega)
      obtain ⟨h, hh1, hh2⟩ : ∃ h, 2 * h ≤ s ∧ s ≤ 2 * h + 1 := ⟨s / 2, by omega, by omega⟩
      have hdivh : (s : Int) / 2 = (h : Int) := by omega
      obtain ⟨e, he1, he2⟩ : ∃ e, p ≤ e + h ∧ e + h ≤ p := ⟨p - h, by omega, by omega⟩
      have we : IntKind.i64.wrap ((p : Int) - (h : Int)) = (e : Int) := wrapS (n := p) (m := h) (i := e) (by omega) (by omega)
      obtain ⟨y, hy⟩ : ∃ y, L[e]? = some y := ⟨_, List.getElem?_eq_getElem (by have := HN.out; omega)⟩
      obtain ⟨z, hz⟩ : ∃ z, L[h]? = some z := ⟨_, List.getElem?_eq_getElem (by have := HN.out; omega)⟩
      have HY := Lib.hid hy
      have HZ := Lib.hid hz
      have HE : Hid (p - h = e) := Lib.hid (by omega)
      have HCL : Hid (∀ W', Below wo.heap.size wo W' → Calls Tryd.prog 25 #[y.val, z.val, .pointer (some pa)] W' fun e w' => e = .returned (.int .i64 (cf y z)) ∧ Below W'.heap.size W' w') := Lib.hid fun W' hb => HCMP.out.calls L W' y z (HS.out.step hB hb)
      unfold EC.val at HCL
      have HCC : Hid (∀ W', Below wo.heap.size wo W' → (fun W' => W'.cell? ⟨b, e * 5, none⟩ = some (.int .i64 y.kn) ∧ W'.cell? ⟨b, e * 5 + 1, none⟩ = some (.int .i64 y.kd) ∧ W'.cell? ⟨b, e * 5 + 2, none⟩ = some (.int .i64 y.dk) ∧ W'.cell? ⟨b, e * 5 + 3, none⟩ = some (.int .i64 y.dn) ∧ W'.cell? ⟨b, e * 5 + 4, none⟩ = some (.slice y.da y.dm y.dc) ∧ W'.cell? ⟨b, h * 5, none⟩ = some (.int .i64 z.kn) ∧ W'.cell? ⟨b, h * 5 + 1, none⟩ = some (.int .i64 z.kd) ∧ W'.cell? ⟨b, h * 5 + 2, none⟩ = some (.int .i64 z.dk) ∧ W'.cell? ⟨b, h * 5 + 3, none⟩ = some (.int .i64 z.dn) ∧ W'.cell? ⟨b, h * 5 + 4, none⟩ = some (.slice z.da z.dm z.dc)) W') := Lib.hid fun W' hb => by
        obtain ⟨x0, x1, x2, x3, x4⟩ := (HS.out.step hB hb).cell hz
        obtain ⟨y0, y1, y2, y3, y4⟩ := (HS.out.step hB hb).cell hy
        exact ⟨y0, y1, y2, y3, y4, x0, x1, x2, x3, x4⟩
      have hbz := Below.refl wo.heap.size wo
      have hN' : (h : Int) < (N : Int) := by omega
      have eN' : (e : Int) < (N : Int) := by omega
      have h0' : (0 : Int) ≤ (h : Int) := by omega
      have e0' : (0 : Int) ≤ (e : Int) := by omega
      clear hy hz
      by_cases hcf : cf y z < 0
      · have hcb : decide (cf y z < 0) = true := by simpa using hcf
        go_upto_region 35 with fail
        go_region_held3 (fun W' => W'.cell? ⟨b, e * 5, none⟩ = some (.int .i64 y.kn) ∧ W'.cell? ⟨b, e * 5 + 1, none⟩ = some (.int .i64 y.kd) ∧ W'.cell? ⟨b, e * 5 + 2, none⟩ = some (.int .i64 y.dk) ∧ W'.cell? ⟨b, e * 5 + 3, none⟩ = some (.int .i64 y.dn) ∧ W'.cell? ⟨b, e * 5 + 4, none⟩ = some (.slice y.da y.dm y.dc) ∧ W'.cell? ⟨b, h * 5, none⟩ = some (.int .i64 z.kn) ∧ W'.cell? ⟨b, h * 5 + 1, none⟩ = some (.int .i64 z.kd) ∧ W'.cell? ⟨b, h * 5 + 2, none⟩ = some (.int .i64 z.dk) ∧ W'.cell? ⟨b, h * 5 + 3, none⟩ = some (.int .i64 z.dn) ∧ W'.cell? ⟨b, h * 5 + 4, none⟩ = some (.slice z.da z.dm z.dc)) ((refine HCC.out _ ?_; ((repeat' (first | with_reducible assumption | with_reducible refine Below.drew ?_ | (with_reducible refine Below.alloc ?_ ?_ _))) <;> first | assumption | (simp; done) | (simp; omega)))) ((first
          | (go_at_call 25; (with_reducible refine (HCL.out _ (by ((repeat' (first | with_reducible assumption | with_reducible refine Below.drew ?_ | (with_reducible refine Below.alloc ?_ ?_ _))) <;> first | assumption | (simp; done) | (simp; omega)))).mono ?_); rintro e w2 ⟨rfl, hb2⟩; have hb2z : Below wo.heap.size wo w2 := Below.trans (show Below wo.heap.size wo _ by ((repeat' (first | with_reducible assumption | with_reducible refine Below.drew ?_ | (with_reducible refine Below.alloc ?_ ?_ _))) <;> first | assumption | (simp; done) | (simp; omega))) (hb2.mono (Below.size (show Below wo.heap.size wo _ by ((repeat' (first | with_reducible assumption | with_reducible refine Below.drew ?_ | (with_reducible refine Below.alloc ?_ ?_ _))) <;> first | assumption | (simp; done) | (simp; omega))))); clear hb2)))
        all_goals
          have HS2 : Hid (St B b W0 L w2) := Lib.hid (HS.out.step hB (show Below wo.heap.size wo w2 by assumption))
          go_wp2_with fail
          go_roundg (h - i)
          case measure => omega
          case rel =>
            refine ⟨i, h, hsi, by omega, by omega, rfl, rfl, rfl, HLO.out, fun _ y' z' k1 k2 => ?_, HS2.out⟩
            rw [HE.out, HY.out] at k1
            rw [HZ.out] at k2
            cases k1
            cases k2
            exact hcf
      · have hcb : decide (cf y z < 0) = false := by simpa using hcf
        go_upto_region 35 with fail
        go_region_held3 (fun W' => W'.cell? ⟨b, e * 5, none⟩ = some (.int .i64 y.kn) ∧ W'.cell? ⟨b, e * 5 + 1, none⟩ = some (.int .i64 y.kd) ∧ W'.cell? ⟨b, e * 5 + 2, none⟩ = some (.int .i64 y.dk) ∧ W'.cell? ⟨b, e * 5 + 3, none⟩ = some (.int .i64 y.dn) ∧ W'.cell? ⟨b, e * 5 + 4, none⟩ = some (.slice y.da y.dm y.dc) ∧ W'.cell? ⟨b, h * 5, none⟩ = some (.int .i64 z.kn) ∧ W'.cell? ⟨b, h * 5 + 1, none⟩ = some (.int .i64 z.kd) ∧ W'.cell? ⟨b, h * 5 + 2, none⟩ = some (.int .i64 z.dk) ∧ W'.cell? ⟨b, h * 5 + 3, none⟩ = some (.int .i64 z.dn) ∧ W'.cell? ⟨b, h * 5 + 4, none⟩ = some (.slice z.da z.dm z.dc)) ((refine HCC.out _ ?_; ((repeat' (first | with_reducible assumption | with_reducible refine Below.drew ?_ | (with_reducible refine Below.alloc ?_ ?_ _))) <;> first | assumption | (simp; done) | (simp; omega)))) ((first
          | (go_at_call 25; (with_reducible refine (HCL.out _ (by ((repeat' (first | with_reducible assumption | with_reducible refine Below.drew ?_ | (with_reducible refine Below.alloc ?_ ?_ _))) <;> first | assumption | (simp; done) | (simp; omega)))).mono ?_); rintro e w2 ⟨rfl, hb2⟩; have hb2z : Below wo.heap.size wo w2 := Below.trans (show Below wo.heap.size wo _ by ((repeat' (first | with_reducible assumption | with_reducible refine Below.drew ?_ | (with_reducible refine Below.alloc ?_ ?_ _))) <;> first | assumption | (simp; done) | (simp; omega))) (hb2.mono (Below.size (show Below wo.heap.size wo _ by ((repeat' (first | with_reducible assumption | with_reducible refine Below.drew ?_ | (with_reducible refine Below.alloc ?_ ?_ _))) <;> first | assumption | (simp; done) | (simp; omega))))); clear hb2)))
        all_goals
          have HS2 : Hid (St B b W0 L w2) := Lib.hid (HS.out.step hB (show Below wo.heap.size wo w2 by assumption))
          go_wp2_with fail
          go_roundg (j - (h + 1))
          case measure => omega
          case rel =>
            refine ⟨h + 1, j, by omega, by omega, hjr, rfl, by go_num, rfl, fun _ y' z' k1 k2 => ?_, HHI.out, HS2.out⟩
            rw [show h + 1 - 1 = h by omega] at k1 k2
            rw [HE.out, HY.out] at k1
            rw [HZ.out] at k2
            cases k1
            cases k2
            exact hcf
    · obtain rfl : i = j := by omega
      obtain ⟨en, hen1, hen2⟩ : ∃ en, n ≤ en + i ∧ en + i ≤ n := ⟨n - i, by omega, by omega⟩
      have wen : IntKind.i64.wrap ((n : Int) - (i : Int)) = (en : Int) := wrapS (n := n) (m := i) (i := en) (by omega) (by omega)
      have B1 : Hid (a < i → en < c → ∀ x y, L[i - 1]? = some x → L[en]? = some y → decide (cf y x < 0) = false) := Lib.hid fun k1 k2 x y e1 e2 => by
        have := HLO.out (by omega) y x (by rw [show p - (i - 1) = en by omega]; exact e2) e1
        simpa using this
      have B2 : Hid (i < m → m < en → ∀ x y, L[i]? = some x → L[en - 1]? = some y → decide (cf y x < 0) = true) := Lib.hid fun k1 k2 x y e1 e2 => by
        have := HHI.out (by omega) y x (by rw [show p - i = en - 1 by omega]; exact e2) e1
        simpa using this
      have q1 : a ≤ i := by omega
      have q2 : i ≤ m := by omega
      have q3 : m ≤ en := by omega
      have q4 : en ≤ c := by omega
      have q5 : Hid (mid = i + (en - m)) := Lib.hid (by omega)
      have q6 : mid < c := by omega
      have q7 : a < mid := by omega
      have q8 : c ≤ q + a := by omega
      have HNN : Hid (c ≤ L.length) := Lib.hid (by rw [HN.out]; exact h3)
      have HOO : Hid (Ord fun x y => decide (cf x y < 0)) := Lib.hid HCMP.out.ord
      have HCAP : Hid (N ≤ 1099511627776) := Lib.hid hl
      clear hlt hsi hij hjr HLO HHI hdiv wd wd' wt wp
      go_upto_region 39 with fail
      go_cut [185] from 178 to 185 (fun v wx => ∃ t : Bool, v = .bool t ∧ (t = true ↔ i < m ∧ m < en) ∧ wx = wo)
      case first =>
        by_cases c1 : i < m
        · have c1i : (i : Int) < (m : Int) := by omega
          by_cases c2 : m < en
          · have c2i : (m : Int) < (en : Int) := by omega
            go_wp2_with fail
            go_meet
            exact ⟨_, rfl, by simp [c1, c2], rfl⟩
          · have c2i : ¬ (m : Int) < (en : Int) := by omega
            go_wp2_with fail
            go_meet
            exact ⟨_, rfl, by simp [c1, c2], rfl⟩
        · have c1i : ¬ (i : Int) < (m : Int) := by omega
          go_wp2_with fail
          go_meet
          exact ⟨_, rfl, by simp [c1], rfl⟩
      obtain ⟨tb, rfl, htb, rfl⟩ := hcut
      have HTB := Lib.hid htb
      clear htb
      go_upto_if 185 with (fail)
      go_cut [] from 186 to 191 (fun wx => ∃ L1, Sec1 L L1 i m en mid ∧ St B b W0 L1 wx)
      case first =>
        rcases tb with _ | _
        rotate_left
        · have c0 : i < m ∧ m < en := HTB.out.1 rfl
          have c1 := c0.1
          have c2 := c0.2
          have HR := Lib.hid (rot_any B b W0 hB L cap i m en (.func (.func 25) #[] #[.pointer (some pa)]) c1 c2 (by rw [HN.out]; omega) (by rw [HN.out]; exact HCAP.out) wc HS.out)
          rw [HN.out] at HR
          clear c0 c1 c2
          go_wp2_with (go_at_call 53; (with_reducible refine HR.out.mono ?_); rintro e w9 ⟨rfl, L1, ht1, hs1⟩; have HT1 := Lib.hid ht1; have HS1 := Lib.hid hs1; clear ht1 hs1)
          go_meet
          exact ⟨L1, sec1_turn q2 q3 q5.out HT1.out, HS1.out⟩
        · have HC0 : Hid (¬ (i < m ∧ m < en)) := Lib.hid fun h => by have := HTB.out.2 h; simp at this
          go_wp2_with fail
          go_meet
          exact ⟨L, sec1_same q2 q3 q5.out HC0.out, HS.out⟩
      case rest =>
        obtain ⟨L1, hsec, hs1⟩ := hcut
        obtain ⟨w1, rfl⟩ : ∃ w1 : World, w1 = wc := ⟨_, rfl⟩
        have HSEC := Lib.hid hsec
        have HS1 := Lib.hid hs1
        have HL1 : Hid (L1.length = N) := Lib.hid (hsec.len.trans HN.out)
        clear hsec hs1
        go_upto_region 41 with fail
        go_cut [199] from 192 to 199 (fun v wx => ∃ t : Bool, v = .bool t ∧ (t = true ↔ a < i ∧ i < mid) ∧ wx = w1)
        case first =>
          by_cases c1 : a < i
          · have c1i : (a : Int) < (i : Int) := by omega
            by_cases c2 : i < mid
            · have c2i : (i : Int) < (mid : Int) := by omega
              go_wp2_with fail
              go_meet
              exact ⟨_, rfl, by simp [c1, c2], rfl⟩
            · have c2i : ¬ (i : Int) < (mid : Int) := by omega
              go_wp2_with fail
              go_meet
              exact ⟨_, rfl, by simp [c1, c2], rfl⟩
          · have c1i : ¬ (a : Int) < (i : Int) := by omega
            go_wp2_with fail
            go_meet
            exact ⟨_, rfl, by simp [c1], rfl⟩
        obtain ⟨tb, rfl, htb, rfl⟩ := hcut
        have HTB := Lib.hid htb
        clear htb
        go_upto_if 199 with (fail)
        go_cut [] from 200 to 205 (fun wx => ∃ L2, On (fun x y => decide (cf x y < 0)) a mid L1 L2 ∧ St B b W0 L2 wx)
        case first =>
          rcases tb with _ | _
          rotate_left
          · have c0 : a < i ∧ i < mid := HTB.out.1 rfl
            have HG := Lib.hid (sec1_two HSEC.out q1 q2 q3 q4 HU.out HV.out)
            have HR := Lib.hid (HIH.out L1 a i mid wc HL1.out (by omega) c0.1 c0.2 (by omega) HG.out.1 HG.out.2 HS1.out)
            clear c0
            go_wp2_with (go_at_call 45; (with_reducible refine HR.out.mono ?_); rintro e w9 ⟨rfl, L2, ht1, hs2⟩; have HT1 := Lib.hid ht1; have HS2 := Lib.hid hs2; clear ht1 hs2)
            go_meet
            exact ⟨L2, HT1.out, HS2.out⟩
          · have HC0 : Hid (¬ (a < i ∧ i < mid)) := Lib.hid fun h => by have := HTB.out.2 h; simp at this
            go_wp2_with fail
            go_meet
            exact ⟨L1, two_same HSEC.out q5.out q1 q2 q3 q4 HU.out HV.out HC0.out, HS1.out⟩
        case rest =>
          obtain ⟨L2, hon2, hs2⟩ := hcut
          obtain ⟨w2, rfl⟩ : ∃ w2 : World, w2 = wc := ⟨_, rfl⟩
          have HON2 := Lib.hid hon2
          have HS2 := Lib.hid hs2
          have HL2 : Hid (L2.length = N) := Lib.hid (hon2.len.trans HL1.out)
          clear hon2 hs2
          have FIN : Hid (∀ L3, On (fun x y => decide (cf x y < 0)) mid c L2 L3 → On (fun x y => decide (cf x y < 0)) a c L L3) := Lib.hid fun L3 h =>
            sec1_all HOO.out HSEC.out q1 q2 q3 q4 HNN.out q5.out HU.out HV.out B1.out B2.out HON2.out h
          by_cases c1 : mid < en
          · have c1i : (mid : Int) < (en : Int) := by omega
            by_cases c2 : en < c
            · have c2i : (en : Int) < (c : Int) := by omega
              have HG := Lib.hid (sec1_three HSEC.out q5.out q1 q2 q3 q4 HU.out HV.out HON2.out)
              have HR := Lib.hid (HIH.out L2 mid en c w2 HL2.out (by omega) c1 c2 h3 HG.out.1 HG.out.2 HS2.out)
              go_wp2_with (go_at_call 45; (with_reducible refine HR.out.mono ?_); rintro e w9 ⟨rfl, L3, ht1, hs3⟩; have HT1 := Lib.hid ht1; have HS3 := Lib.hid hs3; clear ht1 hs3)
              go_end0
              exact ⟨rfl, L3, FIN.out _ HT1.out, HS3.out⟩
            · have c2i : ¬ (en : Int) < (c : Int) := by omega
              go_wp2_with fail
              go_end0
              exact ⟨rfl, L2, FIN.out _ (three_same HSEC.out q5.out q1 q2 q3 q4 HU.out HV.out HON2.out (fun h => c2 h.2)), HS2.out⟩
          · have c1i : ¬ (mid : Int) < (en : Int) := by omega
            go_wp2_with fail
            go_end0
            exact ⟨rfl, L2, FIN.out _ (three_same HSEC.out q5.out q1 q2 q3 q4 HU.out HV.out HON2.out (fun h => c1 h.1)), HS2.out⟩
end Go.Proofs.YtdhkndoglcnllaaDoor.Stab
