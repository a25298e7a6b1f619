/- Sm3, Sm3e, StaE, CmpE, SortE: laid into one text. -/
import Derived.Test.YtibabpahpiijgaaGreatDoorSm1
import Derived.Test.YtibabpahpiijgaaGreatDoorSm2
import Derived.Test.YtibabpahpiijgaaGreatDoorGRow
import Derived.Deep.DeepCutAuto
import Derived.Test.YtibabpahpiijgaaGreatDoorEnt
import Derived.Deep.RegionHeld3
import Derived.Test.YtibabpahpiijgaaGreatDoorClone
import Derived.Test.YtibabpahpiijgaaGreatDoorHeldZ
/- A merge from the middle: under way (the walk up to the search loop). -/
namespace Go.Proofs.YtibabpahpiijgaaGreatDoor.Stab
open Go Go.RowKit
set_option linter.unusedSimpArgs false
set_option linter.unusedVariables false
/-- The merge, where the section is shorter than q. -/
def SymAt (B b : Nat) (W0 : World) (pa : Addr) (cf : EC → EC → Int) (cap N q : Nat) : Prop := ∀ (L : List EC) (a m c : Nat) (W : World), L.length = N → c - a < q → a < m → m < c → c ≤ N →
  Srt (fun x y => decide (cf x y < 0)) (sec L a m) → Srt (fun x y => decide (cf x y < 0)) (sec L m c) → St B b W0 L W →
    Calls Tryz.prog 138 #[.slice (some ⟨b, 0, none⟩) N cap, .int .i64 a, .int .i64 m, .int .i64 c, .func (.func 92) #[] #[.pointer (some pa)]] W fun e w' => e = .returned (.tuple #[]) ∧ ∃ L', On (fun x y => decide (cf x y < 0)) a c L L' ∧ St B b W0 L' w'
theorem symAt_small {B b : Nat} {W0 : World} (hB : B ≤ b) {pa : Addr} {cf : EC → EC → Int} (hcmp : CmpAt B b W0 pa cf) {cap N : Nat} (hl : N ≤ 1099511627776) {L : List EC} {a m c : Nat} {W : World} (hN : L.length = N) (h1 : a < m) (h2 : m < c) (h3 : c ≤ N)
    (hu : Srt (fun x y => decide (cf x y < 0)) (sec L a m)) (hv : Srt (fun x y => decide (cf x y < 0)) (sec L m c)) (hst : St B b W0 L W) (hs : m = a + 1 ∨ c = m + 1) :
    Calls Tryz.prog 138 #[.slice (some ⟨b, 0, none⟩) N cap, .int .i64 a, .int .i64 m, .int .i64 c, .func (.func 92) #[] #[.pointer (some pa)]] W fun e w' => e = .returned (.tuple #[]) ∧ ∃ L', On (fun x y => decide (cf x y < 0)) a c L L' ∧ St B b W0 L' w' := by
  by_cases e : m = a + 1
  · have h := sm1_any B b W0 hB pa cf hcmp L cap a m c e h2 (by omega) (by omega) (by rw [← e]; exact hv) W hst
    rw [hN] at h
    exact h
  · have h := sm2_any B b W0 hB pa cf hcmp L cap a m c (by omega) (by omega) (by omega) (by omega) hu W hst
    rw [hN] at h
    exact h
end Go.Proofs.YtibabpahpiijgaaGreatDoor.Stab
/- A merge from the middle: under way (the walk up to the search loop). -/
namespace Go.Proofs.YtibabpahpiijgaaGreatDoor.Stab
open Go Go.RowKit
set_option linter.unusedSimpArgs false
set_option linter.unusedVariables false
set_option maxRecDepth 100000 in
set_option maxHeartbeats 8000000 in
theorem symAt_step {B b : Nat} {W0 : World} (hB : B ≤ b) {pa : Addr} {cf : EC → EC → Int} (hcmp : CmpAt B b W0 pa cf) {cap N : Nat} (hl : N ≤ 1099511627776) {q : Nat} (ih : SymAt B b W0 pa cf cap N q) : SymAt B b W0 pa cf cap N (q + 1) := by
  intro L a m c W hN hq h1 h2 h3 hu hv hst
  by_cases hs : m = a + 1 ∨ c = m + 1
  · exact symAt_small hB hcmp hl hN h1 h2 h3 hu hv hst hs
  have HST := Lib.hid hst
  have HCMP := Lib.hid hcmp
  have HU := Lib.hid hu
  have HV := Lib.hid hv
  have HIH := Lib.hid ih
  have HN := Lib.hid hN
  obtain ⟨d, hd1, hd2⟩ : ∃ d, m ≤ d + a ∧ d + a ≤ m := ⟨m - a, by omega, by omega⟩
  have wd : IntKind.i64.wrap ((m : Int) - (a : Int)) = (d : Int) := wrapS (n := m) (m := a) (i := d) (by omega) (by omega)
  have hdne : ¬ (d : Int) = 1 := by omega
  have hdb : ((d : Int) == 1) = false := by simpa using hdne
  obtain ⟨d', hd1', hd2'⟩ : ∃ d', c ≤ d' + m ∧ d' + m ≤ c := ⟨c - m, by omega, by omega⟩
  have wd' : IntKind.i64.wrap ((c : Int) - (m : Int)) = (d' : Int) := wrapS (n := c) (m := m) (i := d') (by omega) (by omega)
  have hdne' : ¬ (d' : Int) = 1 := by omega
  have hdb' : ((d' : Int) == 1) = false := by simpa using hdne'
  obtain ⟨t, ht1, ht2⟩ : ∃ t, t ≤ a + c ∧ a + c ≤ t := ⟨a + c, by omega, by omega⟩
  have wt := wrapN (n := a) (m := c) (i := t) (by omega) (by omega)
  obtain ⟨mid, hm1, hm2⟩ : ∃ mid, 2 * mid ≤ t ∧ t ≤ 2 * mid + 1 := ⟨t / 2, by omega, by omega⟩
  have hdiv : (t : Int) / 2 = (mid : Int) := by omega
  obtain ⟨n, hn1, hn2⟩ : ∃ n, n ≤ mid + m ∧ mid + m ≤ n := ⟨mid + m, by omega, by omega⟩
  have wn := wrapN (n := mid) (m := m) (i := n) (by omega) (by omega)
  obtain ⟨p, hp1, hp2⟩ : ∃ p, n ≤ p + 1 ∧ p + 1 ≤ n := ⟨n - 1, by omega, by omega⟩
  have wp : IntKind.i64.wrap ((n : Int) - 1) = (p : Int) := wrapS (n := n) (m := 1) (i := p) (by omega) (by omega)
  clear hst hcmp hu hv ih hN hs
  go_enter Tryz.func138, Tryz.ntmps138
  go_upto_if 140 with (fail)
  go_cut [20, 21] from 138 to 146 (fun sv rv wx => ∃ s0 r0 : Nat, sv = .int .i64 (s0 : Int) ∧ rv = .int .i64 (r0 : Int) ∧ a ≤ s0 ∧ n ≤ s0 + c ∧ (a < s0 → s0 + c ≤ n) ∧ s0 ≤ r0 ∧ r0 ≤ m ∧ r0 ≤ mid ∧ (r0 < m → mid ≤ r0) ∧ wx = W)
  case first =>
    by_cases hmm : mid < m
    · have hmmi : (mid : Int) < (m : Int) := by omega
      obtain ⟨s0, hs1, hs2⟩ : ∃ s0, n ≤ s0 + c ∧ s0 + c ≤ n := ⟨n - c, by omega, by omega⟩
      have ws0 : IntKind.i64.wrap ((n : Int) - (c : Int)) = (s0 : Int) := wrapS (n := n) (m := c) (i := s0) (by omega) (by omega)
      go_wp2_with fail
      go_meet
      exact ⟨s0, mid, rfl, rfl, by omega, by omega, by omega, by omega, by omega, by omega, by omega, rfl⟩
    · have hmmi : ¬ (mid : Int) < (m : Int) := by omega
      go_wp2_with fail
      go_meet
      exact ⟨a, m, rfl, rfl, by omega, by omega, by omega, by omega, by omega, by omega, by omega, rfl⟩
  case rest =>
  obtain ⟨s0, r0, rfl, rfl, z1, z2, z3, z4, z5, z6, z7, rfl⟩ := hcut
  go_upto_region 33 with fail
  go_loopg [20, 21, 23] (r0 - s0) (fun g iv jv hv' wr => ∃ i j : Nat, s0 ≤ i ∧ i ≤ j ∧ j ≤ r0 ∧ g = j - i ∧ iv = .int .i64 (i : Int) ∧ jv = .int .i64 (j : Int) ∧ (s0 < i → ∀ y z, L[p - (i - 1)]? = some y → L[i - 1]? = some z → ¬ cf y z < 0) ∧ (j < r0 → ∀ y z, L[p - j]? = some y → L[j]? = some z → cf y z < 0) ∧ St B b W0 L wr)
  case atStart => exact ⟨s0, r0, Nat.le_refl _, by omega, Nat.le_refl _, rfl, rfl, rfl, fun h => by omega, fun h => by omega, HST.out⟩
  case round =>
    obtain ⟨i, j, hsi, hij, hjr, rfl, rfl, rfl, hlo, hhi, hs⟩ := hrel
    obtain ⟨wo, rfl⟩ : ∃ wo : World, wo = wr := ⟨_, rfl⟩
    have HLO := Lib.hid hlo
    have HHI := Lib.hid hhi
    have HS := Lib.hid hs
    clear hlo hhi hs
    by_cases hlt : i < j
    · have hlti : (i : Int) < (j : Int) := by omega
      obtain ⟨s, hq1, hq2⟩ : ∃ s, s ≤ i + j ∧ i + j ≤ s := ⟨i + j, by omega, by omega⟩
      have wsum := wrapN (n := i) (m := j) (i := s) (by omega) (by omega)
      obtain ⟨h, hh1, hh2⟩ : ∃ h, 2 * h ≤ s ∧ s ≤ 2 * h + 1 := ⟨s / 2, by omega, by omega⟩
      have hdivh : (s : Int) / 2 = (h : Int) := by omega
      obtain ⟨e, he1, he2⟩ : ∃ e, p ≤ e + h ∧ e + h ≤ p := ⟨p - h, by omega, by omega⟩
      have we : IntKind.i64.wrap ((p : Int) - (h : Int)) = (e : Int) := wrapS (n := p) (m := h) (i := e) (by omega) (by omega)
      obtain ⟨y, hy⟩ : ∃ y, L[e]? = some y := ⟨_, List.getElem?_eq_getElem (by have := HN.out; omega)⟩
      obtain ⟨z, hz⟩ : ∃ z, L[h]? = some z := ⟨_, List.getElem?_eq_getElem (by have := HN.out; omega)⟩
      have HY := Lib.hid hy
      have HZ := Lib.hid hz
      have HE : Hid (p - h = e) := Lib.hid (by omega)
      have HCL : Hid (∀ W', Below wo.heap.size wo W' → Calls Tryz.prog 92 #[y.val, z.val, .pointer (some pa)] W' fun e w' => e = .returned (.int .i64 (cf y z)) ∧ Below W'.heap.size W' w') := Lib.hid fun W' hb => HCMP.out.calls L W' y z (HS.out.step hB hb)
      unfold EC.val at HCL
      have HCC : Hid (∀ W', Below wo.heap.size wo W' → (fun W' => W'.cell? ⟨b, e * 5, none⟩ = some (.int .i64 y.kn) ∧ W'.cell? ⟨b, e * 5 + 1, none⟩ = some (.int .i64 y.kd) ∧ W'.cell? ⟨b, e * 5 + 2, none⟩ = some (.int .i64 y.dk) ∧ W'.cell? ⟨b, e * 5 + 3, none⟩ = some (.int .i64 y.dn) ∧ W'.cell? ⟨b, e * 5 + 4, none⟩ = some (.slice y.da y.dm y.dc) ∧ W'.cell? ⟨b, h * 5, none⟩ = some (.int .i64 z.kn) ∧ W'.cell? ⟨b, h * 5 + 1, none⟩ = some (.int .i64 z.kd) ∧ W'.cell? ⟨b, h * 5 + 2, none⟩ = some (.int .i64 z.dk) ∧ W'.cell? ⟨b, h * 5 + 3, none⟩ = some (.int .i64 z.dn) ∧ W'.cell? ⟨b, h * 5 + 4, none⟩ = some (.slice z.da z.dm z.dc)) W') := Lib.hid fun W' hb => by
        obtain ⟨x0, x1, x2, x3, x4⟩ := (HS.out.step hB hb).cell hz
        obtain ⟨y0, y1, y2, y3, y4⟩ := (HS.out.step hB hb).cell hy
        exact ⟨y0, y1, y2, y3, y4, x0, x1, x2, x3, x4⟩
      have hbz := Below.refl wo.heap.size wo
      have hN' : (h : Int) < (N : Int) := by omega
      have eN' : (e : Int) < (N : Int) := by omega
      have h0' : (0 : Int) ≤ (h : Int) := by omega
      have e0' : (0 : Int) ≤ (e : Int) := by omega
      clear hy hz
      by_cases hcf : cf y z < 0
      · have hcb : decide (cf y z < 0) = true := by simpa using hcf
        go_upto_region 35 with fail
        go_region_held3 (fun W' => W'.cell? ⟨b, e * 5, none⟩ = some (.int .i64 y.kn) ∧ W'.cell? ⟨b, e * 5 + 1, none⟩ = some (.int .i64 y.kd) ∧ W'.cell? ⟨b, e * 5 + 2, none⟩ = some (.int .i64 y.dk) ∧ W'.cell? ⟨b, e * 5 + 3, none⟩ = some (.int .i64 y.dn) ∧ W'.cell? ⟨b, e * 5 + 4, none⟩ = some (.slice y.da y.dm y.dc) ∧ W'.cell? ⟨b, h * 5, none⟩ = some (.int .i64 z.kn) ∧ W'.cell? ⟨b, h * 5 + 1, none⟩ = some (.int .i64 z.kd) ∧ W'.cell? ⟨b, h * 5 + 2, none⟩ = some (.int .i64 z.dk) ∧ W'.cell? ⟨b, h * 5 + 3, none⟩ = some (.int .i64 z.dn) ∧ W'.cell? ⟨b, h * 5 + 4, none⟩ = some (.slice z.da z.dm z.dc)) ((refine HCC.out _ ?_; ((repeat' (first | with_reducible assumption | with_reducible refine Below.drew ?_ | (with_reducible refine Below.alloc ?_ ?_ _))) <;> first | assumption | (simp; done) | (simp; omega)))) ((first
          | (go_at_call 92; (with_reducible refine (HCL.out _ (by ((repeat' (first | with_reducible assumption | with_reducible refine Below.drew ?_ | (with_reducible refine Below.alloc ?_ ?_ _))) <;> first | assumption | (simp; done) | (simp; omega)))).mono ?_); rintro e w2 ⟨rfl, hb2⟩; have hb2z : Below wo.heap.size wo w2 := Below.trans (show Below wo.heap.size wo _ by ((repeat' (first | with_reducible assumption | with_reducible refine Below.drew ?_ | (with_reducible refine Below.alloc ?_ ?_ _))) <;> first | assumption | (simp; done) | (simp; omega))) (hb2.mono (Below.size (show Below wo.heap.size wo _ by ((repeat' (first | with_reducible assumption | with_reducible refine Below.drew ?_ | (with_reducible refine Below.alloc ?_ ?_ _))) <;> first | assumption | (simp; done) | (simp; omega))))); clear hb2)))
        all_goals
          have HS2 : Hid (St B b W0 L w2) := Lib.hid (HS.out.step hB (show Below wo.heap.size wo w2 by assumption))
          go_wp2_with fail
          go_roundg (h - i)
          case measure => omega
          case rel =>
            refine ⟨i, h, hsi, by omega, by omega, rfl, rfl, rfl, HLO.out, fun _ y' z' k1 k2 => ?_, HS2.out⟩
            rw [HE.out, HY.out] at k1
            rw [HZ.out] at k2
            cases k1
            cases k2
            exact hcf
      · have hcb : decide (cf y z < 0) = false := by simpa using hcf
        go_upto_region 35 with fail
        go_region_held3 (fun W' => W'.cell? ⟨b, e * 5, none⟩ = some (.int .i64 y.kn) ∧ W'.cell? ⟨b, e * 5 + 1, none⟩ = some (.int .i64 y.kd) ∧ W'.cell? ⟨b, e * 5 + 2, none⟩ = some (.int .i64 y.dk) ∧ W'.cell? ⟨b, e * 5 + 3, none⟩ = some (.int .i64 y.dn) ∧ W'.cell? ⟨b, e * 5 + 4, none⟩ = some (.slice y.da y.dm y.dc) ∧ W'.cell? ⟨b, h * 5, none⟩ = some (.int .i64 z.kn) ∧ W'.cell? ⟨b, h * 5 + 1, none⟩ = some (.int .i64 z.kd) ∧ W'.cell? ⟨b, h * 5 + 2, none⟩ = some (.int .i64 z.dk) ∧ W'.cell? ⟨b, h * 5 + 3, none⟩ = some (.int .i64 z.dn) ∧ W'.cell? ⟨b, h * 5 + 4, none⟩ = some (.slice z.da z.dm z.dc)) ((refine HCC.out _ ?_; ((repeat' (first | with_reducible assumption | with_reducible refine Below.drew ?_ | (with_reducible refine Below.alloc ?_ ?_ _))) <;> first | assumption | (simp; done) | (simp; omega)))) ((first
          | (go_at_call 92; (with_reducible refine (HCL.out _ (by ((repeat' (first | with_reducible assumption | with_reducible refine Below.drew ?_ | (with_reducible refine Below.alloc ?_ ?_ _))) <;> first | assumption | (simp; done) | (simp; omega)))).mono ?_); rintro e w2 ⟨rfl, hb2⟩; have hb2z : Below wo.heap.size wo w2 := Below.trans (show Below wo.heap.size wo _ by ((repeat' (first | with_reducible assumption | with_reducible refine Below.drew ?_ | (with_reducible refine Below.alloc ?_ ?_ _))) <;> first | assumption | (simp; done) | (simp; omega))) (hb2.mono (Below.size (show Below wo.heap.size wo _ by ((repeat' (first | with_reducible assumption | with_reducible refine Below.drew ?_ | (with_reducible refine Below.alloc ?_ ?_ _))) <;> first | assumption | (simp; done) | (simp; omega))))); clear hb2)))
        all_goals
          have HS2 : Hid (St B b W0 L w2) := Lib.hid (HS.out.step hB (show Below wo.heap.size wo w2 by assumption))
          go_wp2_with fail
          go_roundg (j - (h + 1))
          case measure => omega
          case rel =>
            refine ⟨h + 1, j, by omega, by omega, hjr, rfl, by go_num, rfl, fun _ y' z' k1 k2 => ?_, HHI.out, HS2.out⟩
            rw [show h + 1 - 1 = h by omega] at k1 k2
            rw [HE.out, HY.out] at k1
            rw [HZ.out] at k2
            cases k1
            cases k2
            exact hcf
    · obtain rfl : i = j := by omega
      obtain ⟨en, hen1, hen2⟩ : ∃ en, n ≤ en + i ∧ en + i ≤ n := ⟨n - i, by omega, by omega⟩
      have wen : IntKind.i64.wrap ((n : Int) - (i : Int)) = (en : Int) := wrapS (n := n) (m := i) (i := en) (by omega) (by omega)
      have B1 : Hid (a < i → en < c → ∀ x y, L[i - 1]? = some x → L[en]? = some y → decide (cf y x < 0) = false) := Lib.hid fun k1 k2 x y e1 e2 => by
        have := HLO.out (by omega) y x (by rw [show p - (i - 1) = en by omega]; exact e2) e1
        simpa using this
      have B2 : Hid (i < m → m < en → ∀ x y, L[i]? = some x → L[en - 1]? = some y → decide (cf y x < 0) = true) := Lib.hid fun k1 k2 x y e1 e2 => by
        have := HHI.out (by omega) y x (by rw [show p - i = en - 1 by omega]; exact e2) e1
        simpa using this
      have q1 : a ≤ i := by omega
      have q2 : i ≤ m := by omega
      have q3 : m ≤ en := by omega
      have q4 : en ≤ c := by omega
      have q5 : Hid (mid = i + (en - m)) := Lib.hid (by omega)
      have q6 : mid < c := by omega
      have q7 : a < mid := by omega
      have q8 : c ≤ q + a := by omega
      have HNN : Hid (c ≤ L.length) := Lib.hid (by rw [HN.out]; exact h3)
      have HOO : Hid (Ord fun x y => decide (cf x y < 0)) := Lib.hid HCMP.out.ord
      have HCAP : Hid (N ≤ 1099511627776) := Lib.hid hl
      clear hlt hsi hij hjr HLO HHI hdiv wd wd' wt wp
      go_upto_region 39 with fail
      go_cut [185] from 178 to 185 (fun v wx => ∃ t : Bool, v = .bool t ∧ (t = true ↔ i < m ∧ m < en) ∧ wx = wo)
      case first =>
        by_cases c1 : i < m
        · have c1i : (i : Int) < (m : Int) := by omega
          by_cases c2 : m < en
          · have c2i : (m : Int) < (en : Int) := by omega
            go_wp2_with fail
            go_meet
            exact ⟨_, rfl, by simp [c1, c2], rfl⟩
          · have c2i : ¬ (m : Int) < (en : Int) := by omega
            go_wp2_with fail
            go_meet
            exact ⟨_, rfl, by simp [c1, c2], rfl⟩
        · have c1i : ¬ (i : Int) < (m : Int) := by omega
          go_wp2_with fail
          go_meet
          exact ⟨_, rfl, by simp [c1], rfl⟩
      obtain ⟨tb, rfl, htb, rfl⟩ := hcut
      have HTB := Lib.hid htb
      clear htb
      go_upto_if 185 with (fail)
      go_cut [] from 186 to 191 (fun wx => ∃ L1, Sec1 L L1 i m en mid ∧ St B b W0 L1 wx)
      case first =>
        rcases tb with _ | _
        rotate_left
        · have c0 : i < m ∧ m < en := HTB.out.1 rfl
          have c1 := c0.1
          have c2 := c0.2
          have HR := Lib.hid (rot_any B b W0 hB L cap i m en (.func (.func 92) #[] #[.pointer (some pa)]) c1 c2 (by rw [HN.out]; omega) (by rw [HN.out]; exact HCAP.out) wc HS.out)
          rw [HN.out] at HR
          clear c0 c1 c2
          go_wp2_with (go_at_call 153; (with_reducible refine HR.out.mono ?_); rintro e w9 ⟨rfl, L1, ht1, hs1⟩; have HT1 := Lib.hid ht1; have HS1 := Lib.hid hs1; clear ht1 hs1)
          go_meet
          exact ⟨L1, sec1_turn q2 q3 q5.out HT1.out, HS1.out⟩
        · have HC0 : Hid (¬ (i < m ∧ m < en)) := Lib.hid fun h => by have := HTB.out.2 h; simp at this
          go_wp2_with fail
          go_meet
          exact ⟨L, sec1_same q2 q3 q5.out HC0.out, HS.out⟩
      case rest =>
        obtain ⟨L1, hsec, hs1⟩ := hcut
        obtain ⟨w1, rfl⟩ : ∃ w1 : World, w1 = wc := ⟨_, rfl⟩
        have HSEC := Lib.hid hsec
        have HS1 := Lib.hid hs1
        have HL1 : Hid (L1.length = N) := Lib.hid (hsec.len.trans HN.out)
        clear hsec hs1
        go_upto_region 41 with fail
        go_cut [199] from 192 to 199 (fun v wx => ∃ t : Bool, v = .bool t ∧ (t = true ↔ a < i ∧ i < mid) ∧ wx = w1)
        case first =>
          by_cases c1 : a < i
          · have c1i : (a : Int) < (i : Int) := by omega
            by_cases c2 : i < mid
            · have c2i : (i : Int) < (mid : Int) := by omega
              go_wp2_with fail
              go_meet
              exact ⟨_, rfl, by simp [c1, c2], rfl⟩
            · have c2i : ¬ (i : Int) < (mid : Int) := by omega
              go_wp2_with fail
              go_meet
              exact ⟨_, rfl, by simp [c1, c2], rfl⟩
          · have c1i : ¬ (a : Int) < (i : Int) := by omega
            go_wp2_with fail
            go_meet
            exact ⟨_, rfl, by simp [c1], rfl⟩
        obtain ⟨tb, rfl, htb, rfl⟩ := hcut
        have HTB := Lib.hid htb
        clear htb
        go_upto_if 199 with (fail)
        go_cut [] from 200 to 205 (fun wx => ∃ L2, On (fun x y => decide (cf x y < 0)) a mid L1 L2 ∧ St B b W0 L2 wx)
        case first =>
          rcases tb with _ | _
          rotate_left
          · have c0 : a < i ∧ i < mid := HTB.out.1 rfl
            have HG := Lib.hid (sec1_two HSEC.out q1 q2 q3 q4 HU.out HV.out)
            have HR := Lib.hid (HIH.out L1 a i mid wc HL1.out (by omega) c0.1 c0.2 (by omega) HG.out.1 HG.out.2 HS1.out)
            clear c0
            go_wp2_with (go_at_call 138; (with_reducible refine HR.out.mono ?_); rintro e w9 ⟨rfl, L2, ht1, hs2⟩; have HT1 := Lib.hid ht1; have HS2 := Lib.hid hs2; clear ht1 hs2)
            go_meet
            exact ⟨L2, HT1.out, HS2.out⟩
          · have HC0 : Hid (¬ (a < i ∧ i < mid)) := Lib.hid fun h => by have := HTB.out.2 h; simp at this
            go_wp2_with fail
            go_meet
            exact ⟨L1, two_same HSEC.out q5.out q1 q2 q3 q4 HU.out HV.out HC0.out, HS1.out⟩
        case rest =>
          obtain ⟨L2, hon2, hs2⟩ := hcut
          obtain ⟨w2, rfl⟩ : ∃ w2 : World, w2 = wc := ⟨_, rfl⟩
          have HON2 := Lib.hid hon2
          have HS2 := Lib.hid hs2
          have HL2 : Hid (L2.length = N) := Lib.hid (hon2.len.trans HL1.out)
          clear hon2 hs2
          have FIN : Hid (∀ L3, On (fun x y => decide (cf x y < 0)) mid c L2 L3 → On (fun x y => decide (cf x y < 0)) a c L L3) := Lib.hid fun L3 h =>
            sec1_all HOO.out HSEC.out q1 q2 q3 q4 HNN.out q5.out HU.out HV.out B1.out B2.out HON2.out h
          by_cases c1 : mid < en
          · have c1i : (mid : Int) < (en : Int) := by omega
            by_cases c2 : en < c
            · have c2i : (en : Int) < (c : Int) := by omega
              have HG := Lib.hid (sec1_three HSEC.out q5.out q1 q2 q3 q4 HU.out HV.out HON2.out)
              have HR := Lib.hid (HIH.out L2 mid en c w2 HL2.out (by omega) c1 c2 h3 HG.out.1 HG.out.2 HS2.out)
              go_wp2_with (go_at_call 138; (with_reducible refine HR.out.mono ?_); rintro e w9 ⟨rfl, L3, ht1, hs3⟩; have HT1 := Lib.hid ht1; have HS3 := Lib.hid hs3; clear ht1 hs3)
              go_end0
              exact ⟨rfl, L3, FIN.out _ HT1.out, HS3.out⟩
            · have c2i : ¬ (en : Int) < (c : Int) := by omega
              go_wp2_with fail
              go_end0
              exact ⟨rfl, L2, FIN.out _ (three_same HSEC.out q5.out q1 q2 q3 q4 HU.out HV.out HON2.out (fun h => c2 h.2)), HS2.out⟩
          · have c1i : ¬ (mid : Int) < (en : Int) := by omega
            go_wp2_with fail
            go_end0
            exact ⟨rfl, L2, FIN.out _ (three_same HSEC.out q5.out q1 q2 q3 q4 HU.out HV.out HON2.out (fun h => c1 h.1)), HS2.out⟩
end Go.Proofs.YtibabpahpiijgaaGreatDoor.Stab
/- slices.SortStableFunc at entries. -/
namespace Go.Proofs.YtibabpahpiijgaaGreatDoor.Stab
open Go Go.RowKit
set_option linter.unusedSimpArgs false
set_option linter.unusedVariables false
theorem symAt_all {B b : Nat} {W0 : World} (hB : B ≤ b) {pa : Addr} {cf : EC → EC → Int} (hcmp : CmpAt B b W0 pa cf) {cap N : Nat} (hl : N ≤ 1099511627776) : ∀ q, SymAt B b W0 pa cf cap N q
  | 0 => fun L a m c W hN hq => by omega
  | q + 1 => symAt_step hB hcmp hl (symAt_all hB hcmp hl q)
theorem srt_past {α : Type} {lt : α → α → Bool} {l : List α} {a b c : Nat} (h : Srt lt (sec l a b)) (hb : l.length ≤ b) (hc : l.length ≤ c) : Srt lt (sec l a c) := by
  rw [sec_past _ hb] at h
  rw [sec_past _ hc]
  exact h
set_option maxRecDepth 100000 in
set_option maxHeartbeats 4000000 in
theorem stab_any {B b : Nat} {W0 : World} (hB : B ≤ b) {pa : Addr} {cf : EC → EC → Int} (hcmp : CmpAt B b W0 pa cf) {cap N : Nat} (hl : N ≤ 1099511627776) (L : List EC) (hN : L.length = N) (W : World) (hst : St B b W0 L W) :
    Calls Tryz.prog 112 #[.slice (some ⟨b, 0, none⟩) N cap, .int .i64 N, .func (.func 92) #[] #[.pointer (some pa)]] W fun e w' => e = .returned (.tuple #[]) ∧ ∃ L', Srt (fun x y => decide (cf x y < 0)) L' ∧ Same (fun x y => decide (cf x y < 0)) L L' ∧ L'.length = N ∧ St B b W0 L' w' := by
  have HST := Lib.hid hst
  have HOO : Hid (Ord fun x y => decide (cf x y < 0)) := Lib.hid hcmp.ord
  have HINS : Hid (∀ (L' : List EC) (a c : Nat) (W' : World), L'.length = N → a ≤ c → c ≤ N → St B b W0 L' W' → Calls Tryz.prog 137 #[.slice (some ⟨b, 0, none⟩) N cap, .int .i64 a, .int .i64 c, .func (.func 92) #[] #[.pointer (some pa)]] W' fun e w' => e = .returned (.tuple #[]) ∧ ∃ L'', On (fun x y => decide (cf x y < 0)) a c L' L'' ∧ St B b W0 L'' w') := Lib.hid fun L' a c W' h1 h2 h3 h4 => by
    have h := ins_any B b W0 hB pa cf hcmp L' cap a c h2 (by omega) (by omega) W' h4
    rw [h1] at h
    exact h
  have HSYM : Hid (∀ (L' : List EC) (a m c : Nat) (W' : World), L'.length = N → a < m → m < c → c ≤ N → Srt (fun x y => decide (cf x y < 0)) (sec L' a m) → Srt (fun x y => decide (cf x y < 0)) (sec L' m c) → St B b W0 L' W' →
      Calls Tryz.prog 138 #[.slice (some ⟨b, 0, none⟩) N cap, .int .i64 a, .int .i64 m, .int .i64 c, .func (.func 92) #[] #[.pointer (some pa)]] W' fun e w' => e = .returned (.tuple #[]) ∧ ∃ L'', On (fun x y => decide (cf x y < 0)) a c L' L'' ∧ St B b W0 L'' w') := Lib.hid fun L' a m c W' h1 h2 h3 h4 h5 h6 h7 =>
    symAt_all hB hcmp hl (N + 1) L' a m c W' h1 (by omega) h2 h3 h4 h5 h6 h7
  have HN := Lib.hid hN
  clear hst hcmp hN
  go_enter Tryz.func112, Tryz.ntmps112
  go_upto_region 2 with fail
  go_loopg [7, 8] (N + 1) (fun g av bv wr => ∃ q : Nat, ∃ L' : List EC, g = N + 1 - q ∧ q * 20 ≤ N ∧ av = .int .i64 ((q * 20 : Nat) : Int) ∧ bv = .int .i64 ((q * 20 + 20 : Nat) : Int) ∧ L'.length = N ∧ Upto (fun x y => decide (cf x y < 0)) 20 q L' ∧ Same (fun x y => decide (cf x y < 0)) L L' ∧ St B b W0 L' wr)
  case atStart => exact ⟨0, L, rfl, by omega, rfl, rfl, HN.out, fun k hk => by omega, Same.refl _, HST.out⟩
  case round =>
    obtain ⟨q, L', rfl, hqn, rfl, rfl, hlen, hup, hsm, hs⟩ := hrel
    obtain ⟨wo, rfl⟩ : ∃ wo : World, wo = wr := ⟨_, rfl⟩
    have HLEN := Lib.hid hlen
    have HUP := Lib.hid hup
    have HSM := Lib.hid hsm
    have HS := Lib.hid hs
    clear hlen hup hsm hs
    obtain ⟨a, ha1, ha2⟩ : ∃ a, a ≤ q * 20 ∧ q * 20 ≤ a := ⟨q * 20, by omega, by omega⟩
    have HA : Hid (q * 20 = a) := Lib.hid (by omega)
    obtain ⟨e, he1, he2⟩ : ∃ e, e ≤ a + 20 ∧ a + 20 ≤ e := ⟨a + 20, by omega, by omega⟩
    have HE : Hid (a + 20 = e) := Lib.hid (by omega)
    rw [HA.out, HE.out]
    by_cases hle : e ≤ N
    · have hlei : (e : Int) ≤ (N : Int) := by omega
      have HC := Lib.hid (HINS.out L' a e wo HLEN.out (by omega) hle HS.out)
      obtain ⟨e2, hf1, hf2⟩ : ∃ e2, e2 ≤ e + 20 ∧ e + 20 ≤ e2 := ⟨e + 20, by omega, by omega⟩
      have we2 : IntKind.i64.wrap ((e : Int) + 20) = (e2 : Int) := wrapN (n := e) (m := 20) (i := e2) (by omega) (by omega)
      go_wp2_with (go_at_call 137; (with_reducible refine HC.out.mono ?_); rintro e w9 ⟨rfl, L1, ht1, hs1⟩; have HT1 := Lib.hid ht1; have HS1 := Lib.hid hs1; clear ht1 hs1)
      go_roundg (N + 1 - (q + 1))
      case measure => omega
      case rel =>
        have hup' : Upto (fun x y => decide (cf x y < 0)) 20 (q + 1) L1 := upto_step HUP.out (by rw [HA.out, HE.out]; exact HT1.out)
        exact ⟨q + 1, L1, rfl, by omega, by rw [show (q + 1) * 20 = e by omega], by rw [show (q + 1) * 20 + 20 = e2 by omega], by rw [HT1.out.len, HLEN.out], hup', HSM.out.trans (HT1.out.all (by omega)), HS1.out⟩
    · have hlei : ¬ (e : Int) ≤ (N : Int) := by omega
      have HC := Lib.hid (HINS.out L' a N wo HLEN.out (by omega) (Nat.le_refl N) HS.out)
      go_upto_region 7 with (go_at_call 137; (with_reducible refine HC.out.mono ?_); rintro e w9 ⟨rfl, L1, ht1, hs1⟩; have HT1 := Lib.hid ht1; have HS1 := Lib.hid hs1; clear ht1 hs1)
      have HR0 : Hid (Runs (fun x y => decide (cf x y < 0)) 20 L1) := Lib.hid (upto_end HUP.out HLEN.out (by omega) (by rw [HA.out]; exact HT1.out))
      have HSM1 := Lib.hid (HSM.out.trans (HT1.out.all (by omega)))
      have HL1 : Hid (L1.length = N) := Lib.hid (HT1.out.len.trans HLEN.out)
      clear HC HUP HSM HS HLEN
      go_loopg [6] (N + 1) (fun g sv wr => ∃ s : Nat, ∃ L' : List EC, 20 ≤ s ∧ g = N + 21 - s ∧ s ≤ 2 * N + 20 ∧ sv = .int .i64 (s : Int) ∧ L'.length = N ∧ Runs (fun x y => decide (cf x y < 0)) s L' ∧ Same (fun x y => decide (cf x y < 0)) L L' ∧ St B b W0 L' wr)
      case atStart => exact ⟨20, L1, by omega, by omega, by omega, rfl, HL1.out, HR0.out, HSM1.out, HS1.out⟩
      case round =>
        obtain ⟨s, L2, hs20, rfl, hsN, rfl, hlen, hrun, hsm, hs⟩ := hrel
        obtain ⟨wo2, rfl⟩ : ∃ wo2 : World, wo2 = wr := ⟨_, rfl⟩
        have HLEN := Lib.hid hlen
        have HRUN := Lib.hid hrun
        have HSM := Lib.hid hsm
        have HS := Lib.hid hs
        clear hlen hrun hsm hs
        by_cases hlt : s < N
        · have hlti : (s : Int) < (N : Int) := by omega
          obtain ⟨s2, hk1, hk2⟩ : ∃ s2, s2 ≤ 2 * s ∧ 2 * s ≤ s2 := ⟨2 * s, by omega, by omega⟩
          have ws2 : IntKind.i64.wrap (2 * (s : Int)) = (s2 : Int) := by
            rw [show (2 : Int) * (s : Int) = ((s : Nat) : Int) + ((s : Nat) : Int) by omega]
            exact wrapN (by omega) (by omega)
          have ws3 : IntKind.i64.wrap ((s : Int) * 2) = (s2 : Int) := by rw [Int.mul_comm]; exact ws2
          have HK : Hid (2 * s = s2) := Lib.hid (by omega)
          go_upto_region 9 with fail
          go_loopg [7, 8] (N + 1) (fun g av bv wr => ∃ (q : Nat) (a e : Nat), ∃ L' : List EC, g = N + 1 - q ∧ q ≤ a ∧ q * s2 = a ∧ a + s2 = e ∧ a ≤ N ∧ av = .int .i64 (a : Int) ∧ bv = .int .i64 (e : Int) ∧ L'.length = N ∧ Pass (fun x y => decide (cf x y < 0)) s q L' ∧ Same (fun x y => decide (cf x y < 0)) L L' ∧ St B b W0 L' wr)
          case atStart => exact ⟨0, 0, s2, L2, rfl, by omega, by omega, by omega, by omega, rfl, rfl, HLEN.out, pass_start HRUN.out, HSM.out, HS.out⟩
          case round =>
            obtain ⟨q, a, e, L3, rfl, hqa, hqs, hae, haN, rfl, rfl, hlen, hpass, hsm, hs⟩ := hrel
            obtain ⟨wo3, rfl⟩ : ∃ wo3 : World, wo3 = wr := ⟨_, rfl⟩
            have HQS : Hid (q * (2 * s) = a) := Lib.hid (by rw [HK.out]; exact hqs)
            have hae1 : e ≤ a + s2 := by omega
            have hae2 : a + s2 ≤ e := by omega
            have HLEN := Lib.hid hlen
            have HPASS := Lib.hid hpass
            have HSM := Lib.hid hsm
            have HS := Lib.hid hs
            clear hlen hpass hsm hs hqs hae
            obtain ⟨m, hm1, hm2⟩ : ∃ m, m ≤ a + s ∧ a + s ≤ m := ⟨a + s, by omega, by omega⟩
            have wm : IntKind.i64.wrap ((a : Int) + (s : Int)) = (m : Int) := wrapN (n := a) (m := s) (i := m) (by omega) (by omega)
            have HT : Hid (Srt (fun x y => decide (cf x y < 0)) (sec L3 a m) ∧ Srt (fun x y => decide (cf x y < 0)) (sec L3 m e)) := Lib.hid (by
              have h := pass_two HPASS.out
              rw [HQS.out, show a + s = m by omega, show a + 2 * s = e by omega] at h
              exact h)
            by_cases hle : e ≤ N
            · have hlei : (e : Int) ≤ (N : Int) := by omega
              have HC := Lib.hid (HSYM.out L3 a m e wo3 HLEN.out (by omega) (by omega) hle HT.out.1 HT.out.2 HS.out)
              obtain ⟨e2, hf1, hf2⟩ : ∃ e2, e2 ≤ e + s2 ∧ e + s2 ≤ e2 := ⟨e + s2, by omega, by omega⟩
              have we2 : IntKind.i64.wrap ((e : Int) + (s2 : Int)) = (e2 : Int) := wrapN (n := e) (m := s2) (i := e2) (by omega) (by omega)
              go_wp2_with (go_at_call 138; (with_reducible refine HC.out.mono ?_); rintro e' w9 ⟨rfl, L4, ht1, hs1⟩; have HT1 := Lib.hid ht1; have HS1 := Lib.hid hs1; clear ht1 hs1)
              go_roundg (N + 1 - (q + 1))
              case measure => omega
              case rel =>
                have hqs2 : (q + 1) * s2 = e := by
                  have h := HQS.out
                  rw [HK.out] at h
                  rw [Nat.add_mul, h]
                  omega
                exact ⟨q + 1, e, e2, L4, rfl, by omega, hqs2, by omega, hle, rfl, rfl, by rw [HT1.out.len, HLEN.out], pass_step HPASS.out (by rw [HQS.out, show a + 2 * s = e by omega]; exact HT1.out), HSM.out.trans (HT1.out.all (by omega)), HS1.out⟩
            · have hlei : ¬ (e : Int) ≤ (N : Int) := by omega
              by_cases hmn : m < N
              · have hmni : (m : Int) < (N : Int) := by omega
                have HC := Lib.hid (HSYM.out L3 a m N wo3 HLEN.out (by omega) hmn (Nat.le_refl N) HT.out.1 (srt_past HT.out.2 (by rw [HLEN.out]; omega) (by rw [HLEN.out]; omega)) HS.out)
                go_wp2_with (go_at_call 138; (with_reducible refine HC.out.mono ?_); rintro e' w9 ⟨rfl, L4, ht1, hs1⟩; have HT1 := Lib.hid ht1; have HS1 := Lib.hid hs1; clear ht1 hs1)
                go_roundg (N + 21 - s2)
                case measure => omega
                case rel =>
                  exact ⟨s2, L4, by omega, rfl, by omega, rfl, by rw [HT1.out.len, HLEN.out], by rw [← HK.out]; exact pass_end HPASS.out HLEN.out (by rw [HQS.out]; omega) (by rw [HQS.out]; exact HT1.out), HSM.out.trans (HT1.out.all (by omega)), HS1.out⟩
              · have hmni : ¬ (m : Int) < (N : Int) := by omega
                go_wp2_with fail
                go_roundg (N + 21 - s2)
                case measure => omega
                case rel =>
                  exact ⟨s2, L3, by omega, rfl, by omega, rfl, HLEN.out, by rw [← HK.out]; exact pass_end HPASS.out HLEN.out (by rw [HQS.out]; omega) (On.refl (pass_end' HPASS.out HLEN.out (by rw [HQS.out]; omega))), HSM.out, HS.out⟩
        · have hlti : ¬ (s : Int) < (N : Int) := by omega
          go_wp2_with fail
          go_end0
          exact ⟨rfl, L2, runs_all HRUN.out (by rw [HLEN.out]; omega), HSM.out, HLEN.out, HS.out⟩
set_option maxRecDepth 100000 in
set_option maxHeartbeats 4000000 in
/-- The whole: sorted, what is equal in its order. -/
theorem ssf_any {B b : Nat} {W0 : World} (hB : B ≤ b) {pa : Addr} {cf : EC → EC → Int} (hcmp : CmpAt B b W0 pa cf) {cap N : Nat} (hl : N ≤ 1099511627776) (L : List EC) (hN : L.length = N) (W : World) (hst : St B b W0 L W) :
    Calls Tryz.prog 91 #[.slice (some ⟨b, 0, none⟩) N cap, .func (.func 92) #[] #[.pointer (some pa)]] W fun e w' => e = .returned (.tuple #[]) ∧ ∃ L', Srt (fun x y => decide (cf x y < 0)) L' ∧ Same (fun x y => decide (cf x y < 0)) L L' ∧ L'.length = N ∧ St B b W0 L' w' := by
  have HC := Lib.hid (stab_any hB hcmp (cap := cap) hl L hN W hst)
  clear hcmp hst hN
  go_enter Tryz.func91, Tryz.ntmps91
  go_wp2_with (go_at_call 112; (with_reducible refine HC.out.mono ?_); rintro e' w9 ⟨rfl, hx⟩; have HX := Lib.hid hx; clear hx)
  go_end0
  exact ⟨rfl, HX.out⟩
end Go.Proofs.YtibabpahpiijgaaGreatDoor.Stab
/- entry.Cmp: keys held against each other; the closure that entries are sorted by. -/
namespace Go.Proofs.YtibabpahpiijgaaGreatDoor.Stab
open Go Go.RowKit
set_option linter.unusedSimpArgs false
set_option linter.unusedVariables false
set_option maxHeartbeats 1000000 in
theorem nanE (x : Int) (w : World) : Calls Tryz.prog 67 #[.int .i64 x] w fun e w' => e = .returned (.bool false) ∧ w = w' := by
  have hx : (x != x) = false := by simp
  go_enter Tryz.func67, Tryz.ntmps67
  go_wp2_with fail
  go_ret
  exact ⟨by simp, rfl⟩
set_option maxHeartbeats 1000000 in
theorem compareE (x y : Int) (w : World) : Calls Tryz.prog 39 #[.int .i64 x, .int .i64 y] w fun e w' => e = .returned (.int .i64 (c3 x y)) ∧ w = w' := by
  rcases c3_ways x y with ⟨h, hc⟩ | ⟨h, hc⟩ | ⟨h, hc⟩
  · have HC := Lib.hid hc
    clear hc
    go_enter Tryz.func39, Tryz.ntmps39
    go_wp2_with (go_at_call 67; (with_reducible refine (nanE _ _).mono ?_); rintro e w' ⟨rfl, rfl⟩)
    go_ret
    exact ⟨by rw [HC.out]; rfl, rfl⟩
  · have HC := Lib.hid hc
    clear hc
    have h2 : ¬ x < y := by omega
    go_enter Tryz.func39, Tryz.ntmps39
    go_wp2_with (go_at_call 67; (with_reducible refine (nanE _ _).mono ?_); rintro e w' ⟨rfl, rfl⟩)
    go_ret
    exact ⟨by rw [HC.out]; rfl, rfl⟩
  · subst h
    have HC := Lib.hid hc
    clear hc
    go_enter Tryz.func39, Tryz.ntmps39
    go_wp2_with (go_at_call 67; (with_reducible refine (nanE _ _).mono ?_); rintro e w' ⟨rfl, rfl⟩)
    go_ret
    exact ⟨by rw [HC.out]; rfl, rfl⟩
set_option maxRecDepth 100000 in
set_option maxHeartbeats 1000000 in
theorem orTwo (x y : Int) (g : Nat) (w : World) (h0 : w.cell? ⟨g, 0, none⟩ = some (.int .i64 x)) (h1 : w.cell? ⟨g, 1, none⟩ = some (.int .i64 y)) :
    Calls Tryz.prog 38 #[.slice (some ⟨g, 0, none⟩) 2 2] w fun e w' => e = .returned (.int .i64 (or2 x y)) ∧ w = w' := by
  by_cases hx : x = 0
  · subst hx
    by_cases hy : y = 0
    · subst hy
      go_enter Tryz.func38, Tryz.ntmps38
      go_wp2_with fail
      refine wp_loop_rounds 3 ?_
      rw [rounds_succ]
      go_wp2_with fail
      rw [rounds_succ]
      go_wp2_with fail
      rw [rounds_succ]
      go_wp2_with fail
      go_ret
      exact ⟨by simp [or2], rfl⟩
    · have hb : (y != 0) = true := by simpa using hy
      go_enter Tryz.func38, Tryz.ntmps38
      go_wp2_with fail
      refine wp_loop_rounds 2 ?_
      rw [rounds_succ]
      go_wp2_with fail
      rw [rounds_succ]
      go_wp2_with fail
      go_ret
      exact ⟨by simp [or2, hy], rfl⟩
  · have hb : (x != 0) = true := by simpa using hx
    go_enter Tryz.func38, Tryz.ntmps38
    go_wp2_with fail
    refine wp_loop_rounds 1 ?_
    rw [rounds_succ]
    go_wp2_with fail
    go_ret
    exact ⟨by simp [or2, hx], rfl⟩
set_option maxRecDepth 100000 in
set_option maxHeartbeats 4000000 in
theorem ecmp_any (a1 a2 b1 b2 : Int) (w : World) :
    Calls Tryz.prog 71 #[.agg #[.int .i64 a1, .int .i64 a2], .agg #[.int .i64 b1, .int .i64 b2]] w fun e w' => e = .returned (.int .i64 (cmpK (a1, a2) (b1, b2))) ∧ Below w.heap.size w w' := by
  obtain ⟨W0, hW0⟩ : ∃ W0, W0 = (w.alloc (.cells #[.int .i64 a1, .int .i64 a2] 41)).alloc (.cells #[.int .i64 b1, .int .i64 b2] 41) := ⟨_, rfl⟩
  have hb0 : Below w.heap.size w W0 := by rw [hW0]; exact ((Below.refl _ _).alloc (Nat.le_refl _) _).alloc (by simp) _
  have hz : W0.heap.size = w.heap.size + 1 + 1 := by rw [hW0]; simp
  have g0 : W0.heap[w.heap.size]? = some (.cells #[.int .i64 a1, .int .i64 a2] 41 (0, 0)) := by
    rw [hW0, Lib.alloc_old _ _ _ (by simp)]
    exact heap_alloc_new w _
  have g1 : W0.heap[w.heap.size + 1]? = some (.cells #[.int .i64 b1, .int .i64 b2] 41 (0, 0)) := by
    rw [hW0]
    have := heap_alloc_new (w.alloc (.cells #[.int .i64 a1, .int .i64 a2] 41)) (.cells #[.int .i64 b1, .int .i64 b2] 41)
    simpa using this
  have HS : Hid (∀ W, Below W0.heap.size W0 W → (W.cell? ⟨w.heap.size, 0, none⟩ = some (.int .i64 a1) ∧ W.cell? ⟨w.heap.size, 1, none⟩ = some (.int .i64 a2)) ∧ (W.cell? ⟨w.heap.size + 1, 0, none⟩ = some (.int .i64 b1) ∧ W.cell? ⟨w.heap.size + 1, 1, none⟩ = some (.int .i64 b2))) := Lib.hid fun W hb => by
    have e0 : W.heap[w.heap.size]? = _ := (hb.block _ (by omega)).trans g0
    have e1 : W.heap[w.heap.size + 1]? = _ := (hb.block _ (by omega)).trans g1
    exact ⟨⟨cell_at (o := 0) e0 rfl, cell_at (o := 1) e0 rfl⟩, cell_at (o := 0) e1 rfl, cell_at (o := 1) e1 rfl⟩
  have HB0 := Lib.hid hb0
  have hbz := Below.refl W0.heap.size W0
  clear hb0 hz g0 g1
  go_enter Tryz.func71, Tryz.ntmps71
  go_upto_region 1 with (fail)
  rw [← hW0]
  clear hW0
  go_region_held3 (fun W => (W.cell? ⟨w.heap.size, 0, none⟩ = some (.int .i64 a1) ∧ W.cell? ⟨w.heap.size, 1, none⟩ = some (.int .i64 a2)) ∧ (W.cell? ⟨w.heap.size + 1, 0, none⟩ = some (.int .i64 b1) ∧ W.cell? ⟨w.heap.size + 1, 1, none⟩ = some (.int .i64 b2))) ((refine HS.out _ ?_; ((repeat' (first | with_reducible assumption | with_reducible refine Below.drew ?_ | (with_reducible refine Below.alloc ?_ ?_ _))) <;> first | assumption | (simp; done) | (simp; omega))))
   (first
    | (go_at_call 39; (with_reducible refine (compareE _ _ _).mono ?_); rintro e w1 ⟨rfl, rfl⟩)
    | (go_at_call 38; (with_reducible refine (orTwo _ _ _ _ (by first | exact cell_at (heap_alloc_new _ _) rfl | (simp [go_sem]; done)) (by first | exact cell_at (heap_alloc_new _ _) rfl | (simp [go_sem]; done))).mono ?_); rintro e w1 ⟨rfl, rfl⟩))
  all_goals
    go_wp2_with fail
    go_ret
    exact ⟨rfl, HB0.out.trans (Below.mono (show Below W0.heap.size W0 _ from by ((repeat' (first | with_reducible assumption | with_reducible refine Below.drew ?_ | (with_reducible refine Below.alloc ?_ ?_ _))) <;> first | assumption | (simp; done) | (simp; omega))) HB0.out.size)⟩
/-- How entries are held against each other. -/
def cfE (x y : EC) : Int := cmpK (x.kn, x.kd) (y.kn, y.kd)
theorem cfE_ord : Ord fun x y => decide (cfE x y < 0) := ord_by ltK_ord fun x : EC => (x.kn, x.kd)
set_option maxRecDepth 100000 in
set_option maxHeartbeats 4000000 in
theorem clo_any (x y : EC) (g : Nat) (w : World) (hg : w.cell? ⟨g, 1, none⟩ = some (.func (.func 71) #[] #[])) :
    Calls Tryz.prog 92 #[x.val, y.val, .pointer (some ⟨g, 0, none⟩)] w fun e w' => e = .returned (.int .i64 (cfE x y)) ∧ Below w.heap.size w w' := by
  obtain ⟨a1, a2, a3, a4, a5, a6, a7⟩ := x
  obtain ⟨b1, b2, b3, b4, b5, b6, b7⟩ := y
  unfold EC.val
  dsimp only
  have hgz : g < w.heap.size := World.block_lt_of_cell? w _ hg
  go_enter Tryz.func92, Tryz.ntmps92
  go_upto_region 1 with (fail)
  obtain ⟨W0, hW0⟩ : ∃ W0, W0 = (w.alloc (.cells #[.int .i64 a1, .int .i64 a2, .int .i64 a3, .int .i64 a4, .slice a5 a6 a7] 70)).alloc (.cells #[.int .i64 b1, .int .i64 b2, .int .i64 b3, .int .i64 b4, .slice b5 b6 b7] 70) := ⟨_, rfl⟩
  have hb0 : Below w.heap.size w W0 := by rw [hW0]; exact ((Below.refl _ _).alloc (Nat.le_refl _) _).alloc (by simp) _
  subst hW0
  have HB0 := Lib.hid hb0
  clear hb0
  go_wp2_with (go_at_call 71; (with_reducible refine (ecmp_any _ _ _ _ _).mono ?_); rintro e w2 ⟨rfl, hb2⟩; have HB2 := Lib.hid hb2; clear hb2)
  go_ret
  exact ⟨rfl, HB0.out.trans (HB2.out.mono HB0.out.size)⟩
end Go.Proofs.YtibabpahpiijgaaGreatDoor.Stab
/- entry.Sort: a copy of entries, by their keys. -/
namespace Go.Proofs.YtibabpahpiijgaaGreatDoor.Stab
open Go Go.RowKit
set_option linter.unusedSimpArgs false
set_option linter.unusedVariables false
theorem mk_ents (n : Nat) (hn : n ≤ 1099511627776) (w : World) : (Instr.makeSlice 33 (.int .i64 0) (.int .i64 (n : Int))).run Tryz.prog w = .ok (.slice (some ⟨w.heap.size, 0, none⟩) 0 n) (w.alloc (.cells (madeCells #[.int .i64 0, .int .i64 0, .int .i64 0, .int .i64 0, .slice none 0 0] (n * 5)) 70)) := by
  obtain ⟨i, hi, hz0, hz1, hz2⟩ := info_parts (show (Tryz.prog.info? 70).map (fun i => (i.zero, i.size, i.bytes)) = some (some (.agg #[.int .i64 0, .int .i64 0, .int .i64 0, .int .i64 0, .slice none 0 0]), 5, 56) by kernel_rfl)
  have hr := run_make (P := Tryz.prog) w 33 70 i _ Tryz.underlying33 hi hz0 .i64 .i64 0 n (by omega) (by omega) (by rw [hz2]; omega) (by omega)
  simp only [Int.toNat_natCast, hz1] at hr
  exact hr
theorem entElem : Elem Tryz.prog 33 70 5 56 := ⟨Tryz.underlying33, ⟨.agg #[.int .i64 0, .int .i64 0, .int .i64 0, .int .i64 0, .slice none 0 0], by kernel_rfl, rfl⟩, by omega⟩
/-- Between two rounds: the first i entries are copied. -/
structure SoS (k : Nat) (bx : Array Value) (l : List EntryV) (n : Nat) (w : World) (i : Nat) (wr : World) : Prop where
  row : ∃ L, L.length = i ∧ Ents k (w.heap.size + 1) (w.heap.size + 1) n wr L (l.take i)
  box : wr.heap[w.heap.size]? = some (.cells bx 128 (0, 0))
  below : Below w.heap.size w wr
  size : w.heap.size + 2 ≤ wr.heap.size
def SortPost (k n : Nat) (l : List EntryV) (w : World) (e : Ending) (w' : World) : Prop :=
  ∃ a c, e = .returned (.slice a n c) ∧ RowOf (entryRd k) 5 56 (From w.heap.size) w' a n c (sortE l) ∧ Below w.heap.size w w'
/-- The same, where the row has no room beyond its entries. -/
def SortPostC (k n : Nat) (l : List EntryV) (w : World) (e : Ending) (w' : World) : Prop :=
  ∃ a, e = .returned (.slice a n n) ∧ RowOf (entryRd k) 5 56 (From w.heap.size) w' a n n (sortE l) ∧ Below w.heap.size w w'
set_option maxRecDepth 100000 in
set_option maxHeartbeats 4000000 in
theorem sorted_any (k : Nat) (F : Foot) (l : List EntryV) (a : Option Addr) (n cap : Nat) (w : World) (hn : n ≤ 1099511627776) (hl : RowOf (entryRd k) 5 56 F w a n cap l) :
    Calls Tryz.prog 72 #[.agg #[.slice a n cap, .func (.func 71) #[] #[]]] w (SortPostC k n l w) := by
  obtain ⟨bx, hbx⟩ : ∃ bx : Array Value, bx = #[.slice a n cap, .func (.func 71) #[] #[]] := ⟨_, rfl⟩
  obtain ⟨W1, hW1⟩ : ∃ W1, W1 = (w.alloc (.cells bx 128)).alloc (.cells (madeCells #[.int .i64 0, .int .i64 0, .int .i64 0, .int .i64 0, .slice none 0 0] (n * 5)) 70) := ⟨_, rfl⟩
  have HL := Lib.hid hl
  have HLN := Lib.hid hl.len
  have hmk := mk_ents n hn
  have HS0 : Hid (SoS k bx l n w 0 W1) := Lib.hid (by
    have h2 := heap_alloc_new (w.alloc (.cells bx 128)) (.cells (madeCells #[.int .i64 0, .int .i64 0, .int .i64 0, .int .i64 0, .slice none 0 0] (n * 5)) 70)
    rw [show (w.alloc (.cells bx 128)).heap.size = w.heap.size + 1 by simp, ← hW1] at h2
    refine ⟨⟨[], rfl, ⟨⟨rfl, .inr ⟨w.heap.size + 1, n, _, rfl, Nat.le_refl _, h2, Nat.zero_le _, by unfold maxLen; omega, by rw [size_madeCells], by simp [cellsOf]⟩⟩, rfl, fun i e h => by simp at h⟩⟩, ?_, ?_, ?_⟩
    · rw [hW1, Lib.alloc_old _ _ _ (by simp)]
      exact heap_alloc_new w _
    · rw [hW1]; exact ((Below.refl _ _).alloc (Nat.le_refl _) _).alloc (by simp) _
    · rw [hW1]; simp)
  have HRM := Lib.hid hl.room
  have HMX : Hid (n ≤ maxLen) := Lib.hid (by have := hl.le; have := hl.max; omega)
  have hbz : bx[0]? = some (.slice a n cap) ∧ bx[1]? = some (.func (.func 71) #[] #[]) := by rw [hbx]; exact ⟨rfl, rfl⟩
  have HBX := Lib.hid hbz
  clear hl hbz
  go_enter Tryz.func72, Tryz.ntmps72
  go_upto_region 3 with fail
  clear hmk
  rw [← hbx, ← hW1]
  clear hbx hW1
  go_loopg [3, 13] n (fun g lv iv wr => ∃ i : Nat, i ≤ n ∧ g = n - i ∧ lv = .slice (some ⟨w.heap.size + 1, 0, none⟩) i n ∧ iv = .int .i64 i ∧ SoS k bx l n w i wr)
  case atStart => exact ⟨0, by omega, rfl, rfl, rfl, HS0.out⟩
  case round =>
    obtain ⟨i, hi, rfl, rfl, rfl, hst⟩ := hrel
    obtain ⟨wo, rfl⟩ : ∃ wo : World, wo = wr := ⟨_, rfl⟩
    have HST := Lib.hid hst
    have hzo := hst.size
    clear hst
    by_cases hlt : i < n
    · have hlti : (i : Int) < (n : Int) := by omega
      have hil : i < l.length := by have := HLN.out; omega
      obtain ⟨b, o, hbw, kn, kd, dk, dn, dl, da, dm, dc, rfl, hx, ⟨p0, p1, p2, p3, p4⟩, hwn, hwd, hk⟩ := (HL.out.keep (entryRd_ok _) (Fix.of_below HST.out.below)).entry i hil
      have HTK := Lib.hid (List.take_succ_eq_append_getElem hil)
      rw [hx] at HTK
      obtain ⟨k, rfl⟩ : ∃ j, k = j + 1 := by
        cases k with
        | zero => exact hk.elim
        | succ j => exact ⟨j, rfl⟩
      obtain ⟨a', n', c', he, hwk, hwm, hkd⟩ := hk
      cases he
      have HK := Lib.hid hkd
      have HWK := Lib.hid hwk
      have HWM := Lib.hid hwm
      have HWN := Lib.hid hwn
      have HWD := Lib.hid hwd
      clear hkd hwk hwm hwn hwd hx
      go_upto_region 5 with fail
      obtain ⟨W4, hW4⟩ : ∃ W4, W4 = wo.alloc (.cells #[.int .i64 kn, .int .i64 kd, .int .i64 dk, .int .i64 dn, .slice da dm dc] 70) := ⟨_, rfl⟩
      have hb4 : Below wo.heap.size wo W4 := by rw [hW4]; exact (Below.refl _ _).alloc (Nat.le_refl _) _
      have g4 : W4.heap[wo.heap.size]? = some (.cells #[.int .i64 kn, .int .i64 kd, .int .i64 dk, .int .i64 dn, .slice da dm dc] 70 (0, 0)) := by rw [hW4]; exact heap_alloc_new wo _
      have hz4 : W4.heap.size = wo.heap.size + 1 := by rw [hW4]; simp
      have HB4 := Lib.hid hb4
      have HSS : Hid (∀ W, Below W4.heap.size W4 W → W.cell? ⟨wo.heap.size, 0, none⟩ = some (.int .i64 kn) ∧ W.cell? ⟨wo.heap.size, 1, none⟩ = some (.int .i64 kd) ∧ W.cell? ⟨wo.heap.size, 2, none⟩ = some (.int .i64 dk) ∧ W.cell? ⟨wo.heap.size, 3, none⟩ = some (.int .i64 dn) ∧ W.cell? ⟨wo.heap.size, 4, none⟩ = some (.slice da dm dc)) := Lib.hid fun W hb => by
        have g := (hb.block _ (by omega)).trans g4
        exact ⟨cell_at g rfl, cell_at g rfl, cell_at g rfl, cell_at g rfl, cell_at g rfl⟩
      have hbz := Below.refl W4.heap.size W4
      have HT0 := Lib.hid (HSS.out W4.drew hbz.drew)
      have HK4 := Lib.hid (HK.out.keep (descRd_ok k) (Fix.of_below (hb4.drew)))
      rw [← hW4]
      clear hW4 p0 p1 p2 p3 p4
      refine Lex.wp_region_z (fun W => W.cell? ⟨wo.heap.size, 0, none⟩ = some (.int .i64 kn) ∧ W.cell? ⟨wo.heap.size, 1, none⟩ = some (.int .i64 kd) ∧ W.cell? ⟨wo.heap.size, 2, none⟩ = some (.int .i64 dk) ∧ W.cell? ⟨wo.heap.size, 3, none⟩ = some (.int .i64 dn) ∧ W.cell? ⟨wo.heap.size, 4, none⟩ = some (.slice da dm dc)) 9 (by kernel_rfl) ?_
      change Lex.wpZ _ _ _ _ _ _ 10 #[false, false, false, false, false, false, false, false, false, false] _ W4.drew
      (refine Lex.wpZ_take (i := 0) (v := ?_) rfl (by kernel_rfl) (by kernel_rfl) (by kernel_rfl) (by kernel_rfl) (fun _ _ _ h => h) HT0.out (Or.inl ⟨by rfl, ?_⟩) ?_; rotate_left 1; (focus (intro w0 hw0; (try dsimp only at hw0); obtain ⟨s0, s1, s2, s3, s4⟩ := hw0; go_simp; try with_reducible rfl)); simp only [Act.put, List.getElem_toArray, List.getElem_cons_zero, List.getElem_cons_succ, List.setIfInBounds_toArray, List.set_cons_zero, List.set_cons_succ])
      (refine Lex.wpZ_take (i := 1) (v := ?_) rfl (by kernel_rfl) (by kernel_rfl) (by kernel_rfl) (by kernel_rfl) (fun _ _ _ h => h) HT0.out (Or.inl ⟨by rfl, ?_⟩) ?_; rotate_left 1; (focus (intro w0 hw0; (try dsimp only at hw0); obtain ⟨s0, s1, s2, s3, s4⟩ := hw0; go_simp; try with_reducible rfl)); simp only [Act.put, List.getElem_toArray, List.getElem_cons_zero, List.getElem_cons_succ, List.setIfInBounds_toArray, List.set_cons_zero, List.set_cons_succ])
      (refine Lex.wpZ_take (i := 2) (v := ?_) rfl (by kernel_rfl) (by kernel_rfl) (by kernel_rfl) (by kernel_rfl) (fun _ _ _ h => h) HT0.out (Or.inl ⟨by rfl, ?_⟩) ?_; rotate_left 1; (focus (intro w0 hw0; (try dsimp only at hw0); obtain ⟨s0, s1, s2, s3, s4⟩ := hw0; go_simp; try with_reducible rfl)); simp only [Act.put, List.getElem_toArray, List.getElem_cons_zero, List.getElem_cons_succ, List.setIfInBounds_toArray, List.set_cons_zero, List.set_cons_succ])
      (refine Lex.wpZ_take (i := 3) (v := ?_) rfl (by kernel_rfl) (by kernel_rfl) (by kernel_rfl) (by kernel_rfl) (fun _ _ _ h => h) HT0.out (Or.inl ⟨by rfl, ?_⟩) ?_; rotate_left 1; (focus (intro w0 hw0; (try dsimp only at hw0); obtain ⟨s0, s1, s2, s3, s4⟩ := hw0; go_simp; try with_reducible rfl)); simp only [Act.put, List.getElem_toArray, List.getElem_cons_zero, List.getElem_cons_succ, List.setIfInBounds_toArray, List.set_cons_zero, List.set_cons_succ])
      (refine Lex.wpZ_take (i := 4) (v := ?_) rfl (by kernel_rfl) (by kernel_rfl) (by kernel_rfl) (by kernel_rfl) (fun _ _ _ h => h) HT0.out (Or.inl ⟨by rfl, ?_⟩) ?_; rotate_left 1; (focus (intro w0 hw0; (try dsimp only at hw0); obtain ⟨s0, s1, s2, s3, s4⟩ := hw0; go_simp; try with_reducible rfl)); simp only [Act.put, List.getElem_toArray, List.getElem_cons_zero, List.getElem_cons_succ, List.setIfInBounds_toArray, List.set_cons_zero, List.set_cons_succ])
      refine Lex.wpZ_ready (rs := [5]) (by kernel_rfl) (by simp) ?_
      refine Lex.ReadyZ.cons rfl (fun K hK => ?_) Lex.ReadyZ.nil
      go_simp
      refine (clone_any k F dk dn dl da dm dc _ HK4.out).mono ?_
      rintro e w5 ⟨a5, c5, rfl, hr5, hb5⟩
      have hb5z : Below W4.heap.size W4 w5 := hbz.drew.trans hb5
      have HT5 := Lib.hid (HSS.out w5 hb5z)
      have HR5 := Lib.hid hr5
      refine hK.out _ _ (.inr HT5.out) ?_
      clear hK K hb5 hr5
      try simp only [Act.put, List.getElem_toArray, List.getElem_cons_zero, List.getElem_cons_succ, List.setIfInBounds_toArray, List.set_cons_zero, List.set_cons_succ]
      (refine Lex.wpZ_take (i := 6) (v := ?_) rfl (by kernel_rfl) (by kernel_rfl) (by kernel_rfl) (by kernel_rfl) (fun _ _ _ h => h) HT5.out (Or.inl ⟨by rfl, ?_⟩) ?_; rotate_left 1; (focus (intro w0 hw0; (try dsimp only at hw0); obtain ⟨s0, s1, s2, s3, s4⟩ := hw0; go_simp; try with_reducible rfl)); simp only [Act.put, List.getElem_toArray, List.getElem_cons_zero, List.getElem_cons_succ, List.setIfInBounds_toArray, List.set_cons_zero, List.set_cons_succ])
      refine Lex.wpZ_ready (rs := [7]) (by kernel_rfl) (by simp) ?_
      refine Lex.ReadyZ.cons rfl (fun K hK => ?_) Lex.ReadyZ.nil
      go_simp
      obtain ⟨w6, hw6⟩ : ∃ w6, w6 = w5.alloc (.cells #[.int .i64 kn, .int .i64 kd, .int .i64 dk, .int .i64 dn, .slice a5 dm c5] 70) := ⟨_, rfl⟩
      have hb6 : Below w5.heap.size w5 w6 := by rw [hw6]; exact (Below.refl _ _).alloc (Nat.le_refl _) _
      have hb6z : Below W4.heap.size W4 w6 := hb5z.trans (hb6.mono hb5z.size)
      have hsrc : Src w6 (some ⟨w5.heap.size, 0, none⟩) 1 1 5 [.int .i64 kn, .int .i64 kd, .int .i64 dk, .int .i64 dn, .slice a5 dm c5] := by rw [hw6]; exact src_new3 _ 70 5 rfl (cells_one ⟨kn, kd, dk, dn, a5, dm, c5⟩)
      have HT6 := Lib.hid (HSS.out w6 hb6z)
      have HSRC := Lib.hid hsrc
      have hB6 : Below wo.heap.size wo w6 := HB4.out.trans (hb6z.mono HB4.out.size)
      have HB6 := Lib.hid hB6
      have HR6 : Hid (EntOf (k + 1) (From (w.heap.size + 1 + 1)) w6 ⟨kn, kd, dk, dn, a5, dm, c5⟩ ((kn, kd), DescV.mk dk dn dl)) := Lib.hid ⟨rfl, rfl, HWN.out, HWD.out, a5, dm, c5, rfl, HWK.out, HWM.out, (HR5.out.mono (descRd_ok _) (fun q _ hq => by have hq' : W4.drew.heap.size ≤ q := hq; have e4 : W4.drew.heap.size = W4.heap.size := rfl; show w.heap.size + 1 + 1 ≤ q; omega)).keep (descRd_ok _) (Fix.of_below hb6)⟩
      rw [← hw6]
      refine hK.out _ _ (.inr HT6.out) ?_
      clear hK K hw6 hb6 hsrc hB6
      try simp only [Act.put, List.getElem_toArray, List.getElem_cons_zero, List.getElem_cons_succ, List.setIfInBounds_toArray, List.set_cons_zero, List.set_cons_succ]
      refine Lex.wpZ_ready (rs := [8]) (by kernel_rfl) (by simp) ?_
      refine Lex.ReadyZ.cons rfl (fun K hK => ?_) Lex.ReadyZ.nil
      obtain ⟨L, hLn, hE⟩ := HST.out.row
      subst hLn
      have HE := Lib.hid (hE.below HB6.out)
      clear hE
      refine step_appS rfl _ _ 33 rfl entElem _ _ _ _ rfl _ _ _ _ rfl HE.out.row HSRC.out (by omega) ?_
      intro w7 ho7 hg7
      have HE7 := Lib.hid (HE.out.add HR6.out ho7 hg7)
      have hz64 := hb6z.size
      have hz7 : w6.heap.size ≤ w7.heap.size := hg7.size
      have HT7 : Hid (w7.cell? ⟨wo.heap.size, 0, none⟩ = some (.int .i64 kn) ∧ w7.cell? ⟨wo.heap.size, 1, none⟩ = some (.int .i64 kd) ∧ w7.cell? ⟨wo.heap.size, 2, none⟩ = some (.int .i64 dk) ∧ w7.cell? ⟨wo.heap.size, 3, none⟩ = some (.int .i64 dn) ∧ w7.cell? ⟨wo.heap.size, 4, none⟩ = some (.slice da dm dc)) := Lib.hid (by
        obtain ⟨q0, q1, q2, q3, q4⟩ := HT6.out
        have e : ∀ o, w7.cell? ⟨wo.heap.size, o, none⟩ = w6.cell? ⟨wo.heap.size, o, none⟩ := fun o => World.cell?_of_block (a := ⟨wo.heap.size, o, none⟩) (hg7.block wo.heap.size (by omega) (fun e => by have e2 : wo.heap.size = w.heap.size + 1 := Option.some.inj e; omega))
        rw [e, e, e, e, e]
        exact ⟨q0, q1, q2, q3, q4⟩)
      have HBX7 : Hid (w7.heap[w.heap.size]? = some (.cells bx 128 (0, 0))) := Lib.hid ((hg7.block _ (by omega) (fun e => by have := Option.some.inj e; omega)).trans ((HB6.out.block _ (by omega)).trans HST.out.box))
      have HBW7 : Hid (Below w.heap.size w w7) := Lib.hid ((HST.out.below.trans (HB6.out.mono (by omega))).grown hg7 (by omega) (fun q hq => by have := Option.some.inj hq; omega))
      refine hK.out _ _ (.inr HT7.out) ?_
      clear hK K ho7 hg7
      try simp only [Act.put, List.getElem_toArray, List.getElem_cons_zero, List.getElem_cons_succ, List.setIfInBounds_toArray, List.set_cons_zero, List.set_cons_succ]
      refine Lex.wpZ_ready (rs := [9]) (by kernel_rfl) (by simp) ?_
      refine Lex.ReadyZ.cons rfl (fun K hK => ?_) Lex.ReadyZ.nil
      go_simp
      refine hK.out _ _ (.inl rfl) ?_
      clear hK K
      try simp only [Act.put, List.getElem_toArray, List.getElem_cons_zero, List.getElem_cons_succ, List.setIfInBounds_toArray, List.set_cons_zero, List.set_cons_succ]
      refine Lex.wpZ_done (by kernel_rfl) ?_ _
      go_wp2_with fail
      go_roundg (n - (L.length + 1))
      case measure => omega
      case rel =>
        exact ⟨L.length + 1, by omega, rfl, rfl, by go_num, ⟨L ++ [⟨kn, kd, dk, dn, a5, dm, c5⟩], by simp, by rw [HTK.out]; exact HE7.out⟩, HBX7.out, HBW7.out, by omega⟩
    · obtain rfl : i = n := by omega
      obtain ⟨L, hLn, hE⟩ := HST.out.row
      rw [List.take_of_length_le (by have := HLN.out; omega)] at hE
      subst hLn
      have hst : St (w.heap.size + 1) (w.heap.size + 1) wo L wo := ⟨hE.full, Below.refl _ _, fun _ _ _ => rfl⟩
      have hcm : CmpAt (w.heap.size + 1) (w.heap.size + 1) wo ⟨w.heap.size, 0, none⟩ cfE := ⟨cfE_ord, fun L' W x y hs => clo_any x y w.heap.size W (cell_at ((hs.keep w.heap.size (by omega) (by omega)).trans HST.out.box) HBX.out.2)⟩
      have HC := Lib.hid (ssf_any (Nat.le_refl _) hcm (cap := L.length) hn L rfl wo hst)
      have HE := Lib.hid hE
      clear hst hcm hE
      go_wp2_with (go_at_call 91; (with_reducible refine HC.out.mono ?_); rintro e w2 ⟨rfl, L', hs1, hs2, hs3, hs4⟩; have HP1 := Lib.hid hs1; have HP2 := Lib.hid hs2; have HP3 := Lib.hid hs3; have HP4 := Lib.hid hs4; clear hs1 hs2 hs3 hs4)
      go_ret
      refine ⟨_, rfl, (sorted_row rfl HE.out HP1.out HP2.out HP3.out HP4.out HRM.out HMX.out).mono (entryRd_ok _) (fun b _ hb => by have hb' : w.heap.size + 1 ≤ b := hb; show w.heap.size ≤ b; omega), HST.out.below.trans (HP4.out.below.mono (by omega))⟩
set_option maxRecDepth 100000 in
set_option maxHeartbeats 4000000 in
theorem sort_anyC (k : Nat) (F : Foot) (l : List EntryV) (a : Option Addr) (n cap : Nat) (w : World) (hn : n ≤ 1099511627776) (hl : RowOf (entryRd k) 5 56 F w a n cap l) :
    Calls Tryz.prog 50 #[.slice a n cap] w (SortPostC k n l w) := by
  have HC := Lib.hid (sorted_any k F l a n cap w hn hl)
  clear hl hn
  go_enter Tryz.func50, Tryz.ntmps50
  go_wp2_with (go_at_call 72; (with_reducible refine HC.out.mono ?_); rintro e w2 ⟨a2, rfl, hr, hb⟩; have HR := Lib.hid hr; have HB := Lib.hid hb; clear hr hb)
  go_ret
  exact ⟨_, rfl, HR.out, HB.out⟩
theorem sort_any (k : Nat) (F : Foot) (l : List EntryV) (a : Option Addr) (n cap : Nat) (w : World) (hn : n ≤ 1099511627776) (hl : RowOf (entryRd k) 5 56 F w a n cap l) :
    Calls Tryz.prog 50 #[.slice a n cap] w (SortPost k n l w) :=
  (sort_anyC k F l a n cap w hn hl).mono fun _ _ ⟨a, h1, h2, h3⟩ => ⟨a, n, h1, h2, h3⟩
end Go.Proofs.YtibabpahpiijgaaGreatDoor.Stab
