/- A merge where the first part is one element. -/
import Derived.Test.YtibabpahpiijgaaGreatDoorInsE
namespace Go.Proofs.YtibabpahpiijgaaGreatDoor.Stab
open Go Go.RowKit
set_option linter.unusedSimpArgs false
set_option linter.unusedVariables false
set_option maxRecDepth 100000 in
set_option maxHeartbeats 4000000 in
theorem sm1_any (B b : Nat) (W0 : World) (hB : B ≤ b) (pa : Addr) (cf : EC → EC → Int) (hcmp : CmpAt B b W0 pa cf) (L : List EC) (cap a m c : Nat) (hm : m = a + 1) (hmc : m < c) (hcn : c ≤ L.length) (hl : L.length ≤ 1099511627776)
    (hv : Srt (fun x y => decide (cf x y < 0)) (sec L (a + 1) c)) (W : World) (hst : St B b W0 L W) :
    Calls Tryz.prog 138 #[.slice (some ⟨b, 0, none⟩) L.length cap, .int .i64 a, .int .i64 m, .int .i64 c, .func (.func 92) #[] #[.pointer (some pa)]] W fun e w' => e = .returned (.tuple #[]) ∧ ∃ L', On (fun x y => decide (cf x y < 0)) a c L L' ∧ St B b W0 L' w' := by
  have HST := Lib.hid hst
  have HCMP := Lib.hid hcmp
  have HV := Lib.hid hv
  obtain ⟨N, hN⟩ : ∃ N, N = L.length := ⟨_, rfl⟩
  rw [← hN] at hcn hl ⊢
  have HN := Lib.hid hN
  have hm1 : a + 1 ≤ m := by omega
  have hm2 : m ≤ a + 1 := by omega
  have hsub : (IntKind.i64.wrap ((m : Int) - (a : Int)) : Int) = 1 := wrapS (n := m) (m := a) (i := 1) (by omega) (by omega)
  obtain ⟨x, hx⟩ : ∃ x, L[a]? = some x := ⟨_, List.getElem?_eq_getElem (by omega)⟩
  have HX := Lib.hid hx
  clear hst hN hcmp hv hx hm
  go_enter Tryz.func138, Tryz.ntmps138
  go_wp2_with fail
  go_loopg [10, 11, 12] (c - m) (fun g iv jv hv' wr => ∃ i j : Nat, m ≤ i ∧ i ≤ j ∧ j ≤ c ∧ g = j - i ∧ iv = .int .i64 (i : Int) ∧ jv = .int .i64 (j : Int) ∧ (m < i → ∀ y, L[i - 1]? = some y → cf y x < 0) ∧ (j < c → ∀ y, L[j]? = some y → ¬ cf y x < 0) ∧ St B b W0 L wr)
  case atStart => exact ⟨m, c, Nat.le_refl _, by omega, Nat.le_refl _, rfl, rfl, rfl, fun h => by omega, fun h => by omega, HST.out⟩
  case round =>
    obtain ⟨i, j, hmi, hij, hjc, rfl, rfl, rfl, hlo, hhi, hs⟩ := hrel
    obtain ⟨wo, rfl⟩ : ∃ wo : World, wo = wr := ⟨_, rfl⟩
    have HLO := Lib.hid hlo
    have HHI := Lib.hid hhi
    have HS := Lib.hid hs
    clear hlo hhi hs
    by_cases hlt : i < j
    · have hlti : (i : Int) < (j : Int) := by omega
      obtain ⟨s, hs1, hs2⟩ : ∃ s, s ≤ i + j ∧ i + j ≤ s := ⟨i + j, by omega, by omega⟩
      have wsum := wrapN (n := i) (m := j) (i := s) (by omega) (by omega)
      obtain ⟨h, hh1, hh2⟩ : ∃ h, 2 * h ≤ s ∧ s ≤ 2 * h + 1 := ⟨s / 2, by omega, by omega⟩
      have hdiv : (s : Int) / 2 = (h : Int) := by omega
      obtain ⟨y, hy⟩ : ∃ y, L[h]? = some y := ⟨_, List.getElem?_eq_getElem (by have := HN.out; omega)⟩
      have HY := Lib.hid hy
      have HCL : Hid (∀ W', Below wo.heap.size wo W' → Calls Tryz.prog 92 #[y.val, x.val, .pointer (some pa)] W' fun e w' => e = .returned (.int .i64 (cf y x)) ∧ Below W'.heap.size W' w') := Lib.hid fun W' hb => HCMP.out.calls L W' y x (HS.out.step hB hb)
      unfold EC.val at HCL
      have HCC : Hid (∀ W', Below wo.heap.size wo W' → (fun W' => W'.cell? ⟨b, h * 5, none⟩ = some (.int .i64 y.kn) ∧ W'.cell? ⟨b, h * 5 + 1, none⟩ = some (.int .i64 y.kd) ∧ W'.cell? ⟨b, h * 5 + 2, none⟩ = some (.int .i64 y.dk) ∧ W'.cell? ⟨b, h * 5 + 3, none⟩ = some (.int .i64 y.dn) ∧ W'.cell? ⟨b, h * 5 + 4, none⟩ = some (.slice y.da y.dm y.dc) ∧ W'.cell? ⟨b, a * 5, none⟩ = some (.int .i64 x.kn) ∧ W'.cell? ⟨b, a * 5 + 1, none⟩ = some (.int .i64 x.kd) ∧ W'.cell? ⟨b, a * 5 + 2, none⟩ = some (.int .i64 x.dk) ∧ W'.cell? ⟨b, a * 5 + 3, none⟩ = some (.int .i64 x.dn) ∧ W'.cell? ⟨b, a * 5 + 4, none⟩ = some (.slice x.da x.dm x.dc)) W') := Lib.hid fun W' hb => by
        obtain ⟨x0, x1, x2, x3, x4⟩ := (HS.out.step hB hb).cell HX.out
        obtain ⟨y0, y1, y2, y3, y4⟩ := (HS.out.step hB hb).cell hy
        exact ⟨y0, y1, y2, y3, y4, x0, x1, x2, x3, x4⟩
      have hbz := Below.refl wo.heap.size wo
      have hN' : (h : Int) < (N : Int) := by omega
      have aN' : (a : Int) < (N : Int) := by omega
      have h0' : (0 : Int) ≤ (h : Int) := by omega
      have a0' : (0 : Int) ≤ (a : Int) := by omega
      clear hy
      by_cases hcf : cf y x < 0
      · have hcb : decide (cf y x < 0) = true := by simpa using hcf
        go_upto_region 5 with fail
        go_region_held3 (fun W' => W'.cell? ⟨b, h * 5, none⟩ = some (.int .i64 y.kn) ∧ W'.cell? ⟨b, h * 5 + 1, none⟩ = some (.int .i64 y.kd) ∧ W'.cell? ⟨b, h * 5 + 2, none⟩ = some (.int .i64 y.dk) ∧ W'.cell? ⟨b, h * 5 + 3, none⟩ = some (.int .i64 y.dn) ∧ W'.cell? ⟨b, h * 5 + 4, none⟩ = some (.slice y.da y.dm y.dc) ∧ W'.cell? ⟨b, a * 5, none⟩ = some (.int .i64 x.kn) ∧ W'.cell? ⟨b, a * 5 + 1, none⟩ = some (.int .i64 x.kd) ∧ W'.cell? ⟨b, a * 5 + 2, none⟩ = some (.int .i64 x.dk) ∧ W'.cell? ⟨b, a * 5 + 3, none⟩ = some (.int .i64 x.dn) ∧ W'.cell? ⟨b, a * 5 + 4, none⟩ = some (.slice x.da x.dm x.dc)) ((refine HCC.out _ ?_; ((repeat' (first | with_reducible assumption | with_reducible refine Below.drew ?_ | (with_reducible refine Below.alloc ?_ ?_ _))) <;> first | assumption | (simp; done) | (simp; omega)))) ((first
          | (go_at_call 92; (with_reducible refine (HCL.out _ (by ((repeat' (first | with_reducible assumption | with_reducible refine Below.drew ?_ | (with_reducible refine Below.alloc ?_ ?_ _))) <;> first | assumption | (simp; done) | (simp; omega)))).mono ?_); rintro e w2 ⟨rfl, hb2⟩; have hb2z : Below wo.heap.size wo w2 := Below.trans (show Below wo.heap.size wo _ by ((repeat' (first | with_reducible assumption | with_reducible refine Below.drew ?_ | (with_reducible refine Below.alloc ?_ ?_ _))) <;> first | assumption | (simp; done) | (simp; omega))) (hb2.mono (Below.size (show Below wo.heap.size wo _ by ((repeat' (first | with_reducible assumption | with_reducible refine Below.drew ?_ | (with_reducible refine Below.alloc ?_ ?_ _))) <;> first | assumption | (simp; done) | (simp; omega))))); clear hb2)))
        all_goals
          have HS2 : Hid (St B b W0 L w2) := Lib.hid (HS.out.step hB (show Below wo.heap.size wo w2 by assumption))
          go_wp2_with fail
          go_roundg (j - (h + 1))
          case measure => omega
          case rel =>
            refine ⟨h + 1, j, by omega, by omega, hjc, rfl, by go_num, rfl, fun _ z hz => ?_, HHI.out, HS2.out⟩
            rw [show h + 1 - 1 = h by omega, HY.out] at hz
            cases hz
            exact hcf
      · have hcb : decide (cf y x < 0) = false := by simpa using hcf
        go_upto_region 5 with fail
        go_region_held3 (fun W' => W'.cell? ⟨b, h * 5, none⟩ = some (.int .i64 y.kn) ∧ W'.cell? ⟨b, h * 5 + 1, none⟩ = some (.int .i64 y.kd) ∧ W'.cell? ⟨b, h * 5 + 2, none⟩ = some (.int .i64 y.dk) ∧ W'.cell? ⟨b, h * 5 + 3, none⟩ = some (.int .i64 y.dn) ∧ W'.cell? ⟨b, h * 5 + 4, none⟩ = some (.slice y.da y.dm y.dc) ∧ W'.cell? ⟨b, a * 5, none⟩ = some (.int .i64 x.kn) ∧ W'.cell? ⟨b, a * 5 + 1, none⟩ = some (.int .i64 x.kd) ∧ W'.cell? ⟨b, a * 5 + 2, none⟩ = some (.int .i64 x.dk) ∧ W'.cell? ⟨b, a * 5 + 3, none⟩ = some (.int .i64 x.dn) ∧ W'.cell? ⟨b, a * 5 + 4, none⟩ = some (.slice x.da x.dm x.dc)) ((refine HCC.out _ ?_; ((repeat' (first | with_reducible assumption | with_reducible refine Below.drew ?_ | (with_reducible refine Below.alloc ?_ ?_ _))) <;> first | assumption | (simp; done) | (simp; omega)))) ((first
          | (go_at_call 92; (with_reducible refine (HCL.out _ (by ((repeat' (first | with_reducible assumption | with_reducible refine Below.drew ?_ | (with_reducible refine Below.alloc ?_ ?_ _))) <;> first | assumption | (simp; done) | (simp; omega)))).mono ?_); rintro e w2 ⟨rfl, hb2⟩; have hb2z : Below wo.heap.size wo w2 := Below.trans (show Below wo.heap.size wo _ by ((repeat' (first | with_reducible assumption | with_reducible refine Below.drew ?_ | (with_reducible refine Below.alloc ?_ ?_ _))) <;> first | assumption | (simp; done) | (simp; omega))) (hb2.mono (Below.size (show Below wo.heap.size wo _ by ((repeat' (first | with_reducible assumption | with_reducible refine Below.drew ?_ | (with_reducible refine Below.alloc ?_ ?_ _))) <;> first | assumption | (simp; done) | (simp; omega))))); clear hb2)))
        all_goals
          have HS2 : Hid (St B b W0 L w2) := Lib.hid (HS.out.step hB (show Below wo.heap.size wo w2 by assumption))
          go_wp2_with fail
          go_roundg (h - i)
          case measure => omega
          case rel =>
            refine ⟨i, h, hmi, by omega, by omega, rfl, rfl, rfl, HLO.out, fun _ z hz => ?_, HS2.out⟩
            rw [HY.out] at hz
            cases hz
            exact hcf
    · obtain rfl : i = j := by omega
      obtain ⟨im, him1, him2⟩ : ∃ im, i ≤ im + 1 ∧ im + 1 ≤ i := ⟨i - 1, by omega, by omega⟩
      have wim : IntKind.i64.wrap ((i : Int) - 1) = (im : Int) := wrapS (n := i) (m := 1) (i := im) (by omega) (by omega)
      go_wp2_with fail
      go_loopg [13] (im - a) (fun g kv wr => ∃ k : Nat, ∃ L1 : List EC, a ≤ k ∧ k ≤ im ∧ g = im - k ∧ kv = .int .i64 (k : Int) ∧ Turned (rho a (a + 1) (k + 1)) L L1 ∧ St B b W0 L1 wr)
      case atStart => exact ⟨a, L, Nat.le_refl _, by omega, rfl, rfl, ⟨rfl, fun t => by rw [rho_none']⟩, HS.out⟩
      case round =>
        obtain ⟨k, L1, hak, hki, rfl, rfl, ht, hs1⟩ := hrel
        obtain ⟨w1, rfl⟩ : ∃ w1 : World, w1 = wr := ⟨_, rfl⟩
        have HT := Lib.hid ht
        have HS1 := Lib.hid hs1
        have HL1 : Hid (L1.length = N) := Lib.hid (by rw [HT.out.len, HN.out])
        clear ht hs1
        by_cases hk : k < im
        · have hki' : (k : Int) < (im : Int) := by omega
          obtain ⟨k1, hk1, hk2⟩ : ∃ k1, k1 ≤ k + 1 ∧ k + 1 ≤ k1 := ⟨k + 1, by omega, by omega⟩
          have wk : IntKind.i64.wrap ((k : Int) + 1) = (k1 : Int) := wrapN (n := k) (m := 1) (i := k1) (by omega) (by omega)
          obtain ⟨u, hu⟩ : ∃ u, L1[k]? = some u := ⟨_, List.getElem?_eq_getElem (by have := HL1.out; omega)⟩
          obtain ⟨z, hz⟩ : ∃ z, L1[k1]? = some z := ⟨_, List.getElem?_eq_getElem (by have := HL1.out; omega)⟩
          obtain ⟨x0, x1, x2, x3, x4⟩ := HS1.out.cell hu
          obtain ⟨y0, y1, y2, y3, y4⟩ := HS1.out.cell hz
          have fr := fun o => HS1.out.free o
          have HU := Lib.hid hu
          have HZ := Lib.hid hz
          have kN : (k : Int) < (N : Int) := by omega
          have k1N : (k1 : Int) < (N : Int) := by omega
          have k0 : (0 : Int) ≤ (k : Int) := by omega
          have k10 : (0 : Int) ≤ (k1 : Int) := by omega
          clear hu hz
          go_upto_region 11 with fail
          go_region
          have hS9 : St B b W0 ((L1.set k z).set k1 u) (set5 (set5 w1 b k z) b k1 u).drew := ((HS1.out.put hB (by rw [HL1.out]; omega) z).put hB (by rw [List.length_set, HL1.out]; omega) u).drew hB
          have HS9 := Lib.hid hS9
          obtain ⟨W9, hW9⟩ : ∃ W9, W9 = (set5 (set5 w1 b k z) b k1 u).drew := ⟨_, rfl⟩
          rw [← hW9] at HS9
          unfold set5 at hW9
          rw [← hW9]
          clear hW9 hS9 x0 x1 x2 x3 x4 y0 y1 y2 y3 y4 fr
          have HK : Hid (k1 = k + 1) := Lib.hid (by omega)
          go_wp2_with fail
          go_roundg (im - k1)
          case measure => omega
          case rel =>
            refine ⟨k1, (L1.set k z).set k1 u, by omega, by omega, rfl, rfl, ?_, HS9.out⟩
            refine (HT.out.trans (turned_swap (by omega) HU.out HZ.out)).congr fun t => ?_
            rw [HK.out]
            exact rho_up hak
        · have hki' : ¬ (k : Int) < (im : Int) := by omega
          have FIN : Hid (On (fun x y => decide (cf x y < 0)) a c L L1) := Lib.hid (one_left HCMP.out.ord HX.out (i := i) (by omega) hjc (by have := HN.out; omega) HV.out
            (fun h y hy => by simpa using HLO.out (by omega) y hy) (fun h y hy => by simpa using HHI.out h y hy) (by rw [show i = k + 1 by omega]; exact HT.out))
          go_wp2_with fail
          refine bodyPost_ret (results_none rfl _ _ _) rfl ?_
          exact ⟨rfl, L1, FIN.out, HS1.out⟩
end Go.Proofs.YtibabpahpiijgaaGreatDoor.Stab
