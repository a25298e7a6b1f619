/- The reference's answers on keys, on two entries and on rows of them. -/
import Derived.Test.YtephllgddhncgaaGreatDoorGEnt
import Derived.Test.YtephllgddhncgaaGreatDoorDescR
namespace Go.Proofs.YtephllgddhncgaaGreatDoor.Stab
open Go Go.RowKit
set_option linter.unusedSimpArgs false
set_option linter.unusedVariables false
set_option maxRecDepth 100000 in
set_option maxHeartbeats 4000000 in
theorem ahead_any (a1 a2 b1 b2 : Int) (w : World) :
    Calls Tryz.prog 31 #[.agg #[.int .i64 a1, .int .i64 a2], .agg #[.int .i64 b1, .int .i64 b2]] w fun e w' => e = .returned (.bool (ltK (a1, a2) (b1, b2))) ∧ Below w.heap.size w w' := by
  have hb0 : Below w.heap.size w ((w.alloc (.cells #[.int .i64 a1, .int .i64 a2] 39)).alloc (.cells #[.int .i64 b1, .int .i64 b2] 39)) := ((Below.refl _ _).alloc (Nat.le_refl _) _).alloc (by simp) _
  have HB0 := Lib.hid hb0
  clear hb0
  by_cases h1 : a1 < b1
  · have HR : Hid (ltK (a1, a2) (b1, b2) = true) := Lib.hid (ltK_iff.2 (.inl h1))
    go_enter Tryz.func31, Tryz.ntmps31
    go_wp2_with fail
    go_ret
    exact ⟨by rw [HR.out]; rfl, HB0.out⟩
  · by_cases h2 : a1 = b1
    · subst h2
      by_cases h3 : a2 < b2
      · have HR : Hid (ltK (a1, a2) (a1, b2) = true) := Lib.hid (ltK_iff.2 (.inr ⟨rfl, h3⟩))
        go_enter Tryz.func31, Tryz.ntmps31
        go_wp2_with fail
        go_ret
        exact ⟨by rw [HR.out]; rfl, HB0.out⟩
      · have HR : Hid (ltK (a1, a2) (a1, b2) = false) := Lib.hid (by cases e : ltK (a1, a2) (a1, b2) with | false => rfl | true => have := ltK_iff.1 e; dsimp only at this; omega)
        go_enter Tryz.func31, Tryz.ntmps31
        go_wp2_with fail
        go_ret
        exact ⟨by rw [HR.out]; rfl, HB0.out⟩
    · have HR : Hid (ltK (a1, a2) (b1, b2) = false) := Lib.hid (by cases e : ltK (a1, a2) (b1, b2) with | false => rfl | true => have := ltK_iff.1 e; dsimp only at this; omega)
      have hb : (a1 == b1) = false := by simpa using h2
      go_enter Tryz.func31, Tryz.ntmps31
      go_wp2_with fail
      go_ret
      exact ⟨by rw [HR.out]; rfl, HB0.out⟩
/-- Are two entries the same? -/
def sameE (x y : EntryV) : Bool := decide (x.1 = y.1) && decide (cmpD x.2 y.2 = 0)
theorem sameE_self (x : EntryV) : sameE x x = true := by simp [sameE, cmpD_self]
set_option maxRecDepth 100000 in
set_option maxHeartbeats 4000000 in
theorem same24_any (k : Nat) (F G : Foot) (a1 a2 b1 b2 ka na kb nb : Int) (la lb : List DescV) (da db : Option Addr) (ma mb ca cb : Nat) (w : World) (ha : RowOf (descRd k) 3 40 F w da ma ca la) (hb : RowOf (descRd k) 3 40 G w db mb cb lb) :
    Calls Tryz.prog 30 #[.agg #[.int .i64 a1, .int .i64 a2, .int .i64 ka, .int .i64 na, .slice da ma ca], .agg #[.int .i64 b1, .int .i64 b2, .int .i64 kb, .int .i64 nb, .slice db mb cb]] w
      fun e w' => e = .returned (.bool (sameE ((a1, a2), .mk ka na la) ((b1, b2), .mk kb nb lb))) ∧ Below w.heap.size w w' := by
  have hb0 : Below w.heap.size w ((w.alloc (.cells #[.int .i64 a1, .int .i64 a2, .int .i64 ka, .int .i64 na, .slice da ma ca] 44)).alloc (.cells #[.int .i64 b1, .int .i64 b2, .int .i64 kb, .int .i64 nb, .slice db mb cb] 44)) := ((Below.refl _ _).alloc (Nat.le_refl _) _).alloc (by simp) _
  have HA := Lib.hid (ha.keep (descRd_ok _) (Fix.of_below hb0))
  have HB := Lib.hid (hb.keep (descRd_ok _) (Fix.of_below hb0))
  have HB0 := Lib.hid hb0
  clear hb0 ha hb
  by_cases h1 : a1 = b1
  · by_cases h2 : a2 = b2
    · subst h1
      subst h2
      have HR : Hid (sameE ((a1, a2), .mk ka na la) ((a1, a2), .mk kb nb lb) = decide (cmpD (.mk ka na la) (.mk kb nb lb) = 0)) := Lib.hid (by simp [sameE])
      go_enter Tryz.func30, Tryz.ntmps30
      go_wp2_with (go_at_call 51; (with_reducible refine (rsame_any k F G ka na kb nb la lb da db ma mb ca cb _ HA.out HB.out).mono ?_); rintro e w2 ⟨rfl, hb2⟩; have HB2 := Lib.hid (HB0.out.trans (hb2.mono HB0.out.size)); clear hb2)
      go_ret
      exact ⟨by rw [HR.out]; rfl, HB2.out⟩
    · subst h1
      have hb : (a2 == b2) = false := by simpa using h2
      have HR : Hid (sameE ((a1, a2), .mk ka na la) ((a1, b2), .mk kb nb lb) = false) := Lib.hid (by simp [sameE, h2])
      go_enter Tryz.func30, Tryz.ntmps30
      go_wp2_with fail
      go_ret
      exact ⟨by rw [HR.out]; rfl, HB0.out⟩
  · have hb : (a1 == b1) = false := by simpa using h1
    have HR : Hid (sameE ((a1, a2), .mk ka na la) ((b1, b2), .mk kb nb lb) = false) := Lib.hid (by simp [sameE, h1])
    go_enter Tryz.func30, Tryz.ntmps30
    go_wp2_with fail
    go_ret
    exact ⟨by rw [HR.out]; rfl, HB0.out⟩
set_option maxRecDepth 100000 in
set_option maxHeartbeats 4000000 in
/-- A row of entries and one that shows the same. -/
theorem all24_eq (k : Nat) (F G : Foot) (l : List EntryV) (a b : Option Addr) (n c c' : Nat) (w : World) (hl : RowOf (entryRd k) 5 56 F w a n c l) (hm : RowOf (entryRd k) 5 56 G w b n c' l) :
    Calls Tryz.prog 12 #[.slice a n c, .slice b n c'] w fun e w' => e = .returned (.bool true) ∧ Below w.heap.size w w' := by
  have hn := hl.room
  have HL := Lib.hid hl
  have HM := Lib.hid hm
  clear hl hm
  go_enter Tryz.func12, Tryz.ntmps12
  go_wp2_with fail
  go_loopg [5] n (fun g iv wr => ∃ i : Nat, i ≤ n ∧ g = n - i ∧ iv = .int .i64 i ∧ Below w.heap.size w wr)
  case atStart => exact ⟨0, by omega, rfl, rfl, Below.refl _ _⟩
  case round =>
    obtain ⟨i, hi, rfl, rfl, hB⟩ := hrel
    obtain ⟨wo, rfl⟩ : ∃ wo : World, wo = wr := ⟨_, rfl⟩
    have HB := Lib.hid hB
    clear hB
    by_cases hlt : i < n
    · have hil : i < l.length := by have := HL.out.len; omega
      obtain ⟨b1, o1, hb1, kn, kd, dk, dn, dl, da, dm, dc, rfl, hx, ⟨p0, p1, p2, p3, p4⟩, _, _, hk⟩ := (HL.out.keep (entryRd_ok _) (Fix.of_below HB.out)).entry i hil
      obtain ⟨b2, o2, hb2, kn', kd', dk', dn', dl', da', dm', dc', rfl, hx', ⟨q0, q1, q2, q3, q4⟩, _, _, hk'⟩ := (HM.out.keep (entryRd_ok _) (Fix.of_below HB.out)).entry i hil
      rw [hx] at hx'
      cases hx'
      have HK := Lib.hid (descRd_kids hk)
      have HK' := Lib.hid (descRd_kids hk')
      have HS : Hid (∀ W, Below wo.heap.size wo W → (W.cell? ⟨b1, o1 + i * 5, none⟩ = some (.int .i64 kn) ∧ W.cell? ⟨b1, o1 + i * 5 + 1, none⟩ = some (.int .i64 kd) ∧ W.cell? ⟨b1, o1 + i * 5 + 2, none⟩ = some (.int .i64 dk) ∧ W.cell? ⟨b1, o1 + i * 5 + 3, none⟩ = some (.int .i64 dn) ∧ W.cell? ⟨b1, o1 + i * 5 + 4, none⟩ = some (.slice da dm dc)) ∧ W.cell? ⟨b2, o2 + i * 5, none⟩ = some (.int .i64 kn) ∧ W.cell? ⟨b2, o2 + i * 5 + 1, none⟩ = some (.int .i64 kd) ∧ W.cell? ⟨b2, o2 + i * 5 + 2, none⟩ = some (.int .i64 dk) ∧ W.cell? ⟨b2, o2 + i * 5 + 3, none⟩ = some (.int .i64 dn) ∧ W.cell? ⟨b2, o2 + i * 5 + 4, none⟩ = some (.slice da' dm' dc')) := Lib.hid fun W hb => by
        have e : ∀ g o, g < wo.heap.size → W.cell? ⟨g, o, none⟩ = wo.cell? ⟨g, o, none⟩ := fun g o h => hb.cell (p := ⟨g, o, none⟩) h
        simp only [e _ _ hb1, e _ _ hb2]
        exact ⟨⟨p0, p1, p2, p3, p4⟩, q0, q1, q2, q3, q4⟩
      have hbz := Below.refl wo.heap.size wo
      have HSB : Hid (sameE ((kn, kd), .mk dk dn dl) ((kn, kd), .mk dk dn dl) = true) := Lib.hid (sameE_self _)
      clear hk hk' hx p0 p1 p2 p3 p4 q0 q1 q2 q3 q4
      go_upto_region 6 with fail
      go_region_held3 (fun W => (W.cell? ⟨b1, o1 + i * 5, none⟩ = some (.int .i64 kn) ∧ W.cell? ⟨b1, o1 + i * 5 + 1, none⟩ = some (.int .i64 kd) ∧ W.cell? ⟨b1, o1 + i * 5 + 2, none⟩ = some (.int .i64 dk) ∧ W.cell? ⟨b1, o1 + i * 5 + 3, none⟩ = some (.int .i64 dn) ∧ W.cell? ⟨b1, o1 + i * 5 + 4, none⟩ = some (.slice da dm dc)) ∧ W.cell? ⟨b2, o2 + i * 5, none⟩ = some (.int .i64 kn) ∧ W.cell? ⟨b2, o2 + i * 5 + 1, none⟩ = some (.int .i64 kd) ∧ W.cell? ⟨b2, o2 + i * 5 + 2, none⟩ = some (.int .i64 dk) ∧ W.cell? ⟨b2, o2 + i * 5 + 3, none⟩ = some (.int .i64 dn) ∧ W.cell? ⟨b2, o2 + i * 5 + 4, none⟩ = some (.slice da' dm' dc')) ((refine HS.out _ ?_; ((repeat' (first | with_reducible assumption | with_reducible refine Below.drew ?_ | (with_reducible refine Below.alloc ?_ ?_ _))) <;> first | assumption | (simp; done) | (simp; omega))))
        ((go_at_call 30; (with_reducible refine (same24_any k F G kn kd kn kd dk dn dk dn dl dl da da' dm dm' dc dc' _ (HK.out.keep (descRd_ok _) (Fix.of_below (by ((repeat' (first | with_reducible assumption | with_reducible refine Below.drew ?_ | (with_reducible refine Below.alloc ?_ ?_ _))) <;> first | assumption | (simp; done) | (simp; omega))))) (HK'.out.keep (descRd_ok _) (Fix.of_below (by ((repeat' (first | with_reducible assumption | with_reducible refine Below.drew ?_ | (with_reducible refine Below.alloc ?_ ?_ _))) <;> first | assumption | (simp; done) | (simp; omega)))))).mono ?_); rintro e w2 ⟨he, hb2⟩; rw [HSB.out] at he; subst he; have HB2 : Below wo.heap.size wo w2 := Below.trans (by ((repeat' (first | with_reducible assumption | with_reducible refine Below.drew ?_ | (with_reducible refine Below.alloc ?_ ?_ _))) <;> first | assumption | (simp; done) | (simp; omega))) (Below.mono hb2 (Below.size (show Below wo.heap.size wo _ from by ((repeat' (first | with_reducible assumption | with_reducible refine Below.drew ?_ | (with_reducible refine Below.alloc ?_ ?_ _))) <;> first | assumption | (simp; done) | (simp; omega))))); clear hb2))
      all_goals
        go_wp2_with fail
        go_roundg (n - (i + 1))
        case measure => omega
        case rel => exact ⟨i + 1, by omega, rfl, by go_num, HB.out.trans (Below.mono (show Below wo.heap.size wo _ from by ((repeat' (first | with_reducible assumption | with_reducible refine Below.drew ?_ | (with_reducible refine Below.alloc ?_ ?_ _))) <;> first | assumption | (simp; done) | (simp; omega))) HB.out.size)⟩
    · obtain rfl : i = n := by omega
      go_wp2_with fail
      go_ret
      exact ⟨rfl, HB.out⟩
end Go.Proofs.YtephllgddhncgaaGreatDoor.Stab
