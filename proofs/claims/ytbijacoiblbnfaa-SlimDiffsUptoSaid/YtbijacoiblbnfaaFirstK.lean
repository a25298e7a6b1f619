/- slim.first at rows of keys (printed by tools/mk_firstk.py). -/
import Derived.Test.YtbijacoiblbnfaaEq
import Derived.Test.YtbijacoiblbnfaaSlimB
namespace Go.Proofs.Ytbijacoiblbnfaa
open Go.RowKit
set_option linter.unusedSimpArgs false
set_option linter.unusedVariables false
def firstI {α : Type} [DecidableEq α] : List α → List α → Nat → Int
  | [], [], _ => -1
  | a :: l, b :: m, i => if a = b then firstI l m (i + 1) else i
  | _, _, i => i
section
variable {α : Type} [DecidableEq α]
theorem firstI_drop {l m : List α} {i : Nat} (h : i < l.length) (h' : i < m.length) : firstI (l.drop i) (m.drop i) i = if l[i] = m[i] then firstI (l.drop (i + 1)) (m.drop (i + 1)) (i + 1) else i := by
  rw [List.drop_eq_getElem_cons h, List.drop_eq_getElem_cons h', firstI]
theorem firstI_end {l m : List α} {i : Nat} (h : l.length ≤ i) (h' : m.length ≤ i) : firstI (l.drop i) (m.drop i) i = -1 := by
  rw [List.drop_of_length_le h, List.drop_of_length_le h', firstI]
theorem firstI_left {l m : List α} {i : Nat} (h : l.length ≤ i) (h' : i < m.length) : firstI (l.drop i) (m.drop i) i = i := by
  rw [List.drop_of_length_le h, List.drop_eq_getElem_cons h']
  rfl
theorem firstI_right {l m : List α} {i : Nat} (h : i < l.length) (h' : m.length ≤ i) : firstI (l.drop i) (m.drop i) i = i := by
  rw [List.drop_of_length_le h', List.drop_eq_getElem_cons h]
  rfl
theorem firstI_self : ∀ (l : List α) (i : Nat), firstI l l i = -1
  | [], _ => rfl
  | a :: l, i => by rw [firstI, if_pos rfl, firstI_self l]
theorem firstI_len : ∀ {l m : List α} {i : Nat}, l.length ≠ m.length → 0 ≤ firstI l m i
  | [], [], _, h => absurd rfl h
  | _ :: _, [], i, _ => by show (0 : Int) ≤ i; omega
  | [], _ :: _, i, _ => by show (0 : Int) ≤ i; omega
  | a :: l, b :: m, i, h => by
    rw [firstI]
    split
    · exact firstI_len (by simpa using h)
    · omega
end
abbrev rowK : Rd (List KeyV) := .slice keyRd 2 16
theorem rowK_ok : rowK.Ok 1 := Rd.slice_ok keyRd_ok 16
set_option maxRecDepth 100000 in
set_option maxHeartbeats 4000000 in
theorem firstk_any (l m : List (List KeyV)) (a b : Option Addr) (n n' c c' : Nat) (w : World) (hl : RowOf rowK 1 24 All w a n c l) (hm : RowOf rowK 1 24 All w b n' c' m) :
    Calls Try.prog 32 #[.slice a n c, .slice b n' c', .func (.func 33) #[] #[]] w fun e w' => e = .returned (.int .i64 (firstI l m 0)) ∧ Below w.heap.size w w' := by
  have hn := hl.room
  have hn' := hm.room
  have HL := Lib.hid hl
  have HM := Lib.hid hm
  clear hl hm
  by_cases hmx : n' ≤ n
  · go_enter Try.func32, Try.ntmps32
    go_wp2_with fail
    go_loopg [13] n (fun g iv wr => ∃ i : Nat, i ≤ n ∧ g = n - i ∧ iv = .int .i64 i ∧ firstI l m 0 = firstI (l.drop i) (m.drop i) i ∧ Below w.heap.size w wr)
    case atStart => exact ⟨0, by omega, rfl, rfl, rfl, Below.refl _ _⟩
    case round =>
      obtain ⟨i, hi, rfl, rfl, hc, hB⟩ := hrel
      obtain ⟨wo, rfl⟩ : ∃ wo : World, wo = wr := ⟨_, rfl⟩
      have HC := Lib.hid hc
      have HB := Lib.hid hB
      clear hc hB
      by_cases hlt : i < n
      · by_cases h1 : i < n
        · by_cases h2 : i < n'
          · have HST := Lib.hid (firstI_drop (l := l) (m := m) (i := i) (by have := HL.out.len; omega) (by have := HM.out.len; omega))
            obtain ⟨b1, o1, a1, n1, c1, rfl, hb1, _, p1, hr1⟩ := (HL.out.keep rowK_ok (Fix.of_below HB.out)).row i (by have := HL.out.len; omega)
            obtain ⟨b2, o2, a2, n2, c2, rfl, hb2, _, p2, hr2⟩ := (HM.out.keep rowK_ok (Fix.of_below HB.out)).row i (by have := HM.out.len; omega)
            have HR1 := Lib.hid hr1
            have HR2 := Lib.hid hr2
            generalize l[i]'_ = x at *
            generalize m[i]'_ = y at *
            have HS : Hid (∀ W, Below wo.heap.size wo W → W.cell? ⟨b1, o1 + i, none⟩ = some (.slice a1 n1 c1) ∧ W.cell? ⟨b2, o2 + i, none⟩ = some (.slice a2 n2 c2)) := Lib.hid fun W hb => ⟨(hb.cell (p := ⟨b1, o1 + i, none⟩) hb1).trans p1, (hb.cell (p := ⟨b2, o2 + i, none⟩) hb2).trans p2⟩
            have hbz := Below.refl wo.heap.size wo
            have h1' : ¬ n ≤ i := by omega
            have h2' : ¬ n' ≤ i := by omega
            clear p1 p2 hr1 hr2
            by_cases hxy : x = y
            · have HXY := Lib.hid hxy
              clear hxy
              go_wp2_with fail
              go_region_held3 (fun W => W.cell? ⟨b1, o1 + i, none⟩ = some (.slice a1 n1 c1) ∧ W.cell? ⟨b2, o2 + i, none⟩ = some (.slice a2 n2 c2)) ((refine HS.out _ ?_; ((repeat' (first | with_reducible assumption | with_reducible refine Below.drew ?_ | (with_reducible refine Below.alloc ?_ ?_ _))) <;> first | assumption | (simp; done) | (simp; omega))))
               ((go_at_call 33; (with_reducible refine (equalK_any x y All All a1 a2 n1 n2 c1 c2 _ (HR1.out.keep keyRd_ok (Fix.of_below (by ((repeat' (first | with_reducible assumption | with_reducible refine Below.drew ?_ | (with_reducible refine Below.alloc ?_ ?_ _))) <;> first | assumption | (simp; done) | (simp; omega))))) (HR2.out.keep keyRd_ok (Fix.of_below (by ((repeat' (first | with_reducible assumption | with_reducible refine Below.drew ?_ | (with_reducible refine Below.alloc ?_ ?_ _))) <;> first | assumption | (simp; done) | (simp; omega)))))).mono ?_); rintro e w2 ⟨he, d, hw2⟩; rw [decide_eq_true HXY.out] at he; subst he; have HB2 : Below wo.heap.size wo w2 := (by rw [hw2]; exact below_drewN (by ((repeat' (first | with_reducible assumption | with_reducible refine Below.drew ?_ | (with_reducible refine Below.alloc ?_ ?_ _))) <;> first | assumption | (simp; done) | (simp; omega))) _); clear hw2))
              all_goals
                go_wp2_with fail
                go_roundg (n - (i + 1))
                case measure => omega
                case rel => exact ⟨i + 1, by omega, rfl, by go_num, by rw [HC.out, HST.out, if_pos HXY.out], HB.out.trans (Below.mono (show Below wo.heap.size wo _ from by ((repeat' (first | with_reducible assumption | with_reducible refine Below.drew ?_ | (with_reducible refine Below.alloc ?_ ?_ _))) <;> first | assumption | (simp; done) | (simp; omega))) HB.out.size)⟩
            · have HXY := Lib.hid hxy
              clear hxy
              go_wp2_with fail
              go_region_held3 (fun W => W.cell? ⟨b1, o1 + i, none⟩ = some (.slice a1 n1 c1) ∧ W.cell? ⟨b2, o2 + i, none⟩ = some (.slice a2 n2 c2)) ((refine HS.out _ ?_; ((repeat' (first | with_reducible assumption | with_reducible refine Below.drew ?_ | (with_reducible refine Below.alloc ?_ ?_ _))) <;> first | assumption | (simp; done) | (simp; omega))))
               ((go_at_call 33; (with_reducible refine (equalK_any x y All All a1 a2 n1 n2 c1 c2 _ (HR1.out.keep keyRd_ok (Fix.of_below (by ((repeat' (first | with_reducible assumption | with_reducible refine Below.drew ?_ | (with_reducible refine Below.alloc ?_ ?_ _))) <;> first | assumption | (simp; done) | (simp; omega))))) (HR2.out.keep keyRd_ok (Fix.of_below (by ((repeat' (first | with_reducible assumption | with_reducible refine Below.drew ?_ | (with_reducible refine Below.alloc ?_ ?_ _))) <;> first | assumption | (simp; done) | (simp; omega)))))).mono ?_); rintro e w2 ⟨he, d, hw2⟩; rw [decide_eq_false HXY.out] at he; subst he; have HB2 : Below wo.heap.size wo w2 := (by rw [hw2]; exact below_drewN (by ((repeat' (first | with_reducible assumption | with_reducible refine Below.drew ?_ | (with_reducible refine Below.alloc ?_ ?_ _))) <;> first | assumption | (simp; done) | (simp; omega))) _); clear hw2))
              all_goals
                go_wp2_with fail
                go_ret
                exact ⟨by rw [HC.out, HST.out, if_neg HXY.out]; rfl, HB.out.trans (Below.mono (show Below wo.heap.size wo _ from by ((repeat' (first | with_reducible assumption | with_reducible refine Below.drew ?_ | (with_reducible refine Below.alloc ?_ ?_ _))) <;> first | assumption | (simp; done) | (simp; omega))) HB.out.size)⟩
          · have h1' : ¬ n ≤ i := by omega
            have h2' : n' ≤ i := by omega
            have HST := Lib.hid (firstI_right (l := l) (m := m) (i := i) (by have := HL.out.len; omega) (by have := HM.out.len; omega))
            go_wp2_with fail
            go_quiet (fail)
            go_wp2_with fail
            go_ret
            exact ⟨by rw [HC.out, HST.out]; rfl, below_drewN HB.out _⟩
        · have h1' : n ≤ i := by omega
          have h2 : i < n' := by omega
          have HST := Lib.hid (firstI_left (l := l) (m := m) (i := i) (by have := HL.out.len; omega) (by have := HM.out.len; omega))
          go_wp2_with fail
          go_quiet (fail)
          go_wp2_with fail
          go_ret
          exact ⟨by rw [HC.out, HST.out]; rfl, below_drewN HB.out _⟩
      · have HST := Lib.hid (firstI_end (l := l) (m := m) (i := i) (by have := HL.out.len; omega) (by have := HM.out.len; omega))
        go_wp2_with fail
        go_ret
        exact ⟨by rw [HC.out, HST.out]; rfl, HB.out⟩
  · have hmx' : n ≤ n' := by omega
    go_enter Try.func32, Try.ntmps32
    go_wp2_with fail
    go_loopg [13] n' (fun g iv wr => ∃ i : Nat, i ≤ n' ∧ g = n' - i ∧ iv = .int .i64 i ∧ firstI l m 0 = firstI (l.drop i) (m.drop i) i ∧ Below w.heap.size w wr)
    case atStart => exact ⟨0, by omega, rfl, rfl, rfl, Below.refl _ _⟩
    case round =>
      obtain ⟨i, hi, rfl, rfl, hc, hB⟩ := hrel
      obtain ⟨wo, rfl⟩ : ∃ wo : World, wo = wr := ⟨_, rfl⟩
      have HC := Lib.hid hc
      have HB := Lib.hid hB
      clear hc hB
      by_cases hlt : i < n'
      · by_cases h1 : i < n
        · by_cases h2 : i < n'
          · have HST := Lib.hid (firstI_drop (l := l) (m := m) (i := i) (by have := HL.out.len; omega) (by have := HM.out.len; omega))
            obtain ⟨b1, o1, a1, n1, c1, rfl, hb1, _, p1, hr1⟩ := (HL.out.keep rowK_ok (Fix.of_below HB.out)).row i (by have := HL.out.len; omega)
            obtain ⟨b2, o2, a2, n2, c2, rfl, hb2, _, p2, hr2⟩ := (HM.out.keep rowK_ok (Fix.of_below HB.out)).row i (by have := HM.out.len; omega)
            have HR1 := Lib.hid hr1
            have HR2 := Lib.hid hr2
            generalize l[i]'_ = x at *
            generalize m[i]'_ = y at *
            have HS : Hid (∀ W, Below wo.heap.size wo W → W.cell? ⟨b1, o1 + i, none⟩ = some (.slice a1 n1 c1) ∧ W.cell? ⟨b2, o2 + i, none⟩ = some (.slice a2 n2 c2)) := Lib.hid fun W hb => ⟨(hb.cell (p := ⟨b1, o1 + i, none⟩) hb1).trans p1, (hb.cell (p := ⟨b2, o2 + i, none⟩) hb2).trans p2⟩
            have hbz := Below.refl wo.heap.size wo
            have h1' : ¬ n ≤ i := by omega
            have h2' : ¬ n' ≤ i := by omega
            clear p1 p2 hr1 hr2
            by_cases hxy : x = y
            · have HXY := Lib.hid hxy
              clear hxy
              go_wp2_with fail
              go_region_held3 (fun W => W.cell? ⟨b1, o1 + i, none⟩ = some (.slice a1 n1 c1) ∧ W.cell? ⟨b2, o2 + i, none⟩ = some (.slice a2 n2 c2)) ((refine HS.out _ ?_; ((repeat' (first | with_reducible assumption | with_reducible refine Below.drew ?_ | (with_reducible refine Below.alloc ?_ ?_ _))) <;> first | assumption | (simp; done) | (simp; omega))))
               ((go_at_call 33; (with_reducible refine (equalK_any x y All All a1 a2 n1 n2 c1 c2 _ (HR1.out.keep keyRd_ok (Fix.of_below (by ((repeat' (first | with_reducible assumption | with_reducible refine Below.drew ?_ | (with_reducible refine Below.alloc ?_ ?_ _))) <;> first | assumption | (simp; done) | (simp; omega))))) (HR2.out.keep keyRd_ok (Fix.of_below (by ((repeat' (first | with_reducible assumption | with_reducible refine Below.drew ?_ | (with_reducible refine Below.alloc ?_ ?_ _))) <;> first | assumption | (simp; done) | (simp; omega)))))).mono ?_); rintro e w2 ⟨he, d, hw2⟩; rw [decide_eq_true HXY.out] at he; subst he; have HB2 : Below wo.heap.size wo w2 := (by rw [hw2]; exact below_drewN (by ((repeat' (first | with_reducible assumption | with_reducible refine Below.drew ?_ | (with_reducible refine Below.alloc ?_ ?_ _))) <;> first | assumption | (simp; done) | (simp; omega))) _); clear hw2))
              all_goals
                go_wp2_with fail
                go_roundg (n' - (i + 1))
                case measure => omega
                case rel => exact ⟨i + 1, by omega, rfl, by go_num, by rw [HC.out, HST.out, if_pos HXY.out], HB.out.trans (Below.mono (show Below wo.heap.size wo _ from by ((repeat' (first | with_reducible assumption | with_reducible refine Below.drew ?_ | (with_reducible refine Below.alloc ?_ ?_ _))) <;> first | assumption | (simp; done) | (simp; omega))) HB.out.size)⟩
            · have HXY := Lib.hid hxy
              clear hxy
              go_wp2_with fail
              go_region_held3 (fun W => W.cell? ⟨b1, o1 + i, none⟩ = some (.slice a1 n1 c1) ∧ W.cell? ⟨b2, o2 + i, none⟩ = some (.slice a2 n2 c2)) ((refine HS.out _ ?_; ((repeat' (first | with_reducible assumption | with_reducible refine Below.drew ?_ | (with_reducible refine Below.alloc ?_ ?_ _))) <;> first | assumption | (simp; done) | (simp; omega))))
               ((go_at_call 33; (with_reducible refine (equalK_any x y All All a1 a2 n1 n2 c1 c2 _ (HR1.out.keep keyRd_ok (Fix.of_below (by ((repeat' (first | with_reducible assumption | with_reducible refine Below.drew ?_ | (with_reducible refine Below.alloc ?_ ?_ _))) <;> first | assumption | (simp; done) | (simp; omega))))) (HR2.out.keep keyRd_ok (Fix.of_below (by ((repeat' (first | with_reducible assumption | with_reducible refine Below.drew ?_ | (with_reducible refine Below.alloc ?_ ?_ _))) <;> first | assumption | (simp; done) | (simp; omega)))))).mono ?_); rintro e w2 ⟨he, d, hw2⟩; rw [decide_eq_false HXY.out] at he; subst he; have HB2 : Below wo.heap.size wo w2 := (by rw [hw2]; exact below_drewN (by ((repeat' (first | with_reducible assumption | with_reducible refine Below.drew ?_ | (with_reducible refine Below.alloc ?_ ?_ _))) <;> first | assumption | (simp; done) | (simp; omega))) _); clear hw2))
              all_goals
                go_wp2_with fail
                go_ret
                exact ⟨by rw [HC.out, HST.out, if_neg HXY.out]; rfl, HB.out.trans (Below.mono (show Below wo.heap.size wo _ from by ((repeat' (first | with_reducible assumption | with_reducible refine Below.drew ?_ | (with_reducible refine Below.alloc ?_ ?_ _))) <;> first | assumption | (simp; done) | (simp; omega))) HB.out.size)⟩
          · have h1' : ¬ n ≤ i := by omega
            have h2' : n' ≤ i := by omega
            have HST := Lib.hid (firstI_right (l := l) (m := m) (i := i) (by have := HL.out.len; omega) (by have := HM.out.len; omega))
            go_wp2_with fail
            go_quiet (fail)
            go_wp2_with fail
            go_ret
            exact ⟨by rw [HC.out, HST.out]; rfl, below_drewN HB.out _⟩
        · have h1' : n ≤ i := by omega
          have h2 : i < n' := by omega
          have HST := Lib.hid (firstI_left (l := l) (m := m) (i := i) (by have := HL.out.len; omega) (by have := HM.out.len; omega))
          go_wp2_with fail
          go_quiet (fail)
          go_wp2_with fail
          go_ret
          exact ⟨by rw [HC.out, HST.out]; rfl, below_drewN HB.out _⟩
      · have HST := Lib.hid (firstI_end (l := l) (m := m) (i := i) (by have := HL.out.len; omega) (by have := HM.out.len; omega))
        go_wp2_with fail
        go_ret
        exact ⟨by rw [HC.out, HST.out]; rfl, HB.out⟩
end Go.Proofs.Ytbijacoiblbnfaa
