/- Entries: an entry is the same as itself; a row of entries and itself. -/
import Derived.Test.YtbijacoiblbnfaaEq
import Derived.Test.YtbijacoiblbnfaaDescR
namespace Go.Proofs.Ytbijacoiblbnfaa
open Go.RowKit
set_option linter.unusedSimpArgs false
set_option linter.unusedVariables false
abbrev EntryV := (Int × Int) × DescV
abbrev entryRd (k : Nat) : Rd EntryV := .pair (.pair (.int .i64) (.int .i64)) (descRd k)
theorem entryRd_ok (k : Nat) : (entryRd k).Ok 5 := Rd.pair_ok (Rd.pair_ok (Rd.int_ok _) (Rd.int_ok _)) (descRd_ok k)
theorem descRd_cells' {k : Nat} {F : Foot} {w : World} {cs : List Value} {d : DescV} (h : descRd k F w cs d) : ∃ a n c, cs = [.int .i64 d.kind, .int .i64 d.n, .slice a n c] ∧ RowOf (descRd k) 3 40 F w a n c d.kids := by
  cases k with
  | zero => exact h.elim
  | succ k =>
    obtain ⟨a, n, c, h1, _, _, h4⟩ := h
    exact ⟨a, n, c, h1, h4.imp fun _ _ h => descRd_succ k h⟩
theorem RowOf.entry {k : Nat} {F : Foot} {w : World} {a : Option Addr} {n cap : Nat} {l : List EntryV} (h : RowOf (entryRd k) 5 56 F w a n cap l) (i : Nat) (hi : i < l.length) :
    ∃ b o, b < w.heap.size ∧ ∃ kn kd dk dn dl da dm dc, a = some ⟨b, o, none⟩ ∧ l[i] = ((kn, kd), DescV.mk dk dn dl) ∧ (w.cell? ⟨b, o + i * 5, none⟩ = some (.int .i64 kn) ∧ w.cell? ⟨b, o + i * 5 + 1, none⟩ = some (.int .i64 kd) ∧ w.cell? ⟨b, o + i * 5 + 2, none⟩ = some (.int .i64 dk) ∧ w.cell? ⟨b, o + i * 5 + 3, none⟩ = some (.int .i64 dn) ∧ w.cell? ⟨b, o + i * 5 + 4, none⟩ = some (.slice da dm dc)) ∧ RowOf (descRd k) 3 40 F w da dm dc dl := by
  obtain ⟨b, o, cs, h1, h2, _, _, h4, h5⟩ := h.at_ i _ (List.getElem?_eq_getElem hi)
  generalize l[i] = x at h5
  obtain ⟨⟨kn, kd⟩, d⟩ := x
  obtain ⟨_, _, rfl, ⟨_, _, rfl, ⟨rfl, _⟩, rfl, _⟩, hd⟩ := h5
  obtain ⟨da, dm, dc, rfl, hk⟩ := descRd_cells' hd
  obtain ⟨dk, dn, dl⟩ := d
  exact ⟨b, o, h2, kn, kd, dk, dn, dl, da, dm, dc, h1, rfl, ⟨h4 0 _ rfl, h4 1 _ rfl, h4 2 _ rfl, h4 3 _ rfl, h4 4 _ rfl⟩, hk⟩
set_option maxRecDepth 100000 in
set_option maxHeartbeats 2000000 in
theorem esame_eq (k : Nat) (F : Foot) (kn kd dk dn : Int) (dl : List DescV) (da : Option Addr) (dm dc : Nat) (w : World) (hd : RowOf (descRd k) 3 40 F w da dm dc dl) :
    Calls Try.prog 31 #[.agg #[.int .i64 kn, .int .i64 kd, .int .i64 dk, .int .i64 dn, .slice da dm dc], .agg #[.int .i64 kn, .int .i64 kd, .int .i64 dk, .int .i64 dn, .slice da dm dc]] w fun e w' => e = .returned (.bool true) ∧ Below w.heap.size w w' := by
  have hb0 : Below w.heap.size w ((w.alloc (.cells #[.int .i64 kn, .int .i64 kd, .int .i64 dk, .int .i64 dn, .slice da dm dc] 55)).alloc (.cells #[.int .i64 kn, .int .i64 kd, .int .i64 dk, .int .i64 dn, .slice da dm dc] 55)) := ((Below.refl _ _).alloc (Nat.le_refl _) _).alloc (by simp) _
  have HD := Lib.hid (hd.keep (descRd_ok _) (Fix.of_below hb0))
  have HB := Lib.hid hb0
  clear hd hb0
  go_enter Try.func31, Try.ntmps31
  go_wp2_with (go_at_call 42; (with_reducible refine (dsame_any k F F dk dn dk dn dl dl da da dm dm dc dc _ HD.out HD.out).mono ?_); rintro e w2 ⟨he, hb2⟩; rw [cmpD_self, decide_eq_true rfl] at he; subst he; have HB2 := Lib.hid (HB.out.trans (hb2.mono HB.out.size)); clear hb2)
  go_ret
  exact ⟨rfl, HB2.out⟩
set_option maxRecDepth 100000 in
set_option maxHeartbeats 4000000 in
theorem firstE_eq (k : Nat) (F : Foot) (l : List EntryV) (a : Option Addr) (n c : Nat) (w : World) (hl : RowOf (entryRd k) 5 56 F w a n c l) :
    Calls Try.prog 30 #[.slice a n c, .slice a n c, .func (.func 31) #[] #[]] w fun e w' => e = .returned (.int .i64 (-1)) ∧ Below w.heap.size w w' := by
  have hn := hl.room
  have HL := Lib.hid hl
  clear hl
  go_enter Try.func30, Try.ntmps30
  go_wp2_with fail
  go_loopg [13] n (fun g iv wr => ∃ i : Nat, i ≤ n ∧ g = n - i ∧ iv = .int .i64 i ∧ Below w.heap.size w wr)
  case atStart => exact ⟨0, by omega, rfl, rfl, Below.refl _ _⟩
  case round =>
    obtain ⟨i, hi, rfl, rfl, hB⟩ := hrel
    obtain ⟨wo, rfl⟩ : ∃ wo : World, wo = wr := ⟨_, rfl⟩
    have HB := Lib.hid hB
    clear hB
    by_cases hlt : i < n
    · obtain ⟨b, o, hb, kn, kd, dk, dn, dl, da, dm, dc, rfl, _, hc, hd⟩ := (HL.out.keep (entryRd_ok _) (Fix.of_below HB.out)).entry i (by have := HL.out.len; omega)
      have HD := Lib.hid hd
      have HS : Hid (∀ W, Below wo.heap.size wo W → W.cell? ⟨b, o + i * 5, none⟩ = some (.int .i64 kn) ∧ W.cell? ⟨b, o + i * 5 + 1, none⟩ = some (.int .i64 kd) ∧ W.cell? ⟨b, o + i * 5 + 2, none⟩ = some (.int .i64 dk) ∧ W.cell? ⟨b, o + i * 5 + 3, none⟩ = some (.int .i64 dn) ∧ W.cell? ⟨b, o + i * 5 + 4, none⟩ = some (.slice da dm dc)) := Lib.hid fun W h => by
        have e : ∀ o, W.cell? ⟨b, o, none⟩ = wo.cell? ⟨b, o, none⟩ := fun o => h.cell (p := ⟨b, o, none⟩) hb
        simp only [e]
        exact hc
      have hle : ¬ n ≤ i := by omega
      have hbz := Below.refl wo.heap.size wo
      clear hc hd
      go_wp2_with fail
      go_region_held3 (fun W => W.cell? ⟨b, o + i * 5, none⟩ = some (.int .i64 kn) ∧ W.cell? ⟨b, o + i * 5 + 1, none⟩ = some (.int .i64 kd) ∧ W.cell? ⟨b, o + i * 5 + 2, none⟩ = some (.int .i64 dk) ∧ W.cell? ⟨b, o + i * 5 + 3, none⟩ = some (.int .i64 dn) ∧ W.cell? ⟨b, o + i * 5 + 4, none⟩ = some (.slice da dm dc)) ((refine HS.out _ ?_; ((repeat' (first | with_reducible assumption | with_reducible refine Below.drew ?_ | (with_reducible refine Below.alloc ?_ ?_ _))) <;> first | assumption | (simp; done) | (simp; omega))))
       ((go_at_call 31; (with_reducible refine (esame_eq k F kn kd dk dn dl da dm dc _ (HD.out.keep (descRd_ok _) (Fix.of_below (by ((repeat' (first | with_reducible assumption | with_reducible refine Below.drew ?_ | (with_reducible refine Below.alloc ?_ ?_ _))) <;> first | assumption | (simp; done) | (simp; omega)))))).mono ?_); rintro e w2 ⟨rfl, hb2⟩; have HB2 : Below wo.heap.size wo w2 := Below.trans (by ((repeat' (first | with_reducible assumption | with_reducible refine Below.drew ?_ | (with_reducible refine Below.alloc ?_ ?_ _))) <;> first | assumption | (simp; done) | (simp; omega))) (Below.mono hb2 (Below.size (show Below wo.heap.size wo _ from by ((repeat' (first | with_reducible assumption | with_reducible refine Below.drew ?_ | (with_reducible refine Below.alloc ?_ ?_ _))) <;> first | assumption | (simp; done) | (simp; omega))))); clear hb2))
      all_goals
        go_wp2_with fail
        go_roundg (n - (i + 1))
        case measure => omega
        case rel => exact ⟨i + 1, by omega, rfl, by go_num, HB.out.trans (Below.mono (show Below wo.heap.size wo _ from by ((repeat' (first | with_reducible assumption | with_reducible refine Below.drew ?_ | (with_reducible refine Below.alloc ?_ ?_ _))) <;> first | assumption | (simp; done) | (simp; omega))) HB.out.size)⟩
    · go_wp2_with fail
      go_ret
      exact ⟨rfl, HB.out⟩
end Go.Proofs.Ytbijacoiblbnfaa
