/- slices.Equal, row by row (printed by tools/mk_eq.py). -/
import Derived.Test.YtbijacoiblbnfaaSlimA
namespace Go.Proofs.Ytbijacoiblbnfaa
open Go.RowKit
set_option linter.unusedSimpArgs false
set_option linter.unusedVariables false
abbrev KeyV := Int × Int
abbrev keyRd : Rd KeyV := .pair (.int .i64) (.int .i64)
abbrev NameV := Int × Int × Int × Int
abbrev nameRd : Rd NameV := .pair (.int .i64) (.pair (.int .i64) (.pair (.int .i64) (.int .i64)))
theorem keyRd_ok : keyRd.Ok 2 := Rd.pair_ok (Rd.int_ok _) (Rd.int_ok _)
theorem nameRd_ok : nameRd.Ok 4 := Rd.pair_ok (Rd.int_ok _) (Rd.pair_ok (Rd.int_ok _) (Rd.pair_ok (Rd.int_ok _) (Rd.int_ok _)))
theorem RowOf.equalK {F : Foot} {w : World} {a : Option Addr} {n cap : Nat} {l : List KeyV} (h : RowOf keyRd 2 16 F w a n cap l) (i : Nat) (hi : i < l.length) :
    ∃ b off, a = some ⟨b, off, none⟩ ∧ w.cell? ⟨b, off + i * 2, none⟩ = some (.int .i64 (l[i]'hi).1) ∧ w.cell? ⟨b, off + i * 2 + 1, none⟩ = some (.int .i64 (l[i]'hi).2) := by
  obtain ⟨b, off, cs, h1, _, _, _, h4, _, _, rfl, ⟨rfl, _⟩, rfl, _⟩ := h.at_ i _ (List.getElem?_eq_getElem hi)
  exact ⟨b, off, h1, h4 0 _ rfl, h4 1 _ rfl⟩
theorem RowOf.equalN {F : Foot} {w : World} {a : Option Addr} {n cap : Nat} {l : List NameV} (h : RowOf nameRd 4 32 F w a n cap l) (i : Nat) (hi : i < l.length) :
    ∃ b off, a = some ⟨b, off, none⟩ ∧ w.cell? ⟨b, off + i * 4, none⟩ = some (.int .i64 (l[i]'hi).1) ∧ w.cell? ⟨b, off + i * 4 + 1, none⟩ = some (.int .i64 (l[i]'hi).2.1) ∧
      w.cell? ⟨b, off + i * 4 + 2, none⟩ = some (.int .i64 (l[i]'hi).2.2.1) ∧ w.cell? ⟨b, off + i * 4 + 3, none⟩ = some (.int .i64 (l[i]'hi).2.2.2) := by
  obtain ⟨b, off, cs, h1, _, _, _, h4, _, _, rfl, ⟨rfl, _⟩, _, _, rfl, ⟨rfl, _⟩, _, _, rfl, ⟨rfl, _⟩, rfl, _⟩ := h.at_ i _ (List.getElem?_eq_getElem hi)
  exact ⟨b, off, h1, h4 0 _ rfl, h4 1 _ rfl, h4 2 _ rfl, h4 3 _ rfl⟩
def equalKB (x y : KeyV) : Bool := (x.1 == y.1) && (x.2 == y.2)
theorem equalKB_ne {x y : KeyV} (h : x ≠ y) : equalKB x y = false := by
  unfold equalKB
  rw [Bool.eq_false_iff]
  intro e
  simp at e
  exact h (Prod.ext e.1 e.2)
def equalNB (x y : NameV) : Bool := (x.1 == y.1) && ((x.2.1 == y.2.1) && ((x.2.2.1 == y.2.2.1) && (x.2.2.2 == y.2.2.2)))
theorem equalNB_ne {x y : NameV} (h : x ≠ y) : equalNB x y = false := by
  unfold equalNB
  rw [Bool.eq_false_iff]
  intro e
  simp at e
  exact h (Prod.ext e.1 (Prod.ext e.2.1 (Prod.ext e.2.2.1 e.2.2.2)))
set_option maxRecDepth 100000 in
set_option maxHeartbeats 2000000 in
theorem equalU_any (xs ys : List Int) (F G : Foot) (a1 a2 : Option Addr) (n m c1 c2 : Nat) (w : World) (h1 : RowOf (Rd.int .u64) 1 8 F w a1 n c1 xs) (h2 : RowOf (Rd.int .u64) 1 8 G w a2 m c2 ys) :
    Calls Try.prog 40 #[.slice a1 n c1, .slice a2 m c2] w fun e w' => e = .returned (.bool (decide (xs = ys))) ∧ ∃ d, w' = w.drewN d := by
  have hn := room64 h1.room (by omega)
  have hx := h1.len
  have hy := h2.len
  have H1 := Lib.hid h1
  have H2 := Lib.hid h2
  clear h1 h2
  by_cases hl : n = m
  · subst hl
    have HX := Lib.hid hx
    have HY := Lib.hid hy
    clear hx hy
    go_enter Try.func40, Try.ntmps40
    go_wp2_with fail
    go_loopg [13, 5] n (fun g iv jv wr => ∃ k d : Nat, k ≤ n ∧ g = n - k ∧ iv = .int .i64 k ∧ wr = w.drewN d ∧ xs.take k = ys.take k)
    case atStart => exact ⟨0, 0, Nat.zero_le _, rfl, rfl, rfl, rfl⟩
    case round =>
      obtain ⟨k, d, hk, rfl, rfl, rfl, htk⟩ := hrel
      have HT := Lib.hid htk
      clear htk
      by_cases hlt : k < n
      · have hkx : k < xs.length := by have := HX.out; omega
        have hky : k < ys.length := by have := HY.out; omega
        obtain ⟨g1, o1, rfl, _, _, d1, _⟩ := H1.out.int k hkx
        obtain ⟨g2, o2, rfl, _, _, d2, _⟩ := H2.out.int k hky
        by_cases hz : xs[k]'hkx = ys[k]'hky
        · have HTN := Lib.hid (take_eq_step k HT.out hkx hky hz)
          rw [hz] at d1
          generalize ys[k]'hky = z at *
          clear hz
          go_wp2_with fail
          go_quiet (fail)
          go_wp2_with fail
          go_roundg (n - (k + 1))
          case measure => omega
          case rel => exact ⟨k + 1, _, by omega, rfl, by go_num, rfl, HTN.out⟩
        · have HNE : Hid (xs ≠ ys) := Lib.hid fun e => hz (by subst e; rfl)
          have hb : (xs[k]'hkx != ys[k]'hky) = true := by simpa using hz
          generalize ys[k]'hky = z at *
          generalize xs[k]'hkx = z' at *
          go_wp2_with fail
          go_quiet (fail)
          go_wp2_with fail
          go_ret
          exact ⟨ret_bool (by simp [HNE.out]), d + nq, by simp⟩
      · have HE : Hid (xs = ys) := Lib.hid (by have h := HT.out; rwa [List.take_of_length_le (by have := HX.out; omega), List.take_of_length_le (by have := HY.out; omega)] at h)
        go_wp2_with fail
        go_ret
        exact ⟨ret_bool (by simp [HE.out]), d, rfl⟩
  · have HNE : Hid (xs ≠ ys) := Lib.hid fun e => hl (by subst e; omega)
    have hb : decide (n = m) = false := by simpa using hl
    clear hx hy
    go_enter Try.func40, Try.ntmps40
    go_wp2_with fail
    go_ret
    exact ⟨ret_bool (by simp [HNE.out]), 0, rfl⟩
set_option maxRecDepth 100000 in
set_option maxHeartbeats 2000000 in
theorem equalI_any (xs ys : List Int) (F G : Foot) (a1 a2 : Option Addr) (n m c1 c2 : Nat) (w : World) (h1 : RowOf (Rd.int .i64) 1 8 F w a1 n c1 xs) (h2 : RowOf (Rd.int .i64) 1 8 G w a2 m c2 ys) :
    Calls Try.prog 28 #[.slice a1 n c1, .slice a2 m c2] w fun e w' => e = .returned (.bool (decide (xs = ys))) ∧ ∃ d, w' = w.drewN d := by
  have hn := room64 h1.room (by omega)
  have hx := h1.len
  have hy := h2.len
  have H1 := Lib.hid h1
  have H2 := Lib.hid h2
  clear h1 h2
  by_cases hl : n = m
  · subst hl
    have HX := Lib.hid hx
    have HY := Lib.hid hy
    clear hx hy
    go_enter Try.func28, Try.ntmps28
    go_wp2_with fail
    go_loopg [13, 5] n (fun g iv jv wr => ∃ k d : Nat, k ≤ n ∧ g = n - k ∧ iv = .int .i64 k ∧ wr = w.drewN d ∧ xs.take k = ys.take k)
    case atStart => exact ⟨0, 0, Nat.zero_le _, rfl, rfl, rfl, rfl⟩
    case round =>
      obtain ⟨k, d, hk, rfl, rfl, rfl, htk⟩ := hrel
      have HT := Lib.hid htk
      clear htk
      by_cases hlt : k < n
      · have hkx : k < xs.length := by have := HX.out; omega
        have hky : k < ys.length := by have := HY.out; omega
        obtain ⟨g1, o1, rfl, _, _, d1, _⟩ := H1.out.int k hkx
        obtain ⟨g2, o2, rfl, _, _, d2, _⟩ := H2.out.int k hky
        by_cases hz : xs[k]'hkx = ys[k]'hky
        · have HTN := Lib.hid (take_eq_step k HT.out hkx hky hz)
          rw [hz] at d1
          generalize ys[k]'hky = z at *
          clear hz
          go_wp2_with fail
          go_quiet (fail)
          go_wp2_with fail
          go_roundg (n - (k + 1))
          case measure => omega
          case rel => exact ⟨k + 1, _, by omega, rfl, by go_num, rfl, HTN.out⟩
        · have HNE : Hid (xs ≠ ys) := Lib.hid fun e => hz (by subst e; rfl)
          have hb : (xs[k]'hkx != ys[k]'hky) = true := by simpa using hz
          generalize ys[k]'hky = z at *
          generalize xs[k]'hkx = z' at *
          go_wp2_with fail
          go_quiet (fail)
          go_wp2_with fail
          go_ret
          exact ⟨ret_bool (by simp [HNE.out]), d + nq, by simp⟩
      · have HE : Hid (xs = ys) := Lib.hid (by have h := HT.out; rwa [List.take_of_length_le (by have := HX.out; omega), List.take_of_length_le (by have := HY.out; omega)] at h)
        go_wp2_with fail
        go_ret
        exact ⟨ret_bool (by simp [HE.out]), d, rfl⟩
  · have HNE : Hid (xs ≠ ys) := Lib.hid fun e => hl (by subst e; omega)
    have hb : decide (n = m) = false := by simpa using hl
    clear hx hy
    go_enter Try.func28, Try.ntmps28
    go_wp2_with fail
    go_ret
    exact ⟨ret_bool (by simp [HNE.out]), 0, rfl⟩
set_option maxRecDepth 100000 in
set_option maxHeartbeats 2000000 in
theorem equalK_any (xs ys : List KeyV) (F G : Foot) (a1 a2 : Option Addr) (n m c1 c2 : Nat) (w : World) (h1 : RowOf keyRd 2 16 F w a1 n c1 xs) (h2 : RowOf keyRd 2 16 G w a2 m c2 ys) :
    Calls Try.prog 33 #[.slice a1 n c1, .slice a2 m c2] w fun e w' => e = .returned (.bool (decide (xs = ys))) ∧ ∃ d, w' = w.drewN d := by
  have hn := room64 h1.room (by omega)
  have hx := h1.len
  have hy := h2.len
  have H1 := Lib.hid h1
  have H2 := Lib.hid h2
  clear h1 h2
  by_cases hl : n = m
  · subst hl
    have HX := Lib.hid hx
    have HY := Lib.hid hy
    clear hx hy
    go_enter Try.func33, Try.ntmps33
    go_wp2_with fail
    go_loopg [13, 5] n (fun g iv jv wr => ∃ k d : Nat, k ≤ n ∧ g = n - k ∧ iv = .int .i64 k ∧ wr = w.drewN d ∧ xs.take k = ys.take k)
    case atStart => exact ⟨0, 0, Nat.zero_le _, rfl, rfl, rfl, rfl⟩
    case round =>
      obtain ⟨k, d, hk, rfl, rfl, rfl, htk⟩ := hrel
      have HT := Lib.hid htk
      clear htk
      by_cases hlt : k < n
      · have hkx : k < xs.length := by have := HX.out; omega
        have hky : k < ys.length := by have := HY.out; omega
        obtain ⟨g1, o1, rfl, d10, d11⟩ := H1.out.equalK k hkx
        obtain ⟨g2, o2, rfl, d20, d21⟩ := H2.out.equalK k hky
        by_cases hz : xs[k]'hkx = ys[k]'hky
        · have HTN := Lib.hid (take_eq_step k HT.out hkx hky hz)
          rw [hz] at d10 d11
          generalize ys[k]'hky = z at *
          clear hz
          go_wp2_with fail
          go_quiet (fail)
          go_wp2_with fail
          go_roundg (n - (k + 1))
          case measure => omega
          case rel => exact ⟨k + 1, _, by omega, rfl, by go_num, rfl, HTN.out⟩
        · have HNE : Hid (xs ≠ ys) := Lib.hid fun e => hz (by subst e; rfl)
          have HZ := Lib.hid hz
          generalize ys[k]'hky = z at *
          generalize xs[k]'hkx = z' at *
          clear hz
          obtain ⟨p0, p1⟩ := z
          obtain ⟨q0, q1⟩ := z'
          simp only at d10 d20 d11 d21
          by_cases e0 : q0 = p0
          · subst e0
            have hb : (q1 == p1) = false := by rw [beq_eq_false_iff_ne]; intro e; exact HZ.out (by subst e; rfl)
            have hb2 : (q1 != p1) = true := by simpa using hb
            go_wp2_with fail
            go_quiet (fail)
            go_wp2_with fail
            go_ret
            exact ⟨ret_bool (by simp [HNE.out]), d + nq, by simp⟩
          · have hb : (q0 == p0) = false := by simpa using e0
            have hb2 : (q0 != p0) = true := by simpa using e0
            clear e0
            go_wp2_with fail
            go_quiet (fail)
            go_wp2_with fail
            go_ret
            exact ⟨ret_bool (by simp [HNE.out]), d + nq, by simp⟩
      · have HE : Hid (xs = ys) := Lib.hid (by have h := HT.out; rwa [List.take_of_length_le (by have := HX.out; omega), List.take_of_length_le (by have := HY.out; omega)] at h)
        go_wp2_with fail
        go_ret
        exact ⟨ret_bool (by simp [HE.out]), d, rfl⟩
  · have HNE : Hid (xs ≠ ys) := Lib.hid fun e => hl (by subst e; omega)
    have hb : decide (n = m) = false := by simpa using hl
    clear hx hy
    go_enter Try.func33, Try.ntmps33
    go_wp2_with fail
    go_ret
    exact ⟨ret_bool (by simp [HNE.out]), 0, rfl⟩
set_option maxRecDepth 100000 in
set_option maxHeartbeats 2000000 in
theorem equalN_any (xs ys : List NameV) (F G : Foot) (a1 a2 : Option Addr) (n m c1 c2 : Nat) (w : World) (h1 : RowOf nameRd 4 32 F w a1 n c1 xs) (h2 : RowOf nameRd 4 32 G w a2 m c2 ys) :
    Calls Try.prog 29 #[.slice a1 n c1, .slice a2 m c2] w fun e w' => e = .returned (.bool (decide (xs = ys))) ∧ ∃ d, w' = w.drewN d := by
  have hn := room64 h1.room (by omega)
  have hx := h1.len
  have hy := h2.len
  have H1 := Lib.hid h1
  have H2 := Lib.hid h2
  clear h1 h2
  by_cases hl : n = m
  · subst hl
    have HX := Lib.hid hx
    have HY := Lib.hid hy
    clear hx hy
    go_enter Try.func29, Try.ntmps29
    go_wp2_with fail
    go_loopg [13, 5] n (fun g iv jv wr => ∃ k d : Nat, k ≤ n ∧ g = n - k ∧ iv = .int .i64 k ∧ wr = w.drewN d ∧ xs.take k = ys.take k)
    case atStart => exact ⟨0, 0, Nat.zero_le _, rfl, rfl, rfl, rfl⟩
    case round =>
      obtain ⟨k, d, hk, rfl, rfl, rfl, htk⟩ := hrel
      have HT := Lib.hid htk
      clear htk
      by_cases hlt : k < n
      · have hkx : k < xs.length := by have := HX.out; omega
        have hky : k < ys.length := by have := HY.out; omega
        obtain ⟨g1, o1, rfl, d10, d11, d12, d13⟩ := H1.out.equalN k hkx
        obtain ⟨g2, o2, rfl, d20, d21, d22, d23⟩ := H2.out.equalN k hky
        by_cases hz : xs[k]'hkx = ys[k]'hky
        · have HTN := Lib.hid (take_eq_step k HT.out hkx hky hz)
          rw [hz] at d10 d11 d12 d13
          generalize ys[k]'hky = z at *
          clear hz
          go_wp2_with fail
          go_quiet (fail)
          go_wp2_with fail
          go_roundg (n - (k + 1))
          case measure => omega
          case rel => exact ⟨k + 1, _, by omega, rfl, by go_num, rfl, HTN.out⟩
        · have HNE : Hid (xs ≠ ys) := Lib.hid fun e => hz (by subst e; rfl)
          have HZ := Lib.hid hz
          generalize ys[k]'hky = z at *
          generalize xs[k]'hkx = z' at *
          clear hz
          obtain ⟨p0, p1, p2, p3⟩ := z
          obtain ⟨q0, q1, q2, q3⟩ := z'
          simp only at d10 d20 d11 d21 d12 d22 d13 d23
          by_cases e0 : q0 = p0
          · subst e0
            by_cases e1 : q1 = p1
            · subst e1
              by_cases e2 : q2 = p2
              · subst e2
                have hb : (q3 == p3) = false := by rw [beq_eq_false_iff_ne]; intro e; exact HZ.out (by subst e; rfl)
                have hb2 : (q3 != p3) = true := by simpa using hb
                go_wp2_with fail
                go_quiet (fail)
                go_wp2_with fail
                go_ret
                exact ⟨ret_bool (by simp [HNE.out]), d + nq, by simp⟩
              · have hb : (q2 == p2) = false := by simpa using e2
                have hb2 : (q2 != p2) = true := by simpa using e2
                clear e2
                go_wp2_with fail
                go_quiet (fail)
                go_wp2_with fail
                go_ret
                exact ⟨ret_bool (by simp [HNE.out]), d + nq, by simp⟩
            · have hb : (q1 == p1) = false := by simpa using e1
              have hb2 : (q1 != p1) = true := by simpa using e1
              clear e1
              go_wp2_with fail
              go_quiet (fail)
              go_wp2_with fail
              go_ret
              exact ⟨ret_bool (by simp [HNE.out]), d + nq, by simp⟩
          · have hb : (q0 == p0) = false := by simpa using e0
            have hb2 : (q0 != p0) = true := by simpa using e0
            clear e0
            go_wp2_with fail
            go_quiet (fail)
            go_wp2_with fail
            go_ret
            exact ⟨ret_bool (by simp [HNE.out]), d + nq, by simp⟩
      · have HE : Hid (xs = ys) := Lib.hid (by have h := HT.out; rwa [List.take_of_length_le (by have := HX.out; omega), List.take_of_length_le (by have := HY.out; omega)] at h)
        go_wp2_with fail
        go_ret
        exact ⟨ret_bool (by simp [HE.out]), d, rfl⟩
  · have HNE : Hid (xs ≠ ys) := Lib.hid fun e => hl (by subst e; omega)
    have hb : decide (n = m) = false := by simpa using hl
    clear hx hy
    go_enter Try.func29, Try.ntmps29
    go_wp2_with fail
    go_ret
    exact ⟨ret_bool (by simp [HNE.out]), 0, rfl⟩
end Go.Proofs.Ytbijacoiblbnfaa
