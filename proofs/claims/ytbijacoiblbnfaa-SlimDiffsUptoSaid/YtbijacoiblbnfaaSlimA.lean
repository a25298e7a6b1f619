/- Rows compared and cloned; two calls compared. -/
import Derived.Test.YtbijacoiblbnfaaFoot
import Derived.Test.YtbijacoiblbnfaaProg
import Derived.Deep.LoopGhost
import Derived.Lib.SliceRun
namespace Go.Proofs.Ytbijacoiblbnfaa
open Go.RowKit
set_option linter.unusedSimpArgs false
set_option linter.unusedVariables false
theorem room64 {n b : Nat} (h : n * b ≤ 140737488351232) (hb : 0 < b) : n ≤ 140737488351232 := Nat.le_trans (Nat.le_mul_of_pos_right n hb) h
theorem take_eq_step {α : Type} [DecidableEq α] {xs ys : List α} (k : Nat) (h : xs.take k = ys.take k) (h1 : k < xs.length) (h2 : k < ys.length) (e : xs[k]'h1 = ys[k]'h2) : xs.take (k + 1) = ys.take (k + 1) := by
  rw [List.take_succ_eq_append_getElem h1, List.take_succ_eq_append_getElem h2, h, e]
set_option maxRecDepth 100000 in
set_option maxHeartbeats 1000000 in
theorem isame_any (xs ys : List Int) (F G : Foot) (a1 a2 : Option Addr) (n m c1 c2 : Nat) (w : World) (h1 : RowOf (Rd.int .i64) 1 8 F w a1 n c1 xs) (h2 : RowOf (Rd.int .i64) 1 8 G w a2 m c2 ys) :
    Calls Try.prog 10 #[.slice a1 n c1, .slice a2 m c2] w fun e w' => e = .returned (.bool (decide (xs = ys))) ∧ ∃ d, w' = w.drewN d := by
  have hn := room64 h1.room (by omega)
  have hx := h1.len
  have hy := h2.len
  have H1 := Lib.hid h1
  have H2 := Lib.hid h2
  clear h1 h2
  by_cases hl : n = m
  · subst hl
    have HX := Lib.hid hx
    have HY := Lib.hid hy
    clear hx hy
    go_enter Try.func10, Try.ntmps10
    go_wp2_with fail
    go_loopg [5] n (fun g iv wr => ∃ k d : Nat, k ≤ n ∧ g = n - k ∧ iv = .int .i64 k ∧ wr = w.drewN d ∧ xs.take k = ys.take k)
    case atStart => exact ⟨0, 0, Nat.zero_le _, rfl, rfl, rfl, rfl⟩
    case round =>
      obtain ⟨k, d, hk, rfl, rfl, rfl, htk⟩ := hrel
      have HT := Lib.hid htk
      clear htk
      by_cases hlt : k < n
      · have hkx : k < xs.length := by have := HX.out; omega
        have hky : k < ys.length := by have := HY.out; omega
        obtain ⟨g1, o1, rfl, _, _, d1, _⟩ := H1.out.int k hkx
        obtain ⟨g2, o2, rfl, _, _, d2, _⟩ := H2.out.int k hky
        by_cases hz : xs[k]'hkx = ys[k]'hky
        · have HTN := Lib.hid (take_eq_step k HT.out hkx hky hz)
          rw [hz] at d1
          generalize ys[k]'hky = z at *
          clear hz
          go_wp2_with fail
          go_quiet (fail)
          go_wp2_with fail
          go_roundg (n - (k + 1))
          case measure => omega
          case rel => exact ⟨k + 1, _, by omega, rfl, by go_num, rfl, HTN.out⟩
        · have HNE : Hid (xs ≠ ys) := Lib.hid fun e => hz (by subst e; rfl)
          have hb : (xs[k]'hkx != ys[k]'hky) = true := by simpa using hz
          generalize ys[k]'hky = z at *
          generalize xs[k]'hkx = z' at *
          go_wp2_with fail
          go_quiet (fail)
          go_wp2_with fail
          go_ret
          exact ⟨ret_bool (by simp [HNE.out]), d + nq, by simp⟩
      · have HE : Hid (xs = ys) := Lib.hid (by have h := HT.out; rwa [List.take_of_length_le (by have := HX.out; omega), List.take_of_length_le (by have := HY.out; omega)] at h)
        go_wp2_with fail
        go_ret
        exact ⟨ret_bool (by simp [HE.out]), d, rfl⟩
  · have HNE : Hid (xs ≠ ys) := Lib.hid fun e => hl (by subst e; omega)
    have hb : decide (n = m) = false := by simpa using hl
    clear hx hy
    go_enter Try.func10, Try.ntmps10
    go_wp2_with fail
    go_ret
    exact ⟨ret_bool (by simp [HNE.out]), 0, rfl⟩
set_option maxRecDepth 100000 in
set_option maxHeartbeats 1000000 in
theorem fsame_any (xs ys : List Int) (F G : Foot) (a1 a2 : Option Addr) (n m c1 c2 : Nat) (w : World) (h1 : RowOf (Rd.int .u64) 1 8 F w a1 n c1 xs) (h2 : RowOf (Rd.int .u64) 1 8 G w a2 m c2 ys) :
    Calls Try.prog 36 #[.slice a1 n c1, .slice a2 m c2] w fun e w' => e = .returned (.bool (decide (xs = ys))) ∧ ∃ d, w' = w.drewN d := by
  have hn := room64 h1.room (by omega)
  have hx := h1.len
  have hy := h2.len
  have H1 := Lib.hid h1
  have H2 := Lib.hid h2
  clear h1 h2
  by_cases hl : n = m
  · subst hl
    have HX := Lib.hid hx
    have HY := Lib.hid hy
    clear hx hy
    go_enter Try.func36, Try.ntmps36
    go_wp2_with fail
    go_loopg [5] n (fun g iv wr => ∃ k d : Nat, k ≤ n ∧ g = n - k ∧ iv = .int .i64 k ∧ wr = w.drewN d ∧ xs.take k = ys.take k)
    case atStart => exact ⟨0, 0, Nat.zero_le _, rfl, rfl, rfl, rfl⟩
    case round =>
      obtain ⟨k, d, hk, rfl, rfl, rfl, htk⟩ := hrel
      have HT := Lib.hid htk
      clear htk
      by_cases hlt : k < n
      · have hkx : k < xs.length := by have := HX.out; omega
        have hky : k < ys.length := by have := HY.out; omega
        obtain ⟨g1, o1, rfl, _, _, d1, _⟩ := H1.out.int k hkx
        obtain ⟨g2, o2, rfl, _, _, d2, _⟩ := H2.out.int k hky
        by_cases hz : xs[k]'hkx = ys[k]'hky
        · have HTN := Lib.hid (take_eq_step k HT.out hkx hky hz)
          rw [hz] at d1
          generalize ys[k]'hky = z at *
          clear hz
          go_wp2_with fail
          go_quiet (fail)
          go_wp2_with fail
          go_roundg (n - (k + 1))
          case measure => omega
          case rel => exact ⟨k + 1, _, by omega, rfl, by go_num, rfl, HTN.out⟩
        · have HNE : Hid (xs ≠ ys) := Lib.hid fun e => hz (by subst e; rfl)
          have hb : (xs[k]'hkx != ys[k]'hky) = true := by simpa using hz
          generalize ys[k]'hky = z at *
          generalize xs[k]'hkx = z' at *
          go_wp2_with fail
          go_quiet (fail)
          go_wp2_with fail
          go_ret
          exact ⟨ret_bool (by simp [HNE.out]), d + nq, by simp⟩
      · have HE : Hid (xs = ys) := Lib.hid (by have h := HT.out; rwa [List.take_of_length_le (by have := HX.out; omega), List.take_of_length_le (by have := HY.out; omega)] at h)
        go_wp2_with fail
        go_ret
        exact ⟨ret_bool (by simp [HE.out]), d, rfl⟩
  · have HNE : Hid (xs ≠ ys) := Lib.hid fun e => hl (by subst e; omega)
    have hb : decide (n = m) = false := by simpa using hl
    clear hx hy
    go_enter Try.func36, Try.ntmps36
    go_wp2_with fail
    go_ret
    exact ⟨ret_bool (by simp [HNE.out]), 0, rfl⟩
theorem RowOf.src {k : IntKind} {bytes : Nat} {F : Foot} {w : World} {a : Option Addr} {n cap : Nat} {xs : List Int} (h : RowOf (Rd.int k) 1 bytes F w a n cap xs) : Src w a n cap 1 (xs.map (Value.int k)) := by
  refine ⟨by simp [h.len], fun e => ⟨by have := h.nil e; have := h.le; omega, h.nil e⟩, fun x hx j u hu => ?_, ints_oneCell _ _⟩
  have hj : j < xs.length := by have := (List.getElem?_eq_some_iff.1 hu).1; simpa using this
  obtain ⟨g, off, e, _, _, c, _⟩ := h.int j hj
  rw [e] at hx
  cases hx
  rw [Addr.add_lit, c, ← hu]
  simp [hj]
theorem RowOf.of_own_ints {k : IntKind} {bytes : Nat} {F : Foot} {w : World} {base : Nat} {e : TypeId} {v : Value} {n : Nat} {xs : List Int} (h : w.ownsRow base e 1 v n (xs.map (Value.int k))) (hroom : n * bytes ≤ 140737488351232) (hF : ∀ b, v.ownBlock = some b → F b) (hwf : ∀ z ∈ xs, (Lit.int k z).wf = true) :
    ∃ a cap, v = .slice a n cap ∧ RowOf (Rd.int k) 1 bytes F w a n cap xs := by
  have hl : xs.length = n := by have := h.1; simpa using this
  refine RowOf.of_owns h (by omega) hl hroom hF fun i x hx => ?_
  have hi := (List.getElem?_eq_some_iff.1 hx).1
  have e : (((xs.map (Value.int k)).drop (i * 1)).take 1) = [.int k x] := by
    rw [Nat.mul_one, ← List.map_drop, ← List.map_take, List.drop_eq_getElem_cons hi]
    simp [(List.getElem?_eq_some_iff.1 hx).2]
  rw [e]
  exact ⟨rfl, rfl, hwf x (List.mem_of_getElem? hx)⟩
theorem RowOf.wfs {k : IntKind} {bytes : Nat} {F : Foot} {w : World} {a : Option Addr} {n cap : Nat} {xs : List Int} (h : RowOf (Rd.int k) 1 bytes F w a n cap xs) : ∀ z ∈ xs, (Lit.int k z).wf = true := fun z hz => by
  obtain ⟨i, hi, rfl⟩ := List.mem_iff_getElem.1 hz
  obtain ⟨_, _, _, _, _, _, h5⟩ := h.int i hi
  exact h5
/-- The blocks from B on. -/
abbrev From (B : Nat) : Foot := fun b => B ≤ b
theorem u64Elem : Elem Try.prog 71 75 1 8 := ⟨Try.underlying71, ⟨.int .u64 0, by kernel_rfl, rfl⟩, by omega⟩
theorem intElem : Elem Try.prog 23 3 1 8 := ⟨Try.underlying23, ⟨.int .i64 0, by kernel_rfl, rfl⟩, by omega⟩
set_option maxRecDepth 100000 in
set_option maxHeartbeats 1000000 in
theorem cloneU_any (xs : List Int) (F : Foot) (a : Option Addr) (n cap : Nat) (w : World) (h : RowOf (Rd.int .u64) 1 8 F w a n cap xs) :
    Calls Try.prog 21 #[.slice a n cap] w fun e w' => ∃ a' cap', e = .returned (.slice a' n cap') ∧ RowOf (Rd.int .u64) 1 8 (From w.heap.size) w' a' n cap' xs ∧ Below w.heap.size w w' := by
  cases a with
  | none =>
    obtain rfl : cap = 0 := h.nil rfl
    obtain rfl : n = 0 := by have := h.le; omega
    obtain rfl : xs = [] := List.eq_nil_of_length_eq_zero h.len
    have he : ∀ (w : World), (binOp .eql 71 (.slice none 0 0) (.slice none 0 0)).run Try.prog w = .ok (.bool true) w := fun w => by rw [Lib.run_eql_slice_nil w 71 75 none 0 0 0 0 Try.underlying71]; rfl
    clear h
    go_enter Try.func21, Try.ntmps21
    go_wp2_with fail
    go_ret
    exact ⟨none, 0, rfl, RowOf.empty _ _ _ _ _, Below.refl _ _⟩
  | some x =>
    have he : ∀ (w : World), (binOp .eql 71 (.slice (some x) n cap) (.slice none 0 0)).run Try.prog w = .ok (.bool false) w := fun w => by rw [Lib.run_eql_slice_nil w 71 75 (some x) n cap 0 0 Try.underlying71]; rfl
    have hw : (w.alloc (.cells #[] 75)).ownsRow w.heap.size 75 1 (.slice (some ⟨w.heap.size, 0, none⟩) 0 0) 0 [] :=
      ⟨rfl, .inr ⟨w.heap.size, 0, _, rfl, Nat.le_refl _, heap_alloc_new w _, Nat.le_refl _, by simp, rfl, rfl⟩⟩
    have HW := Lib.hid hw
    have HS2 := Lib.hid ((h.keep (Rd.int_ok _) (Fix.alloc _ w (.cells #[] 75))).src)
    have HWF := Lib.hid h.wfs
    have HR := Lib.hid h.room
    have hroom := h.room
    clear h hw
    go_enter Try.func21, Try.ntmps21
    go_wp2_with (at_builtin; refine wpl_append rfl _ _ 71 rfl u64Elem _ _ _ rfl _ _ _ _ rfl HW.out HS2.out (by unfold maxLen; omega) (by omega) (by simp) ?_; intro v' w3 hown3 hg3 _)
    have HB3 : Hid (Below w.heap.size w w3) := Lib.hid (((Below.refl _ w).alloc (Nat.le_refl _) _).grown hg3 (by simp) (fun k hk => by cases hk; exact Nat.le_refl _))
    simp only [Nat.zero_add, List.nil_append] at hown3
    obtain ⟨a', cap', rfl, hr⟩ := RowOf.of_own_ints (F := From w.heap.size) hown3 HR.out (fun b hb => own_lt hown3 b hb) HWF.out
    have HRR := Lib.hid hr
    clear hr hown3 hg3
    go_wp2_with fail
    go_ret
    exact ⟨a', cap', by simp, HRR.out, HB3.out⟩
set_option maxRecDepth 100000 in
set_option maxHeartbeats 1000000 in
theorem cloneI_any (xs : List Int) (F : Foot) (a : Option Addr) (n cap : Nat) (w : World) (h : RowOf (Rd.int .i64) 1 8 F w a n cap xs) :
    Calls Try.prog 22 #[.slice a n cap] w fun e w' => ∃ a' cap', e = .returned (.slice a' n cap') ∧ RowOf (Rd.int .i64) 1 8 (From w.heap.size) w' a' n cap' xs ∧ Below w.heap.size w w' := by
  cases a with
  | none =>
    obtain rfl : cap = 0 := h.nil rfl
    obtain rfl : n = 0 := by have := h.le; omega
    obtain rfl : xs = [] := List.eq_nil_of_length_eq_zero h.len
    have he : ∀ (w : World), (binOp .eql 23 (.slice none 0 0) (.slice none 0 0)).run Try.prog w = .ok (.bool true) w := fun w => by rw [Lib.run_eql_slice_nil w 23 3 none 0 0 0 0 Try.underlying23]; rfl
    clear h
    go_enter Try.func22, Try.ntmps22
    go_wp2_with fail
    go_ret
    exact ⟨none, 0, rfl, RowOf.empty _ _ _ _ _, Below.refl _ _⟩
  | some x =>
    have he : ∀ (w : World), (binOp .eql 23 (.slice (some x) n cap) (.slice none 0 0)).run Try.prog w = .ok (.bool false) w := fun w => by rw [Lib.run_eql_slice_nil w 23 3 (some x) n cap 0 0 Try.underlying23]; rfl
    have hw : (w.alloc (.cells #[] 3)).ownsRow w.heap.size 3 1 (.slice (some ⟨w.heap.size, 0, none⟩) 0 0) 0 [] :=
      ⟨rfl, .inr ⟨w.heap.size, 0, _, rfl, Nat.le_refl _, heap_alloc_new w _, Nat.le_refl _, by simp, rfl, rfl⟩⟩
    have HW := Lib.hid hw
    have HS2 := Lib.hid ((h.keep (Rd.int_ok _) (Fix.alloc _ w (.cells #[] 3))).src)
    have HWF := Lib.hid h.wfs
    have HR := Lib.hid h.room
    have hroom := h.room
    clear h hw
    go_enter Try.func22, Try.ntmps22
    go_wp2_with (at_builtin; refine wpl_append rfl _ _ 23 rfl intElem _ _ _ rfl _ _ _ _ rfl HW.out HS2.out (by unfold maxLen; omega) (by omega) (by simp) ?_; intro v' w3 hown3 hg3 _)
    have HB3 : Hid (Below w.heap.size w w3) := Lib.hid (((Below.refl _ w).alloc (Nat.le_refl _) _).grown hg3 (by simp) (fun k hk => by cases hk; exact Nat.le_refl _))
    simp only [Nat.zero_add, List.nil_append] at hown3
    obtain ⟨a', cap', rfl, hr⟩ := RowOf.of_own_ints (F := From w.heap.size) hown3 HR.out (fun b hb => own_lt hown3 b hb) HWF.out
    have HRR := Lib.hid hr
    clear hr hown3 hg3
    go_wp2_with fail
    go_ret
    exact ⟨a', cap', by simp, HRR.out, HB3.out⟩
/-! ### Two calls compared -/
set_option maxRecDepth 100000 in
set_option maxHeartbeats 2000000 in
theorem tcmp_zero (w : World) : Calls Try.prog 45 #[.agg #[.int .i64 0, .int .i64 0, .slice none 0 0], .agg #[.int .i64 0, .int .i64 0, .slice none 0 0]] w fun e w' => e = .returned (.int .i64 0) ∧ Below w.heap.size w w' := by
  go_enter Try.func45, Try.ntmps45
  go_wp2_with fail
  generalize hW0 : (((w.alloc (.cells #[.int .i64 0, .int .i64 0, .slice none 0 0] 53)).alloc (.cells #[.int .i64 0, .int .i64 0, .slice none 0 0] 53)).alloc (.cells #[.int .i64 0, .int .i64 0, .int .i64 0] 3)).alloc (.cells #[.int .i64 0, .int .i64 0, .int .i64 0] 3) = W0 at *
  have HB : Hid (Below w.heap.size w W0) := Lib.hid (by rw [← hW0]; exact ((((Below.refl _ _).alloc (Nat.le_refl _) _).alloc (by simp) _).alloc (by simp; omega) _).alloc (by simp; omega) _)
  have hz : W0.heap.size = w.heap.size + 1 + 1 + 1 + 1 := by rw [← hW0]; simp
  have g0 : W0.heap[w.heap.size]? = some (.cells #[.int .i64 0, .int .i64 0, .slice none 0 0] 53 (0, 0)) := by
    rw [← hW0, Lib.alloc_old _ _ _ (by simp; omega), Lib.alloc_old _ _ _ (by simp; omega), Lib.alloc_old _ _ _ (by simp)]
    exact heap_alloc_new w _
  have g2 : W0.heap[w.heap.size + 1 + 1]? = some (.cells #[.int .i64 0, .int .i64 0, .int .i64 0] 3 (0, 0)) := by
    rw [← hW0, Lib.alloc_old _ _ _ (by simp)]
    have := heap_alloc_new ((w.alloc (.cells #[.int .i64 0, .int .i64 0, .slice none 0 0] 53)).alloc (.cells #[.int .i64 0, .int .i64 0, .slice none 0 0] 53)) (.cells #[.int .i64 0, .int .i64 0, .int .i64 0] 3)
    simpa using this
  have g3 : W0.heap[w.heap.size + 1 + 1 + 1]? = some (.cells #[.int .i64 0, .int .i64 0, .int .i64 0] 3 (0, 0)) := by
    rw [← hW0]
    have := heap_alloc_new (((w.alloc (.cells #[.int .i64 0, .int .i64 0, .slice none 0 0] 53)).alloc (.cells #[.int .i64 0, .int .i64 0, .slice none 0 0] 53)).alloc (.cells #[.int .i64 0, .int .i64 0, .int .i64 0] 3)) (.cells #[.int .i64 0, .int .i64 0, .int .i64 0] 3)
    simpa using this
  have c0 := cell_at (o := 2) g0 rfl
  have HC : Hid (∀ k : Nat, k < 3 → W0.cell? ⟨w.heap.size + 1 + 1, k, none⟩ = some (.int .i64 0) ∧ W0.cell? ⟨w.heap.size + 1 + 1 + 1, k, none⟩ = some (.int .i64 0)) := Lib.hid fun k hk => by
    rcases (by omega : k = 0 ∨ k = 1 ∨ k = 2) with rfl | rfl | rfl <;> exact ⟨cell_at g2 rfl, cell_at g3 rfl⟩
  clear hW0 g0 g2 g3 hz
  go_loopg [7] 3 (fun g iv wr => ∃ k d : Nat, k ≤ 3 ∧ g = 3 - k ∧ iv = .int .i64 k ∧ wr = W0.drewN d)
  case atStart => exact ⟨0, 0, by omega, rfl, rfl, rfl⟩
  case round =>
    obtain ⟨k, d, hk, rfl, rfl, rfl⟩ := hrel
    by_cases hlt : k < 3
    · obtain ⟨d1, d2⟩ := HC.out k hlt
      go_wp2_with fail
      go_quiet (fail)
      go_wp2_with fail
      go_quiet (fail)
      go_wp2_with fail
      go_roundg (3 - (k + 1))
      case measure => omega
      case rel => exact ⟨k + 1, _, by omega, rfl, by go_num, rfl⟩
    · go_wp2_with fail
      refine wp_loop_rounds 1 ?_
      rw [rounds_succ]
      go_wp2_with fail
      go_ret
      exact ⟨rfl, below_drewN HB.out _⟩
set_option maxRecDepth 100000 in
set_option maxHeartbeats 1000000 in
theorem tsame_zero (w : World) : Calls Try.prog 43 #[.agg #[.int .i64 0, .int .i64 0, .slice none 0 0], .agg #[.int .i64 0, .int .i64 0, .slice none 0 0]] w fun e w' => e = .returned (.bool true) ∧ Below w.heap.size w w' := by
  go_enter Try.func43, Try.ntmps43
  go_wp2_with (go_at_call 45; refine (tcmp_zero _).mono ?_; rintro e w1 ⟨rfl, hb⟩)
  go_ret
  exact ⟨rfl, (((Below.refl _ _).alloc (Nat.le_refl _) _).alloc (by simp) _).trans (hb.mono (by simp; omega))⟩
abbrev told0 : Value := .agg #[.int .i64 0, .int .i64 0, .int .i64 0, .slice none 0 0, .int .i64 0, .int .i64 0, .string ⟨#[]⟩, .slice none 0 0]
set_option maxRecDepth 100000 in
set_option maxHeartbeats 4000000 in
theorem alike_zero (w : World) : Calls Try.prog 37 #[.agg #[.int .i64 0, .int .i64 0, .int .i64 0, .slice none 0 0, .int .i64 0, .int .i64 0, .string ⟨#[]⟩, .slice none 0 0], .agg #[.int .i64 0, .int .i64 0, .int .i64 0, .slice none 0 0, .int .i64 0, .int .i64 0, .string ⟨#[]⟩, .slice none 0 0]] w fun e w' => e = .returned (.bool true) ∧ Below w.heap.size w w' := by
  go_enter Try.func37, Try.ntmps37
  go_wp2_with fail
  refine (tsame_zero _).mono ?_
  rintro e w1 ⟨rfl, hb⟩
  have hB := (((Below.refl w.heap.size w).alloc (Nat.le_refl _) (.cells #[.int .i64 0, .int .i64 0, .int .i64 0, .slice none 0 0, .int .i64 0, .int .i64 0, .string ⟨#[]⟩, .slice none 0 0] 79)).alloc (by simp) (.cells #[.int .i64 0, .int .i64 0, .int .i64 0, .slice none 0 0, .int .i64 0, .int .i64 0, .string ⟨#[]⟩, .slice none 0 0] 79)).trans (hb.mono (by simp; omega))
  have HB := Lib.hid hB
  obtain ⟨k1, k2⟩ := bcell hb
  clear hB hb
  go_wp2_with (go_at_call 36; refine (fsame_any [] [] All All none none 0 0 0 0 _ (RowOf.empty _ _ _ _ _) (RowOf.empty _ _ _ _ _)).mono ?_; rintro e w2 ⟨rfl, d, rfl⟩)
  go_ret
  exact ⟨rfl, below_drewN HB.out _⟩
set_option maxRecDepth 100000 in
set_option maxHeartbeats 8000000 in
theorem one_yes (k n dir : Int) (text : ByteArray) (who at' : Int) (xs : List Int) (F G : Foot) (a1 a2 : Option Addr) (m c1 c2 : Nat) (w : World) (h1 : RowOf (Rd.int .u64) 1 8 F w a1 m c1 xs) (h2 : RowOf (Rd.int .u64) 1 8 G w a2 m c2 xs) :
    Calls Try.prog 23 #[.agg #[.int .i64 0, .int .i64 0, .int .i64 k, .int .i64 n, .int .i64 dir, .string text, .int .i64 who, .int .i64 at', .slice a1 m c1, .int .i64 0, .int .i64 0, .int .i64 0, .slice none 0 0, .int .i64 0, .int .i64 0, .string ⟨#[]⟩, .slice none 0 0, .int .i64 0, .int .i64 0], .agg #[.int .i64 0, .int .i64 0, .int .i64 k, .int .i64 n, .int .i64 dir, .string text, .int .i64 who, .int .i64 at', .slice a2 m c2, .int .i64 0, .int .i64 0, .int .i64 0, .slice none 0 0, .int .i64 0, .int .i64 0, .string ⟨#[]⟩, .slice none 0 0, .int .i64 0, .int .i64 0]] w fun e w' => e = .returned (.bool true) ∧ Below w.heap.size w w' := by
  have H1 := Lib.hid (h1.keep (Rd.int_ok _) ((Fix.alloc F w (.cells #[.int .i64 0, .int .i64 0, .int .i64 k, .int .i64 n, .int .i64 dir, .string text, .int .i64 who, .int .i64 at', .slice a1 m c1, .int .i64 0, .int .i64 0, .int .i64 0, .slice none 0 0, .int .i64 0, .int .i64 0, .string ⟨#[]⟩, .slice none 0 0, .int .i64 0, .int .i64 0] 81)).trans (Fix.alloc _ _ (.cells #[.int .i64 0, .int .i64 0, .int .i64 k, .int .i64 n, .int .i64 dir, .string text, .int .i64 who, .int .i64 at', .slice a2 m c2, .int .i64 0, .int .i64 0, .int .i64 0, .slice none 0 0, .int .i64 0, .int .i64 0, .string ⟨#[]⟩, .slice none 0 0, .int .i64 0, .int .i64 0] 81))))
  have H2 := Lib.hid (h2.keep (Rd.int_ok _) ((Fix.alloc G w (.cells #[.int .i64 0, .int .i64 0, .int .i64 k, .int .i64 n, .int .i64 dir, .string text, .int .i64 who, .int .i64 at', .slice a1 m c1, .int .i64 0, .int .i64 0, .int .i64 0, .slice none 0 0, .int .i64 0, .int .i64 0, .string ⟨#[]⟩, .slice none 0 0, .int .i64 0, .int .i64 0] 81)).trans (Fix.alloc _ _ (.cells #[.int .i64 0, .int .i64 0, .int .i64 k, .int .i64 n, .int .i64 dir, .string text, .int .i64 who, .int .i64 at', .slice a2 m c2, .int .i64 0, .int .i64 0, .int .i64 0, .slice none 0 0, .int .i64 0, .int .i64 0, .string ⟨#[]⟩, .slice none 0 0, .int .i64 0, .int .i64 0] 81))))
  clear h1 h2
  go_enter Try.func23, Try.ntmps23
  go_wp2_with (first | (go_at_call 36; refine (fsame_any xs xs F G a1 a2 m m c1 c2 _ H1.out H2.out).mono ?_; rintro e w2 ⟨he, d, rfl⟩; rw [decide_eq_true rfl] at he; subst he) | (go_at_call 37; refine (alike_zero _).mono ?_; rintro e w3 ⟨rfl, hb⟩))
  go_ret
  exact ⟨rfl, (below_drewN (((Below.refl _ _).alloc (Nat.le_refl _) _).alloc (by simp) _) _).trans (hb.mono (by simp; omega))⟩
end Go.Proofs.Ytbijacoiblbnfaa
