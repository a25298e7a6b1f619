/- valid.Node: is a node right by itself? -/
import Derived.Test.YtibabpahpiijgaaGreatDoorVal
namespace Go.Proofs.YtibabpahpiijgaaGreatDoor
open Go.RowKit
set_option linter.unusedSimpArgs false
set_option linter.unusedVariables false
theorem descRd_cells2 {k : Nat} {F : Foot} {w : World} {cs : List Value} {d : DescV} (h : descRd k F w cs d) : ∃ a n c, cs = [.int .i64 d.kind, .int .i64 d.n, .slice a n c] ∧ RowOf (descRd k) 3 40 F w a n c d.kids := by
  cases k with
  | zero => exact h.elim
  | succ k =>
    obtain ⟨a, n, c, h1, _, _, h4⟩ := h
    exact ⟨a, n, c, h1, h4.imp fun _ _ h => descRd_succ k h⟩
theorem descRd_wf2 {k : Nat} {F : Foot} {w : World} {cs : List Value} {d : DescV} (h : descRd k F w cs d) : (Lit.int .i64 d.kind).wf = true ∧ (Lit.int .i64 d.n).wf = true := by
  cases k with
  | zero => exact h.elim
  | succ k =>
    obtain ⟨a, n, c, _, h2, h3, _⟩ := h
    exact ⟨h2, h3⟩
/-- The size of a kid; 0: there is none. -/
def kidN (l : List DescV) (i : Nat) : Int := match l[i]? with | some d => d.n | none => 0
def sidesB (nd : Int) (l : List DescV) : Bool := decide (l.length = 2) && (hasB nd && (decide (2 ≤ kidN l 0) && (decide (2 ≤ kidN l 1) && (decide (kidN l 0 ≤ nd) && (decide (kidN l 1 ≤ nd) && decide (kidN l 0 * kidN l 1 = nd))))))
def singleB (nd : Int) (l : List DescV) (p : Int → Bool) : Bool := decide (l.length = 1) && (hasB nd && p (kidN l 0))
def blueB (nd m : Int) : Bool := decide (2 * nd - 1 ≤ m) && stockB m
def nodeB (kd nd : Int) (l : List DescV) : Bool :=
  if kd = 1 then decide (l.length = 0) && (hasB nd && decide (nd ≤ 64))
  else if kd = 2 then smallB nd && (decide (l.length = 0) && decide (2 ≤ nd))
  else if kd = 3 then decide (l.length = 0) && (decide (2 ≤ nd) && stockB nd)
  else if kd = 4 then sidesB nd l
  else if kd = 5 then (decide (l.length = 2) && decide (gcdI (kidN l 0) (kidN l 1) = 1)) && sidesB nd l
  else if kd = 6 then decide (3 ≤ nd) && (primI nd && singleB nd l fun m => decide (m = nd - 1))
  else if kd = 7 then decide (2 ≤ nd) && singleB nd l fun m => blueB nd m
  else false
theorem hasB_le {n : Int} (h : hasB n = true) : 1 ≤ n ∧ n ≤ 16777216 := by
  unfold hasB at h
  rw [decide_eq_true_iff] at h
  exact ⟨h.1, h.2.1⟩
theorem row_kid {k : Nat} {F : Foot} {w : World} {a : Option Addr} {n cap : Nat} {l : List DescV} (h : RowOf (descRd k) 3 40 F w a n cap l) {i : Nat} (hi : i < n) :
    ∃ b off, a = some ⟨b, off, none⟩ ∧ b < w.heap.size ∧ w.cell? ⟨b, off + i * 3 + 1, none⟩ = some (.int .i64 (kidN l i)) ∧ (Lit.int .i64 (kidN l i)).wf = true := by
  obtain ⟨b, off, cs, h1, h2, _, _, h4, h5⟩ := h.at_ i _ (List.getElem?_eq_getElem (by rw [h.len]; exact hi))
  obtain ⟨da, dm, dc, rfl, _⟩ := descRd_cells2 h5
  have e : kidN l i = (l[i]'(by rw [h.len]; exact hi)).n := by
    unfold kidN
    rw [List.getElem?_eq_getElem (by rw [h.len]; exact hi)]
  rw [e]
  exact ⟨b, off, h1, h2, h4 1 _ rfl, (descRd_wf2 h5).2⟩
set_option maxRecDepth 100000 in
set_option maxHeartbeats 4000000 in
theorem sides_any (k : Nat) (F : Foot) (kd nd : Int) (l : List DescV) (a : Option Addr) (n cap : Nat) (w : World) (hl : RowOf (descRd k) 3 40 F w a n cap l) :
    Calls Tryz.prog 132 #[.agg #[.int .i64 kd, .int .i64 nd, .slice a n cap]] w fun e w' => e = .returned (.bool (sidesB nd l)) ∧ Below w.heap.size w w' := by
  obtain ⟨W1, hW1⟩ : ∃ W1, W1 = w.alloc (.cells #[.int .i64 kd, .int .i64 nd, .slice a n cap] 25) := ⟨_, rfl⟩
  have hb1 : Below w.heap.size w W1 := by rw [hW1]; exact (Below.refl _ _).alloc (Nat.le_refl _) _
  have g1 : W1.heap[w.heap.size]? = some (.cells #[.int .i64 kd, .int .i64 nd, .slice a n cap] 25 (0, 0)) := by rw [hW1]; exact heap_alloc_new w _
  have c0 := cell_at (o := 0) g1 rfl
  have c1 := cell_at (o := 1) g1 rfl
  have c2 := cell_at (o := 2) g1 rfl
  have HB := Lib.hid hb1
  have HLN := Lib.hid hl.len
  have HL := Lib.hid (hl.keep (descRd_ok _) (Fix.of_below hb1))
  clear hl hb1 g1
  by_cases hn : n = 2
  · have hni : (n : Int) = 2 := by omega
    have hnb : ((n : Int) == 2) = true := by simpa using hni
    cases hh : hasB nd with
    | false =>
      have HH := Lib.hid hh
      have HS : Hid (sidesB nd l = false) := Lib.hid (by unfold sidesB; rw [hh]; simp)
      clear hh hn
      go_enter Tryz.func132, Tryz.ntmps132
      go_upto_region 1 with fail
      rw [← hW1]
      clear hW1
      go_wp2_with (go_at_call 41; (with_reducible refine (has_any _ _).mono ?_); rintro e w' ⟨rfl, rfl⟩; rw [HH.out])
      go_ret
      exact ⟨by rw [HS.out]; rfl, HB.out⟩
    | true =>
      have HH := Lib.hid hh
      obtain ⟨hn1, hn2⟩ := hasB_le hh
      subst hn
      obtain ⟨b, off, rfl, hbw, p0, _⟩ := row_kid HL.out (i := 0) (by omega)
      obtain ⟨b', off', he, _, p1, _⟩ := row_kid HL.out (i := 1) (by omega)
      cases he
      have HS : Hid (sidesB nd l = (decide (2 ≤ kidN l 0) && (decide (2 ≤ kidN l 1) && (decide (kidN l 0 ≤ nd) && (decide (kidN l 1 ≤ nd) && decide (kidN l 0 * kidN l 1 = nd)))))) := Lib.hid (by unfold sidesB; rw [hh, HLN.out]; simp)
      generalize kidN l 0 = x at *
      generalize kidN l 1 = y at *
      clear hh
      go_enter Tryz.func132, Tryz.ntmps132
      go_upto_region 1 with fail
      rw [← hW1]
      clear hW1
      go_upto_region 3 with (go_at_call 41; (with_reducible refine (has_any _ _).mono ?_); rintro e w' ⟨rfl, rfl⟩; rw [HH.out])
      go_quiet (fail)
      by_cases t1 : 2 ≤ x
      · skip
        by_cases t2 : 2 ≤ y
        · skip
          by_cases t3 : x ≤ nd
          · skip
            by_cases t4 : y ≤ nd
            · skip
              have hw : wrap64 (x * y) = x * y := by
                have hq1 : x * y ≤ 16777216 * 16777216 := Int.mul_le_mul (by omega) (by omega) (by omega) (by omega)
                have hq0 : 0 ≤ x * y := Int.mul_nonneg (by omega) (by omega)
                generalize x * y = q at *
                unfold wrap64
                omega
              by_cases t5 : x * y = nd
              · have HS2 : Hid (sidesB nd l = true) := Lib.hid (by rw [HS.out]; simp [t1, t2, t3, t4, t5])
                have t5b : (wrap64 (x * y) == nd) = true := by rw [hw]; simpa using t5
                clear t5 hw
                go_wp2_with fail
                go_ret
                exact ⟨by rw [HS2.out]; rfl, by first | exact HB.out.drew | exact HB.out | exact below_drewN HB.out _⟩
              · have HS2 : Hid (sidesB nd l = false) := Lib.hid (by rw [HS.out]; simp [t1, t2, t3, t4, t5])
                have t5b : (wrap64 (x * y) == nd) = false := by rw [hw]; simpa using t5
                clear t5 hw
                go_wp2_with fail
                go_ret
                exact ⟨by rw [HS2.out]; rfl, by first | exact HB.out.drew | exact HB.out | exact below_drewN HB.out _⟩
            · have HS2 : Hid (sidesB nd l = false) := Lib.hid (by rw [HS.out]; simp [t1, t2, t3, t4])
              have t4b : decide (y ≤ nd) = false := decide_eq_false t4
              go_wp2_with fail
              go_ret
              exact ⟨by rw [HS2.out]; rfl, by first | exact HB.out.drew | exact HB.out | exact below_drewN HB.out _⟩
          · have HS2 : Hid (sidesB nd l = false) := Lib.hid (by rw [HS.out]; simp [t1, t2, t3])
            have t3b : decide (x ≤ nd) = false := decide_eq_false t3
            go_wp2_with fail
            go_ret
            exact ⟨by rw [HS2.out]; rfl, by first | exact HB.out.drew | exact HB.out | exact below_drewN HB.out _⟩
        · have HS2 : Hid (sidesB nd l = false) := Lib.hid (by rw [HS.out]; simp [t1, t2])
          have t2b : decide (2 ≤ y) = false := decide_eq_false t2
          go_wp2_with fail
          go_ret
          exact ⟨by rw [HS2.out]; rfl, by first | exact HB.out.drew | exact HB.out | exact below_drewN HB.out _⟩
      · have HS2 : Hid (sidesB nd l = false) := Lib.hid (by rw [HS.out]; simp [t1])
        have t1b : decide (2 ≤ x) = false := decide_eq_false t1
        go_wp2_with fail
        go_ret
        exact ⟨by rw [HS2.out]; rfl, by first | exact HB.out.drew | exact HB.out | exact below_drewN HB.out _⟩
  · have hni : ¬ (n : Int) = 2 := by omega
    have hnb : ((n : Int) == 2) = false := by simpa using hni
    have hnb2 : ((n : Int) != 2) = true := by simpa using hni
    have HS : Hid (sidesB nd l = false) := Lib.hid (by unfold sidesB; rw [HLN.out, decide_eq_false hn]; rfl)
    clear hn
    go_enter Tryz.func132, Tryz.ntmps132
    go_upto_region 1 with fail
    rw [← hW1]
    clear hW1
    go_wp2_with fail
    go_ret
    exact ⟨by rw [HS.out]; rfl, HB.out⟩
set_option maxHeartbeats 1000000 in
theorem n1_any (m nd : Int) (g : Nat) (w : World) (h : w.cell? ⟨g, 1, none⟩ = some (.int .i64 nd)) (h1 : 1 ≤ nd) (h2 : nd ≤ 16777216) :
    Calls Tryz.prog 135 #[.int .i64 m, .pointer (some ⟨g, 0, none⟩)] w fun e w' => e = .returned (.bool (decide (m = nd - 1))) ∧ w = w' := by
  have hw : wrap64 (nd - 1) = nd - 1 := by unfold wrap64; omega
  by_cases hm : m = nd - 1
  · have HS2 : Hid (decide (m = nd - 1) = true) := Lib.hid (decide_eq_true hm)
    have hb : (m == nd - 1) = true := by simpa using hm
    clear hm hw
    go_enter Tryz.func135, Tryz.ntmps135
    go_wp2_with fail
    go_ret
    exact ⟨by rw [HS2.out]; rfl, rfl⟩
  · have HS2 : Hid (decide (m = nd - 1) = false) := Lib.hid (decide_eq_false hm)
    have hb : (m == nd - 1) = false := by simpa using hm
    clear hm hw
    go_enter Tryz.func135, Tryz.ntmps135
    go_wp2_with fail
    go_ret
    exact ⟨by rw [HS2.out]; rfl, rfl⟩
set_option maxHeartbeats 1000000 in
theorem n2_any (m nd : Int) (g : Nat) (w : World) (h : w.cell? ⟨g, 1, none⟩ = some (.int .i64 nd)) (h1 : 1 ≤ nd) (h2 : nd ≤ 16777216) :
    Calls Tryz.prog 136 #[.int .i64 m, .pointer (some ⟨g, 0, none⟩)] w fun e w' => e = .returned (.bool (blueB nd m)) ∧ w = w' := by
  have hw : wrap64 (2 * nd) = 2 * nd := by unfold wrap64; omega
  have hw2 : wrap64 (2 * nd - 1) = 2 * nd - 1 := by unfold wrap64; omega
  by_cases hm : 2 * nd - 1 ≤ m
  · have HS2 : Hid (blueB nd m = stockB m) := Lib.hid (by unfold blueB; rw [decide_eq_true hm]; rfl)
    clear hw hw2
    go_enter Tryz.func136, Tryz.ntmps136
    go_wp2_with (go_at_call 130; (with_reducible refine (stock_any _ _).mono ?_); rintro e w' ⟨rfl, rfl⟩)
    go_ret
    exact ⟨by rw [HS2.out]; rfl, rfl⟩
  · have HS2 : Hid (blueB nd m = false) := Lib.hid (by unfold blueB; rw [decide_eq_false hm]; rfl)
    have hm3 : decide (2 * nd - 1 ≤ m) = false := decide_eq_false hm
    clear hw hw2
    go_enter Tryz.func136, Tryz.ntmps136
    go_wp2_with fail
    go_ret
    exact ⟨by rw [HS2.out]; rfl, rfl⟩
set_option maxRecDepth 100000 in
set_option maxHeartbeats 4000000 in
theorem single1_any (k : Nat) (F : Foot) (kd nd : Int) (l : List DescV) (a : Option Addr) (n cap g : Nat) (w : World) (hl : RowOf (descRd k) 3 40 F w a n cap l) (hg : w.cell? ⟨g, 1, none⟩ = some (.int .i64 nd)) :
    Calls Tryz.prog 134 #[.agg #[.int .i64 kd, .int .i64 nd, .slice a n cap], .func (.func 135) #[] #[.pointer (some ⟨g, 0, none⟩)]] w fun e w' => e = .returned (.bool (singleB nd l fun m => decide (m = nd - 1))) ∧ Below w.heap.size w w' := by
  have hgz : g < w.heap.size := World.block_lt_of_cell? w _ hg
  obtain ⟨W1, hW1⟩ : ∃ W1, W1 = w.alloc (.cells #[.int .i64 kd, .int .i64 nd, .slice a n cap] 25) := ⟨_, rfl⟩
  have hb1 : Below w.heap.size w W1 := by rw [hW1]; exact (Below.refl _ _).alloc (Nat.le_refl _) _
  have g1 : W1.heap[w.heap.size]? = some (.cells #[.int .i64 kd, .int .i64 nd, .slice a n cap] 25 (0, 0)) := by rw [hW1]; exact heap_alloc_new w _
  have hg1 : W1.cell? ⟨g, 1, none⟩ = some (.int .i64 nd) := (hb1.cell (p := ⟨g, 1, none⟩) hgz).trans hg
  have c0 := cell_at (o := 0) g1 rfl
  have c1 := cell_at (o := 1) g1 rfl
  have c2 := cell_at (o := 2) g1 rfl
  have HB := Lib.hid hb1
  have HLN := Lib.hid hl.len
  have HL := Lib.hid (hl.keep (descRd_ok _) (Fix.of_below hb1))
  have HG1 := Lib.hid hg1
  clear hl hb1 g1 hg hg1
  by_cases hn : n = 1
  · have hni : (n : Int) = 1 := by omega
    have hnb : ((n : Int) == 1) = true := by simpa using hni
    cases hh : hasB nd with
    | false =>
      have HH := Lib.hid hh
      have HS : Hid (singleB nd l (fun m => decide (m = nd - 1)) = false) := Lib.hid (by unfold singleB; rw [hh]; simp)
      clear hh hn
      go_enter Tryz.func134, Tryz.ntmps134
      go_upto_region 1 with fail
      rw [← hW1]
      clear hW1
      go_wp2_with (go_at_call 41; (with_reducible refine (has_any _ _).mono ?_); rintro e w' ⟨rfl, rfl⟩; rw [HH.out])
      go_ret
      exact ⟨by rw [HS.out]; rfl, HB.out⟩
    | true =>
      have HH := Lib.hid hh
      obtain ⟨hn1, hn2⟩ := hasB_le hh
      subst hn
      obtain ⟨b, off, rfl, hbw, p0, _⟩ := row_kid HL.out (i := 0) (by omega)
      obtain ⟨m, hm⟩ : ∃ m, m = kidN l 0 := ⟨_, rfl⟩
      have HS : Hid (singleB nd l (fun m => decide (m = nd - 1)) = decide (m = nd - 1)) := Lib.hid (by unfold singleB; rw [hh, HLN.out, hm]; simp)
      rw [← hm] at p0
      clear hh hm
      go_enter Tryz.func134, Tryz.ntmps134
      go_upto_region 1 with fail
      rw [← hW1]
      clear hW1
      go_wp2_with (first | (go_at_call 41; (with_reducible refine (has_any _ _).mono ?_); rintro e w' ⟨rfl, rfl⟩; rw [HH.out]) | (go_at_call 135; (with_reducible refine (n1_any _ _ _ _ HG1.out hn1 hn2).mono ?_); rintro e w' ⟨rfl, rfl⟩))
      go_ret
      exact ⟨by rw [HS.out]; rfl, HB.out⟩
  · have hni : ¬ (n : Int) = 1 := by omega
    have hnb : ((n : Int) == 1) = false := by simpa using hni
    have HS : Hid (singleB nd l (fun m => decide (m = nd - 1)) = false) := Lib.hid (by unfold singleB; rw [HLN.out, decide_eq_false hn]; rfl)
    clear hn
    go_enter Tryz.func134, Tryz.ntmps134
    go_upto_region 1 with fail
    rw [← hW1]
    clear hW1
    go_wp2_with fail
    go_ret
    exact ⟨by rw [HS.out]; rfl, HB.out⟩
set_option maxRecDepth 100000 in
set_option maxHeartbeats 4000000 in
theorem single2_any (k : Nat) (F : Foot) (kd nd : Int) (l : List DescV) (a : Option Addr) (n cap g : Nat) (w : World) (hl : RowOf (descRd k) 3 40 F w a n cap l) (hg : w.cell? ⟨g, 1, none⟩ = some (.int .i64 nd)) :
    Calls Tryz.prog 134 #[.agg #[.int .i64 kd, .int .i64 nd, .slice a n cap], .func (.func 136) #[] #[.pointer (some ⟨g, 0, none⟩)]] w fun e w' => e = .returned (.bool (singleB nd l fun m => blueB nd m)) ∧ Below w.heap.size w w' := by
  have hgz : g < w.heap.size := World.block_lt_of_cell? w _ hg
  obtain ⟨W1, hW1⟩ : ∃ W1, W1 = w.alloc (.cells #[.int .i64 kd, .int .i64 nd, .slice a n cap] 25) := ⟨_, rfl⟩
  have hb1 : Below w.heap.size w W1 := by rw [hW1]; exact (Below.refl _ _).alloc (Nat.le_refl _) _
  have g1 : W1.heap[w.heap.size]? = some (.cells #[.int .i64 kd, .int .i64 nd, .slice a n cap] 25 (0, 0)) := by rw [hW1]; exact heap_alloc_new w _
  have hg1 : W1.cell? ⟨g, 1, none⟩ = some (.int .i64 nd) := (hb1.cell (p := ⟨g, 1, none⟩) hgz).trans hg
  have c0 := cell_at (o := 0) g1 rfl
  have c1 := cell_at (o := 1) g1 rfl
  have c2 := cell_at (o := 2) g1 rfl
  have HB := Lib.hid hb1
  have HLN := Lib.hid hl.len
  have HL := Lib.hid (hl.keep (descRd_ok _) (Fix.of_below hb1))
  have HG1 := Lib.hid hg1
  clear hl hb1 g1 hg hg1
  by_cases hn : n = 1
  · have hni : (n : Int) = 1 := by omega
    have hnb : ((n : Int) == 1) = true := by simpa using hni
    cases hh : hasB nd with
    | false =>
      have HH := Lib.hid hh
      have HS : Hid (singleB nd l (fun m => blueB nd m) = false) := Lib.hid (by unfold singleB; rw [hh]; simp)
      clear hh hn
      go_enter Tryz.func134, Tryz.ntmps134
      go_upto_region 1 with fail
      rw [← hW1]
      clear hW1
      go_wp2_with (go_at_call 41; (with_reducible refine (has_any _ _).mono ?_); rintro e w' ⟨rfl, rfl⟩; rw [HH.out])
      go_ret
      exact ⟨by rw [HS.out]; rfl, HB.out⟩
    | true =>
      have HH := Lib.hid hh
      obtain ⟨hn1, hn2⟩ := hasB_le hh
      subst hn
      obtain ⟨b, off, rfl, hbw, p0, _⟩ := row_kid HL.out (i := 0) (by omega)
      obtain ⟨m, hm⟩ : ∃ m, m = kidN l 0 := ⟨_, rfl⟩
      have HS : Hid (singleB nd l (fun m => blueB nd m) = blueB nd m) := Lib.hid (by unfold singleB; rw [hh, HLN.out, hm]; simp)
      rw [← hm] at p0
      clear hh hm
      go_enter Tryz.func134, Tryz.ntmps134
      go_upto_region 1 with fail
      rw [← hW1]
      clear hW1
      go_wp2_with (first | (go_at_call 41; (with_reducible refine (has_any _ _).mono ?_); rintro e w' ⟨rfl, rfl⟩; rw [HH.out]) | (go_at_call 136; (with_reducible refine (n2_any _ _ _ _ HG1.out hn1 hn2).mono ?_); rintro e w' ⟨rfl, rfl⟩))
      go_ret
      exact ⟨by rw [HS.out]; rfl, HB.out⟩
  · have hni : ¬ (n : Int) = 1 := by omega
    have hnb : ((n : Int) == 1) = false := by simpa using hni
    have HS : Hid (singleB nd l (fun m => blueB nd m) = false) := Lib.hid (by unfold singleB; rw [HLN.out, decide_eq_false hn]; rfl)
    clear hn
    go_enter Tryz.func134, Tryz.ntmps134
    go_upto_region 1 with fail
    rw [← hW1]
    clear hW1
    go_wp2_with fail
    go_ret
    exact ⟨by rw [HS.out]; rfl, HB.out⟩
end Go.Proofs.YtibabpahpiijgaaGreatDoor
