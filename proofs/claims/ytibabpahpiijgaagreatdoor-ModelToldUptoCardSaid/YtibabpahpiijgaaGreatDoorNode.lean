/- valid.Node, kind by kind. -/
import Derived.Test.YtibabpahpiijgaaGreatDoorNodeV
namespace Go.Proofs.YtibabpahpiijgaaGreatDoor
open Go.RowKit
set_option linter.unusedSimpArgs false
set_option linter.unusedVariables false
set_option maxRecDepth 100000 in
set_option maxHeartbeats 4000000 in
theorem node1 (k : Nat) (F : Foot) (nd : Int) (l : List DescV) (a : Option Addr) (n cap : Nat) (w : World) (hl : RowOf (descRd k) 3 40 F w a n cap l) :
    Calls Tryz.prog 111 #[.agg #[.int .i64 1, .int .i64 nd, .slice a n cap]] w fun e w' => e = .returned (.bool (nodeB 1 nd l)) ∧ Below w.heap.size w w' := by
  obtain ⟨W1, hW1⟩ : ∃ W1, W1 = w.alloc (.cells #[.int .i64 1, .int .i64 nd, .slice a n cap] 25) := ⟨_, rfl⟩
  have hb1 : Below w.heap.size w W1 := by rw [hW1]; exact (Below.refl _ _).alloc (Nat.le_refl _) _
  have g1 : W1.heap[w.heap.size]? = some (.cells #[.int .i64 1, .int .i64 nd, .slice a n cap] 25 (0, 0)) := by rw [hW1]; exact heap_alloc_new w _
  have hz1 : w.heap.size < W1.heap.size := by rw [hW1]; simp
  have c0 := cell_at (o := 0) g1 rfl
  have c1 : W1.cell? ⟨w.heap.size, 1, none⟩ = some (.int .i64 nd) := cell_at (o := 1) g1 rfl
  have c2 := cell_at (o := 2) g1 rfl
  have HB := Lib.hid hb1
  have HLN := Lib.hid hl.len
  have HL := Lib.hid (hl.keep (descRd_ok _) (Fix.of_below hb1))
  have HG1 := Lib.hid g1
  clear hl hb1 g1
  by_cases hn : n = 0
  · skip
    have hni : (n : Int) = 0 := by omega
    have hnb : ((n : Int) == 0) = true := by simpa using hni
    cases hh : hasB nd with
    | false =>
      have HH := Lib.hid hh
      have HS : Hid (nodeB 1 nd l = false) := Lib.hid (by simp [nodeB, HLN.out, hh])
      clear hh hn
      go_enter Tryz.func111, Tryz.ntmps111
      go_upto_region 1 with fail
      rw [← hW1]
      clear hW1
      go_wp2_with (go_at_call 41; (with_reducible refine (has_any _ _).mono ?_); rintro e w' ⟨rfl, rfl⟩; rw [HH.out])
      go_ret
      exact ⟨by rw [HS.out]; rfl, HB.out⟩
    | true =>
      have HH := Lib.hid hh
      by_cases h64 : nd ≤ 64
      · skip
        have HS : Hid (nodeB 1 nd l = true) := Lib.hid (by simp [nodeB, HLN.out, hh, h64, hn])
        clear hh hn
        go_enter Tryz.func111, Tryz.ntmps111
        go_upto_region 1 with fail
        rw [← hW1]
        clear hW1
        go_wp2_with (go_at_call 41; (with_reducible refine (has_any _ _).mono ?_); rintro e w' ⟨rfl, rfl⟩; rw [HH.out])
        go_ret
        exact ⟨by rw [HS.out]; rfl, HB.out⟩
      · skip
        have HS : Hid (nodeB 1 nd l = false) := Lib.hid (by simp [nodeB, HLN.out, hh, h64, hn])
        have h64b : decide (nd ≤ 64) = false := decide_eq_false h64
        clear hh hn
        go_enter Tryz.func111, Tryz.ntmps111
        go_upto_region 1 with fail
        rw [← hW1]
        clear hW1
        go_wp2_with (go_at_call 41; (with_reducible refine (has_any _ _).mono ?_); rintro e w' ⟨rfl, rfl⟩; rw [HH.out])
        go_ret
        exact ⟨by rw [HS.out]; rfl, HB.out⟩
  · skip
    have hni : ¬ (n : Int) = 0 := by omega
    have hnb : ((n : Int) == 0) = false := by simpa using hni
    have HS : Hid (nodeB 1 nd l = false) := Lib.hid (by simp [nodeB, HLN.out, hn])
    clear hn
    go_enter Tryz.func111, Tryz.ntmps111
    go_upto_region 1 with fail
    rw [← hW1]
    clear hW1
    go_wp2_with fail
    go_ret
    exact ⟨by rw [HS.out]; rfl, HB.out⟩
set_option maxRecDepth 100000 in
set_option maxHeartbeats 4000000 in
theorem node2 (k : Nat) (F : Foot) (nd : Int) (l : List DescV) (a : Option Addr) (n cap : Nat) (w : World) (hl : RowOf (descRd k) 3 40 F w a n cap l) :
    Calls Tryz.prog 111 #[.agg #[.int .i64 2, .int .i64 nd, .slice a n cap]] w fun e w' => e = .returned (.bool (nodeB 2 nd l)) ∧ Below w.heap.size w w' := by
  obtain ⟨W1, hW1⟩ : ∃ W1, W1 = w.alloc (.cells #[.int .i64 2, .int .i64 nd, .slice a n cap] 25) := ⟨_, rfl⟩
  have hb1 : Below w.heap.size w W1 := by rw [hW1]; exact (Below.refl _ _).alloc (Nat.le_refl _) _
  have g1 : W1.heap[w.heap.size]? = some (.cells #[.int .i64 2, .int .i64 nd, .slice a n cap] 25 (0, 0)) := by rw [hW1]; exact heap_alloc_new w _
  have hz1 : w.heap.size < W1.heap.size := by rw [hW1]; simp
  have c0 := cell_at (o := 0) g1 rfl
  have c1 : W1.cell? ⟨w.heap.size, 1, none⟩ = some (.int .i64 nd) := cell_at (o := 1) g1 rfl
  have c2 := cell_at (o := 2) g1 rfl
  have HB := Lib.hid hb1
  have HLN := Lib.hid hl.len
  have HL := Lib.hid (hl.keep (descRd_ok _) (Fix.of_below hb1))
  have HG1 := Lib.hid g1
  clear hl hb1 g1
  cases hh : smallB nd with
  | false =>
    have HH := Lib.hid hh
    have HS : Hid (nodeB 2 nd l = false) := Lib.hid (by simp [nodeB, HLN.out, hh])
    clear hh
    go_enter Tryz.func111, Tryz.ntmps111
    go_upto_region 1 with fail
    rw [← hW1]
    clear hW1
    go_wp2_with (go_at_call 129; (with_reducible refine (small_any _ _).mono ?_); rintro e w' ⟨rfl, rfl⟩; rw [HH.out])
    go_ret
    exact ⟨by rw [HS.out]; rfl, HB.out⟩
  | true =>
    have HH := Lib.hid hh
    by_cases hn : n = 0
    · skip
      have hni : (n : Int) = 0 := by omega
      have hnb : ((n : Int) == 0) = true := by simpa using hni
      by_cases h2 : 2 ≤ nd
      · skip
        have HS : Hid (nodeB 2 nd l = true) := Lib.hid (by simp [nodeB, HLN.out, hh, hn, h2])
        clear hh hn
        go_enter Tryz.func111, Tryz.ntmps111
        go_upto_region 1 with fail
        rw [← hW1]
        clear hW1
        go_wp2_with (go_at_call 129; (with_reducible refine (small_any _ _).mono ?_); rintro e w' ⟨rfl, rfl⟩; rw [HH.out])
        go_ret
        exact ⟨by rw [HS.out]; rfl, HB.out⟩
      · skip
        have HS : Hid (nodeB 2 nd l = false) := Lib.hid (by simp [nodeB, HLN.out, hh, hn, h2])
        have h2b : decide (2 ≤ nd) = false := decide_eq_false h2
        clear hh hn
        go_enter Tryz.func111, Tryz.ntmps111
        go_upto_region 1 with fail
        rw [← hW1]
        clear hW1
        go_wp2_with (go_at_call 129; (with_reducible refine (small_any _ _).mono ?_); rintro e w' ⟨rfl, rfl⟩; rw [HH.out])
        go_ret
        exact ⟨by rw [HS.out]; rfl, HB.out⟩
    · skip
      have hni : ¬ (n : Int) = 0 := by omega
      have hnb : ((n : Int) == 0) = false := by simpa using hni
      have HS : Hid (nodeB 2 nd l = false) := Lib.hid (by simp [nodeB, HLN.out, hh, hn])
      clear hh hn
      go_enter Tryz.func111, Tryz.ntmps111
      go_upto_region 1 with fail
      rw [← hW1]
      clear hW1
      go_wp2_with (go_at_call 129; (with_reducible refine (small_any _ _).mono ?_); rintro e w' ⟨rfl, rfl⟩; rw [HH.out])
      go_ret
      exact ⟨by rw [HS.out]; rfl, HB.out⟩
set_option maxRecDepth 100000 in
set_option maxHeartbeats 4000000 in
theorem node3 (k : Nat) (F : Foot) (nd : Int) (l : List DescV) (a : Option Addr) (n cap : Nat) (w : World) (hl : RowOf (descRd k) 3 40 F w a n cap l) :
    Calls Tryz.prog 111 #[.agg #[.int .i64 3, .int .i64 nd, .slice a n cap]] w fun e w' => e = .returned (.bool (nodeB 3 nd l)) ∧ Below w.heap.size w w' := by
  obtain ⟨W1, hW1⟩ : ∃ W1, W1 = w.alloc (.cells #[.int .i64 3, .int .i64 nd, .slice a n cap] 25) := ⟨_, rfl⟩
  have hb1 : Below w.heap.size w W1 := by rw [hW1]; exact (Below.refl _ _).alloc (Nat.le_refl _) _
  have g1 : W1.heap[w.heap.size]? = some (.cells #[.int .i64 3, .int .i64 nd, .slice a n cap] 25 (0, 0)) := by rw [hW1]; exact heap_alloc_new w _
  have hz1 : w.heap.size < W1.heap.size := by rw [hW1]; simp
  have c0 := cell_at (o := 0) g1 rfl
  have c1 : W1.cell? ⟨w.heap.size, 1, none⟩ = some (.int .i64 nd) := cell_at (o := 1) g1 rfl
  have c2 := cell_at (o := 2) g1 rfl
  have HB := Lib.hid hb1
  have HLN := Lib.hid hl.len
  have HL := Lib.hid (hl.keep (descRd_ok _) (Fix.of_below hb1))
  have HG1 := Lib.hid g1
  clear hl hb1 g1
  by_cases hn : n = 0
  · skip
    have hni : (n : Int) = 0 := by omega
    have hnb : ((n : Int) == 0) = true := by simpa using hni
    by_cases h2 : 2 ≤ nd
    · skip
      have HS : Hid (nodeB 3 nd l = stockB nd) := Lib.hid (by simp [nodeB, HLN.out, hn, h2])
      clear hn
      go_enter Tryz.func111, Tryz.ntmps111
      go_upto_region 1 with fail
      rw [← hW1]
      clear hW1
      go_wp2_with (go_at_call 130; (with_reducible refine (stock_any _ _).mono ?_); rintro e w' ⟨rfl, rfl⟩)
      go_ret
      exact ⟨by rw [HS.out]; rfl, HB.out⟩
    · skip
      have HS : Hid (nodeB 3 nd l = false) := Lib.hid (by simp [nodeB, HLN.out, hn, h2])
      have h2b : decide (2 ≤ nd) = false := decide_eq_false h2
      clear hn
      go_enter Tryz.func111, Tryz.ntmps111
      go_upto_region 1 with fail
      rw [← hW1]
      clear hW1
      go_wp2_with (go_at_call 130; (with_reducible refine (stock_any _ _).mono ?_); rintro e w' ⟨rfl, rfl⟩)
      go_ret
      exact ⟨by rw [HS.out]; rfl, HB.out⟩
  · skip
    have hni : ¬ (n : Int) = 0 := by omega
    have hnb : ((n : Int) == 0) = false := by simpa using hni
    have HS : Hid (nodeB 3 nd l = false) := Lib.hid (by simp [nodeB, HLN.out, hn])
    clear hn
    go_enter Tryz.func111, Tryz.ntmps111
    go_upto_region 1 with fail
    rw [← hW1]
    clear hW1
    go_wp2_with (go_at_call 130; (with_reducible refine (stock_any _ _).mono ?_); rintro e w' ⟨rfl, rfl⟩)
    go_ret
    exact ⟨by rw [HS.out]; rfl, HB.out⟩
set_option maxRecDepth 100000 in
set_option maxHeartbeats 4000000 in
theorem node4 (k : Nat) (F : Foot) (nd : Int) (l : List DescV) (a : Option Addr) (n cap : Nat) (w : World) (hl : RowOf (descRd k) 3 40 F w a n cap l) :
    Calls Tryz.prog 111 #[.agg #[.int .i64 4, .int .i64 nd, .slice a n cap]] w fun e w' => e = .returned (.bool (nodeB 4 nd l)) ∧ Below w.heap.size w w' := by
  obtain ⟨W1, hW1⟩ : ∃ W1, W1 = w.alloc (.cells #[.int .i64 4, .int .i64 nd, .slice a n cap] 25) := ⟨_, rfl⟩
  have hb1 : Below w.heap.size w W1 := by rw [hW1]; exact (Below.refl _ _).alloc (Nat.le_refl _) _
  have g1 : W1.heap[w.heap.size]? = some (.cells #[.int .i64 4, .int .i64 nd, .slice a n cap] 25 (0, 0)) := by rw [hW1]; exact heap_alloc_new w _
  have hz1 : w.heap.size < W1.heap.size := by rw [hW1]; simp
  have c0 := cell_at (o := 0) g1 rfl
  have c1 : W1.cell? ⟨w.heap.size, 1, none⟩ = some (.int .i64 nd) := cell_at (o := 1) g1 rfl
  have c2 := cell_at (o := 2) g1 rfl
  have HB := Lib.hid hb1
  have HLN := Lib.hid hl.len
  have HL := Lib.hid (hl.keep (descRd_ok _) (Fix.of_below hb1))
  have HG1 := Lib.hid g1
  clear hl hb1 g1
  have HS : Hid (nodeB 4 nd l = sidesB nd l) := Lib.hid (by simp [nodeB, HLN.out])
  go_enter Tryz.func111, Tryz.ntmps111
  go_upto_region 1 with fail
  rw [← hW1]
  clear hW1
  go_wp2_with (go_at_call 132; (with_reducible refine (sides_any k F 4 nd l a n cap _ HL.out).mono ?_); rintro e w2 ⟨rfl, hb2⟩; have HB2 := Lib.hid (HB.out.trans (hb2.mono HB.out.size)); clear hb2)
  go_ret
  exact ⟨by rw [HS.out]; rfl, HB2.out⟩
set_option maxRecDepth 100000 in
set_option maxHeartbeats 4000000 in
theorem node6 (k : Nat) (F : Foot) (nd : Int) (l : List DescV) (a : Option Addr) (n cap : Nat) (w : World) (hl : RowOf (descRd k) 3 40 F w a n cap l) :
    Calls Tryz.prog 111 #[.agg #[.int .i64 6, .int .i64 nd, .slice a n cap]] w fun e w' => e = .returned (.bool (nodeB 6 nd l)) ∧ Below w.heap.size w w' := by
  obtain ⟨W1, hW1⟩ : ∃ W1, W1 = w.alloc (.cells #[.int .i64 6, .int .i64 nd, .slice a n cap] 25) := ⟨_, rfl⟩
  have hb1 : Below w.heap.size w W1 := by rw [hW1]; exact (Below.refl _ _).alloc (Nat.le_refl _) _
  have g1 : W1.heap[w.heap.size]? = some (.cells #[.int .i64 6, .int .i64 nd, .slice a n cap] 25 (0, 0)) := by rw [hW1]; exact heap_alloc_new w _
  have hz1 : w.heap.size < W1.heap.size := by rw [hW1]; simp
  have c0 := cell_at (o := 0) g1 rfl
  have c1 : W1.cell? ⟨w.heap.size, 1, none⟩ = some (.int .i64 nd) := cell_at (o := 1) g1 rfl
  have c2 := cell_at (o := 2) g1 rfl
  have HB := Lib.hid hb1
  have HLN := Lib.hid hl.len
  have HL := Lib.hid (hl.keep (descRd_ok _) (Fix.of_below hb1))
  have HG1 := Lib.hid g1
  clear hl hb1 g1
  by_cases h3 : 3 ≤ nd
  · cases hh : primI nd with
    | false =>
      have HH := Lib.hid hh
      have HS : Hid (nodeB 6 nd l = false) := Lib.hid (by simp [nodeB, HLN.out, hh])
      clear hh
      go_enter Tryz.func111, Tryz.ntmps111
      go_upto_region 1 with fail
      rw [← hW1]
      clear hW1
      go_wp2_with (go_at_call 133; (with_reducible refine (prime_any _ _).mono ?_); rintro e w2 ⟨rfl, hb2⟩; rw [HH.out]; have HB2 := Lib.hid hb2; have c1 : w2.cell? ⟨w.heap.size, 1, none⟩ = some (.int .i64 nd) := cell_at (o := 1) ((hb2.block _ hz1).trans HG1.out) rfl; have c0 := cell_at (o := 0) ((hb2.block _ hz1).trans HG1.out) rfl; have c2 := cell_at (o := 2) ((hb2.block _ hz1).trans HG1.out) rfl; clear hb2)
      go_ret
      exact ⟨by rw [HS.out]; rfl, HB.out.trans (HB2.out.mono HB.out.size)⟩
    | true =>
      have HH := Lib.hid hh
      have HS : Hid (nodeB 6 nd l = (singleB nd l fun m => decide (m = nd - 1))) := Lib.hid (by simp [nodeB, HLN.out, hh, h3])
      clear hh
      go_enter Tryz.func111, Tryz.ntmps111
      go_upto_region 1 with fail
      rw [← hW1]
      clear hW1
      go_wp2_with (first | (go_at_call 133; (with_reducible refine (prime_any _ _).mono ?_); rintro e w2 ⟨rfl, hb2⟩; rw [HH.out]; have HB2 := Lib.hid hb2; have c1 : w2.cell? ⟨w.heap.size, 1, none⟩ = some (.int .i64 nd) := cell_at (o := 1) ((hb2.block _ hz1).trans HG1.out) rfl; have c0 := cell_at (o := 0) ((hb2.block _ hz1).trans HG1.out) rfl; have c2 := cell_at (o := 2) ((hb2.block _ hz1).trans HG1.out) rfl; clear hb2) | (go_at_call 134; (with_reducible refine (single1_any k F 6 nd l a n cap w.heap.size _ (HL.out.keep (descRd_ok _) (Fix.of_below HB2.out)) c1).mono ?_); rintro e w3 ⟨rfl, hb3⟩; have HB3 := Lib.hid (HB.out.trans ((HB2.out.trans (hb3.mono HB2.out.size)).mono HB.out.size)); clear hb3))
      go_ret
      exact ⟨by rw [HS.out]; rfl, HB3.out⟩
  · skip
    have HS : Hid (nodeB 6 nd l = false) := Lib.hid (by simp [nodeB, HLN.out, h3])
    have h3b : decide (3 ≤ nd) = false := decide_eq_false h3
    go_enter Tryz.func111, Tryz.ntmps111
    go_upto_region 1 with fail
    rw [← hW1]
    clear hW1
    go_wp2_with fail
    go_ret
    exact ⟨by rw [HS.out]; rfl, HB.out⟩
set_option maxRecDepth 100000 in
set_option maxHeartbeats 4000000 in
theorem node7 (k : Nat) (F : Foot) (nd : Int) (l : List DescV) (a : Option Addr) (n cap : Nat) (w : World) (hl : RowOf (descRd k) 3 40 F w a n cap l) :
    Calls Tryz.prog 111 #[.agg #[.int .i64 7, .int .i64 nd, .slice a n cap]] w fun e w' => e = .returned (.bool (nodeB 7 nd l)) ∧ Below w.heap.size w w' := by
  obtain ⟨W1, hW1⟩ : ∃ W1, W1 = w.alloc (.cells #[.int .i64 7, .int .i64 nd, .slice a n cap] 25) := ⟨_, rfl⟩
  have hb1 : Below w.heap.size w W1 := by rw [hW1]; exact (Below.refl _ _).alloc (Nat.le_refl _) _
  have g1 : W1.heap[w.heap.size]? = some (.cells #[.int .i64 7, .int .i64 nd, .slice a n cap] 25 (0, 0)) := by rw [hW1]; exact heap_alloc_new w _
  have hz1 : w.heap.size < W1.heap.size := by rw [hW1]; simp
  have c0 := cell_at (o := 0) g1 rfl
  have c1 : W1.cell? ⟨w.heap.size, 1, none⟩ = some (.int .i64 nd) := cell_at (o := 1) g1 rfl
  have c2 := cell_at (o := 2) g1 rfl
  have HB := Lib.hid hb1
  have HLN := Lib.hid hl.len
  have HL := Lib.hid (hl.keep (descRd_ok _) (Fix.of_below hb1))
  have HG1 := Lib.hid g1
  clear hl hb1 g1
  by_cases h2 : 2 ≤ nd
  · skip
    have HS : Hid (nodeB 7 nd l = (singleB nd l fun m => blueB nd m)) := Lib.hid (by simp [nodeB, HLN.out, h2])
    go_enter Tryz.func111, Tryz.ntmps111
    go_upto_region 1 with fail
    rw [← hW1]
    clear hW1
    go_wp2_with (go_at_call 134; (with_reducible refine (single2_any k F 7 nd l a n cap w.heap.size _ HL.out c1).mono ?_); rintro e w3 ⟨rfl, hb3⟩; have HB3 := Lib.hid (HB.out.trans (hb3.mono HB.out.size)); clear hb3)
    go_ret
    exact ⟨by rw [HS.out]; rfl, HB3.out⟩
  · skip
    have HS : Hid (nodeB 7 nd l = false) := Lib.hid (by simp [nodeB, HLN.out, h2])
    have h2b : decide (2 ≤ nd) = false := decide_eq_false h2
    go_enter Tryz.func111, Tryz.ntmps111
    go_upto_region 1 with fail
    rw [← hW1]
    clear hW1
    go_wp2_with fail
    go_ret
    exact ⟨by rw [HS.out]; rfl, HB.out⟩
set_option maxRecDepth 100000 in
set_option maxHeartbeats 4000000 in
theorem node0 (k : Nat) (F : Foot) (kd nd : Int) (l : List DescV) (a : Option Addr) (n cap : Nat) (w : World) (hl : RowOf (descRd k) 3 40 F w a n cap l) (hk : ¬ (kd = 1 ∨ kd = 2 ∨ kd = 3 ∨ kd = 4 ∨ kd = 5 ∨ kd = 6 ∨ kd = 7)) :
    Calls Tryz.prog 111 #[.agg #[.int .i64 kd, .int .i64 nd, .slice a n cap]] w fun e w' => e = .returned (.bool (nodeB kd nd l)) ∧ Below w.heap.size w w' := by
  obtain ⟨W1, hW1⟩ : ∃ W1, W1 = w.alloc (.cells #[.int .i64 kd, .int .i64 nd, .slice a n cap] 25) := ⟨_, rfl⟩
  have hb1 : Below w.heap.size w W1 := by rw [hW1]; exact (Below.refl _ _).alloc (Nat.le_refl _) _
  have g1 : W1.heap[w.heap.size]? = some (.cells #[.int .i64 kd, .int .i64 nd, .slice a n cap] 25 (0, 0)) := by rw [hW1]; exact heap_alloc_new w _
  have hz1 : w.heap.size < W1.heap.size := by rw [hW1]; simp
  have c0 := cell_at (o := 0) g1 rfl
  have c1 : W1.cell? ⟨w.heap.size, 1, none⟩ = some (.int .i64 nd) := cell_at (o := 1) g1 rfl
  have c2 := cell_at (o := 2) g1 rfl
  have HB := Lib.hid hb1
  have HLN := Lib.hid hl.len
  have HL := Lib.hid (hl.keep (descRd_ok _) (Fix.of_below hb1))
  have HG1 := Lib.hid g1
  clear hl hb1 g1
  have HS : Hid (nodeB kd nd l = false) := Lib.hid (by unfold nodeB; rw [if_neg (by omega), if_neg (by omega), if_neg (by omega), if_neg (by omega), if_neg (by omega), if_neg (by omega), if_neg (by omega)])
  have k1 : ¬ kd = 1 := by omega
  have b1 : (kd == 1) = false := by simpa using k1
  have k2 : ¬ kd = 2 := by omega
  have b2 : (kd == 2) = false := by simpa using k2
  have k3 : ¬ kd = 3 := by omega
  have b3 : (kd == 3) = false := by simpa using k3
  have k4 : ¬ kd = 4 := by omega
  have b4 : (kd == 4) = false := by simpa using k4
  have k5 : ¬ kd = 5 := by omega
  have b5 : (kd == 5) = false := by simpa using k5
  have k6 : ¬ kd = 6 := by omega
  have b6 : (kd == 6) = false := by simpa using k6
  have k7 : ¬ kd = 7 := by omega
  have b7 : (kd == 7) = false := by simpa using k7
  clear hk
  go_enter Tryz.func111, Tryz.ntmps111
  go_upto_region 1 with fail
  rw [← hW1]
  clear hW1
  go_wp2_with fail
  go_ret
  exact ⟨by rw [HS.out]; rfl, HB.out⟩
set_option maxRecDepth 100000 in
set_option maxHeartbeats 4000000 in
theorem node5 (k : Nat) (F : Foot) (nd : Int) (l : List DescV) (a : Option Addr) (n cap : Nat) (w : World) (hl : RowOf (descRd k) 3 40 F w a n cap l) :
    Calls Tryz.prog 111 #[.agg #[.int .i64 5, .int .i64 nd, .slice a n cap]] w fun e w' => e = .returned (.bool (nodeB 5 nd l)) ∧ Below w.heap.size w w' := by
  obtain ⟨W1, hW1⟩ : ∃ W1, W1 = w.alloc (.cells #[.int .i64 5, .int .i64 nd, .slice a n cap] 25) := ⟨_, rfl⟩
  have hb1 : Below w.heap.size w W1 := by rw [hW1]; exact (Below.refl _ _).alloc (Nat.le_refl _) _
  have g1 : W1.heap[w.heap.size]? = some (.cells #[.int .i64 5, .int .i64 nd, .slice a n cap] 25 (0, 0)) := by rw [hW1]; exact heap_alloc_new w _
  have hz1 : w.heap.size < W1.heap.size := by rw [hW1]; simp
  have c0 := cell_at (o := 0) g1 rfl
  have c1 : W1.cell? ⟨w.heap.size, 1, none⟩ = some (.int .i64 nd) := cell_at (o := 1) g1 rfl
  have c2 := cell_at (o := 2) g1 rfl
  have HB := Lib.hid hb1
  have HLN := Lib.hid hl.len
  have HL := Lib.hid (hl.keep (descRd_ok _) (Fix.of_below hb1))
  have HG1 := Lib.hid g1
  clear hl hb1 g1
  by_cases hn : n = 2
  · have hni : (n : Int) = 2 := by omega
    have hnb : ((n : Int) == 2) = true := by simpa using hni
    have hl2 : l.length = 2 := by rw [HLN.out]; exact hn
    subst hn
    obtain ⟨b, off, rfl, hbw, p0, wf0⟩ := row_kid HL.out (i := 0) (by omega)
    obtain ⟨b', off', he, _, p1, wf1⟩ := row_kid HL.out (i := 1) (by omega)
    cases he
    obtain ⟨x, hx⟩ : ∃ x, x = kidN l 0 := ⟨_, rfl⟩
    obtain ⟨y, hy⟩ : ∃ y, y = kidN l 1 := ⟨_, rfl⟩
    have HS0 : Hid (nodeB 5 nd l = (decide (gcdI x y = 1) && sidesB nd l)) := Lib.hid (by rw [hx, hy]; simp [nodeB, hl2])
    rw [← hx] at p0 wf0
    rw [← hy] at p1 wf1
    clear hx hy hl2
    have HSC : Hid (∀ W, Below W1.heap.size W1 W → W.cell? ⟨w.heap.size, 2, none⟩ = some (.slice (some ⟨b, off, none⟩) 2 cap) ∧ W.cell? ⟨b, off + 0 * 3 + 1, none⟩ = some (.int .i64 x) ∧ W.cell? ⟨b, off + 1 * 3 + 1, none⟩ = some (.int .i64 y)) := Lib.hid fun W hb => by
      have e : ∀ g o, g < W1.heap.size → W.cell? ⟨g, o, none⟩ = W1.cell? ⟨g, o, none⟩ := fun g o h => hb.cell (p := ⟨g, o, none⟩) h
      rw [e _ _ hz1, e _ _ hbw, e _ _ hbw]
      exact ⟨c2, p0, p1⟩
    have hbz := Below.refl W1.heap.size W1
    have HC0 : Hid (∀ W, Below W1.heap.size W1 W → W.heap[w.heap.size]? = some (.cells #[.int .i64 5, .int .i64 nd, .slice (some ⟨b, off, none⟩) 2 cap] 25 (0, 0))) := Lib.hid fun W hb => (hb.block _ hz1).trans HG1.out
    simp only [Nat.zero_mul, Nat.add_zero, Nat.one_mul] at HSC p0 p1
    by_cases hg : gcdI x y = 1
    · have HS : Hid (nodeB 5 nd l = sidesB nd l) := Lib.hid (by rw [HS0.out, decide_eq_true hg]; rfl)
      have hgb : (gcdI x y == 1) = true := by simpa using hg
      clear hg hni hnb
      go_enter Tryz.func111, Tryz.ntmps111
      go_upto_region 1 with fail
      rw [← hW1]
      clear hW1
      go_upto_region 13 with fail
      go_region_held3 (fun W => W.cell? ⟨w.heap.size, 2, none⟩ = some (.slice (some ⟨b, off, none⟩) 2 cap) ∧ W.cell? ⟨b, off + 1, none⟩ = some (.int .i64 x) ∧ W.cell? ⟨b, off + 3 + 1, none⟩ = some (.int .i64 y)) ((refine HSC.out _ ?_; ((repeat' (first | with_reducible assumption | with_reducible refine Below.drew ?_ | (with_reducible refine Below.alloc ?_ ?_ _))) <;> first | assumption | (simp; done) | (simp; omega))))
        ((go_at_call 131; (with_reducible refine (gcd_any _ _ _ wf0 wf1).mono ?_); rintro e w2 ⟨rfl, hb2⟩; have hb2z : Below W1.heap.size W1 w2 := Below.trans (show Below W1.heap.size W1 _ by ((repeat' (first | with_reducible assumption | with_reducible refine Below.drew ?_ | (with_reducible refine Below.alloc ?_ ?_ _))) <;> first | assumption | (simp; done) | (simp; omega))) (hb2.mono (Below.size (show Below W1.heap.size W1 _ by ((repeat' (first | with_reducible assumption | with_reducible refine Below.drew ?_ | (with_reducible refine Below.alloc ?_ ?_ _))) <;> first | assumption | (simp; done) | (simp; omega))))); clear hb2))
      all_goals
        have HB2 : Hid (Below W1.heap.size W1 w2) := Lib.hid (by assumption)
        have g2 := HC0.out w2 HB2.out
        have c0 := cell_at (o := 0) g2 rfl
        have c1 := cell_at (o := 1) g2 rfl
        have c2 := cell_at (o := 2) g2 rfl
        clear g2
        go_wp2_with (go_at_call 132; (with_reducible refine (sides_any k F 5 nd l _ 2 cap _ (HL.out.keep (descRd_ok _) (Fix.of_below HB2.out))).mono ?_); rintro e w3 ⟨rfl, hb3⟩; have HB3 := Lib.hid (HB.out.trans ((HB2.out.trans (hb3.mono HB2.out.size)).mono HB.out.size)); clear hb3)
        go_ret
        exact ⟨by rw [HS.out]; rfl, HB3.out⟩
    · have HS : Hid (nodeB 5 nd l = false) := Lib.hid (by rw [HS0.out, decide_eq_false hg]; rfl)
      have hgb : (gcdI x y == 1) = false := by simpa using hg
      clear hg hni hnb
      go_enter Tryz.func111, Tryz.ntmps111
      go_upto_region 1 with fail
      rw [← hW1]
      clear hW1
      go_upto_region 13 with fail
      go_region_held3 (fun W => W.cell? ⟨w.heap.size, 2, none⟩ = some (.slice (some ⟨b, off, none⟩) 2 cap) ∧ W.cell? ⟨b, off + 1, none⟩ = some (.int .i64 x) ∧ W.cell? ⟨b, off + 3 + 1, none⟩ = some (.int .i64 y)) ((refine HSC.out _ ?_; ((repeat' (first | with_reducible assumption | with_reducible refine Below.drew ?_ | (with_reducible refine Below.alloc ?_ ?_ _))) <;> first | assumption | (simp; done) | (simp; omega))))
        ((go_at_call 131; (with_reducible refine (gcd_any _ _ _ wf0 wf1).mono ?_); rintro e w2 ⟨rfl, hb2⟩; have hb2z : Below W1.heap.size W1 w2 := Below.trans (show Below W1.heap.size W1 _ by ((repeat' (first | with_reducible assumption | with_reducible refine Below.drew ?_ | (with_reducible refine Below.alloc ?_ ?_ _))) <;> first | assumption | (simp; done) | (simp; omega))) (hb2.mono (Below.size (show Below W1.heap.size W1 _ by ((repeat' (first | with_reducible assumption | with_reducible refine Below.drew ?_ | (with_reducible refine Below.alloc ?_ ?_ _))) <;> first | assumption | (simp; done) | (simp; omega))))); clear hb2))
      all_goals
        have HB2 : Hid (Below W1.heap.size W1 w2) := Lib.hid (by assumption)
        have g2 := HC0.out w2 HB2.out
        have c0 := cell_at (o := 0) g2 rfl
        have c1 := cell_at (o := 1) g2 rfl
        have c2 := cell_at (o := 2) g2 rfl
        clear g2
        go_wp2_with fail
        go_ret
        exact ⟨by rw [HS.out]; rfl, HB.out.trans (HB2.out.mono HB.out.size)⟩
  · have hni : ¬ (n : Int) = 2 := by omega
    have hnb : ((n : Int) == 2) = false := by simpa using hni
    have HS : Hid (nodeB 5 nd l = false) := Lib.hid (by simp [nodeB, HLN.out, hn])
    clear hn
    go_enter Tryz.func111, Tryz.ntmps111
    go_upto_region 1 with fail
    rw [← hW1]
    clear hW1
    go_upto_region 13 with fail
    go_quiet (fail)
    go_wp2_with fail
    go_ret
    exact ⟨by rw [HS.out]; rfl, by first | exact HB.out.drew | exact below_drewN HB.out _⟩
theorem node_any (k : Nat) (F : Foot) (kd nd : Int) (l : List DescV) (a : Option Addr) (n cap : Nat) (w : World) (hl : RowOf (descRd k) 3 40 F w a n cap l) :
    Calls Tryz.prog 111 #[.agg #[.int .i64 kd, .int .i64 nd, .slice a n cap]] w fun e w' => e = .returned (.bool (nodeB kd nd l)) ∧ Below w.heap.size w w' := by
  by_cases h : kd = 1 ∨ kd = 2 ∨ kd = 3 ∨ kd = 4 ∨ kd = 5 ∨ kd = 6 ∨ kd = 7
  · rcases h with rfl | rfl | rfl | rfl | rfl | rfl | rfl
    · exact node1 k F nd l a n cap w hl
    · exact node2 k F nd l a n cap w hl
    · exact node3 k F nd l a n cap w hl
    · exact node4 k F nd l a n cap w hl
    · exact node5 k F nd l a n cap w hl
    · exact node6 k F nd l a n cap w hl
    · exact node7 k F nd l a n cap w hl
  · exact node0 k F kd nd l a n cap w hl h
end Go.Proofs.YtibabpahpiijgaaGreatDoor
