/- slim.Even. -/
import Derived.Test.YtbijacoiblbnfaaSlimF
import Derived.IntWalk
namespace Go.Proofs.Ytbijacoiblbnfaa
open Go.RowKit
set_option linter.unusedSimpArgs false
set_option linter.unusedVariables false
abbrev scr0 : Value := .agg #[.int .i64 0, .int .i64 0, .slice none 0 0, .slice none 0 0, .slice none 0 0]
set_option maxRecDepth 100000 in
set_option maxHeartbeats 4000000 in
theorem even_neg (st rm r : Int) (aC aP aT : Option Addr) (n m q cC cP cT : Nat) (w : World) (h : r < 0) :
    Calls Try.prog 12 #[.agg #[.int .i64 st, .int .i64 rm, .slice aC n cC, .slice aP m cP, .slice aT q cT], .int .i64 r] w fun e w' => e = .returned (.tuple #[.agg #[.int .i64 0, .int .i64 0, .slice none 0 0, .slice none 0 0, .slice none 0 0], .int .i64 2]) ∧ Below w.heap.size w w' := by
  go_enter Try.func12, Try.ntmps12
  go_wp2_with fail
  exact bodyPost_ret (v := .tuple #[.agg #[.int .i64 0, .int .i64 0, .slice none 0 0, .slice none 0 0, .slice none 0 0], .int .i64 2]) (by simp [results, Try.results12, go_sem]) rfl ⟨rfl, ((Below.refl _ _).alloc (Nat.le_refl _) _).alloc (by simp) _⟩
set_option maxRecDepth 100000 in
set_option maxHeartbeats 4000000 in
theorem even_big (st rm r : Int) (aC aP aT : Option Addr) (n m q cC cP cT : Nat) (w : World) (h0 : ¬ r < 0) (hn : 0 < n) (hm : n ≤ 140737488351232) (h : (4096 : Int) / n < r) :
    Calls Try.prog 12 #[.agg #[.int .i64 st, .int .i64 rm, .slice aC n cC, .slice aP m cP, .slice aT q cT], .int .i64 r] w fun e w' => e = .returned (.tuple #[.agg #[.int .i64 0, .int .i64 0, .slice none 0 0, .slice none 0 0, .slice none 0 0], .int .i64 12]) ∧ Below w.heap.size w w' := by
  have hn0 : (n : Int) ≠ 0 := by omega
  have hn1 : (0 : Int) ≤ (n : Int) := by omega
  go_enter Try.func12, Try.ntmps12
  go_wp2_with fail
  exact bodyPost_ret (v := .tuple #[.agg #[.int .i64 0, .int .i64 0, .slice none 0 0, .slice none 0 0, .slice none 0 0], .int .i64 12]) (by simp [results, Try.results12, go_sem]) rfl ⟨rfl, ((Below.refl _ _).alloc (Nat.le_refl _) _).alloc (by simp) _⟩
set_option maxRecDepth 100000 in
set_option maxHeartbeats 8000000 in
theorem even_ok (st rm : Int) (R T : Nat) (F : Foot) (aC aP aT : Option Addr) (n m q cC cP cT : Nat) (L : List (List CallV)) (ps ts : List Int) (w : World)
    (hR : R ≤ 9223372036854775807) (h : n = 0 ∨ (0 < n ∧ (R : Int) ≤ 4096 / (n : Int))) (hT : T = R * n) (hT4 : T ≤ 4096) (hC : RowOf rowsRd 1 24 F w aC n cC L) (hP : RowOf rI 1 8 F w aP m cP ps) (hTi : RowOf rI 1 8 F w aT q cT ts) :
    Calls Try.prog 12 #[.agg #[.int .i64 st, .int .i64 rm, .slice aC n cC, .slice aP m cP, .slice aT q cT], .int .i64 R] w fun e w' => ∃ a1 c1 a2 c2 a3 c3, e = .returned (.tuple #[.agg #[.int .i64 st, .int .i64 rm, .slice a1 n c1, .slice a2 T c2, .slice a3 q c3], .int .i64 0]) ∧
      RowOf rowsRd 1 24 (From w.heap.size) w' a1 n c1 L ∧ RowOf rI 1 8 (From w.heap.size) w' a2 T c2 (evenL n T) ∧ RowOf rI 1 8 (From w.heap.size) w' a3 q c3 ts ∧ Below w.heap.size w w' := by
  have hn := room64 hC.room (by omega)
  have hmul : IntKind.i64.wrap ((R : Int) * (n : Int)) = (T : Int) := by
    rw [← Int.natCast_mul, ← hT]
    exact IntWalk.i64_in _ (by omega)
  obtain ⟨W0, hW0⟩ : ∃ W0, W0 = (w.alloc (.cells #[.int .i64 st, .int .i64 rm, .slice aC n cC, .slice aP m cP, .slice aT q cT] 25)).alloc (.cells #[.int .i64 0, .int .i64 0, .slice none 0 0, .slice none 0 0, .slice none 0 0] 25) := ⟨_, rfl⟩
  have hb0 : Below w.heap.size w W0 := by rw [hW0]; exact ((Below.refl _ _).alloc (Nat.le_refl _) _).alloc (by simp) _
  have hz : W0.heap.size = w.heap.size + 1 + 1 := by rw [hW0]; simp
  have g0 : W0.heap[w.heap.size]? = some (.cells #[.int .i64 st, .int .i64 rm, .slice aC n cC, .slice aP m cP, .slice aT q cT] 25 (0, 0)) := by
    rw [hW0, Lib.alloc_old _ _ _ (by simp)]
    exact heap_alloc_new w _
  have g1 : W0.heap[w.heap.size + 1]? = some (.cells #[.int .i64 0, .int .i64 0, .slice none 0 0, .slice none 0 0, .slice none 0 0] 25 (0, 0)) := by
    rw [hW0]
    have := heap_alloc_new (w.alloc (.cells #[.int .i64 st, .int .i64 rm, .slice aC n cC, .slice aP m cP, .slice aT q cT] 25)) (.cells #[.int .i64 0, .int .i64 0, .slice none 0 0, .slice none 0 0, .slice none 0 0] 25)
    simpa using this
  have HC := Lib.hid (hC.keep rowsRd_ok (Fix.of_below hb0))
  have HP := Lib.hid (hP.keep (Rd.int_ok _) (Fix.of_below hb0))
  have HTI := Lib.hid (hTi.keep (Rd.int_ok _) (Fix.of_below hb0))
  have HB0 := Lib.hid hb0
  have HG0 := Lib.hid g0
  have HG1 := Lib.hid g1
  have HZ := Lib.hid hz
  have HTT := Lib.hid hT
  have hbig : n = 0 ∨ (0 < n ∧ ¬ (4096 : Int) / n < R) := by
    rcases h with h | ⟨h1, h2⟩
    · exact .inl h
    · exact .inr ⟨h1, by omega⟩
  have t2 := cell_at (o := 2) g0 rfl
  clear hC hP hTi hb0 g0 g1 hz hT h
  have HPOS : Hid (∀ k, k < T → 0 < n) := Lib.hid fun k hk => by
    rcases Nat.eq_zero_or_pos n with h | h
    · rw [h, Nat.mul_zero] at HTT
      have := HTT.out
      omega
    · exact h
  rcases hbig with hz0 | ⟨hpos, hnb⟩
  · have hz1 : ¬ 0 < n := by omega
    clear hz0
    go_enter Try.func12, Try.ntmps12
    go_wp2_with fail
    rw [← hW0]
    clear hW0 hz1
    go_loopg [7, 29] T (fun g v iv wr => ∃ k : Nat, k ≤ T ∧ g = T - k ∧ iv = .int .i64 k ∧ wr.ownsRow W0.heap.size 3 1 v k ((evenL n k).map (Value.int .i64)) ∧ Below W0.heap.size W0 wr)
    case atStart => exact ⟨0, by omega, rfl, rfl, World.ownsRow_nil W0 _ _ _, Below.refl _ _⟩
    case round =>
      obtain ⟨k, hk, rfl, rfl, ho, hB⟩ := hrel
      obtain ⟨wo, rfl⟩ : ∃ wo : World, wo = wr := ⟨_, rfl⟩
      have HO := Lib.hid ho
      clear ho
      by_cases hlt : k < T
      · have hp0 := HPOS.out k hlt
        have hp1 : (n : Int) ≠ 0 := by omega
        have hp2 : (0 : Int) ≤ (n : Int) := by omega
        have HM : Hid (((k : Int) % (n : Int)) = ((k % n : Nat) : Int)) := Lib.hid (by omega)
        go_wp2_with (at_builtin; refine wpl_app1 rfl _ _ 23 rfl intElem _ _ _ rfl _ rfl rfl HO.out hB (Nat.le_refl _) hB.size (by omega) (by unfold maxLen; omega) ?_; intro v' w1 hown hB' _)
        rw [HM.out] at hown
        have HO2 := Lib.hid hown
        have HB2 := Lib.hid hB'
        clear hown hB' hB hp1 hp2 hp0
        go_wp2_with fail
        go_roundg (T - (k + 1))
        case measure => omega
        case rel => exact ⟨k + 1, by omega, rfl, by go_num, by rw [evenL_succ, List.map_append]; exact HO2.out, HB2.out⟩
      · obtain rfl : k = T := by omega
        obtain ⟨a', c', rfl, hr⟩ := own_ints_slice HO.out (by omega) (evenL_wf hT4)
        have HR := Lib.hid hr
        have hb3 := hB
        have hz := HZ.out
        have hsz3 := hB.size
        have g0 : wo.heap[w.heap.size]? = _ := (hB.block _ (by omega)).trans HG0.out
        have t0 := cell_at (o := 0) g0 rfl
        have t1 := cell_at (o := 1) g0 rfl
        have t2 := cell_at (o := 2) g0 rfl
        have t3 := cell_at (o := 3) g0 rfl
        have t4 := cell_at (o := 4) g0 rfl
        have HC3 := Lib.hid (HC.out.keep rowsRd_ok (Fix.of_below hB))
        have HP3 := Lib.hid (HP.out.keep (Rd.int_ok _) (Fix.of_below hB))
        have HT3 := Lib.hid (HTI.out.keep (Rd.int_ok _) (Fix.of_below hB))
        have HB3 := Lib.hid hB
        clear hr hb3 hz hsz3 g0 hB
        go_wp2_with fail
        refine (with_any st rm All aC aP aT a' n m q k cC cP cT c' L ps ts (evenL n k) wo (HC3.out.mono rowsRd_ok fun _ _ _ => trivial) (HP3.out.mono (Rd.int_ok _) fun _ _ _ => trivial) (HT3.out.mono (Rd.int_ok _) fun _ _ _ => trivial) (HR.out.mono (Rd.int_ok _) fun _ _ _ => trivial)).mono ?_
        rintro e w4 ⟨a1, c1, a2, c2, a3, c3, rfl, r1, r2, r3, hb4⟩
        have hz := HZ.out
        have hz3 := HB3.out.size
        have hz4 := hb4.size
        have g1 : w4.heap[w.heap.size + 1]? = _ := (hb4.block _ (by omega)).trans ((HB3.out.block _ (by omega)).trans HG1.out)
        have v0 := cell_at (o := 0) g1 rfl
        have v1 := cell_at (o := 1) g1 rfl
        have v2 := cell_at (o := 2) g1 rfl
        have v3 := cell_at (o := 3) g1 rfl
        have v4 := cell_at (o := 4) g1 rfl
        have u0 := free_at (o := 0) g1
        have u1 := free_at (o := 1) g1
        have u2 := free_at (o := 2) g1
        have u3 := free_at (o := 3) g1
        have u4 := free_at (o := 4) g1
        have R1 := Lib.hid r1
        have R2 := Lib.hid r2
        have R3 := Lib.hid r3
        have HB4 := Lib.hid hb4
        clear g1 r1 r2 r3 hb4 t0 t1 t2 t3 t4 hz hz3 hz4
        go_wp2_with fail
        have hz := HZ.out
        have hz3 := HB3.out.size
        have hz4 := HB4.out.size
        have FA : ∀ F : Foot, ¬ F (w.heap.size + 1) → Fix F w4 (((((w4.setCell ⟨w.heap.size + 1, 0, none⟩ (.int .i64 st)).setCell ⟨w.heap.size + 1, 1, none⟩ (.int .i64 rm)).setCell ⟨w.heap.size + 1, 2, none⟩ (.slice a1 n c1)).setCell ⟨w.heap.size + 1, 3, none⟩ (.slice a2 k c2)).setCell ⟨w.heap.size + 1, 4, none⟩ (.slice a3 q c3)) := fun F h1 => (Fix.refl _ _).set5 h1 _ _ _ _ _
        refine bodyPost_ret (v := .tuple #[.agg #[.int .i64 st, .int .i64 rm, .slice a1 n c1, .slice a2 k c2, .slice a3 q c3], .int .i64 0]) (by simp [results, Try.results12, v0, v1, v2, v3, v4, go_sem]) rfl ⟨_, _, _, _, _, _, rfl, ?_, ?_, ?_, ?_⟩
        · exact (R1.out.keep rowsRd_ok (FA _ (by show ¬ wo.heap.size ≤ _; omega))).mono rowsRd_ok fun b _ (hf : wo.heap.size ≤ b) => by show _ ≤ b; omega
        · exact (R2.out.keep (Rd.int_ok _) (FA _ (by show ¬ wo.heap.size ≤ _; omega))).mono (Rd.int_ok _) fun b _ (hf : wo.heap.size ≤ b) => by show _ ≤ b; omega
        · exact (R3.out.keep (Rd.int_ok _) (FA _ (by show ¬ wo.heap.size ≤ _; omega))).mono (Rd.int_ok _) fun b _ (hf : wo.heap.size ≤ b) => by show _ ≤ b; omega
        · exact below_set5 ((HB0.out.trans (HB3.out.mono (by omega))).trans (HB4.out.mono (by omega))) (by omega) _ _ _ _ _
  · have hn0 : (n : Int) ≠ 0 := by omega
    have hn1 : (0 : Int) ≤ (n : Int) := by omega
    go_enter Try.func12, Try.ntmps12
    go_wp2_with fail
    rw [← hW0]
    clear hW0 hpos hnb hn0 hn1
    go_loopg [7, 29] T (fun g v iv wr => ∃ k : Nat, k ≤ T ∧ g = T - k ∧ iv = .int .i64 k ∧ wr.ownsRow W0.heap.size 3 1 v k ((evenL n k).map (Value.int .i64)) ∧ Below W0.heap.size W0 wr)
    case atStart => exact ⟨0, by omega, rfl, rfl, World.ownsRow_nil W0 _ _ _, Below.refl _ _⟩
    case round =>
      obtain ⟨k, hk, rfl, rfl, ho, hB⟩ := hrel
      obtain ⟨wo, rfl⟩ : ∃ wo : World, wo = wr := ⟨_, rfl⟩
      have HO := Lib.hid ho
      clear ho
      by_cases hlt : k < T
      · have hp0 := HPOS.out k hlt
        have hp1 : (n : Int) ≠ 0 := by omega
        have hp2 : (0 : Int) ≤ (n : Int) := by omega
        have HM : Hid (((k : Int) % (n : Int)) = ((k % n : Nat) : Int)) := Lib.hid (by omega)
        go_wp2_with (at_builtin; refine wpl_app1 rfl _ _ 23 rfl intElem _ _ _ rfl _ rfl rfl HO.out hB (Nat.le_refl _) hB.size (by omega) (by unfold maxLen; omega) ?_; intro v' w1 hown hB' _)
        rw [HM.out] at hown
        have HO2 := Lib.hid hown
        have HB2 := Lib.hid hB'
        clear hown hB' hB hp1 hp2 hp0
        go_wp2_with fail
        go_roundg (T - (k + 1))
        case measure => omega
        case rel => exact ⟨k + 1, by omega, rfl, by go_num, by rw [evenL_succ, List.map_append]; exact HO2.out, HB2.out⟩
      · obtain rfl : k = T := by omega
        obtain ⟨a', c', rfl, hr⟩ := own_ints_slice HO.out (by omega) (evenL_wf hT4)
        have HR := Lib.hid hr
        have hb3 := hB
        have hz := HZ.out
        have hsz3 := hB.size
        have g0 : wo.heap[w.heap.size]? = _ := (hB.block _ (by omega)).trans HG0.out
        have t0 := cell_at (o := 0) g0 rfl
        have t1 := cell_at (o := 1) g0 rfl
        have t2 := cell_at (o := 2) g0 rfl
        have t3 := cell_at (o := 3) g0 rfl
        have t4 := cell_at (o := 4) g0 rfl
        have HC3 := Lib.hid (HC.out.keep rowsRd_ok (Fix.of_below hB))
        have HP3 := Lib.hid (HP.out.keep (Rd.int_ok _) (Fix.of_below hB))
        have HT3 := Lib.hid (HTI.out.keep (Rd.int_ok _) (Fix.of_below hB))
        have HB3 := Lib.hid hB
        clear hr hb3 hz hsz3 g0 hB
        go_wp2_with fail
        refine (with_any st rm All aC aP aT a' n m q k cC cP cT c' L ps ts (evenL n k) wo (HC3.out.mono rowsRd_ok fun _ _ _ => trivial) (HP3.out.mono (Rd.int_ok _) fun _ _ _ => trivial) (HT3.out.mono (Rd.int_ok _) fun _ _ _ => trivial) (HR.out.mono (Rd.int_ok _) fun _ _ _ => trivial)).mono ?_
        rintro e w4 ⟨a1, c1, a2, c2, a3, c3, rfl, r1, r2, r3, hb4⟩
        have hz := HZ.out
        have hz3 := HB3.out.size
        have hz4 := hb4.size
        have g1 : w4.heap[w.heap.size + 1]? = _ := (hb4.block _ (by omega)).trans ((HB3.out.block _ (by omega)).trans HG1.out)
        have v0 := cell_at (o := 0) g1 rfl
        have v1 := cell_at (o := 1) g1 rfl
        have v2 := cell_at (o := 2) g1 rfl
        have v3 := cell_at (o := 3) g1 rfl
        have v4 := cell_at (o := 4) g1 rfl
        have u0 := free_at (o := 0) g1
        have u1 := free_at (o := 1) g1
        have u2 := free_at (o := 2) g1
        have u3 := free_at (o := 3) g1
        have u4 := free_at (o := 4) g1
        have R1 := Lib.hid r1
        have R2 := Lib.hid r2
        have R3 := Lib.hid r3
        have HB4 := Lib.hid hb4
        clear g1 r1 r2 r3 hb4 t0 t1 t2 t3 t4 hz hz3 hz4
        go_wp2_with fail
        have hz := HZ.out
        have hz3 := HB3.out.size
        have hz4 := HB4.out.size
        have FA : ∀ F : Foot, ¬ F (w.heap.size + 1) → Fix F w4 (((((w4.setCell ⟨w.heap.size + 1, 0, none⟩ (.int .i64 st)).setCell ⟨w.heap.size + 1, 1, none⟩ (.int .i64 rm)).setCell ⟨w.heap.size + 1, 2, none⟩ (.slice a1 n c1)).setCell ⟨w.heap.size + 1, 3, none⟩ (.slice a2 k c2)).setCell ⟨w.heap.size + 1, 4, none⟩ (.slice a3 q c3)) := fun F h1 => (Fix.refl _ _).set5 h1 _ _ _ _ _
        refine bodyPost_ret (v := .tuple #[.agg #[.int .i64 st, .int .i64 rm, .slice a1 n c1, .slice a2 k c2, .slice a3 q c3], .int .i64 0]) (by simp [results, Try.results12, v0, v1, v2, v3, v4, go_sem]) rfl ⟨_, _, _, _, _, _, rfl, ?_, ?_, ?_, ?_⟩
        · exact (R1.out.keep rowsRd_ok (FA _ (by show ¬ wo.heap.size ≤ _; omega))).mono rowsRd_ok fun b _ (hf : wo.heap.size ≤ b) => by show _ ≤ b; omega
        · exact (R2.out.keep (Rd.int_ok _) (FA _ (by show ¬ wo.heap.size ≤ _; omega))).mono (Rd.int_ok _) fun b _ (hf : wo.heap.size ≤ b) => by show _ ≤ b; omega
        · exact (R3.out.keep (Rd.int_ok _) (FA _ (by show ¬ wo.heap.size ≤ _; omega))).mono (Rd.int_ok _) fun b _ (hf : wo.heap.size ≤ b) => by show _ ≤ b; omega
        · exact below_set5 ((HB0.out.trans (HB3.out.mono (by omega))).trans (HB4.out.mono (by omega))) (by omega) _ _ _ _ _
end Go.Proofs.Ytbijacoiblbnfaa
