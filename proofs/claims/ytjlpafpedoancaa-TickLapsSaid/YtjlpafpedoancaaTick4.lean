/- The statement TickLaps, walked. -/
import Derived.Test.YtjlpafpedoancaaTick3
import Derived.Deep.QuietTactic
import Derived.BigQuiet
namespace Go.Proofs.Ytjlpafpedoancaa.Tick
open Go.RowKit
/-- The law's own memory: the two numbers, the strange clock, and the variables that its closure holds. -/
structure Env (w : World) (B : Nat) (x y k n m : Int) : Prop where
  h0 : w.heap[B]? = some (.cells #[.int .i64 x, .int .i64 y] 3 (0, 0))
  h1 : w.heap[B + 1]? = some (.cells #[.slice (some ⟨B, 0, none⟩) 2 2, .int .i64 k] 38 (0, 0))
  h2 : w.heap[B + 2]? = some (.cells #[.pointer (some ⟨B + 1, 0, none⟩)] 36 (0, 0))
  h3 : w.heap[B + 3]? = some (.cells #[.int .i64 n] 3 (0, 0))
  h4 : w.heap[B + 4]? = some (.cells #[.int .i64 m] 3 (0, 0))
theorem Env.asked {w : World} {B : Nat} {x y k n m : Int} (h : Env w B x y k n m) (k' : Int) : Env (w.setCell ⟨B + 1, 1, none⟩ (.int .i64 k')) B x y k' n m := by
  refine ⟨?_, ?_, ?_, ?_, ?_⟩
  · rw [Below.heap_setCell _ _ _ _ (by simp)]; exact h.h0
  · rw [heap_set_at _ h.h1]; rfl
  · rw [Below.heap_setCell _ _ _ _ (by simp)]; exact h.h2
  · rw [Below.heap_setCell _ _ _ _ (by simp)]; exact h.h3
  · rw [Below.heap_setCell _ _ _ _ (by simp)]; exact h.h4
theorem Env.n {w : World} {B : Nat} {x y k n m : Int} (h : Env w B x y k n m) (n' : Int) : Env (w.setCell ⟨B + 3, 0, none⟩ (.int .i64 n')) B x y k n' m := by
  refine ⟨?_, ?_, ?_, ?_, ?_⟩
  · rw [Below.heap_setCell _ _ _ _ (by simp)]; exact h.h0
  · rw [Below.heap_setCell _ _ _ _ (by simp)]; exact h.h1
  · rw [Below.heap_setCell _ _ _ _ (by simp)]; exact h.h2
  · rw [heap_set_at _ h.h3]; rfl
  · rw [Below.heap_setCell _ _ _ _ (by simp)]; exact h.h4
theorem Env.m {w : World} {B : Nat} {x y k n m : Int} (h : Env w B x y k n m) (m' : Int) : Env (w.setCell ⟨B + 4, 0, none⟩ (.int .i64 m')) B x y k n m' := by
  refine ⟨?_, ?_, ?_, ?_, ?_⟩
  · rw [Below.heap_setCell _ _ _ _ (by simp)]; exact h.h0
  · rw [Below.heap_setCell _ _ _ _ (by simp)]; exact h.h1
  · rw [Below.heap_setCell _ _ _ _ (by simp)]; exact h.h2
  · rw [Below.heap_setCell _ _ _ _ (by simp)]; exact h.h3
  · rw [heap_set_at _ h.h4]; rfl
theorem Env.drewN {w : World} {B : Nat} {x y k n m : Int} (h : Env w B x y k n m) (q : Nat) : Env (w.drewN q) B x y k n m := ⟨h.h0, h.h1, h.h2, h.h3, h.h4⟩
theorem below_drewN {B : Nat} {a w : World} (h : Below B a w) (q : Nat) : Below B a (w.drewN q) := ⟨h.os, h.tape, h.output, h.size, h.block⟩
/-- The clock's Now, the first time and the second. -/
theorem snow (w : World) (B : Nat) (x y n m : Int) (k : Nat) (hk : k < 2) (h : Env w B x y k n m) :
    Calls Try.prog 115 #[.pointer (some ⟨B + 1, 0, none⟩)] w fun e w' => e = .returned (.int .i64 (if k = 0 then x else y)) ∧ Env w' B x y (k + 1 : Nat) n m ∧ Below B w w' := by
  have c0 : w.cell? ⟨B + 1, 0, none⟩ = some (.slice (some ⟨B, 0, none⟩) 2 2) := cell_at h.h1 rfl
  have c1 : w.cell? ⟨B + 1, 1, none⟩ = some (.int .i64 k) := cell_at h.h1 rfl
  have f1 : w.frozen? ⟨B + 1, 1, none⟩ = false := free_at h.h1
  have d0 : w.cell? ⟨B, 0, none⟩ = some (.int .i64 x) := cell_at h.h0 rfl
  have d1 : w.cell? ⟨B, 1, none⟩ = some (.int .i64 y) := cell_at h.h0 rfl
  match k, hk, h with
  | 0, _, h =>
    have H := Lib.hid h
    clear h
    go_enter Try.func115, Try.ntmps115
    go_wp2
    go_quiet (fail)
    go_wp2
    go_quiet (fail)
    go_wp2
    go_ret
    exact ⟨rfl, (H.out.asked 1).drewN _, below_drewN ((Below.refl _ _).setCell (p := ⟨B + 1, 1, none⟩) (Nat.le_add_right _ _) _) _⟩
  | 1, _, h =>
    have H := Lib.hid h
    clear h
    go_enter Try.func115, Try.ntmps115
    go_wp2
    go_quiet (fail)
    go_wp2
    go_quiet (fail)
    go_wp2
    go_ret
    exact ⟨rfl, (H.out.asked 2).drewN _, below_drewN ((Below.refl _ _).setCell (p := ⟨B + 1, 1, none⟩) (Nat.le_add_right _ _) _) _⟩
set_option maxRecDepth 100000 in
/-- The law's closure. -/
theorem laps1 (w : World) (B : Nat) (x y n m : Int) (k : Int) (hn : n = 0 ∨ n = 1) (h : Env w B x y k n m) :
    Calls Try.prog 23 #[.pointer (some ⟨B + 3, 0, none⟩), .pointer (some ⟨B + 2, 0, none⟩), .pointer (some ⟨B + 4, 0, none⟩)] w fun e w' => e = .returned (.tuple #[]) ∧ Env w' B x y k (n + 1) k ∧ Below B w w' := by
  have c1 : w.cell? ⟨B + 1, 1, none⟩ = some (.int .i64 k) := cell_at h.h1 rfl
  have c2 : w.cell? ⟨B + 2, 0, none⟩ = some (.pointer (some ⟨B + 1, 0, none⟩)) := cell_at h.h2 rfl
  have c3 : w.cell? ⟨B + 3, 0, none⟩ = some (.int .i64 n) := cell_at h.h3 rfl
  have c4 : w.cell? ⟨B + 4, 0, none⟩ = some (.int .i64 m) := cell_at h.h4 rfl
  have f3 : w.frozen? ⟨B + 3, 0, none⟩ = false := free_at h.h3
  have f4 : w.frozen? ⟨B + 4, 0, none⟩ = false := free_at h.h4
  have hn0 : 0 ≤ n := by omega
  have hn1 : n ≤ 1 := by omega
  have H := Lib.hid h
  clear h hn
  go_enter Try.func23, Try.ntmps23
  go_wp2
  go_end0
  exact ⟨rfl, (H.out.n _).m _, ((Below.refl _ _).setCell (p := ⟨B + 3, 0, none⟩) (Nat.le_add_right _ _) _).setCell (p := ⟨B + 4, 0, none⟩) (Nat.le_add_right _ _) _⟩
def lapv (x y : Int) : Int := if y ≤ x then 0 else min (y - x) 1152921504606846976
theorem wrapU (n : Int) : IntKind.u64.wrap n = n % 18446744073709551616 := rfl
theorem lapv_no {x y : Int} (h : y ≤ x) : lapv x y = 0 := if_pos h
theorem lapv_yes {x y : Int} (h : x < y) : lapv x y = min (y - x) 1152921504606846976 := if_neg (by omega)
set_option maxRecDepth 100000 in
set_option maxHeartbeats 1000000 in
theorem lap_cf (w : World) (B : Nat) (x y m : Int) (hx : -9223372036854775808 ≤ x ∧ x ≤ 9223372036854775807) (hy : -9223372036854775808 ≤ y ∧ y ≤ 9223372036854775807) (h : Env w B x y 0 0 m) :
    Calls Try.prog 24 #[.iface 36 (.pointer (some ⟨B + 1, 0, none⟩)), .func (.func 23) #[] #[.pointer (some ⟨B + 3, 0, none⟩), .pointer (some ⟨B + 2, 0, none⟩), .pointer (some ⟨B + 4, 0, none⟩)]] w
      fun e w' => e = .returned (.int .i64 (lapv x y)) ∧ Env w' B x y 2 1 1 ∧ Below B w w' := by
  have q1 : ∀ f c w, (binOp .eql 1 (.func f #[] c) .nilFunc).run Try.prog w = .ok (.bool false) w := fun _ _ _ => by kernel_rfl
  have q2 : ∀ a w, (binOp .eql 110 (.iface 36 (.pointer (some a))) .nilIface).run Try.prog w = .ok (.bool false) w := fun _ _ => by kernel_rfl
  have q3 : ∀ a w, (method 271 36 (.pointer (some a)) "Now").run Try.prog w = .ok (115, .pointer (some a)) w := fun _ _ => by kernel_rfl
  have H := Lib.hid h
  clear h
  by_cases c1 : y ≤ x
  · go_enter Try.func24, Try.ntmps24
    go_wp2_with (first | (first | (go_at_call 115; refine (snow _ B x y 0 m 0 (by omega) H.out).mono ?_; rintro e w' ⟨rfl, he0, hb0⟩) | (go_at_call 115; refine (snow _ B x y _ _ 1 (by omega) he1).mono ?_; rintro e w' ⟨rfl, he2, hb2⟩)) | (go_at_call 23; refine (laps1 _ B x y 0 m 1 (by omega) he0).mono ?_; rintro e w' ⟨rfl, he1, hb1⟩))
    go_ret
    exact ⟨ret_int (lapv_no c1).symm, he2, (hb0.trans hb1).trans hb2⟩
  · have c2 : x < y := by omega
    have hv := Lib.hid (lapv_yes c2)
    clear c1
    by_cases c3 : 0 ≤ x
    · go_enter Try.func24, Try.ntmps24
      go_wp2_with (first | (first | (go_at_call 115; refine (snow _ B x y 0 m 0 (by omega) H.out).mono ?_; rintro e w' ⟨rfl, he0, hb0⟩) | (go_at_call 115; refine (snow _ B x y _ _ 1 (by omega) he1).mono ?_; rintro e w' ⟨rfl, he2, hb2⟩)) | (go_at_call 23; refine (laps1 _ B x y 0 m 1 (by omega) he0).mono ?_; rintro e w' ⟨rfl, he1, hb1⟩))
      all_goals
        go_ret
        exact ⟨ret_int (by rw [hv.out]; (try simp only [wrapU, wrap64] at *); omega), he2, (hb0.trans hb1).trans hb2⟩
    · by_cases c4 : 0 ≤ y
      · go_enter Try.func24, Try.ntmps24
        go_wp2_with (first | (first | (go_at_call 115; refine (snow _ B x y 0 m 0 (by omega) H.out).mono ?_; rintro e w' ⟨rfl, he0, hb0⟩) | (go_at_call 115; refine (snow _ B x y _ _ 1 (by omega) he1).mono ?_; rintro e w' ⟨rfl, he2, hb2⟩)) | (go_at_call 23; refine (laps1 _ B x y 0 m 1 (by omega) he0).mono ?_; rintro e w' ⟨rfl, he1, hb1⟩))
        all_goals
          go_ret
          exact ⟨ret_int (by rw [hv.out]; (try simp only [wrapU, wrap64] at *); omega), he2, (hb0.trans hb1).trans hb2⟩
      · go_enter Try.func24, Try.ntmps24
        go_wp2_with (first | (first | (go_at_call 115; refine (snow _ B x y 0 m 0 (by omega) H.out).mono ?_; rintro e w' ⟨rfl, he0, hb0⟩) | (go_at_call 115; refine (snow _ B x y _ _ 1 (by omega) he1).mono ?_; rintro e w' ⟨rfl, he2, hb2⟩)) | (go_at_call 23; refine (laps1 _ B x y 0 m 1 (by omega) he0).mono ?_; rintro e w' ⟨rfl, he1, hb1⟩))
        all_goals
          go_ret
          exact ⟨ret_int (by rw [hv.out]; (try simp only [wrapU, wrap64] at *); omega), he2, (hb0.trans hb1).trans hb2⟩
set_option maxRecDepth 100000 in
set_option maxHeartbeats 1000000 in
theorem lap_cn (w : World) (B : Nat) (x y n m : Int) (hx : -9223372036854775808 ≤ x ∧ x ≤ 9223372036854775807) (hy : -9223372036854775808 ≤ y ∧ y ≤ 9223372036854775807) (h : Env w B x y 0 n m) :
    Calls Try.prog 24 #[.iface 36 (.pointer (some ⟨B + 1, 0, none⟩)), .nilFunc] w
      fun e w' => e = .returned (.int .i64 (lapv x y)) ∧ Env w' B x y 2 n m ∧ Below B w w' := by
  have q1 : ∀ w, (binOp .eql 1 .nilFunc .nilFunc).run Try.prog w = .ok (.bool true) w := fun _ => by kernel_rfl
  have q2 : ∀ a w, (binOp .eql 110 (.iface 36 (.pointer (some a))) .nilIface).run Try.prog w = .ok (.bool false) w := fun _ _ => by kernel_rfl
  have q3 : ∀ a w, (method 271 36 (.pointer (some a)) "Now").run Try.prog w = .ok (115, .pointer (some a)) w := fun _ _ => by kernel_rfl
  have H := Lib.hid h
  clear h
  by_cases c1 : y ≤ x
  · go_enter Try.func24, Try.ntmps24
    go_wp2_with (first | (first | (go_at_call 115; refine (snow _ B x y n m 0 (by omega) H.out).mono ?_; rintro e w' ⟨rfl, he0, hb0⟩) | (go_at_call 115; refine (snow _ B x y _ _ 1 (by omega) he0).mono ?_; rintro e w' ⟨rfl, he2, hb2⟩)) | (go_at_call 60; refine (lap1 _).mono ?_; rintro e w' ⟨rfl, rfl⟩))
    go_ret
    exact ⟨ret_int (lapv_no c1).symm, he2, hb0.trans hb2⟩
  · have c2 : x < y := by omega
    have hv := Lib.hid (lapv_yes c2)
    clear c1
    by_cases c3 : 0 ≤ x
    · go_enter Try.func24, Try.ntmps24
      go_wp2_with (first | (first | (go_at_call 115; refine (snow _ B x y n m 0 (by omega) H.out).mono ?_; rintro e w' ⟨rfl, he0, hb0⟩) | (go_at_call 115; refine (snow _ B x y _ _ 1 (by omega) he0).mono ?_; rintro e w' ⟨rfl, he2, hb2⟩)) | (go_at_call 60; refine (lap1 _).mono ?_; rintro e w' ⟨rfl, rfl⟩))
      all_goals
        go_ret
        exact ⟨ret_int (by rw [hv.out]; (try simp only [wrapU, wrap64] at *); omega), he2, hb0.trans hb2⟩
    · by_cases c4 : 0 ≤ y
      · go_enter Try.func24, Try.ntmps24
        go_wp2_with (first | (first | (go_at_call 115; refine (snow _ B x y n m 0 (by omega) H.out).mono ?_; rintro e w' ⟨rfl, he0, hb0⟩) | (go_at_call 115; refine (snow _ B x y _ _ 1 (by omega) he0).mono ?_; rintro e w' ⟨rfl, he2, hb2⟩)) | (go_at_call 60; refine (lap1 _).mono ?_; rintro e w' ⟨rfl, rfl⟩))
        all_goals
          go_ret
          exact ⟨ret_int (by rw [hv.out]; (try simp only [wrapU, wrap64] at *); omega), he2, hb0.trans hb2⟩
      · go_enter Try.func24, Try.ntmps24
        go_wp2_with (first | (first | (go_at_call 115; refine (snow _ B x y n m 0 (by omega) H.out).mono ?_; rintro e w' ⟨rfl, he0, hb0⟩) | (go_at_call 115; refine (snow _ B x y _ _ 1 (by omega) he0).mono ?_; rintro e w' ⟨rfl, he2, hb2⟩)) | (go_at_call 60; refine (lap1 _).mono ?_; rintro e w' ⟨rfl, rfl⟩))
        all_goals
          go_ret
          exact ⟨ret_int (by rw [hv.out]; (try simp only [wrapU, wrap64] at *); omega), he2, hb0.trans hb2⟩
set_option maxRecDepth 100000 in
theorem lap_nf (w : World) (B : Nat) (x y k m : Int) (h : Env w B x y k 0 m) :
    Calls Try.prog 24 #[.nilIface, .func (.func 23) #[] #[.pointer (some ⟨B + 3, 0, none⟩), .pointer (some ⟨B + 2, 0, none⟩), .pointer (some ⟨B + 4, 0, none⟩)]] w
      fun e w' => e = .returned (.int .i64 0) ∧ Env w' B x y k 1 k ∧ Below B w w' := by
  have q1 : ∀ f c w, (binOp .eql 1 (.func f #[] c) .nilFunc).run Try.prog w = .ok (.bool false) w := fun _ _ _ => by kernel_rfl
  have q2 : ∀ w, (binOp .eql 110 .nilIface .nilIface).run Try.prog w = .ok (.bool true) w := fun _ => by kernel_rfl
  have H := Lib.hid h
  clear h
  go_enter Try.func24, Try.ntmps24
  go_wp2_with (go_at_call 23; refine (laps1 _ B x y 0 m k (by omega) H.out).mono ?_; rintro e w' ⟨rfl, he1, hb1⟩)
  go_ret
  exact ⟨rfl, he1, hb1⟩
set_option maxRecDepth 100000 in
theorem lap_nn (w : World) : Calls Try.prog 24 #[.nilIface, .nilFunc] w fun e w' => e = .returned (.int .i64 0) ∧ w = w' := by
  have q1 : ∀ w, (binOp .eql 1 .nilFunc .nilFunc).run Try.prog w = .ok (.bool true) w := fun _ => by kernel_rfl
  have q2 : ∀ w, (binOp .eql 110 .nilIface .nilIface).run Try.prog w = .ok (.bool true) w := fun _ => by kernel_rfl
  go_enter Try.func24, Try.ntmps24
  go_wp2_with (go_at_call 60; refine (lap1 _).mono ?_; rintro e w' ⟨rfl, rfl⟩)
  go_ret
  exact ⟨rfl, rfl⟩
end Go.Proofs.Ytjlpafpedoancaa.Tick
