/- script.Own and the reference's: what a call uses, kind by kind (printed by tools/mk_own.py). -/
import Derived.Test.YtplhmcmfdcklaaaDoorPrint
namespace Go.Proofs.YtplhmcmfdcklaaaDoor.Lex
open Go.RowKit
set_option linter.unusedSimpArgs false
set_option linter.unusedVariables false
set_option maxRecDepth 100000 in
set_option maxHeartbeats 2000000 in
theorem rown_1 (n dir who at' : Int) (text : ByteArray) (a : Option Addr) (len cap : Nat) (w : World) :
    Calls Tryd.prog 10 #[.agg #[.int .i64 1, .int .i64 n, .int .i64 dir, .string text, .int .i64 who, .int .i64 at', .slice a len cap]] w fun e w' => e = .returned (.agg #[.int .i64 1, .int .i64 n, .int .i64 dir, .string ⟨#[]⟩, .int .i64 0, .int .i64 0, .slice none 0 0]) ∧ Below w.heap.size w w' := by
  go_enter Tryd.func10, Tryd.ntmps10
  go_wp2_with fail
  exact bodyPost_ret (v := .agg #[.int .i64 1, .int .i64 n, .int .i64 dir, .string ⟨#[]⟩, .int .i64 0, .int .i64 0, .slice none 0 0]) (by simp [results, Tryd.results10, go_sem]) rfl ⟨rfl, (((Below.refl _ _).alloc (Nat.le_refl _) _).alloc (by simp) _).alloc (by simp; omega) _⟩
set_option maxRecDepth 100000 in
set_option maxHeartbeats 2000000 in
theorem rown_2 (n dir who at' : Int) (text : ByteArray) (a : Option Addr) (len cap : Nat) (w : World) :
    Calls Tryd.prog 10 #[.agg #[.int .i64 2, .int .i64 n, .int .i64 dir, .string text, .int .i64 who, .int .i64 at', .slice a len cap]] w fun e w' => e = .returned (.agg #[.int .i64 2, .int .i64 n, .int .i64 dir, .string ⟨#[]⟩, .int .i64 0, .int .i64 0, .slice none 0 0]) ∧ Below w.heap.size w w' := by
  go_enter Tryd.func10, Tryd.ntmps10
  go_wp2_with fail
  exact bodyPost_ret (v := .agg #[.int .i64 2, .int .i64 n, .int .i64 dir, .string ⟨#[]⟩, .int .i64 0, .int .i64 0, .slice none 0 0]) (by simp [results, Tryd.results10, go_sem]) rfl ⟨rfl, (((Below.refl _ _).alloc (Nat.le_refl _) _).alloc (by simp) _).alloc (by simp; omega) _⟩
set_option maxRecDepth 100000 in
set_option maxHeartbeats 2000000 in
theorem rown_3 (n dir who at' : Int) (text : ByteArray) (a : Option Addr) (len cap : Nat) (w : World) :
    Calls Tryd.prog 10 #[.agg #[.int .i64 3, .int .i64 n, .int .i64 dir, .string text, .int .i64 who, .int .i64 at', .slice a len cap]] w fun e w' => e = .returned (.agg #[.int .i64 3, .int .i64 n, .int .i64 dir, .string ⟨#[]⟩, .int .i64 0, .int .i64 0, .slice none 0 0]) ∧ Below w.heap.size w w' := by
  go_enter Tryd.func10, Tryd.ntmps10
  go_wp2_with fail
  exact bodyPost_ret (v := .agg #[.int .i64 3, .int .i64 n, .int .i64 dir, .string ⟨#[]⟩, .int .i64 0, .int .i64 0, .slice none 0 0]) (by simp [results, Tryd.results10, go_sem]) rfl ⟨rfl, (((Below.refl _ _).alloc (Nat.le_refl _) _).alloc (by simp) _).alloc (by simp; omega) _⟩
set_option maxRecDepth 100000 in
set_option maxHeartbeats 2000000 in
theorem rown_4 (n dir who at' : Int) (text : ByteArray) (a : Option Addr) (len cap : Nat) (w : World) :
    Calls Tryd.prog 10 #[.agg #[.int .i64 4, .int .i64 n, .int .i64 dir, .string text, .int .i64 who, .int .i64 at', .slice a len cap]] w fun e w' => e = .returned (.agg #[.int .i64 4, .int .i64 0, .int .i64 0, .string text, .int .i64 0, .int .i64 0, .slice none 0 0]) ∧ Below w.heap.size w w' := by
  go_enter Tryd.func10, Tryd.ntmps10
  go_wp2_with fail
  exact bodyPost_ret (v := .agg #[.int .i64 4, .int .i64 0, .int .i64 0, .string text, .int .i64 0, .int .i64 0, .slice none 0 0]) (by simp [results, Tryd.results10, go_sem]) rfl ⟨rfl, (((Below.refl _ _).alloc (Nat.le_refl _) _).alloc (by simp) _).alloc (by simp; omega) _⟩
set_option maxRecDepth 100000 in
set_option maxHeartbeats 2000000 in
theorem rown_5 (n dir who at' : Int) (text : ByteArray) (a : Option Addr) (len cap : Nat) (w : World) :
    Calls Tryd.prog 10 #[.agg #[.int .i64 5, .int .i64 n, .int .i64 dir, .string text, .int .i64 who, .int .i64 at', .slice a len cap]] w fun e w' => e = .returned (.agg #[.int .i64 5, .int .i64 0, .int .i64 0, .string ⟨#[]⟩, .int .i64 0, .int .i64 0, .slice none 0 0]) ∧ Below w.heap.size w w' := by
  go_enter Tryd.func10, Tryd.ntmps10
  go_wp2_with fail
  exact bodyPost_ret (v := .agg #[.int .i64 5, .int .i64 0, .int .i64 0, .string ⟨#[]⟩, .int .i64 0, .int .i64 0, .slice none 0 0]) (by simp [results, Tryd.results10, go_sem]) rfl ⟨rfl, (((Below.refl _ _).alloc (Nat.le_refl _) _).alloc (by simp) _).alloc (by simp; omega) _⟩
set_option maxRecDepth 100000 in
set_option maxHeartbeats 2000000 in
theorem rown_6 (n dir who at' : Int) (text : ByteArray) (a : Option Addr) (len cap : Nat) (w : World) :
    Calls Tryd.prog 10 #[.agg #[.int .i64 6, .int .i64 n, .int .i64 dir, .string text, .int .i64 who, .int .i64 at', .slice a len cap]] w fun e w' => e = .returned (.agg #[.int .i64 6, .int .i64 0, .int .i64 0, .string ⟨#[]⟩, .int .i64 who, .int .i64 at', .slice a len cap]) ∧ Below w.heap.size w w' := by
  go_enter Tryd.func10, Tryd.ntmps10
  go_wp2_with fail
  exact bodyPost_ret (v := .agg #[.int .i64 6, .int .i64 0, .int .i64 0, .string ⟨#[]⟩, .int .i64 who, .int .i64 at', .slice a len cap]) (by simp [results, Tryd.results10, go_sem]) rfl ⟨rfl, (((Below.refl _ _).alloc (Nat.le_refl _) _).alloc (by simp) _).alloc (by simp; omega) _⟩
set_option maxRecDepth 100000 in
set_option maxHeartbeats 2000000 in
theorem rown_7 (n dir who at' : Int) (text : ByteArray) (a : Option Addr) (len cap : Nat) (w : World) :
    Calls Tryd.prog 10 #[.agg #[.int .i64 7, .int .i64 n, .int .i64 dir, .string text, .int .i64 who, .int .i64 at', .slice a len cap]] w fun e w' => e = .returned (.agg #[.int .i64 7, .int .i64 0, .int .i64 0, .string ⟨#[]⟩, .int .i64 who, .int .i64 at', .slice none 0 0]) ∧ Below w.heap.size w w' := by
  go_enter Tryd.func10, Tryd.ntmps10
  go_wp2_with fail
  exact bodyPost_ret (v := .agg #[.int .i64 7, .int .i64 0, .int .i64 0, .string ⟨#[]⟩, .int .i64 who, .int .i64 at', .slice none 0 0]) (by simp [results, Tryd.results10, go_sem]) rfl ⟨rfl, (((Below.refl _ _).alloc (Nat.le_refl _) _).alloc (by simp) _).alloc (by simp; omega) _⟩
set_option maxRecDepth 100000 in
set_option maxHeartbeats 2000000 in
theorem rown_lo (k n dir who at' : Int) (text : ByteArray) (a : Option Addr) (len cap : Nat) (w : World) (h : k < 1) :
    Calls Tryd.prog 10 #[.agg #[.int .i64 k, .int .i64 n, .int .i64 dir, .string text, .int .i64 who, .int .i64 at', .slice a len cap]] w fun e w' => e = .returned (.agg #[.int .i64 k, .int .i64 0, .int .i64 0, .string ⟨#[]⟩, .int .i64 0, .int .i64 0, .slice none 0 0]) ∧ Below w.heap.size w w' := by
  have t1 : (k == 1) = false := beq_eq_false_iff_ne.2 (by omega)
  have t2 : (k == 2) = false := beq_eq_false_iff_ne.2 (by omega)
  have t3 : (k == 3) = false := beq_eq_false_iff_ne.2 (by omega)
  have t4 : (k == 4) = false := beq_eq_false_iff_ne.2 (by omega)
  have t6 : (k == 6) = false := beq_eq_false_iff_ne.2 (by omega)
  have t7 : (k == 7) = false := beq_eq_false_iff_ne.2 (by omega)
  go_enter Tryd.func10, Tryd.ntmps10
  go_wp2_with fail
  exact bodyPost_ret (v := .agg #[.int .i64 k, .int .i64 0, .int .i64 0, .string ⟨#[]⟩, .int .i64 0, .int .i64 0, .slice none 0 0]) (by simp [results, Tryd.results10, go_sem]) rfl ⟨rfl, (((Below.refl _ _).alloc (Nat.le_refl _) _).alloc (by simp) _).alloc (by simp; omega) _⟩
set_option maxRecDepth 100000 in
set_option maxHeartbeats 2000000 in
theorem rown_hi (k n dir who at' : Int) (text : ByteArray) (a : Option Addr) (len cap : Nat) (w : World) (h : 7 < k) :
    Calls Tryd.prog 10 #[.agg #[.int .i64 k, .int .i64 n, .int .i64 dir, .string text, .int .i64 who, .int .i64 at', .slice a len cap]] w fun e w' => e = .returned (.agg #[.int .i64 k, .int .i64 0, .int .i64 0, .string ⟨#[]⟩, .int .i64 0, .int .i64 0, .slice none 0 0]) ∧ Below w.heap.size w w' := by
  have t1 : (k == 1) = false := beq_eq_false_iff_ne.2 (by omega)
  have t2 : (k == 2) = false := beq_eq_false_iff_ne.2 (by omega)
  have t3 : (k == 3) = false := beq_eq_false_iff_ne.2 (by omega)
  have t4 : (k == 4) = false := beq_eq_false_iff_ne.2 (by omega)
  have t6 : (k == 6) = false := beq_eq_false_iff_ne.2 (by omega)
  have t7 : (k == 7) = false := beq_eq_false_iff_ne.2 (by omega)
  go_enter Tryd.func10, Tryd.ntmps10
  go_wp2_with fail
  exact bodyPost_ret (v := .agg #[.int .i64 k, .int .i64 0, .int .i64 0, .string ⟨#[]⟩, .int .i64 0, .int .i64 0, .slice none 0 0]) (by simp [results, Tryd.results10, go_sem]) rfl ⟨rfl, (((Below.refl _ _).alloc (Nat.le_refl _) _).alloc (by simp) _).alloc (by simp; omega) _⟩
set_option maxRecDepth 100000 in
set_option maxHeartbeats 2000000 in
theorem own_1 (n dir who at' : Int) (text : ByteArray) (a : Option Addr) (len cap : Nat) (w : World) :
    Calls Tryd.prog 8 #[.agg #[.int .i64 1, .int .i64 n, .int .i64 dir, .string text, .int .i64 who, .int .i64 at', .slice a len cap]] w fun e w' => e = .returned (.agg #[.int .i64 1, .int .i64 n, .int .i64 dir, .string ⟨#[]⟩, .int .i64 0, .int .i64 0, .slice none 0 0]) ∧ Below w.heap.size w w' := by
  go_enter Tryd.func8, Tryd.ntmps8
  go_wp2_with fail
  exact bodyPost_ret (v := .agg #[.int .i64 1, .int .i64 n, .int .i64 dir, .string ⟨#[]⟩, .int .i64 0, .int .i64 0, .slice none 0 0]) (by simp [results, Tryd.results8, go_sem]) rfl ⟨rfl, (((Below.refl _ _).alloc (Nat.le_refl _) _).alloc (by simp) _).alloc (by simp; omega) _⟩
set_option maxRecDepth 100000 in
set_option maxHeartbeats 2000000 in
theorem own_2 (n dir who at' : Int) (text : ByteArray) (a : Option Addr) (len cap : Nat) (w : World) :
    Calls Tryd.prog 8 #[.agg #[.int .i64 2, .int .i64 n, .int .i64 dir, .string text, .int .i64 who, .int .i64 at', .slice a len cap]] w fun e w' => e = .returned (.agg #[.int .i64 2, .int .i64 n, .int .i64 dir, .string ⟨#[]⟩, .int .i64 0, .int .i64 0, .slice none 0 0]) ∧ Below w.heap.size w w' := by
  go_enter Tryd.func8, Tryd.ntmps8
  go_wp2_with fail
  exact bodyPost_ret (v := .agg #[.int .i64 2, .int .i64 n, .int .i64 dir, .string ⟨#[]⟩, .int .i64 0, .int .i64 0, .slice none 0 0]) (by simp [results, Tryd.results8, go_sem]) rfl ⟨rfl, (((Below.refl _ _).alloc (Nat.le_refl _) _).alloc (by simp) _).alloc (by simp; omega) _⟩
set_option maxRecDepth 100000 in
set_option maxHeartbeats 2000000 in
theorem own_3 (n dir who at' : Int) (text : ByteArray) (a : Option Addr) (len cap : Nat) (w : World) :
    Calls Tryd.prog 8 #[.agg #[.int .i64 3, .int .i64 n, .int .i64 dir, .string text, .int .i64 who, .int .i64 at', .slice a len cap]] w fun e w' => e = .returned (.agg #[.int .i64 3, .int .i64 n, .int .i64 dir, .string ⟨#[]⟩, .int .i64 0, .int .i64 0, .slice none 0 0]) ∧ Below w.heap.size w w' := by
  go_enter Tryd.func8, Tryd.ntmps8
  go_wp2_with fail
  exact bodyPost_ret (v := .agg #[.int .i64 3, .int .i64 n, .int .i64 dir, .string ⟨#[]⟩, .int .i64 0, .int .i64 0, .slice none 0 0]) (by simp [results, Tryd.results8, go_sem]) rfl ⟨rfl, (((Below.refl _ _).alloc (Nat.le_refl _) _).alloc (by simp) _).alloc (by simp; omega) _⟩
set_option maxRecDepth 100000 in
set_option maxHeartbeats 2000000 in
theorem own_4 (n dir who at' : Int) (text : ByteArray) (a : Option Addr) (len cap : Nat) (w : World) :
    Calls Tryd.prog 8 #[.agg #[.int .i64 4, .int .i64 n, .int .i64 dir, .string text, .int .i64 who, .int .i64 at', .slice a len cap]] w fun e w' => e = .returned (.agg #[.int .i64 4, .int .i64 0, .int .i64 0, .string text, .int .i64 0, .int .i64 0, .slice none 0 0]) ∧ Below w.heap.size w w' := by
  go_enter Tryd.func8, Tryd.ntmps8
  go_wp2_with fail
  exact bodyPost_ret (v := .agg #[.int .i64 4, .int .i64 0, .int .i64 0, .string text, .int .i64 0, .int .i64 0, .slice none 0 0]) (by simp [results, Tryd.results8, go_sem]) rfl ⟨rfl, (((Below.refl _ _).alloc (Nat.le_refl _) _).alloc (by simp) _).alloc (by simp; omega) _⟩
set_option maxRecDepth 100000 in
set_option maxHeartbeats 2000000 in
theorem own_5 (n dir who at' : Int) (text : ByteArray) (a : Option Addr) (len cap : Nat) (w : World) :
    Calls Tryd.prog 8 #[.agg #[.int .i64 5, .int .i64 n, .int .i64 dir, .string text, .int .i64 who, .int .i64 at', .slice a len cap]] w fun e w' => e = .returned (.agg #[.int .i64 5, .int .i64 0, .int .i64 0, .string ⟨#[]⟩, .int .i64 0, .int .i64 0, .slice none 0 0]) ∧ Below w.heap.size w w' := by
  go_enter Tryd.func8, Tryd.ntmps8
  go_wp2_with fail
  exact bodyPost_ret (v := .agg #[.int .i64 5, .int .i64 0, .int .i64 0, .string ⟨#[]⟩, .int .i64 0, .int .i64 0, .slice none 0 0]) (by simp [results, Tryd.results8, go_sem]) rfl ⟨rfl, (((Below.refl _ _).alloc (Nat.le_refl _) _).alloc (by simp) _).alloc (by simp; omega) _⟩
set_option maxRecDepth 100000 in
set_option maxHeartbeats 2000000 in
theorem own_7 (n dir who at' : Int) (text : ByteArray) (a : Option Addr) (len cap : Nat) (w : World) :
    Calls Tryd.prog 8 #[.agg #[.int .i64 7, .int .i64 n, .int .i64 dir, .string text, .int .i64 who, .int .i64 at', .slice a len cap]] w fun e w' => e = .returned (.agg #[.int .i64 7, .int .i64 0, .int .i64 0, .string ⟨#[]⟩, .int .i64 who, .int .i64 at', .slice none 0 0]) ∧ Below w.heap.size w w' := by
  go_enter Tryd.func8, Tryd.ntmps8
  go_wp2_with fail
  exact bodyPost_ret (v := .agg #[.int .i64 7, .int .i64 0, .int .i64 0, .string ⟨#[]⟩, .int .i64 who, .int .i64 at', .slice none 0 0]) (by simp [results, Tryd.results8, go_sem]) rfl ⟨rfl, (((Below.refl _ _).alloc (Nat.le_refl _) _).alloc (by simp) _).alloc (by simp; omega) _⟩
set_option maxRecDepth 100000 in
set_option maxHeartbeats 2000000 in
theorem own_lo (k n dir who at' : Int) (text : ByteArray) (a : Option Addr) (len cap : Nat) (w : World) (h : k < 1) :
    Calls Tryd.prog 8 #[.agg #[.int .i64 k, .int .i64 n, .int .i64 dir, .string text, .int .i64 who, .int .i64 at', .slice a len cap]] w fun e w' => e = .returned (.agg #[.int .i64 k, .int .i64 0, .int .i64 0, .string ⟨#[]⟩, .int .i64 0, .int .i64 0, .slice none 0 0]) ∧ Below w.heap.size w w' := by
  have t1 : (k == 1) = false := beq_eq_false_iff_ne.2 (by omega)
  have t2 : (k == 2) = false := beq_eq_false_iff_ne.2 (by omega)
  have t3 : (k == 3) = false := beq_eq_false_iff_ne.2 (by omega)
  have t4 : (k == 4) = false := beq_eq_false_iff_ne.2 (by omega)
  have t6 : (k == 6) = false := beq_eq_false_iff_ne.2 (by omega)
  have t7 : (k == 7) = false := beq_eq_false_iff_ne.2 (by omega)
  go_enter Tryd.func8, Tryd.ntmps8
  go_wp2_with fail
  exact bodyPost_ret (v := .agg #[.int .i64 k, .int .i64 0, .int .i64 0, .string ⟨#[]⟩, .int .i64 0, .int .i64 0, .slice none 0 0]) (by simp [results, Tryd.results8, go_sem]) rfl ⟨rfl, (((Below.refl _ _).alloc (Nat.le_refl _) _).alloc (by simp) _).alloc (by simp; omega) _⟩
set_option maxRecDepth 100000 in
set_option maxHeartbeats 2000000 in
theorem own_hi (k n dir who at' : Int) (text : ByteArray) (a : Option Addr) (len cap : Nat) (w : World) (h : 7 < k) :
    Calls Tryd.prog 8 #[.agg #[.int .i64 k, .int .i64 n, .int .i64 dir, .string text, .int .i64 who, .int .i64 at', .slice a len cap]] w fun e w' => e = .returned (.agg #[.int .i64 k, .int .i64 0, .int .i64 0, .string ⟨#[]⟩, .int .i64 0, .int .i64 0, .slice none 0 0]) ∧ Below w.heap.size w w' := by
  have t1 : (k == 1) = false := beq_eq_false_iff_ne.2 (by omega)
  have t2 : (k == 2) = false := beq_eq_false_iff_ne.2 (by omega)
  have t3 : (k == 3) = false := beq_eq_false_iff_ne.2 (by omega)
  have t4 : (k == 4) = false := beq_eq_false_iff_ne.2 (by omega)
  have t6 : (k == 6) = false := beq_eq_false_iff_ne.2 (by omega)
  have t7 : (k == 7) = false := beq_eq_false_iff_ne.2 (by omega)
  go_enter Tryd.func8, Tryd.ntmps8
  go_wp2_with fail
  exact bodyPost_ret (v := .agg #[.int .i64 k, .int .i64 0, .int .i64 0, .string ⟨#[]⟩, .int .i64 0, .int .i64 0, .slice none 0 0]) (by simp [results, Tryd.results8, go_sem]) rfl ⟨rfl, (((Below.refl _ _).alloc (Nat.le_refl _) _).alloc (by simp) _).alloc (by simp; omega) _⟩
end Go.Proofs.YtplhmcmfdcklaaaDoor.Lex
