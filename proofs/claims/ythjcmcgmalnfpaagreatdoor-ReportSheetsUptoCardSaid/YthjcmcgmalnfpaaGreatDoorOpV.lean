/- One call that came in, with what it told: read, with its bulk. -/
import Derived.Test.YthjcmcgmalnfpaaGreatDoorGTree
import Derived.WideShapes
import Derived.KernelRfl
namespace Go.Proofs.YthjcmcgmalnfpaaGreatDoor
open Go.RowKit
set_option linter.unusedVariables false
abbrev KeyV := Int × Int
abbrev keyRd : Rd KeyV := .pair (.int .i64) (.int .i64)
abbrev ToldV := Int × DescV × Int × Int × ByteArray × List Int
abbrev OpV := (Int × Int) × (Int × (Int × Int) × ByteArray × (Int × Int) × List Int) × ToldV × Int × Int
abbrev callR : Rd (Int × (Int × Int) × ByteArray × (Int × Int) × List Int) := .pair (.int .i64) (.pair (.pair (.int .i64) (.int .i64)) (.pair .str (.pair (.pair (.int .i64) (.int .i64)) (.slice (.int .u64) 1 8))))
abbrev toldRd (k : Nat) : Rd ToldV := .pair (.int .i64) (.pair (descRd k) (.pair (.int .i64) (.pair (.int .i64) (.pair .str (.slice (.int .u64) 1 8)))))
abbrev opRd (k : Nat) : Rd OpV := .pair (.pair (.int .i64) (.int .i64)) (.pair callR (.pair (toldRd k) (.pair (.int .i64) (.int .i64))))
theorem ob_key (N : Nat) : OB Tryz.prog 45 keyRd (fun x => 0) (N + 1) :=
  (ob_struct (tot := 2) Tryz.underlying45 (by kernel_rfl) (obf_cons (s := 1) rfl (by kernel_rfl) (ob_int Tryz.underlying3 N) (obf_one (s := 1) rfl (by kernel_rfl) rfl (ob_int Tryz.underlying3 N)))).map id (fun h => h) (fun _ => Nat.zero_le _)
theorem ob_ref (N : Nat) : OB Tryz.prog 47 keyRd (fun x => 0) (N + 1) :=
  (ob_struct (tot := 2) Tryz.underlying47 (by kernel_rfl) (obf_cons (s := 1) rfl (by kernel_rfl) (ob_int Tryz.underlying3 N) (obf_one (s := 1) rfl (by kernel_rfl) rfl (ob_int Tryz.underlying3 N)))).map id (fun h => h) (fun _ => Nat.zero_le _)
theorem ob_u64s (N : Nat) : OB Tryz.prog 48 (.slice (.int .u64) 1 8) (fun x => 0) (N + 1) :=
  (ob_slice Tryz.underlying48 (by kernel_rfl) (by kernel_rfl) (by omega) (Rd.int_ok _) (ob_int Tryz.underlying77 N)).map id (fun h => h) (fun _ => Nat.zero_le _)
theorem ob_call (N : Nat) : OB Tryz.prog 50 callR (fun x => 0) (N + 2) :=
  (ob_struct (tot := 7) Tryz.underlying50 (by kernel_rfl) (N := N + 1)
    (obf_cons (s := 1) rfl (by kernel_rfl) (ob_int Tryz.underlying3 _)
    (obf_cons (s := 2) rfl (by kernel_rfl) (ob_key N)
    (obf_cons (s := 1) rfl (by kernel_rfl) (ob_str Tryz.underlying9 _)
    (obf_cons (s := 2) rfl (by kernel_rfl) (ob_ref N)
    (obf_one (s := 1) rfl (by kernel_rfl) rfl (ob_u64s N))))))).map id (fun h => h) (fun _ => Nat.zero_le _)
theorem ob_told (N : Nat) : OB Tryz.prog 56 (toldRd (N + 1)) (fun x => x.2.1.nodes) (N + 2) :=
  (ob_struct (tot := 8) Tryz.underlying56 (by kernel_rfl) (N := N + 1)
    (obf_cons (s := 1) rfl (by kernel_rfl) (ob_int Tryz.underlying51 _)
    (obf_cons (s := 3) rfl (by kernel_rfl) (ob_desc (N + 1))
    (obf_cons (s := 1) rfl (by kernel_rfl) (ob_int Tryz.underlying3 _)
    (obf_cons (s := 1) rfl (by kernel_rfl) (ob_int Tryz.underlying3 _)
    (obf_cons (s := 1) rfl (by kernel_rfl) (ob_str Tryz.underlying9 _)
    (obf_one (s := 1) rfl (by kernel_rfl) rfl (ob_u64s N)))))))).map id (fun h => h) (fun x => by show x.2.1.nodes ≤ 1 + (x.2.1.nodes + _) + 1; omega)
theorem ob_op (N : Nat) : OB Tryz.prog 58 (opRd (N + 1)) (fun x => x.2.2.1.2.1.nodes) (N + 3) :=
  (ob_struct (tot := 19) Tryz.underlying58 (by kernel_rfl) (N := N + 2)
    (obf_cons (s := 2) rfl (by kernel_rfl) (ob_ref (N + 1))
    (obf_cons (s := 7) rfl (by kernel_rfl) (ob_call N)
    (obf_cons (s := 8) rfl (by kernel_rfl) (ob_told N)
    (obf_cons (s := 1) rfl (by kernel_rfl) (ob_int Tryz.underlying3 _)
    (obf_one (s := 1) rfl (by kernel_rfl) rfl (ob_int Tryz.underlying3 _))))))).map id (fun h => h) (fun x => by show x.2.2.1.2.1.nodes ≤ 0 + (0 + (x.2.2.1.2.1.nodes + _)) + 1; omega)
end Go.Proofs.YthjcmcgmalnfpaaGreatDoor
