/- Calls, entries, names, sheets that came in, read with their bulk. -/
import Derived.Test.YtbijacoiblbnfaaOps
import Derived.Test.YtbijacoiblbnfaaFirstE
import Derived.Test.YtbijacoiblbnfaaFirstK
import Derived.OpenShut
namespace Go.Proofs.Ytbijacoiblbnfaa
open Go.RowKit
set_option linter.unusedVariables false
theorem ob_key (N : Nat) : OB Try.prog 50 keyRd (fun x => 0) (N + 1) :=
  (ob_struct (tot := 2) Try.underlying50 (by kernel_rfl) (obf_cons (s := 1) rfl (by kernel_rfl) (ob_int Try.underlying3 N) (obf_one (s := 1) rfl (by kernel_rfl) rfl (ob_int Try.underlying3 N)))).map id (fun h => h) (fun _ => Nat.zero_le _)
theorem ob_ref (N : Nat) : OB Try.prog 64 keyRd (fun x => 0) (N + 1) :=
  (ob_struct (tot := 2) Try.underlying64 (by kernel_rfl) (obf_cons (s := 1) rfl (by kernel_rfl) (ob_int Try.underlying3 N) (obf_one (s := 1) rfl (by kernel_rfl) rfl (ob_int Try.underlying3 N)))).map id (fun h => h) (fun _ => Nat.zero_le _)
theorem ob_u64s (N : Nat) : OB Try.prog 71 (.slice (.int .u64) 1 8) (fun x => 0) (N + 1) :=
  (ob_slice Try.underlying71 (by kernel_rfl) (by kernel_rfl) (by omega) (Rd.int_ok _) (ob_int Try.underlying75 N)).map id (fun h => h) (fun _ => Nat.zero_le _)
theorem ob_call (N : Nat) : OB Try.prog 73 callR (fun x => 0) (N + 2) :=
  (ob_struct (tot := 7) Try.underlying73 (by kernel_rfl) (N := N + 1)
    (obf_cons (s := 1) rfl (by kernel_rfl) (ob_int Try.underlying3 _)
    (obf_cons (s := 2) rfl (by kernel_rfl) (ob_key N)
    (obf_cons (s := 1) rfl (by kernel_rfl) (ob_str Try.underlying9 _)
    (obf_cons (s := 2) rfl (by kernel_rfl) (ob_ref N)
    (obf_one (s := 1) rfl (by kernel_rfl) rfl (ob_u64s N))))))).map id (fun h => h) (fun _ => Nat.zero_le _)
theorem ob_told (N : Nat) : OB Try.prog 79 (toldRd (N + 1)) (fun x => x.2.1.nodes) (N + 2) :=
  (ob_struct (tot := 8) Try.underlying79 (by kernel_rfl) (N := N + 1)
    (obf_cons (s := 1) rfl (by kernel_rfl) (ob_int Try.underlying34 _)
    (obf_cons (s := 3) rfl (by kernel_rfl) (ob_desc (N + 1))
    (obf_cons (s := 1) rfl (by kernel_rfl) (ob_int Try.underlying3 _)
    (obf_cons (s := 1) rfl (by kernel_rfl) (ob_int Try.underlying3 _)
    (obf_cons (s := 1) rfl (by kernel_rfl) (ob_str Try.underlying9 _)
    (obf_one (s := 1) rfl (by kernel_rfl) rfl (ob_u64s N)))))))).map id (fun h => h) (fun x => by show x.2.1.nodes ≤ 1 + (x.2.1.nodes + _) + 1; omega)
theorem ob_op (N : Nat) : OB Try.prog 81 (opRd (N + 1)) (fun x => x.2.2.1.2.1.nodes) (N + 3) :=
  (ob_struct (tot := 19) Try.underlying81 (by kernel_rfl) (N := N + 2)
    (obf_cons (s := 2) rfl (by kernel_rfl) (ob_ref (N + 1))
    (obf_cons (s := 7) rfl (by kernel_rfl) (ob_call N)
    (obf_cons (s := 8) rfl (by kernel_rfl) (ob_told N)
    (obf_cons (s := 1) rfl (by kernel_rfl) (ob_int Try.underlying3 _)
    (obf_one (s := 1) rfl (by kernel_rfl) rfl (ob_int Try.underlying3 _))))))).map id (fun h => h) (fun x => by show x.2.2.1.2.1.nodes ≤ 0 + (0 + (x.2.2.1.2.1.nodes + _)) + 1; omega)
theorem ob_ops (N : Nat) : OB Try.prog 40 (.slice (opRd (N + 1)) 19 216) (fun l => (l.map fun x => x.2.2.1.2.1.nodes).sum) (N + 4) :=
  (ob_slice Try.underlying40 (by kernel_rfl) (by kernel_rfl) (by omega) (opRd_ok _) (ob_op N)).map id (fun h => h) (fun l => Nat.le_succ _)
theorem ob_name (N : Nat) : OB Try.prog 87 nameRd (fun x => 0) (N + 1) :=
  (ob_struct (tot := 4) Try.underlying87 (by kernel_rfl) (obf_cons (s := 1) rfl (by kernel_rfl) (ob_int Try.underlying3 N) (obf_cons (s := 1) rfl (by kernel_rfl) (ob_int Try.underlying3 N) (obf_cons (s := 1) rfl (by kernel_rfl) (ob_int Try.underlying3 N) (obf_one (s := 1) rfl (by kernel_rfl) rfl (ob_int Try.underlying3 N)))))).map id (fun h => h) (fun _ => Nat.zero_le _)
theorem ob_entry (N : Nat) : OB Try.prog 55 (entryRd (N + 1)) (fun x => x.2.nodes) (N + 2) :=
  (ob_struct (tot := 5) Try.underlying55 (by kernel_rfl) (N := N + 1) (obf_cons (s := 2) rfl (by kernel_rfl) (ob_key N) (obf_one (s := 3) rfl (by kernel_rfl) rfl (ob_desc (N + 1))))).map id (fun h => h) (fun x => by show x.2.nodes ≤ 0 + x.2.nodes + 1; omega)
theorem ob_entries (N : Nat) : OB Try.prog 43 (.slice (entryRd (N + 1)) 5 56) (fun l => (l.map fun x => x.2.nodes).sum) (N + 3) :=
  (ob_slice Try.underlying43 (by kernel_rfl) (by kernel_rfl) (by omega) (entryRd_ok _) (ob_entry N)).map id (fun h => h) (fun l => Nat.le_succ _)
theorem ob_names (N : Nat) : OB Try.prog 44 (.slice nameRd 4 32) (fun l => 0) (N + 2) :=
  (ob_slice Try.underlying44 (by kernel_rfl) (by kernel_rfl) (by omega) nameRd_ok (ob_name N)).map id (fun h => h) (fun l => Nat.zero_le _)
theorem len_le_sum {α : Type} (μ : α → Nat) (l : List α) (h : ∀ x, 1 ≤ μ x := by intro x; simp) : l.length ≤ (l.map μ).sum + 1 := by
  induction l with
  | nil => simp
  | cons x l ih => have := h x; simp only [List.map_cons, List.sum_cons, List.length_cons]; omega
theorem ob_keyss (N : Nat) : OB Try.prog 42 (.slice rowK 1 24) (fun l => l.length) (N + 3) :=
  (ob_slice Try.underlying42 (by kernel_rfl) (by kernel_rfl) (by omega) rowK_ok (ob_slice Try.underlying62 (by kernel_rfl) (by kernel_rfl) (by omega) keyRd_ok (ob_key N))).map id (fun h => h) (fun l => len_le_sum _ l)
theorem ob_ints (N : Nat) : OB Try.prog 23 (.slice (.int .i64) 1 8) (fun l => l.length) (N + 1) :=
  (ob_slice Try.underlying23 (by kernel_rfl) (by kernel_rfl) (by omega) (Rd.int_ok _) (ob_int Try.underlying3 N)).map id (fun h => h) (fun l => len_le_sum _ l)
abbrev threeRd : Rd (Int × Int × Int) := .pair (.int .i64) (.pair (.int .i64) (.int .i64))
set_option maxRecDepth 100000 in
theorem ob_three (N : Nat) : OB Try.prog 41 threeRd (fun x => 0) N := by
  refine ⟨fun {H} enc w base spare held fuel cs x hf h hq => ?_⟩
  obtain ⟨xs, m, rfl, rfl, hl, hxs, hx⟩ := DataW.trod_array Try.underlying41 h
  have hc : Try.prog.cellsOf 3 = 1 := by kernel_rfl
  have hl3 : cs.length = 3 := hl.trans (by kernel_rfl)
  rw [hc] at hx
  have each : ∀ i, i < 3 → ∃ n, cs[i]? = some (.int .i64 n) ∧ (Lit.int .i64 n).wf = true := by
    intro i hi
    have e := hx i hi
    rw [List.getElem?_eq_getElem (by omega)] at e
    obtain ⟨n, h1, _, h3⟩ := DataW.trod_int Try.underlying3 e
    refine ⟨n, ?_, h3⟩
    have : (List.take 1 (List.drop (i * 1) cs))[0]? = some (Value.int .i64 n) := by rw [h1]; rfl
    rw [List.getElem?_take_of_lt (by omega), List.getElem?_drop] at this
    simpa using this
  obtain ⟨n0, e0, w0⟩ := each 0 (by omega)
  obtain ⟨n1, e1, w1⟩ := each 1 (by omega)
  obtain ⟨n2, e2, w2⟩ := each 2 (by omega)
  have hcs : cs = [.int .i64 n0] ++ ([.int .i64 n1] ++ [.int .i64 n2]) := by
    clear h hq hx hl
    match cs, hl3, e0, e1, e2 with
    | [a, b, c], _, e0, e1, e2 =>
      cases e0
      cases e1
      cases e2
      rfl
  exact ⟨(n0, n1, n2), ⟨_, _, hcs, ⟨rfl, w0⟩, _, _, rfl, ⟨rfl, w1⟩, rfl, w2⟩, Nat.zero_le _⟩
abbrev SheetV := List OpV × Int × (Int × Int × Int) × List (List KeyV) × List EntryV × List NameV × List Int
abbrev sheetRd (k k' : Nat) : Rd SheetV := .pair (.slice (opRd k) 19 216) (.pair (.int .i64) (.pair threeRd (.pair (.slice rowK 1 24) (.pair (.slice (entryRd k') 5 56) (.pair (.slice nameRd 4 32) (.slice (.int .i64) 1 8))))))
theorem ob_sheet (N : Nat) : OB Try.prog 46 (sheetRd (N + 1) (N + 2)) (fun x => (x.1.map fun y => y.2.2.1.2.1.nodes).sum + (x.2.2.2.2.1.map fun y => y.2.nodes).sum + x.2.2.2.1.length + x.2.2.2.2.2.2.length) (N + 5) :=
  (ob_struct (tot := 9) Try.underlying46 (by kernel_rfl) (N := N + 4)
    (obf_cons (s := 1) rfl (by kernel_rfl) (ob_ops N)
    (obf_cons (s := 1) rfl (by kernel_rfl) (ob_int Try.underlying3 _)
    (obf_cons (s := 3) rfl (by kernel_rfl) (ob_three _)
    (obf_cons (s := 1) rfl (by kernel_rfl) (ob_keyss (N + 1))
    (obf_cons (s := 1) rfl (by kernel_rfl) (ob_entries (N + 1))
    (obf_cons (s := 1) rfl (by kernel_rfl) (ob_names (N + 2))
    (obf_one (s := 1) rfl (by kernel_rfl) rfl (ob_ints (N + 3)))))))))).map id (fun h => h) (fun x => by simp only [mPair, mInt, id]; omega)
end Go.Proofs.Ytbijacoiblbnfaa
