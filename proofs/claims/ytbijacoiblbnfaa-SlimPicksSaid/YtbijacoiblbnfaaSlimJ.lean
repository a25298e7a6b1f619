/- A script that came in, read. -/
import Derived.Test.YtbijacoiblbnfaaSlimI
import Derived.KernelRfl
namespace Go.Proofs.Ytbijacoiblbnfaa
open Go.RowKit
theorem opens_key : Opens Try.prog 50 (.pair rI rI) :=
  opens_struct (tot := 2) Try.underlying50 (by kernel_rfl) (fs_cons (s := 1) rfl (by kernel_rfl) (opens_int Try.underlying3) (fs_one (s := 1) rfl (by kernel_rfl) rfl (opens_int Try.underlying3)))
theorem opens_ref : Opens Try.prog 64 (.pair rI rI) :=
  opens_struct (tot := 2) Try.underlying64 (by kernel_rfl) (fs_cons (s := 1) rfl (by kernel_rfl) (opens_int Try.underlying3) (fs_one (s := 1) rfl (by kernel_rfl) rfl (opens_int Try.underlying3)))
theorem opens_u64s : Opens Try.prog 71 (.slice (.int .u64) 1 8) :=
  opens_slice Try.underlying71 (by kernel_rfl) (by kernel_rfl) (by omega) (Rd.int_ok _) (opens_int Try.underlying75)
theorem opens_ints : Opens Try.prog 23 (.slice rI 1 8) :=
  opens_slice Try.underlying23 (by kernel_rfl) (by kernel_rfl) (by omega) (Rd.int_ok _) (opens_int Try.underlying3)
theorem opens_call : Opens Try.prog 73 callRd :=
  opens_struct (tot := 7) Try.underlying73 (by kernel_rfl)
    (fs_cons (s := 1) rfl (by kernel_rfl) (opens_int Try.underlying3)
    (fs_cons (s := 2) rfl (by kernel_rfl) opens_key
    (fs_cons (s := 1) rfl (by kernel_rfl) (opens_str Try.underlying9)
    (fs_cons (s := 2) rfl (by kernel_rfl) opens_ref
    (fs_one (s := 1) rfl (by kernel_rfl) rfl opens_u64s)))))
theorem opens_callss : Opens Try.prog 22 (.slice rowsRd 1 24) :=
  opens_slice Try.underlying22 (by kernel_rfl) (by kernel_rfl) (by omega) rowsRd_ok (opens_slice Try.underlying70 (by kernel_rfl) (by kernel_rfl) (by omega) callRd_ok opens_call)
abbrev scriptRd : Rd (Int × Int × List (List CallV) × List Int × List Int) := .pair rI (.pair rI (.pair (.slice rowsRd 1 24) (.pair (.slice rI 1 8) (.slice rI 1 8))))
theorem opens_script : Opens Try.prog 25 scriptRd :=
  opens_struct (tot := 5) Try.underlying25 (by kernel_rfl)
    (fs_cons (s := 1) rfl (by kernel_rfl) (opens_int Try.underlying3)
    (fs_cons (s := 1) rfl (by kernel_rfl) (opens_int Try.underlying3)
    (fs_cons (s := 1) rfl (by kernel_rfl) opens_callss
    (fs_cons (s := 1) rfl (by kernel_rfl) opens_ints
    (fs_one (s := 1) rfl (by kernel_rfl) rfl opens_ints)))))
/-- The whole of a struct that came in. -/
theorem open_trod {H : Type} {α : Type} {P : Program} {t : TypeId} {fs : Array Field} {r : Rd α} (ho : Opens P t r) (ht : P.underlying t = some (.struct fs)) {enc : TypeId × Value → H} {w : World} {base : Nat} {sp : Nat → Bool} {held : Bool} {v : Value} {d : DataW H} {p : List MemPlace} {ww : World} {rr : Reach} {bb : Nat}
    (hv : Value.okWide P ww rr bb t v) (h : DataW.Trod enc P w base sp held t v d p) (hq : ∀ q ∈ DataW.weights P t d, q ≤ reachBytes) : ∃ cs y, v = .agg cs ∧ r All w cs.toList y := by
  obtain ⟨cs, rfl, _⟩ := Go.WideShapes.okWide_struct ht hv
  obtain ⟨fuel, hf⟩ := h
  obtain ⟨y, hy⟩ := ho.get enc w base sp held fuel _ _ hf hq
  exact ⟨cs, y, rfl, hy⟩
theorem open_script {H : Type} {enc : TypeId × Value → H} {w : World} {base : Nat} {sp : Nat → Bool} {held : Bool} {v : Value} {d : DataW H} {p : List MemPlace} {ww : World} {rr : Reach} {bb : Nat}
    (hv : Value.okWide Try.prog ww rr bb 25 v) (h : DataW.Trod enc Try.prog w base sp held 25 v d p) (hq : ∀ q ∈ DataW.weights Try.prog 25 d, q ≤ reachBytes) :
    ∃ st rm aC n cC aP m cP aT q cT L ps ts, v = .agg #[.int .i64 st, .int .i64 rm, .slice aC n cC, .slice aP m cP, .slice aT q cT] ∧ RowOf rowsRd 1 24 All w aC n cC L ∧ RowOf rI 1 8 All w aP m cP ps ∧ RowOf rI 1 8 All w aT q cT ts := by
  obtain ⟨cs, ⟨y1, y2, y3, y4, y5⟩, rfl, g⟩ := open_trod opens_script Try.underlying25 hv h hq
  obtain ⟨_, _, e, ⟨rfl, _⟩, _, _, rfl, ⟨rfl, _⟩, _, _, rfl, ⟨aC, n, cC, rfl, h1⟩, _, _, rfl, ⟨aP, m, cP, rfl, h2⟩, aT, q, cT, rfl, h3⟩ := g
  refine ⟨y1, y2, aC, n, cC, aP, m, cP, aT, q, cT, y3, y4, y5, ?_, h1, h2, h3⟩
  congr 1
  exact Array.toList_inj.1 e
end Go.Proofs.Ytbijacoiblbnfaa
