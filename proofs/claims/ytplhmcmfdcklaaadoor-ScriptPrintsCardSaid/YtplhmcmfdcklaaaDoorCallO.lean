/- A call that came in, read. -/
import Derived.Test.YtplhmcmfdcklaaaDoorFoot
import Derived.Test.YtplhmcmfdcklaaaDoorOwnA
import Derived.KernelRfl
namespace Go.Proofs.YtplhmcmfdcklaaaDoor.Lex
open Go.RowKit
abbrev rI : Rd Int := Rd.int .i64
abbrev callRd : Rd (Int × (Int × Int) × ByteArray × (Int × Int) × List Int) := .pair rI (.pair (.pair rI rI) (.pair .str (.pair (.pair rI rI) (.slice (.int .u64) 1 8))))
theorem callRd_ok : callRd.Ok 7 := Rd.pair_ok (Rd.int_ok _) (Rd.pair_ok (Rd.pair_ok (Rd.int_ok _) (Rd.int_ok _)) (Rd.pair_ok Rd.str_ok (Rd.pair_ok (Rd.pair_ok (Rd.int_ok _) (Rd.int_ok _)) (Rd.slice_ok (Rd.int_ok _) 8))))
theorem opens_key : Opens Tryd.prog 23 (.pair rI rI) :=
  opens_struct (tot := 2) Tryd.underlying23 (by kernel_rfl) (fs_cons (s := 1) rfl (by kernel_rfl) (opens_int Tryd.underlying3) (fs_one (s := 1) rfl (by kernel_rfl) rfl (opens_int Tryd.underlying3)))
theorem opens_ref : Opens Tryd.prog 25 (.pair rI rI) :=
  opens_struct (tot := 2) Tryd.underlying25 (by kernel_rfl) (fs_cons (s := 1) rfl (by kernel_rfl) (opens_int Tryd.underlying3) (fs_one (s := 1) rfl (by kernel_rfl) rfl (opens_int Tryd.underlying3)))
theorem opens_u64s : Opens Tryd.prog 26 (.slice (.int .u64) 1 8) :=
  opens_slice Tryd.underlying26 (by kernel_rfl) (by kernel_rfl) (by omega) (Rd.int_ok _) (opens_int Tryd.underlying57)
theorem opens_call : Opens Tryd.prog 28 callRd :=
  opens_struct (tot := 7) Tryd.underlying28 (by kernel_rfl)
    (fs_cons (s := 1) rfl (by kernel_rfl) (opens_int Tryd.underlying3)
    (fs_cons (s := 2) rfl (by kernel_rfl) opens_key
    (fs_cons (s := 1) rfl (by kernel_rfl) (opens_str Tryd.underlying9)
    (fs_cons (s := 2) rfl (by kernel_rfl) opens_ref
    (fs_one (s := 1) rfl (by kernel_rfl) rfl opens_u64s)))))
theorem open_trod {H : Type} {α : Type} {P : Program} {t : TypeId} {fs : Array Field} {r : Rd α} (ho : Opens P t r) (ht : P.underlying t = some (.struct fs)) {enc : TypeId × Value → H} {w : World} {base : Nat} {sp : Nat → Bool} {held : Bool} {v : Value} {d : DataW H} {p : List MemPlace} {ww : World} {rr : Reach} {bb : Nat}
    (hv : Value.okWide P ww rr bb t v) (h : DataW.Trod enc P w base sp held t v d p) (hq : ∀ q ∈ DataW.weights P t d, q ≤ reachBytes) : ∃ cs y, v = .agg cs ∧ r All w cs.toList y := by
  obtain ⟨cs, rfl, _⟩ := Go.WideShapes.okWide_struct ht hv
  obtain ⟨fuel, hf⟩ := h
  obtain ⟨y, hy⟩ := ho.get enc w base sp held fuel _ _ hf hq
  exact ⟨cs, y, rfl, hy⟩
theorem u64s_of_row {F : Foot} {w : World} {a : Option Addr} {n cap : Nat} {xs : List Int} (h : RowOf (Rd.int .u64) 1 8 F w a n cap xs) : U64s w a (xs.map Int.toNat) ∧ (xs.map Int.toNat).length = n := by
  refine ⟨fun i hi => ?_, by simpa using h.len⟩
  have hi' : i < xs.length := by simpa using hi
  obtain ⟨b, off, h1, h2, _, h3, h4⟩ := h.int i hi'
  have hw : (0 : Int) ≤ xs[i] ∧ xs[i] ≤ 18446744073709551615 := by
    simp only [Lit.wf, Bool.and_eq_true, decide_eq_true_eq] at h4
    exact h4
  refine ⟨b, off, h1, h2, ?_, ?_⟩
  · rw [h3]
    simp only [List.getElem_map]
    rw [Int.toNat_of_nonneg hw.1]
  · simp only [List.getElem_map]
    omega
set_option maxRecDepth 100000 in
theorem open_call {H : Type} {enc : TypeId × Value → H} {w : World} {base : Nat} {sp : Nat → Bool} {held : Bool} {v : Value} {d : DataW H} {p : List MemPlace} {ww : World} {rr : Reach} {bb : Nat}
    (hv : Value.okWide Tryd.prog ww rr bb 28 v) (h : DataW.Trod enc Tryd.prog w base sp held 28 v d p) (hq : ∀ q ∈ DataW.weights Tryd.prog 28 d, q ≤ reachBytes) :
    ∃ (c : CallV) (a : Option Addr) (cap : Nat), v = c.val a cap ∧ U64s w a c.xs ∧ c.xs.length ≤ cap ∧ (a = none → cap = 0) ∧ c.xs.length ≤ 9223372036854775807 := by
  obtain ⟨cs, ⟨k, ⟨n, dir⟩, text, ⟨who, at'⟩, xs⟩, rfl, g⟩ := open_trod opens_call Tryd.underlying28 hv h hq
  obtain ⟨_, _, e, ⟨rfl, _⟩, _, _, rfl, ⟨_, _, rfl, ⟨rfl, _⟩, rfl, _⟩, _, _, rfl, ⟨rfl, _⟩, _, _, rfl, ⟨_, _, rfl, ⟨rfl, _⟩, rfl, _⟩, a, m, cap, rfl, hr⟩ := g
  obtain ⟨hu, hl⟩ := u64s_of_row hr
  have hm := hr.max
  have hle := hr.le
  have hnil := hr.nil
  have hbig : (maxLen : Nat) ≤ 9223372036854775807 := Nat.le_refl _
  subst hl
  refine ⟨⟨k, n, dir, text, who, at', xs.map Int.toNat⟩, a, cap, ?_, hu, hle, hnil, Nat.le_trans hle (Nat.le_trans hm hbig)⟩
  show Value.agg cs = .agg _
  congr 1
  exact Array.toList_inj.1 e
end Go.Proofs.YtplhmcmfdcklaaaDoor.Lex
