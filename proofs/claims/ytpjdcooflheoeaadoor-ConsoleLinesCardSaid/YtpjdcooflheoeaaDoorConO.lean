/- Rows of calls that came in, opened: of what is read the numbers, of the rest its cells. -/
import Derived.Test.YtpjdcooflheoeaaDoorFoot
import Derived.Test.YtpjdcooflheoeaaDoorKinds45
import Derived.KernelRfl
namespace Go.Proofs.YtpjdcooflheoeaaDoor.Lex
open Go.RowKit
set_option linter.unusedVariables false
abbrev rI : Rd Int := Rd.int .i64
/-- One cell, whatever it shows. -/
def rA : Rd Value := fun _ _ cs v => cs = [v] ∧ v.oneCell' = true
theorem rA_ok : rA.Ok 1 := ⟨fun h => by rw [h.1]; rfl, fun h _ => h, fun h _ => h, fun h u hu => by rw [h.1] at hu; simp at hu; subst hu; exact h.2⟩
theorem opensA_str {P : Program} {t : TypeId} (ht : P.underlying t = some .string) : Opens P t rA := by
  constructor
  intro H enc w base spare held fuel cs x h hq
  obtain ⟨s, rfl, rfl, hw⟩ := DataW.trod_string ht h
  exact ⟨_, rfl, rfl⟩
theorem opensA_slice {P : Program} {t e : TypeId} (ht : P.underlying t = some (.slice e)) : Opens P t rA := by
  constructor
  intro H enc w base spare held fuel cs x h hq
  rcases Deep.open_slice ht h with ⟨rfl, rfl⟩ | ⟨a, n, cap, m, f, D, Pl, rfl, _⟩
  · exact ⟨_, rfl, rfl⟩
  · exact ⟨_, rfl, rfl⟩
abbrev refR : Rd (Int × Int) := .pair rI rI
abbrev callR : Rd (Int × (Int × Int) × Value × (Int × Int) × Value) := .pair rI (.pair refR (.pair rA (.pair refR rA)))
abbrev descR3 : Rd (Int × Int × Value) := .pair rI (.pair rI rA)
abbrev toldR : Rd (Int × (Int × Int × Value) × Int × Int × Value × Value) := .pair rI (.pair descR3 (.pair rI (.pair rI (.pair rA rA))))
abbrev OpY : Type := (Int × Int) × (Int × (Int × Int) × Value × (Int × Int) × Value) × (Int × (Int × Int × Value) × Int × Int × Value × Value) × Int × Int
abbrev opR : Rd OpY := .pair refR (.pair callR (.pair toldR (.pair rI rI)))
theorem refR_ok : refR.Ok 2 := Rd.pair_ok (Rd.int_ok _) (Rd.int_ok _)
theorem opR_ok : opR.Ok 19 :=
  Rd.pair_ok refR_ok (Rd.pair_ok (Rd.pair_ok (Rd.int_ok _) (Rd.pair_ok refR_ok (Rd.pair_ok rA_ok (Rd.pair_ok refR_ok rA_ok))))
    (Rd.pair_ok (Rd.pair_ok (Rd.int_ok _) (Rd.pair_ok (Rd.pair_ok (Rd.int_ok _) (Rd.pair_ok (Rd.int_ok _) rA_ok)) (Rd.pair_ok (Rd.int_ok _) (Rd.pair_ok (Rd.int_ok _) (Rd.pair_ok rA_ok rA_ok))))) (Rd.pair_ok (Rd.int_ok _) (Rd.int_ok _))))
theorem opens_key : Opens Tryd.prog 61 refR :=
  opens_struct (tot := 2) Tryd.underlying61 (by kernel_rfl) (fs_cons (s := 1) rfl (by kernel_rfl) (opens_int Tryd.underlying3) (fs_one (s := 1) rfl (by kernel_rfl) rfl (opens_int Tryd.underlying3)))
theorem opens_ref : Opens Tryd.prog 59 refR :=
  opens_struct (tot := 2) Tryd.underlying59 (by kernel_rfl) (fs_cons (s := 1) rfl (by kernel_rfl) (opens_int Tryd.underlying3) (fs_one (s := 1) rfl (by kernel_rfl) rfl (opens_int Tryd.underlying3)))
theorem opens_call : Opens Tryd.prog 64 callR :=
  opens_struct (tot := 7) Tryd.underlying64 (by kernel_rfl)
    (fs_cons (s := 1) rfl (by kernel_rfl) (opens_int Tryd.underlying3)
    (fs_cons (s := 2) rfl (by kernel_rfl) opens_key
    (fs_cons (s := 1) rfl (by kernel_rfl) (opensA_str Tryd.underlying9)
    (fs_cons (s := 2) rfl (by kernel_rfl) opens_ref
    (fs_one (s := 1) rfl (by kernel_rfl) rfl (opensA_slice Tryd.underlying62))))))
theorem opens_desc : Opens Tryd.prog 68 descR3 :=
  opens_struct (tot := 3) Tryd.underlying68 (by kernel_rfl)
    (fs_cons (s := 1) rfl (by kernel_rfl) (opens_int Tryd.underlying3)
    (fs_cons (s := 1) rfl (by kernel_rfl) (opens_int Tryd.underlying3)
    (fs_one (s := 1) rfl (by kernel_rfl) rfl (opensA_slice Tryd.underlying66))))
theorem opens_told : Opens Tryd.prog 70 toldR :=
  opens_struct (tot := 8) Tryd.underlying70 (by kernel_rfl)
    (fs_cons (s := 1) rfl (by kernel_rfl) (opens_int Tryd.underlying65)
    (fs_cons (s := 3) rfl (by kernel_rfl) opens_desc
    (fs_cons (s := 1) rfl (by kernel_rfl) (opens_int Tryd.underlying3)
    (fs_cons (s := 1) rfl (by kernel_rfl) (opens_int Tryd.underlying3)
    (fs_cons (s := 1) rfl (by kernel_rfl) (opensA_str Tryd.underlying9)
    (fs_one (s := 1) rfl (by kernel_rfl) rfl (opensA_slice Tryd.underlying62)))))))
theorem opens_op : Opens Tryd.prog 72 opR :=
  opens_struct (tot := 19) Tryd.underlying72 (by kernel_rfl)
    (fs_cons (s := 2) rfl (by kernel_rfl) opens_ref
    (fs_cons (s := 7) rfl (by kernel_rfl) opens_call
    (fs_cons (s := 8) rfl (by kernel_rfl) opens_told
    (fs_cons (s := 1) rfl (by kernel_rfl) (opens_int Tryd.underlying3)
    (fs_one (s := 1) rfl (by kernel_rfl) rfl (opens_int Tryd.underlying3))))))
theorem opens_ops : Opens Tryd.prog 23 (.slice opR 19 216) :=
  opens_slice Tryd.underlying23 (by kernel_rfl) (by kernel_rfl) (by omega) opR_ok opens_op
def OpV.of (y : OpY) : OpV :=
  ⟨.int .i64 y.1.1, .int .i64 y.1.2, y.2.1.1, .int .i64 y.2.1.2.1.1, .int .i64 y.2.1.2.1.2, y.2.1.2.2.1, .int .i64 y.2.1.2.2.2.1.1, .int .i64 y.2.1.2.2.2.1.2, y.2.1.2.2.2.2,
    y.2.2.1.1, .int .i64 y.2.2.1.2.1.1, .int .i64 y.2.2.1.2.1.2.1, y.2.2.1.2.1.2.2, .int .i64 y.2.2.1.2.2.1, .int .i64 y.2.2.1.2.2.2.1, y.2.2.1.2.2.2.2.1, y.2.2.1.2.2.2.2.2, y.2.2.2.1, y.2.2.2.2⟩
theorem wf_in {n : Int} (h : (Lit.int .i64 n).wf = true) : InI n := by
  simp only [Lit.wf, Bool.and_eq_true, decide_eq_true_eq] at h
  exact h
theorem op_cells {F : Foot} {w : World} {cs : List Value} {y : OpY} (h : opR F w cs y) : cs = (OpV.of y).cells ∧ (OpV.of y).Ok := by
  have hone := opR_ok.one h
  obtain ⟨⟨r1, r2⟩, ⟨k, ⟨n, dir⟩, text, ⟨who, at'⟩, xs⟩, ⟨e, ⟨dk, dn, kids⟩, tn, line, tt, ys⟩, fr, til⟩ := y
  obtain ⟨_, _, rfl, ⟨_, _, rfl, ⟨rfl, _⟩, rfl, _⟩, _, _, rfl, ⟨_, _, rfl, ⟨rfl, k1⟩, _, _, rfl, ⟨_, _, rfl, ⟨rfl, _⟩, rfl, _⟩, _, _, rfl, ⟨rfl, _⟩, _, _, rfl, ⟨_, _, rfl, ⟨rfl, _⟩, rfl, _⟩, rfl, _⟩,
    _, _, rfl, ⟨_, _, rfl, ⟨rfl, k2⟩, _, _, rfl, ⟨_, _, rfl, ⟨rfl, _⟩, _, _, rfl, ⟨rfl, _⟩, rfl, _⟩, _, _, rfl, ⟨rfl, _⟩, _, _, rfl, ⟨rfl, _⟩, _, _, rfl, ⟨rfl, _⟩, rfl, _⟩, _, _, rfl, ⟨rfl, k3⟩, rfl, k4⟩ := h
  exact ⟨rfl, ⟨wf_in k1, wf_in k2, wf_in k3, wf_in k4, hone⟩⟩
theorem opRow_of_row {F : Foot} {w : World} {a : Option Addr} {n cap : Nat} {ys : List OpY} (h : RowOf opR 19 216 F w a n cap ys) : n = (ys.map OpV.of).length ∧ OpRow w a (ys.map OpV.of) ∧ n ≤ 9223372036854775807 := by
  refine ⟨by rw [List.length_map]; exact h.len.symm, fun i hi => ?_, Nat.le_trans h.le h.max⟩
  have hi' : i < ys.length := by simpa using hi
  obtain ⟨b, off, cs, h1, h2, _, _, hcs, g⟩ := h.at_ i _ (List.getElem?_eq_getElem hi')
  obtain ⟨rfl, hok⟩ := op_cells g
  simp only [List.getElem_map]
  exact ⟨b, off, h1, h2, fun j v hj => hcs j v hj, hok⟩
theorem open_ops {H : Type} {enc : TypeId × Value → H} {w : World} {base : Nat} {sp : Nat → Bool} {held : Bool} {a : Option Addr} {n cap : Nat} {d : DataW H} {p : List MemPlace}
    (h : DataW.Trod enc Tryd.prog w base sp held 23 (.slice a n cap) d p) (hq : ∀ q ∈ DataW.weights Tryd.prog 23 d, q ≤ reachBytes) : ∃ l : List OpV, n = l.length ∧ OpRow w a l ∧ l.length ≤ 9223372036854775807 := by
  obtain ⟨fuel, hf⟩ := h
  obtain ⟨y, a', n', c', e, hr⟩ := opens_ops.get enc w base sp held fuel _ _ hf hq
  obtain ⟨rfl, rfl, rfl⟩ : a = a' ∧ n = n' ∧ cap = c' := by simpa [Value.cells] using e
  obtain ⟨h1, h2, h3⟩ := opRow_of_row hr
  exact ⟨_, h1, h2, h1 ▸ h3⟩
end Go.Proofs.YtpjdcooflheoeaaDoor.Lex
