/- Entries read out of memory: keys and trees. -/
import Derived.Test.YtibabpahpiijgaaGreatDoorDescC
import Derived.Test.YtibabpahpiijgaaGreatDoorGStab
namespace Go.Proofs.YtibabpahpiijgaaGreatDoor
open Go.RowKit
set_option linter.unusedSimpArgs false
set_option linter.unusedVariables false
abbrev KeyV := Int × Int
abbrev keyRd : Rd KeyV := .pair (.int .i64) (.int .i64)
theorem keyRd_ok : keyRd.Ok 2 := Rd.pair_ok (Rd.int_ok _) (Rd.int_ok _)
theorem ob_key (N : Nat) : OB Tryz.prog 41 keyRd (fun x => 0) (N + 1) :=
  (ob_struct (tot := 2) Tryz.underlying41 (by kernel_rfl) (obf_cons (s := 1) rfl (by kernel_rfl) (ob_int Tryz.underlying3 N) (obf_one (s := 1) rfl (by kernel_rfl) rfl (ob_int Tryz.underlying3 N)))).map id (fun h => h) (fun _ => Nat.zero_le _)
abbrev EntryV := (Int × Int) × DescV
abbrev entryRd (k : Nat) : Rd EntryV := .pair keyRd (descRd k)
theorem entryRd_ok (k : Nat) : (entryRd k).Ok 5 := Rd.pair_ok keyRd_ok (descRd_ok k)
theorem ob_entry (N : Nat) : OB Tryz.prog 70 (entryRd (N + 1)) (fun x => x.2.nodes) (N + 2) :=
  (ob_struct (tot := 5) Tryz.underlying70 (by kernel_rfl) (obf_cons (s := 2) rfl (by kernel_rfl) (ob_key N) (obf_one (s := 3) rfl (by kernel_rfl) rfl (ob_desc (N + 1))))).map id (fun h => h) (fun x => by show x.2.nodes ≤ 0 + x.2.nodes + 1; omega)
theorem ob_entries (N : Nat) : OB Tryz.prog 33 (.slice (entryRd (N + 1)) 5 56) (fun l => (l.map fun x => x.2.nodes).sum) (N + 3) :=
  (ob_slice Tryz.underlying33 (by kernel_rfl) (by kernel_rfl) (by omega) (entryRd_ok _) (ob_entry N)).map id (fun h => h) (fun l => Nat.le_succ _)
theorem descRd_cells' {k : Nat} {F : Foot} {w : World} {cs : List Value} {d : DescV} (h : descRd k F w cs d) : ∃ a n c, cs = [.int .i64 d.kind, .int .i64 d.n, .slice a n c] ∧ RowOf (descRd k) 3 40 F w a n c d.kids := by
  cases k with
  | zero => exact h.elim
  | succ k =>
    obtain ⟨a, n, c, h1, _, _, h4⟩ := h
    exact ⟨a, n, c, h1, h4.imp fun _ _ h => descRd_succ k h⟩
theorem descRd_wf {k : Nat} {F : Foot} {w : World} {cs : List Value} {d : DescV} (h : descRd k F w cs d) : (Lit.int .i64 d.kind).wf = true ∧ (Lit.int .i64 d.n).wf = true := by
  cases k with
  | zero => exact h.elim
  | succ k =>
    obtain ⟨a, n, c, _, h2, h3, _⟩ := h
    exact ⟨h2, h3⟩
/-- An entry of a row: where its cells lie, and what they show. -/
theorem RowOf.entry {k : Nat} {F : Foot} {w : World} {a : Option Addr} {n cap : Nat} {l : List EntryV} (h : RowOf (entryRd k) 5 56 F w a n cap l) (i : Nat) (hi : i < l.length) :
    ∃ b o, b < w.heap.size ∧ ∃ kn kd dk dn dl da dm dc, a = some ⟨b, o, none⟩ ∧ l[i] = ((kn, kd), DescV.mk dk dn dl) ∧ (w.cell? ⟨b, o + i * 5, none⟩ = some (.int .i64 kn) ∧ w.cell? ⟨b, o + i * 5 + 1, none⟩ = some (.int .i64 kd) ∧ w.cell? ⟨b, o + i * 5 + 2, none⟩ = some (.int .i64 dk) ∧ w.cell? ⟨b, o + i * 5 + 3, none⟩ = some (.int .i64 dn) ∧ w.cell? ⟨b, o + i * 5 + 4, none⟩ = some (.slice da dm dc)) ∧ (Lit.int .i64 kn).wf = true ∧ (Lit.int .i64 kd).wf = true ∧ descRd k F w [.int .i64 dk, .int .i64 dn, .slice da dm dc] (DescV.mk dk dn dl) := by
  obtain ⟨b, o, cs, h1, h2, _, _, h4, h5⟩ := h.at_ i _ (List.getElem?_eq_getElem hi)
  generalize l[i] = x at h5
  obtain ⟨⟨kn, kd⟩, d⟩ := x
  obtain ⟨_, _, rfl, ⟨_, _, rfl, ⟨rfl, hwn⟩, rfl, hwd⟩, hd⟩ := h5
  obtain ⟨da, dm, dc, rfl, hk⟩ := descRd_cells' hd
  obtain ⟨dk, dn, dl⟩ := d
  exact ⟨b, o, h2, kn, kd, dk, dn, dl, da, dm, dc, h1, rfl, ⟨h4 0 _ rfl, h4 1 _ rfl, h4 2 _ rfl, h4 3 _ rfl, h4 4 _ rfl⟩, hwn, hwd, hd⟩
theorem descRd_kids {k : Nat} {F : Foot} {w : World} {dk dn : Int} {dl : List DescV} {da : Option Addr} {dm dc : Nat} (h : descRd k F w [.int .i64 dk, .int .i64 dn, .slice da dm dc] (DescV.mk dk dn dl)) : RowOf (descRd k) 3 40 F w da dm dc dl := by
  obtain ⟨a, n, c, e, hr⟩ := descRd_cells' h
  cases e
  exact hr
namespace Stab
/-- How two keys stand to each other. -/
def cmpK (a b : KeyV) : Int := or2 (c3 a.1 b.1) (c3 a.2 b.2)
def ltK (a b : KeyV) : Bool := decide (cmpK a b < 0)
theorem cmpK_ways (a b : KeyV) : ((a.1 < b.1 ∨ (a.1 = b.1 ∧ a.2 < b.2)) ∧ cmpK a b = -1) ∨ ((b.1 < a.1 ∨ (b.1 = a.1 ∧ b.2 < a.2)) ∧ cmpK a b = 1) ∨ (a.1 = b.1 ∧ a.2 = b.2 ∧ cmpK a b = 0) := by
  unfold cmpK or2
  rcases c3_ways a.1 b.1 with ⟨h, e⟩ | ⟨h, e⟩ | ⟨h, e⟩ <;> rcases c3_ways a.2 b.2 with ⟨g, f⟩ | ⟨g, f⟩ | ⟨g, f⟩ <;> rw [e, f] <;> simp <;> omega
theorem ltK_iff {a b : KeyV} : ltK a b = true ↔ a.1 < b.1 ∨ (a.1 = b.1 ∧ a.2 < b.2) := by
  unfold ltK
  rw [decide_eq_true_iff]
  rcases cmpK_ways a b with ⟨h, e⟩ | ⟨h, e⟩ | ⟨h, h', e⟩ <;> rw [e] <;> simp <;> omega
theorem cmpK_eq {a b : KeyV} : cmpK a b = if ltK a b then -1 else if ltK b a then 1 else 0 := by
  have e1 : ∀ x y : KeyV, ltK x y = decide (x.1 < y.1 ∨ (x.1 = y.1 ∧ x.2 < y.2)) := fun x y => by rw [Bool.eq_iff_iff, ltK_iff, decide_eq_true_iff]
  rw [e1, e1]
  rcases cmpK_ways a b with ⟨h, e⟩ | ⟨h, e⟩ | ⟨h, h', e⟩ <;> rw [e]
  · rw [if_pos (decide_eq_true h)]
  · rw [if_neg (by rw [decide_eq_true_iff]; omega), if_pos (decide_eq_true h)]
  · rw [if_neg (by rw [decide_eq_true_iff]; omega), if_neg (by rw [decide_eq_true_iff]; omega)]
theorem ltK_ord : Ord ltK := by
  refine ⟨fun a b h => ?_, fun a b c h1 h2 => ?_⟩
  · cases e : ltK b a with
    | false => rfl
    | true =>
      have h1 := ltK_iff.1 h
      have h2 := ltK_iff.1 e
      omega
  · cases e : ltK a c with
    | false => rfl
    | true =>
      have h3 := ltK_iff.1 e
      have h1' : ¬ (a.1 < b.1 ∨ (a.1 = b.1 ∧ a.2 < b.2)) := fun h => by rw [ltK_iff.2 h] at h1; cases h1
      have h2' : ¬ (b.1 < c.1 ∨ (b.1 = c.1 ∧ b.2 < c.2)) := fun h => by rw [ltK_iff.2 h] at h2; cases h2
      omega
/-- Entries by their keys. -/
def sortE (l : List EntryV) : List EntryV := isort (fun x y => ltK x.1 y.1) l
end Stab
end Go.Proofs.YtibabpahpiijgaaGreatDoor
