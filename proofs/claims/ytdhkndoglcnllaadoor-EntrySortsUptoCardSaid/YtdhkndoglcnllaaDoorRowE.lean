/- A row of entries in a block of its own: read, and two of them changed. -/
import Derived.Test.YtdhkndoglcnllaaDoorStab4
import Derived.Test.YtdhkndoglcnllaaDoorFoot
import Derived.Below
namespace Go.Proofs.YtdhkndoglcnllaaDoor.Stab
open Go Go.RowKit
set_option linter.unusedVariables false
structure EC where
  kn : Int
  kd : Int
  dk : Int
  dn : Int
  da : Option Addr
  dm : Nat
  dc : Nat
def EC.cells (e : EC) : List Value := [.int .i64 e.kn, .int .i64 e.kd, .int .i64 e.dk, .int .i64 e.dn, .slice e.da e.dm e.dc]
def EC.val (e : EC) : Value := .agg #[.int .i64 e.kn, .int .i64 e.kd, .int .i64 e.dk, .int .i64 e.dn, .slice e.da e.dm e.dc]
structure Lies (L : List EC) (C : Array Value) : Prop where
  size : C.size = L.length * 5
  at_ : ∀ i e, L[i]? = some e → ∀ j v, e.cells[j]? = some v → C[i * 5 + j]? = some v
def put5 (C : Array Value) (i : Nat) (e : EC) : Array Value := ((((C.setIfInBounds (i * 5) (.int .i64 e.kn)).setIfInBounds (i * 5 + 1) (.int .i64 e.kd)).setIfInBounds (i * 5 + 2) (.int .i64 e.dk)).setIfInBounds (i * 5 + 3) (.int .i64 e.dn)).setIfInBounds (i * 5 + 4) (.slice e.da e.dm e.dc)
theorem cells_lt {e : EC} {j : Nat} {v : Value} (h : e.cells[j]? = some v) : j < 5 := (List.getElem?_eq_some_iff.1 h).1
theorem Lies.put {L : List EC} {C : Array Value} (h : Lies L C) {i : Nat} (hi : i < L.length) (e : EC) : Lies (L.set i e) (put5 C i e) := by
  refine ⟨by simp [put5, h.size], fun k x hx j v hv => ?_⟩
  have hj := cells_lt hv
  have hs := h.size
  rw [List.getElem?_set] at hx
  unfold put5
  simp only [Array.getElem?_setIfInBounds, Array.size_setIfInBounds]
  by_cases hk : i = k
  · subst hk
    rw [if_pos rfl, if_pos hi] at hx
    cases hx
    rcases (by omega : j = 0 ∨ j = 1 ∨ j = 2 ∨ j = 3 ∨ j = 4) with rfl | rfl | rfl | rfl | rfl <;> (simp only [EC.cells, List.getElem?_cons_zero, List.getElem?_cons_succ, Option.some.injEq] at hv; subst hv; repeat (first | rw [if_neg (by omega)] | rw [if_pos (by omega), if_pos (by omega)]))
  · rw [if_neg hk] at hx
    have := h.at_ k x hx j v hv
    rw [if_neg (by omega), if_neg (by omega), if_neg (by omega), if_neg (by omega), if_neg (by omega)]
    exact this
/-- While a row is sorted: it lies in block b; all else that was there is as it was. -/
structure St (B b : Nat) (W0 : World) (L : List EC) (W : World) : Prop where
  row : ∃ C T, W.heap[b]? = some (.cells C T (0, 0)) ∧ Lies L C
  below : Below B W0 W
  keep : ∀ x, x ≠ b → x < W0.heap.size → W.heap[x]? = W0.heap[x]?
theorem St.lt {B b : Nat} {W0 W : World} {L : List EC} (h : St B b W0 L W) : b < W.heap.size := by
  obtain ⟨C, T, g, _⟩ := h.row
  exact (Array.getElem?_eq_some_iff.1 g).1
theorem St.step {B b : Nat} {W0 W W' : World} {L : List EC} (h : St B b W0 L W) (hB : B ≤ b) (hb : Below W.heap.size W W') : St B b W0 L W' := by
  obtain ⟨C, T, g, hl⟩ := h.row
  have hz := h.lt
  exact ⟨⟨C, T, (hb.block _ hz).trans g, hl⟩, h.below.trans (hb.mono (by omega)), fun x hx hz => (hb.block _ (Nat.lt_of_lt_of_le hz h.below.size)).trans (h.keep x hx hz)⟩
theorem St.cell {B b : Nat} {W0 W : World} {L : List EC} (h : St B b W0 L W) {i : Nat} {e : EC} (he : L[i]? = some e) :
    W.cell? ⟨b, i * 5, none⟩ = some (.int .i64 e.kn) ∧ W.cell? ⟨b, i * 5 + 1, none⟩ = some (.int .i64 e.kd) ∧ W.cell? ⟨b, i * 5 + 2, none⟩ = some (.int .i64 e.dk) ∧ W.cell? ⟨b, i * 5 + 3, none⟩ = some (.int .i64 e.dn) ∧ W.cell? ⟨b, i * 5 + 4, none⟩ = some (.slice e.da e.dm e.dc) := by
  obtain ⟨C, T, g, hl⟩ := h.row
  exact ⟨cell_at g (hl.at_ i e he 0 _ rfl), cell_at g (hl.at_ i e he 1 _ rfl), cell_at g (hl.at_ i e he 2 _ rfl), cell_at g (hl.at_ i e he 3 _ rfl), cell_at g (hl.at_ i e he 4 _ rfl)⟩
theorem St.free {B b : Nat} {W0 W : World} {L : List EC} (h : St B b W0 L W) (o : Nat) : W.frozen? ⟨b, o, none⟩ = false := by
  obtain ⟨C, T, g, hl⟩ := h.row
  exact free_at g
/-- An entry stored at place i. -/
def set5 (W : World) (b i : Nat) (e : EC) : World := ((((W.setCell ⟨b, i * 5, none⟩ (.int .i64 e.kn)).setCell ⟨b, i * 5 + 1, none⟩ (.int .i64 e.kd)).setCell ⟨b, i * 5 + 2, none⟩ (.int .i64 e.dk)).setCell ⟨b, i * 5 + 3, none⟩ (.int .i64 e.dn)).setCell ⟨b, i * 5 + 4, none⟩ (.slice e.da e.dm e.dc)
theorem St.put {B b : Nat} {W0 W : World} {L : List EC} (h : St B b W0 L W) (hB : B ≤ b) {i : Nat} (hi : i < L.length) (e : EC) : St B b W0 (L.set i e) (set5 W b i e) := by
  obtain ⟨C, T, g, hl⟩ := h.row
  refine ⟨⟨put5 C i e, T, ?_, hl.put hi e⟩, ?_, fun x hx hz => ?_⟩
  · exact heap_set_at _ (heap_set_at _ (heap_set_at _ (heap_set_at _ (heap_set_at _ g))))
  · exact ((((h.below.setCell hB _).setCell hB _).setCell hB _).setCell hB _).setCell hB _
  · unfold set5
    rw [Below.heap_setCell _ _ _ _ hx, Below.heap_setCell _ _ _ _ hx, Below.heap_setCell _ _ _ _ hx, Below.heap_setCell _ _ _ _ hx, Below.heap_setCell _ _ _ _ hx]
    exact h.keep x hx hz
theorem St.fix {B b : Nat} {W0 W : World} {L : List EC} (h : St B b W0 L W) {F : Foot} (hF : ∀ x, F x → x ≠ b) : Fix F W0 W := ⟨h.below.size, fun x hx hf => h.keep x (hF x hf) hx⟩
theorem St.drew {B b : Nat} {W0 W : World} {L : List EC} (h : St B b W0 L W) (hB : B ≤ b) : St B b W0 L W.drew := h.step hB ((Below.refl _ _).drew)
end Go.Proofs.YtdhkndoglcnllaaDoor.Stab
