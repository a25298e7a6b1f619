/- Rows of cells that slices show, and small helpers for walks. Plain memory: no function of the program. -/
import Derived.Test.YthjcmcgmalnfpaaGreatDoorRows
import Derived.WalkKit
import Derived.Lib.Hide
import Derived.Laws.AppendOwnNone
namespace Go.Proofs.YthjcmcgmalnfpaaGreatDoor
open Go.RowKit
theorem ret_int {k : IntKind} {a b : Int} (h : a = b) : Ending.returned (.int k a) = .returned (.int k b) := by rw [h]
theorem ret_bool {a b : Bool} (h : a = b) : Ending.returned (.bool a) = .returned (.bool b) := by rw [h]
/-- The cells that a slice value of n elements, each of one cell, shows: xs. -/
structure Row (w : World) (a : Option Addr) (n cap : Nat) (xs : List Value) : Prop where
  len : xs.length = n
  le : n ≤ cap
  max : cap ≤ maxLen
  nil : a = none → cap = 0
  at_ : 0 < n → ∃ b off, a = some ⟨b, off, none⟩ ∧ b < w.heap.size ∧ ∀ i u, xs[i]? = some u → w.cell? ⟨b, off + i, none⟩ = some u
theorem Row.cell {w : World} {a : Option Addr} {n cap : Nat} {xs : List Value} (h : Row w a n cap xs) (k : Nat) (hk : k < n) :
    ∃ b off, a = some ⟨b, off, none⟩ ∧ w.cell? ⟨b, off + k, none⟩ = some (xs.getD k undef) := by
  obtain ⟨b, off, ha, _, hc⟩ := h.at_ (by omega)
  refine ⟨b, off, ha, hc k _ ?_⟩
  have := h.len
  simp [List.getD, show k < xs.length by omega]
theorem Row.int {w : World} {a : Option Addr} {n cap : Nat} {k : IntKind} {zs : List Int} (h : Row w a n cap (zs.map (Value.int k))) (j : Nat) (hj : j < n) :
    ∃ b off, a = some ⟨b, off, none⟩ ∧ w.cell? ⟨b, off + j, none⟩ = some (.int k (zs.getD j 0)) := by
  obtain ⟨b, off, ha, hc⟩ := h.cell j hj
  refine ⟨b, off, ha, ?_⟩
  have := h.len
  simp only [List.length_map] at this
  rw [hc]
  simp [List.getD, show j < zs.length by omega]
theorem Row.keep {B : Nat} {w w' : World} {a : Option Addr} {n cap : Nat} {xs : List Value} (h : Row w a n cap xs) (hb : Below B w w') (hB : w.heap.size ≤ B) : Row w' a n cap xs := by
  refine ⟨h.len, h.le, h.max, h.nil, fun hn => ?_⟩
  obtain ⟨b, off, ha, hlt, hc⟩ := h.at_ hn
  exact ⟨b, off, ha, by have := hb.size; omega, fun i u hu => (hb.cell (p := ⟨b, off + i, none⟩) (by simp; omega)).trans (hc i u hu)⟩
theorem Row.of_owns {w : World} {base : Nat} {e : TypeId} {v : Value} {n : Nat} {xs : List Value} (h : w.ownsRow base e 1 v n xs) :
    ∃ a cap, v = .slice a n cap ∧ Row w a n cap xs := by
  have hl : xs.length = n := by have := h.1; omega
  rcases h.2 with ⟨rfl, rfl⟩ | ⟨g, cap, cur, rfl, _, hg, hle, hm, hs, ht⟩
  · exact ⟨none, 0, rfl, hl, by simp, by simp, by simp, by simp⟩
  · refine ⟨_, cap, rfl, hl, hle, hm, by simp, fun hn => ⟨g, 0, rfl, (Array.getElem?_eq_some_iff.1 hg).1, fun i u hu => ?_⟩⟩
    have := h.cells (g := g) rfl i u hu
    rwa [show (⟨g, 0, none⟩ : Addr).add i = ⟨g, 0 + i, none⟩ by unfold Addr.add; split <;> simp_all] at this
theorem Row.nil_any (w : World) (cap : Nat) (a : Option Addr) (hm : cap ≤ maxLen) (ha : a = none → cap = 0) : Row w a 0 cap [] := ⟨rfl, by simp, hm, ha, by simp⟩
/-- What the kit's frame tells of a slice of integers that came in. -/
def IsRow (k : IntKind) (w : World) (a : Option Addr) (len cap : Nat) (zs : List Int) : Prop :=
  (a = none ∧ len = 0 ∧ cap = 0 ∧ zs = []) ∨
  ∃ x, a = some x ∧ len ≤ cap ∧ cap ≤ maxLen ∧ zs.length = cap ∧ (∀ i, i < zs.length → w.cell? (x.add i) = some (.int k (zs.getD i 0))) ∧ ∀ n ∈ zs, (Lit.int k n).wf = true
theorem Row.of_isRow {k : IntKind} {w : World} {a : Option Addr} {len cap : Nat} {zs : List Int} (h : IsRow k w a len cap zs) :
    Row w a len cap ((zs.take len).map (Value.int k)) ∧ ∀ n ∈ zs.take len, (Lit.int k n).wf = true := by
  rcases h with ⟨rfl, rfl, rfl, rfl⟩ | ⟨x, rfl, hl, hm, hz, hc, hw⟩
  · exact ⟨⟨rfl, by simp, by simp, by simp, by simp⟩, by simp⟩
  · refine ⟨⟨by simp; omega, hl, hm, by simp, fun hn => ?_⟩, fun n h => hw n (List.mem_of_mem_take h)⟩
    obtain ⟨b, off, spot⟩ := x
    have h0 := hc 0 (by omega)
    obtain rfl : spot = none := by simpa [Addr.add] using World.cell?_spot h0
    refine ⟨b, off, rfl, World.block_lt_of_cell? w _ h0, fun i u hu => ?_⟩
    have hi : i < len := by have := (List.getElem?_eq_some_iff.1 hu).1; simp at this; omega
    have h1 := hc i (by omega)
    rw [Addr.add_lit] at h1
    rw [h1]
    simp [hi] at hu
    obtain ⟨y, hy, rfl⟩ := hu
    simp [List.getD, hy]
theorem wf_i64_bd {n : Int} (h : (Lit.int .i64 n).wf = true) : -9223372036854775808 ≤ n ∧ n ≤ 9223372036854775807 := by
  simp only [Lit.wf, Bool.and_eq_true, decide_eq_true_eq] at h
  exact h
theorem wf_u8_bd {n : Int} (h : (Lit.int .u8 n).wf = true) : 0 ≤ n ∧ n ≤ 255 := by
  simp only [Lit.wf, Bool.and_eq_true, decide_eq_true_eq] at h
  exact h
theorem bcell {W w1 : World} (hb : Below W.heap.size W w1) : (∀ b o, b < W.heap.size → w1.cell? ⟨b, o, none⟩ = W.cell? ⟨b, o, none⟩) ∧ (∀ b o, b < W.heap.size → w1.frozen? ⟨b, o, none⟩ = W.frozen? ⟨b, o, none⟩) :=
  ⟨fun b o h => hb.cell (p := ⟨b, o, none⟩) h, fun b o h => hb.frozen (p := ⟨b, o, none⟩) h⟩
theorem cell_at {w : World} {b o : Nat} {c : Array Value} {e : TypeId} {f : Nat × Nat} {v : Value} (h : w.heap[b]? = some (.cells c e f)) (hv : c[o]? = some v) : w.cell? ⟨b, o, none⟩ = some v := by
  simp [World.cell?, h, hv]
theorem free_at {w : World} {b o : Nat} {c : Array Value} {e : TypeId} (h : w.heap[b]? = some (.cells c e (0, 0))) : w.frozen? ⟨b, o, none⟩ = false := by
  simp [World.frozen?, h]
theorem heap_set_at {w : World} {b o : Nat} {c : Array Value} {e : TypeId} {f : Nat × Nat} (v : Value) (h : w.heap[b]? = some (.cells c e f)) : (w.setCell ⟨b, o, none⟩ v).heap[b]? = some (.cells (c.setIfInBounds o v) e f) := by
  simp [World.setCell, Array.getElem?_modify, h]
theorem grown_setCell (w : World) (a : Addr) (v : Value) : w.grownBy (w.setCell a v) (some a.block) :=
  ⟨rfl, rfl, rfl, by simp [World.setCell], fun k _ h => Below.heap_setCell _ _ _ _ (fun e => h (by rw [e]))⟩
theorem grown_trans {w w1 w2 : World} {r : Option Nat} (h : w.grownBy w1 r) (k : w1.grownBy w2 r) : w.grownBy w2 r :=
  ⟨k.os.trans h.os, k.tape.trans h.tape, k.output.trans h.output, Nat.le_trans h.size k.size, fun i hi hr => (k.block i (Nat.lt_of_lt_of_le hi h.size) hr).trans (h.block i hi hr)⟩
theorem grown_drew {w w1 : World} {r : Option Nat} (h : w.grownBy w1 r) : w.grownBy w1.drew r := ⟨h.os, h.tape, h.output, h.size, h.block⟩
theorem grown_refl (w : World) (r : Option Nat) : w.grownBy w r := ⟨rfl, rfl, rfl, Nat.le_refl _, fun _ _ _ => rfl⟩
theorem Row.grown {w w' : World} {a : Option Addr} {n cap : Nat} {xs : List Value} {r : Option Nat} (h : Row w a n cap xs) (hg : w.grownBy w' r) (hne : ∀ x, a = some x → some x.block ≠ r) : Row w' a n cap xs := by
  refine ⟨h.len, h.le, h.max, h.nil, fun hn => ?_⟩
  obtain ⟨b, off, ha, hlt, hc⟩ := h.at_ hn
  exact ⟨b, off, ha, Nat.lt_of_lt_of_le hlt hg.size, fun i u hu => (World.cell?_of_block (a := ⟨b, off + i, none⟩) (hg.block b hlt (hne _ ha))).trans (hc i u hu)⟩
/-- A slice type t of elements e: so many cells and bytes each. -/
structure Elem (P : Program) (t e : TypeId) (size bytes : Nat) : Prop where
  ht : P.underlying t = some (.slice e)
  row : ∃ z, (P.info? e).map (fun i => (i.zero, i.size, i.bytes)) = some (some z, size, bytes) ∧ z.cells.size = size
  pos : 0 < size
/-- Cells at the place that a slice of m elements shows. -/
structure Src (w : World) (ad : Option Addr) (m c size : Nat) (news : List Value) : Prop where
  len : news.length = m * size
  nil : ad = none → m = 0 ∧ c = 0
  at_ : ∀ x, ad = some x → ∀ j u, news[j]? = some u → w.cell? (x.add j) = some u
  one : ∀ u ∈ news, u.oneCell' = true
theorem Src.of_row {w : World} {a : Option Addr} {n cap : Nat} {k : IntKind} {zs : List Int} (h : Row w a n cap (zs.map (Value.int k))) : Src w a n cap 1 (zs.map (Value.int k)) := by
  refine ⟨by have := h.len; omega, fun e => ?_, fun x hx j u hu => ?_, ints_oneCell _ _⟩
  · have := h.nil e; have := h.le; omega
  · have hl := h.len
    have hj := (List.getElem?_eq_some_iff.1 hu).1
    obtain ⟨b, off, ha, _, hc⟩ := h.at_ (by omega)
    rw [ha] at hx
    cases hx
    rw [Addr.add_lit]
    exact hc j u hu
theorem wpl_append {P : Program} {w : World} {ops : Array Oper} {rest : List Oper} {o : Oper} {a : Act} {Q : Exit → Act → World → Prop} (hgd : o.guard = none) (s x : Operand) (t : TypeId)
    (ho : o.op = .call { callee := .builtin .append, args := #[s, x], argTypes := #[t, t] })
    {base : Nat} {e : TypeId} {size bytes : Nat} (E : Elem P t e size bytes)
    (v : Value) (n : Nat) (xs : List Value) (hs : a.eval s = v) (ad : Option Addr) (m c : Nat) (news : List Value) (hx : a.eval x = .slice ad m c)
    (hown : w.ownsRow base e size v n xs) (hsrc : Src w ad m c size news)
    (h63 : n + m ≤ maxLen) (hbytes : (n + m) * bytes ≤ 140737488355328) (hbase : base ≤ w.heap.size)
    (h : ∀ v' w', w'.ownsRow base e size v' (n + m) (xs ++ news) → w.grownBy w' v.ownBlock → (v' = .slice none 0 0 ↔ v = .slice none 0 0 ∧ m = 0) → wpList P ops Q rest (a.put o.dst v') w') : wpList P ops Q (o :: rest) a w := by
  obtain ⟨z, hi, hzs⟩ := E.row
  obtain ⟨i, hi, hz0, hz1, hz2⟩ := info_parts hi
  cases ad with
  | some ad => exact wpList_append_own w hgd s x t ho base e i z size bytes E.ht hi hz0 hz1 hz2 hzs E.pos v n xs hs hown ad m c news hx hsrc.len (hsrc.at_ ad rfl) hsrc.one h63 hbytes hbase h
  | none =>
    obtain ⟨rfl, rfl⟩ := hsrc.nil rfl
    have hn : news = [] := List.eq_nil_of_length_eq_zero (by have := hsrc.len; omega)
    subst hn
    refine wpList_append_own_none hgd s x t ho base e i size E.ht hi v n xs hs hown hx ?_
    simpa using h v w (by simpa using hown) (grown_refl _ _) (by simp)
end Go.Proofs.YthjcmcgmalnfpaaGreatDoor
