/- Mem, Mem2, Foot, Desc, Grow, DescM: laid into one text. -/
import Derived.Test.YtephllgddhncgaaGreatDoorRows
import Derived.WalkKit
import Derived.Lib.Hide
import Derived.Laws.AppendOwnNone
import Derived.WalkSpells
import Derived.WalkLawsBesides
import Derived.Deep.QuietTactic
import Derived.BigQuiet
import Derived.Deep.Slices
import Derived.SizedLaws
import Derived.KernelRfl
import Derived.Maps.AppendAt
import Derived.Test.YtephllgddhncgaaGreatDoorProg
import Derived.Deep.LoopGhost
/- Rows of cells that slices show, and small helpers for walks. Plain memory: no function of the program. -/
namespace Go.Proofs.YtephllgddhncgaaGreatDoor
open Go.RowKit
theorem ret_int {k : IntKind} {a b : Int} (h : a = b) : Ending.returned (.int k a) = .returned (.int k b) := by rw [h]
theorem ret_bool {a b : Bool} (h : a = b) : Ending.returned (.bool a) = .returned (.bool b) := by rw [h]
/-- The cells that a slice value of n elements, each of one cell, shows: xs. -/
structure Row (w : World) (a : Option Addr) (n cap : Nat) (xs : List Value) : Prop where
  len : xs.length = n
  le : n ≤ cap
  max : cap ≤ maxLen
  nil : a = none → cap = 0
  at_ : 0 < n → ∃ b off, a = some ⟨b, off, none⟩ ∧ b < w.heap.size ∧ ∀ i u, xs[i]? = some u → w.cell? ⟨b, off + i, none⟩ = some u
theorem Row.cell {w : World} {a : Option Addr} {n cap : Nat} {xs : List Value} (h : Row w a n cap xs) (k : Nat) (hk : k < n) :
    ∃ b off, a = some ⟨b, off, none⟩ ∧ w.cell? ⟨b, off + k, none⟩ = some (xs.getD k undef) := by
  obtain ⟨b, off, ha, _, hc⟩ := h.at_ (by omega)
  refine ⟨b, off, ha, hc k _ ?_⟩
  have := h.len
  simp [List.getD, show k < xs.length by omega]
theorem Row.int {w : World} {a : Option Addr} {n cap : Nat} {k : IntKind} {zs : List Int} (h : Row w a n cap (zs.map (Value.int k))) (j : Nat) (hj : j < n) :
    ∃ b off, a = some ⟨b, off, none⟩ ∧ w.cell? ⟨b, off + j, none⟩ = some (.int k (zs.getD j 0)) := by
  obtain ⟨b, off, ha, hc⟩ := h.cell j hj
  refine ⟨b, off, ha, ?_⟩
  have := h.len
  simp only [List.length_map] at this
  rw [hc]
  simp [List.getD, show j < zs.length by omega]
theorem Row.keep {B : Nat} {w w' : World} {a : Option Addr} {n cap : Nat} {xs : List Value} (h : Row w a n cap xs) (hb : Below B w w') (hB : w.heap.size ≤ B) : Row w' a n cap xs := by
  refine ⟨h.len, h.le, h.max, h.nil, fun hn => ?_⟩
  obtain ⟨b, off, ha, hlt, hc⟩ := h.at_ hn
  exact ⟨b, off, ha, by have := hb.size; omega, fun i u hu => (hb.cell (p := ⟨b, off + i, none⟩) (by simp; omega)).trans (hc i u hu)⟩
theorem Row.of_owns {w : World} {base : Nat} {e : TypeId} {v : Value} {n : Nat} {xs : List Value} (h : w.ownsRow base e 1 v n xs) :
    ∃ a cap, v = .slice a n cap ∧ Row w a n cap xs := by
  have hl : xs.length = n := by have := h.1; omega
  rcases h.2 with ⟨rfl, rfl⟩ | ⟨g, cap, cur, rfl, _, hg, hle, hm, hs, ht⟩
  · exact ⟨none, 0, rfl, hl, by simp, by simp, by simp, by simp⟩
  · refine ⟨_, cap, rfl, hl, hle, hm, by simp, fun hn => ⟨g, 0, rfl, (Array.getElem?_eq_some_iff.1 hg).1, fun i u hu => ?_⟩⟩
    have := h.cells (g := g) rfl i u hu
    rwa [show (⟨g, 0, none⟩ : Addr).add i = ⟨g, 0 + i, none⟩ by unfold Addr.add; split <;> simp_all] at this
theorem Row.nil_any (w : World) (cap : Nat) (a : Option Addr) (hm : cap ≤ maxLen) (ha : a = none → cap = 0) : Row w a 0 cap [] := ⟨rfl, by simp, hm, ha, by simp⟩
/-- What the kit's frame tells of a slice of integers that came in. -/
def IsRow (k : IntKind) (w : World) (a : Option Addr) (len cap : Nat) (zs : List Int) : Prop :=
  (a = none ∧ len = 0 ∧ cap = 0 ∧ zs = []) ∨
  ∃ x, a = some x ∧ len ≤ cap ∧ cap ≤ maxLen ∧ zs.length = cap ∧ (∀ i, i < zs.length → w.cell? (x.add i) = some (.int k (zs.getD i 0))) ∧ ∀ n ∈ zs, (Lit.int k n).wf = true
theorem Row.of_isRow {k : IntKind} {w : World} {a : Option Addr} {len cap : Nat} {zs : List Int} (h : IsRow k w a len cap zs) :
    Row w a len cap ((zs.take len).map (Value.int k)) ∧ ∀ n ∈ zs.take len, (Lit.int k n).wf = true := by
  rcases h with ⟨rfl, rfl, rfl, rfl⟩ | ⟨x, rfl, hl, hm, hz, hc, hw⟩
  · exact ⟨⟨rfl, by simp, by simp, by simp, by simp⟩, by simp⟩
  · refine ⟨⟨by simp; omega, hl, hm, by simp, fun hn => ?_⟩, fun n h => hw n (List.mem_of_mem_take h)⟩
    obtain ⟨b, off, spot⟩ := x
    have h0 := hc 0 (by omega)
    obtain rfl : spot = none := by simpa [Addr.add] using World.cell?_spot h0
    refine ⟨b, off, rfl, World.block_lt_of_cell? w _ h0, fun i u hu => ?_⟩
    have hi : i < len := by have := (List.getElem?_eq_some_iff.1 hu).1; simp at this; omega
    have h1 := hc i (by omega)
    rw [Addr.add_lit] at h1
    rw [h1]
    simp [hi] at hu
    obtain ⟨y, hy, rfl⟩ := hu
    simp [List.getD, hy]
theorem wf_i64_bd {n : Int} (h : (Lit.int .i64 n).wf = true) : -9223372036854775808 ≤ n ∧ n ≤ 9223372036854775807 := by
  simp only [Lit.wf, Bool.and_eq_true, decide_eq_true_eq] at h
  exact h
theorem wf_u8_bd {n : Int} (h : (Lit.int .u8 n).wf = true) : 0 ≤ n ∧ n ≤ 255 := by
  simp only [Lit.wf, Bool.and_eq_true, decide_eq_true_eq] at h
  exact h
theorem bcell {W w1 : World} (hb : Below W.heap.size W w1) : (∀ b o, b < W.heap.size → w1.cell? ⟨b, o, none⟩ = W.cell? ⟨b, o, none⟩) ∧ (∀ b o, b < W.heap.size → w1.frozen? ⟨b, o, none⟩ = W.frozen? ⟨b, o, none⟩) :=
  ⟨fun b o h => hb.cell (p := ⟨b, o, none⟩) h, fun b o h => hb.frozen (p := ⟨b, o, none⟩) h⟩
theorem cell_at {w : World} {b o : Nat} {c : Array Value} {e : TypeId} {f : Nat × Nat} {v : Value} (h : w.heap[b]? = some (.cells c e f)) (hv : c[o]? = some v) : w.cell? ⟨b, o, none⟩ = some v := by
  simp [World.cell?, h, hv]
theorem free_at {w : World} {b o : Nat} {c : Array Value} {e : TypeId} (h : w.heap[b]? = some (.cells c e (0, 0))) : w.frozen? ⟨b, o, none⟩ = false := by
  simp [World.frozen?, h]
theorem heap_set_at {w : World} {b o : Nat} {c : Array Value} {e : TypeId} {f : Nat × Nat} (v : Value) (h : w.heap[b]? = some (.cells c e f)) : (w.setCell ⟨b, o, none⟩ v).heap[b]? = some (.cells (c.setIfInBounds o v) e f) := by
  simp [World.setCell, Array.getElem?_modify, h]
theorem grown_setCell (w : World) (a : Addr) (v : Value) : w.grownBy (w.setCell a v) (some a.block) :=
  ⟨rfl, rfl, rfl, by simp [World.setCell], fun k _ h => Below.heap_setCell _ _ _ _ (fun e => h (by rw [e]))⟩
theorem grown_trans {w w1 w2 : World} {r : Option Nat} (h : w.grownBy w1 r) (k : w1.grownBy w2 r) : w.grownBy w2 r :=
  ⟨k.os.trans h.os, k.tape.trans h.tape, k.output.trans h.output, Nat.le_trans h.size k.size, fun i hi hr => (k.block i (Nat.lt_of_lt_of_le hi h.size) hr).trans (h.block i hi hr)⟩
theorem grown_drew {w w1 : World} {r : Option Nat} (h : w.grownBy w1 r) : w.grownBy w1.drew r := ⟨h.os, h.tape, h.output, h.size, h.block⟩
theorem grown_refl (w : World) (r : Option Nat) : w.grownBy w r := ⟨rfl, rfl, rfl, Nat.le_refl _, fun _ _ _ => rfl⟩
theorem Row.grown {w w' : World} {a : Option Addr} {n cap : Nat} {xs : List Value} {r : Option Nat} (h : Row w a n cap xs) (hg : w.grownBy w' r) (hne : ∀ x, a = some x → some x.block ≠ r) : Row w' a n cap xs := by
  refine ⟨h.len, h.le, h.max, h.nil, fun hn => ?_⟩
  obtain ⟨b, off, ha, hlt, hc⟩ := h.at_ hn
  exact ⟨b, off, ha, Nat.lt_of_lt_of_le hlt hg.size, fun i u hu => (World.cell?_of_block (a := ⟨b, off + i, none⟩) (hg.block b hlt (hne _ ha))).trans (hc i u hu)⟩
/-- A slice type t of elements e: so many cells and bytes each. -/
structure Elem (P : Program) (t e : TypeId) (size bytes : Nat) : Prop where
  ht : P.underlying t = some (.slice e)
  row : ∃ z, (P.info? e).map (fun i => (i.zero, i.size, i.bytes)) = some (some z, size, bytes) ∧ z.cells.size = size
  pos : 0 < size
/-- Cells at the place that a slice of m elements shows. -/
structure Src (w : World) (ad : Option Addr) (m c size : Nat) (news : List Value) : Prop where
  len : news.length = m * size
  nil : ad = none → m = 0 ∧ c = 0
  at_ : ∀ x, ad = some x → ∀ j u, news[j]? = some u → w.cell? (x.add j) = some u
  one : ∀ u ∈ news, u.oneCell' = true
theorem Src.of_row {w : World} {a : Option Addr} {n cap : Nat} {k : IntKind} {zs : List Int} (h : Row w a n cap (zs.map (Value.int k))) : Src w a n cap 1 (zs.map (Value.int k)) := by
  refine ⟨by have := h.len; omega, fun e => ?_, fun x hx j u hu => ?_, ints_oneCell _ _⟩
  · have := h.nil e; have := h.le; omega
  · have hl := h.len
    have hj := (List.getElem?_eq_some_iff.1 hu).1
    obtain ⟨b, off, ha, _, hc⟩ := h.at_ (by omega)
    rw [ha] at hx
    cases hx
    rw [Addr.add_lit]
    exact hc j u hu
theorem wpl_append {P : Program} {w : World} {ops : Array Oper} {rest : List Oper} {o : Oper} {a : Act} {Q : Exit → Act → World → Prop} (hgd : o.guard = none) (s x : Operand) (t : TypeId)
    (ho : o.op = .call { callee := .builtin .append, args := #[s, x], argTypes := #[t, t] })
    {base : Nat} {e : TypeId} {size bytes : Nat} (E : Elem P t e size bytes)
    (v : Value) (n : Nat) (xs : List Value) (hs : a.eval s = v) (ad : Option Addr) (m c : Nat) (news : List Value) (hx : a.eval x = .slice ad m c)
    (hown : w.ownsRow base e size v n xs) (hsrc : Src w ad m c size news)
    (h63 : n + m ≤ maxLen) (hbytes : (n + m) * bytes ≤ 140737488355328) (hbase : base ≤ w.heap.size)
    (h : ∀ v' w', w'.ownsRow base e size v' (n + m) (xs ++ news) → w.grownBy w' v.ownBlock → (v' = .slice none 0 0 ↔ v = .slice none 0 0 ∧ m = 0) → wpList P ops Q rest (a.put o.dst v') w') : wpList P ops Q (o :: rest) a w := by
  obtain ⟨z, hi, hzs⟩ := E.row
  obtain ⟨i, hi, hz0, hz1, hz2⟩ := info_parts hi
  cases ad with
  | some ad => exact wpList_append_own w hgd s x t ho base e i z size bytes E.ht hi hz0 hz1 hz2 hzs E.pos v n xs hs hown ad m c news hx hsrc.len (hsrc.at_ ad rfl) hsrc.one h63 hbytes hbase h
  | none =>
    obtain ⟨rfl, rfl⟩ := hsrc.nil rfl
    have hn : news = [] := List.eq_nil_of_length_eq_zero (by have := hsrc.len; omega)
    subst hn
    refine wpList_append_own_none hgd s x t ho base e i size E.ht hi v n xs hs hown hx ?_
    simpa using h v w (by simpa using hown) (grown_refl _ _) (by simp)
end Go.Proofs.YtephllgddhncgaaGreatDoor
/- More of plain memory: an append of one value, the heap behind new blocks. -/
namespace Go.Proofs.YtephllgddhncgaaGreatDoor
open Go.RowKit
theorem heap_alloc_iff (w : World) (o : Obj) (k : Nat) : (w.alloc o).heap[k]? = if k = w.heap.size then some o else w.heap[k]? := by
  show (w.heap.push o)[k]? = _
  rw [Array.getElem?_push]
theorem below_drewN {B : Nat} {a w : World} (h : Below B a w) (q : Nat) : Below B a (w.drewN q) := ⟨h.os, h.tape, h.output, h.size, h.block⟩
theorem qsame {P : Program} {f : FuncId} {args : Array Value} {w : World} {n : Nat} {v : Value}
    (h : Calls P f args (w.drewN n) fun e w' => e = .returned v ∧ w.drewN n = w') : Calls P f args (w.drewN n) fun e w'' => e = .returned v ∧ ∃ m, w'' = w.drewN m :=
  h.mono fun _ _ ⟨he, hm⟩ => ⟨he, n, hm.symm⟩
theorem own_lt {w : World} {base : Nat} {e : TypeId} {size : Nat} {v : Value} {n : Nat} {xs : List Value} (h : w.ownsRow base e size v n xs) : ∀ k, v.ownBlock = some k → base ≤ k := fun k hk => (h.lt k hk).1
/-- What a row of the call's own keeps while only blocks below its base, or new ones, are touched by a call that leaves everything as it was. -/
theorem own_below {w w' : World} {base : Nat} {e : TypeId} {size : Nat} {v : Value} {n : Nat} {xs : List Value} (h : w.ownsRow base e size v n xs) (hb : Below w.heap.size w w') : w'.ownsRow base e size v n xs := by
  refine ⟨h.1, ?_⟩
  rcases h.2 with hn | ⟨g, cap, cur, rfl, hbg, hg, rest⟩
  · exact .inl hn
  · exact .inr ⟨g, cap, cur, rfl, hbg, by rw [hb.block g (Array.getElem?_eq_some_iff.1 hg).1]; exact hg, rest⟩
/-- 'append(out, u)', out the call's own: behind the block that holds u. -/
theorem wpl_app1 {P : Program} {W w0 : World} {ops : Array Oper} {rest : List Oper} {o : Oper} {a : Act} {Q : Exit → Act → World → Prop} (hgd : o.guard = none) (s x : Operand) (t : TypeId)
    (ho : o.op = .call { callee := .builtin .append, args := #[s, x], argTypes := #[t, t] })
    {base B : Nat} {e : TypeId} {bytes : Nat} (E : Elem P t e 1 bytes) (v : Value) (n : Nat) (xs : List Value) (hs : a.eval s = v) (u : Value) (hx : a.eval x = .slice (some ⟨W.heap.size, 0, none⟩) 1 1) (hu : u.oneCell' = true)
    (hown : W.ownsRow base e 1 v n xs) (hB : Below B w0 W) (hBb : B ≤ base) (hbase : base ≤ W.heap.size) (hn : (n + 1) * bytes ≤ 140737488355328) (hm : n + 1 ≤ maxLen)
    (h : ∀ v' w', w'.ownsRow base e 1 v' (n + 1) (xs ++ [u]) → Below B w0 w' → W.grownBy w' v.ownBlock → wpList P ops Q rest (a.put o.dst v') w') : wpList P ops Q (o :: rest) a (W.alloc (.cells #[u] e)) := by
  refine wpl_append hgd s x t ho E v n xs hs (some ⟨W.heap.size, 0, none⟩) 1 1 [u] hx (hown.alloc _) ⟨rfl, by simp, fun y hy j z hz => ?_, by simpa using hu⟩ hm hn (by simp; omega) fun v' w' h1 h2 _ => h v' w' h1 ?_ (grown_trans (World.grownBy_alloc W _ _) h2)
  · cases hy
    exact cell_one_new W u e j z hz
  · exact (hB.alloc (by omega) _).grown h2 (by simp; omega) (fun k hk => by have := own_lt hown k hk; omega)
/-- The same where the value was laid in a world that has drawn since. -/
theorem wpl_app1d {P : Program} {W w0 : World} {ops : Array Oper} {rest : List Oper} {o : Oper} {a : Act} {Q : Exit → Act → World → Prop} (hgd : o.guard = none) (s x : Operand) (t : TypeId)
    (ho : o.op = .call { callee := .builtin .append, args := #[s, x], argTypes := #[t, t] })
    {base B : Nat} {e : TypeId} {bytes : Nat} (E : Elem P t e 1 bytes) (v : Value) (n : Nat) (xs : List Value) (hs : a.eval s = v) (u : Value) (hx : a.eval x = .slice (some ⟨W.heap.size, 0, none⟩) 1 1) (hu : u.oneCell' = true) (q : Nat)
    (hown : W.ownsRow base e 1 v n xs) (hB : Below B w0 W) (hBb : B ≤ base) (hbase : base ≤ W.heap.size) (hn : (n + 1) * bytes ≤ 140737488355328) (hm : n + 1 ≤ maxLen)
    (h : ∀ v' w', w'.ownsRow base e 1 v' (n + 1) (xs ++ [u]) → Below B w0 w' → W.grownBy w' v.ownBlock → wpList P ops Q rest (a.put o.dst v') w') : wpList P ops Q (o :: rest) a ((W.alloc (.cells #[u] e)).drewN q) :=
  wpl_app1 (W := W.drewN q) hgd s x t ho E v n xs hs u hx hu hown (below_drewN hB q) hBb hbase hn hm fun v' w' h1 h2 h3 => h v' w' h1 h2 ⟨h3.os, h3.tape, h3.output, h3.size, h3.block⟩
end Go.Proofs.YtephllgddhncgaaGreatDoor
/- Reading deep values out of memory, with the blocks that a reading leans on (F): what cells show, as plain lists, numbers and texts. No function of the program. -/
namespace Go.Proofs.YtephllgddhncgaaGreatDoor
open Go.RowKit
set_option linter.unusedVariables false
abbrev Foot := Nat → Prop
/-- Blocks of F that were there read as before. -/
structure Fix (F : Foot) (w w' : World) : Prop where
  size : w.heap.size ≤ w'.heap.size
  same : ∀ b, b < w.heap.size → F b → w'.heap[b]? = w.heap[b]?
theorem Fix.refl (F : Foot) (w : World) : Fix F w w := ⟨Nat.le_refl _, fun _ _ _ => rfl⟩
theorem Fix.trans {F : Foot} {a b c : World} (h : Fix F a b) (k : Fix F b c) : Fix F a c :=
  ⟨Nat.le_trans h.size k.size, fun x hx hf => (k.same x (Nat.lt_of_lt_of_le hx h.size) hf).trans (h.same x hx hf)⟩
theorem Fix.mono {F G : Foot} {w w' : World} (h : Fix F w w') (hg : ∀ b, b < w.heap.size → G b → F b) : Fix G w w' := ⟨h.size, fun b hb hf => h.same b hb (hg b hb hf)⟩
theorem Fix.of_below {F : Foot} {w w' : World} (h : Below w.heap.size w w') : Fix F w w' := ⟨h.size, fun b hb _ => h.block b hb⟩
theorem Fix.of_belowB {F : Foot} {B : Nat} {w w' : World} (h : Below B w w') (hF : ∀ b, b < w.heap.size → F b → b < B) : Fix F w w' := ⟨h.size, fun b hb hf => h.block b (hF b hb hf)⟩
theorem Fix.of_grown {F : Foot} {w w' : World} {r : Option Nat} (h : w.grownBy w' r) (hr : ∀ b, b < w.heap.size → F b → some b ≠ r) : Fix F w w' := ⟨h.size, fun b hb hf => h.block b hb (hr b hb hf)⟩
theorem Fix.alloc (F : Foot) (w : World) (o : Obj) : Fix F w (w.alloc o) := .of_below ((Below.refl _ _).alloc (Nat.le_refl _) _)
theorem Fix.drew (F : Foot) (w : World) : Fix F w w.drew := ⟨Nat.le_refl _, fun _ _ _ => rfl⟩
theorem Fix.drewN (F : Foot) (w : World) (n : Nat) : Fix F w (w.drewN n) := ⟨Nat.le_refl _, fun _ _ _ => rfl⟩
theorem Fix.setCell {F : Foot} (w : World) (a : Addr) (v : Value) (h : ¬ F a.block) : Fix F w (w.setCell a v) := .of_grown (grown_setCell w a v) fun b _ hf e => h (by cases e; exact hf)
theorem Fix.cell {F : Foot} {w w' : World} (h : Fix F w w') {b o : Nat} (hb : b < w.heap.size) (hf : F b) : w'.cell? ⟨b, o, none⟩ = w.cell? ⟨b, o, none⟩ := World.cell?_of_block (a := ⟨b, o, none⟩) (h.same b hb hf)
abbrev All : Foot := fun _ => True
/-- A reading: at this world these cells (of one value) show this, by blocks of F. -/
abbrev Rd (α : Type) := Foot → World → List Value → α → Prop
structure Rd.Ok {α : Type} (r : Rd α) (size : Nat) : Prop where
  len : ∀ {F w cs x}, r F w cs x → cs.length = size
  keep : ∀ {F w w' cs x}, r F w cs x → Fix F w w' → r F w' cs x
  mono : ∀ {F G : Foot} {w cs x}, r F w cs x → (∀ b, b < w.heap.size → F b → G b) → r G w cs x
  one : ∀ {F w cs x}, r F w cs x → ∀ u ∈ cs, u.oneCell' = true
def Rd.int (k : IntKind) : Rd Int := fun _ _ cs n => cs = [.int k n] ∧ (Lit.int k n).wf = true
def Rd.bool : Rd Bool := fun _ _ cs b => cs = [.bool b]
def Rd.str : Rd ByteArray := fun _ _ cs s => cs = [.string s] ∧ s.size ≤ 140737488351232
def Rd.pair {α β : Type} (r : Rd α) (q : Rd β) : Rd (α × β) := fun F w cs x => ∃ c1 c2, cs = c1 ++ c2 ∧ r F w c1 x.1 ∧ q F w c2 x.2
/-- What a slice of n elements shows: each so many cells and bytes. -/
structure RowOf {α : Type} (r : Rd α) (size bytes : Nat) (F : Foot) (w : World) (a : Option Addr) (n cap : Nat) (xs : List α) : Prop where
  len : xs.length = n
  le : n ≤ cap
  max : cap ≤ maxLen
  room : n * bytes ≤ 140737488351232
  nil : a = none → cap = 0
  at_ : ∀ i x, xs[i]? = some x → ∃ b off cs, a = some ⟨b, off, none⟩ ∧ b < w.heap.size ∧ F b ∧ cs.length = size ∧ (∀ j u, cs[j]? = some u → w.cell? ⟨b, off + i * size + j, none⟩ = some u) ∧ r F w cs x
def Rd.slice {α : Type} (r : Rd α) (size bytes : Nat) : Rd (List α) := fun F w cs xs => ∃ a n cap, cs = [.slice a n cap] ∧ RowOf r size bytes F w a n cap xs
theorem Rd.int_ok (k : IntKind) : (Rd.int k).Ok 1 := ⟨fun h => by rw [h.1]; rfl, fun h _ => h, fun h _ => h, fun h u hu => by rw [h.1] at hu; simp at hu; subst hu; rfl⟩
theorem Rd.bool_ok : Rd.bool.Ok 1 := ⟨fun h => by rw [show _ = [_] from h]; rfl, fun h _ => h, fun h _ => h, fun h u hu => by rw [show _ = [_] from h] at hu; simp at hu; subst hu; rfl⟩
theorem Rd.str_ok : Rd.str.Ok 1 := ⟨fun h => by rw [h.1]; rfl, fun h _ => h, fun h _ => h, fun h u hu => by rw [h.1] at hu; simp at hu; subst hu; rfl⟩
theorem Rd.pair_ok {α β : Type} {r : Rd α} {q : Rd β} {m n : Nat} (h : r.Ok m) (k : q.Ok n) : (Rd.pair r q).Ok (m + n) :=
  ⟨fun ⟨c1, c2, e, h1, h2⟩ => by rw [e, List.length_append, h.len h1, k.len h2], fun ⟨c1, c2, e, h1, h2⟩ hb => ⟨c1, c2, e, h.keep h1 hb, k.keep h2 hb⟩, fun ⟨c1, c2, e, h1, h2⟩ hb => ⟨c1, c2, e, h.mono h1 hb, k.mono h2 hb⟩,
    fun ⟨c1, c2, e, h1, h2⟩ u hu => by
      rw [e, List.mem_append] at hu
      rcases hu with hu | hu
      · exact h.one h1 u hu
      · exact k.one h2 u hu⟩
theorem RowOf.keep {α : Type} {r : Rd α} {size bytes : Nat} (hr : r.Ok size) {F : Foot} {w w' : World} {a : Option Addr} {n cap : Nat} {xs : List α} (h : RowOf r size bytes F w a n cap xs) (hb : Fix F w w') : RowOf r size bytes F w' a n cap xs := by
  refine ⟨h.len, h.le, h.max, h.room, h.nil, fun i x hx => ?_⟩
  obtain ⟨b, off, cs, h1, h2, hf, h3, h4, h5⟩ := h.at_ i x hx
  exact ⟨b, off, cs, h1, Nat.lt_of_lt_of_le h2 hb.size, hf, h3, fun j u hu => (hb.cell h2 hf).trans (h4 j u hu), hr.keep h5 hb⟩
theorem RowOf.mono {α : Type} {r : Rd α} {size bytes : Nat} (hr : r.Ok size) {F G : Foot} {w : World} {a : Option Addr} {n cap : Nat} {xs : List α} (h : RowOf r size bytes F w a n cap xs) (hg : ∀ b, b < w.heap.size → F b → G b) : RowOf r size bytes G w a n cap xs := by
  refine ⟨h.len, h.le, h.max, h.room, h.nil, fun i x hx => ?_⟩
  obtain ⟨b, off, cs, h1, h2, hf, h3, h4, h5⟩ := h.at_ i x hx
  exact ⟨b, off, cs, h1, h2, hg b h2 hf, h3, h4, hr.mono h5 hg⟩
theorem Rd.slice_ok {α : Type} {r : Rd α} {size : Nat} (hr : r.Ok size) (bytes : Nat) : (Rd.slice r size bytes).Ok 1 :=
  ⟨fun ⟨_, _, _, e, _⟩ => by rw [e]; rfl, fun ⟨a, n, cap, e, h⟩ hb => ⟨a, n, cap, e, h.keep hr hb⟩, fun ⟨a, n, cap, e, h⟩ hg => ⟨a, n, cap, e, h.mono hr hg⟩, fun ⟨a, n, cap, e, h⟩ u hu => by rw [e] at hu; simp at hu; subst hu; rfl⟩
theorem RowOf.empty {α : Type} (r : Rd α) (size bytes : Nat) (F : Foot) (w : World) : RowOf r size bytes F w none 0 0 [] := ⟨rfl, Nat.le_refl _, by simp, by simp, by simp, by simp⟩
/-- A row of integers, its cell. -/
theorem RowOf.int {k : IntKind} {bytes : Nat} {F : Foot} {w : World} {a : Option Addr} {n cap : Nat} {xs : List Int} (h : RowOf (Rd.int k) 1 bytes F w a n cap xs) (i : Nat) (hi : i < xs.length) :
    ∃ b off, a = some ⟨b, off, none⟩ ∧ b < w.heap.size ∧ F b ∧ w.cell? ⟨b, off + i, none⟩ = some (.int k (xs[i]'hi)) ∧ (Lit.int k (xs[i]'hi)).wf = true := by
  obtain ⟨b, off, cs, h1, h2, hf, _, h4, rfl, h5⟩ := h.at_ i (xs[i]'hi) (List.getElem?_eq_getElem hi)
  exact ⟨b, off, h1, h2, hf, by simpa using h4 0 _ rfl, h5⟩
/-- A row of the call's own reads as what it shows. -/
theorem RowOf.of_owns {α : Type} {r : Rd α} {size bytes : Nat} {F : Foot} {w : World} {base : Nat} {e : TypeId} {v : Value} {n : Nat} {cs : List Value} {xs : List α} (h : w.ownsRow base e size v n cs) (hsz : 0 < size) (hx : xs.length = n) (hroom : n * bytes ≤ 140737488351232) (hF : ∀ b, v.ownBlock = some b → F b)
    (hr : ∀ i x, xs[i]? = some x → ((cs.drop (i * size)).take size).length = size ∧ r F w ((cs.drop (i * size)).take size) x) : ∃ a cap, v = .slice a n cap ∧ RowOf r size bytes F w a n cap xs := by
  rcases h.2 with ⟨rfl, rfl⟩ | ⟨g, cap, cur, rfl, hbg, hg, hle, hm, hs, ht⟩
  · obtain rfl : xs = [] := List.eq_nil_of_length_eq_zero hx
    exact ⟨none, 0, rfl, RowOf.empty _ _ _ _ _⟩
  · refine ⟨_, cap, rfl, hx, hle, hm, hroom, by simp, fun i x hxi => ⟨g, 0, _, rfl, (Array.getElem?_eq_some_iff.1 hg).1, hF g rfl, (hr i x hxi).1, fun j u hu => ?_, (hr i x hxi).2⟩⟩
    have hj : j < size := by have := (List.getElem?_eq_some_iff.1 hu).1; rw [(hr i x hxi).1] at this; exact this
    rw [List.getElem?_take_of_lt hj, List.getElem?_drop] at hu
    have := h.cells (g := g) rfl _ u hu
    rw [Addr.add_lit] at this
    rw [← this, Nat.zero_add, Nat.zero_add]
theorem list_choose {β : Type} {Q : Nat → β → Prop} : ∀ n, (∀ i, i < n → ∃ y, Q i y) → ∃ l : List β, l.length = n ∧ ∀ (i : Nat) y, l[i]? = some y → Q i y
  | 0, _ => ⟨[], rfl, by simp⟩
  | n + 1, h => by
    obtain ⟨l, hl, hq⟩ := list_choose n fun i hi => h i (by omega)
    obtain ⟨y, hy⟩ := h n (by omega)
    refine ⟨l ++ [y], by simp [hl], fun i z hz => ?_⟩
    by_cases hi : i < l.length
    · rw [List.getElem?_append_left hi] at hz
      exact hq i z hz
    · rw [List.getElem?_append_right (by omega)] at hz
      have : i - l.length = 0 := by
        have := (List.getElem?_eq_some_iff.1 hz).1
        simp at this
        omega
      rw [this] at hz
      obtain rfl : y = z := by simpa using hz
      rw [show i = n by omega]
      exact hy
/-! ### From the form's own reading -/
/-- Whatever the form reads as a value of type t, reads so. -/
structure Opens {α : Type} (P : Program) (t : TypeId) (r : Rd α) : Prop where
  get : ∀ {H : Type} (enc : TypeId × Value → H) (w : World) (base : Nat) (spare : Nat → Bool) (held : Bool) (fuel : Nat) (cs : List Value) (x : DataW H × List MemPlace),
    DataW.trod enc P w base spare held fuel t cs = some x → (∀ q ∈ DataW.weights P t x.1, q ≤ reachBytes) → ∃ y, r All w cs y
theorem opens_int {P : Program} {t : TypeId} {k : IntKind} (ht : P.underlying t = some (.int k)) : Opens P t (Rd.int k) := by
  constructor
  intro H enc w base spare held fuel cs x h _
  obtain ⟨n, rfl, rfl, hw⟩ := DataW.trod_int ht h
  exact ⟨n, rfl, hw⟩
theorem opens_str {P : Program} {t : TypeId} (ht : P.underlying t = some .string) : Opens P t Rd.str := by
  constructor
  intro H enc w base spare held fuel cs x h hq
  obtain ⟨s, rfl, rfl, hw⟩ := DataW.trod_string ht h
  refine ⟨s, rfl, ?_⟩
  have := hq s.data.toList.length (by simp [DataW.weights])
  have h2 : s.data.toList.length = s.size := by simp
  unfold reachBytes at this
  omega
theorem opens_slice {α : Type} {P : Program} {t e : TypeId} {r : Rd α} {size bytes : Nat} (ht : P.underlying t = some (.slice e)) (hs : P.cellsOf e = size) (hbt : P.bytesOf e = bytes) (h0 : 0 < size) (hr : r.Ok size) (ho : Opens P e r) : Opens P t (Rd.slice r size bytes) := by
  constructor
  intro H enc w base spare held fuel cs x h hq
  rcases Deep.open_slice ht h with ⟨rfl, rfl⟩ | ⟨a, n, cap, m, f, D, Pl, rfl, _, hl, hm, hmm, rfl, hx⟩
  · exact ⟨[], none, 0, 0, rfl, RowOf.empty _ _ _ _ _⟩
  · have hlm : n ≤ m := by rw [hmm]; split <;> omega
    have hw0 : (n + (m - n)) * P.bytesOf e ≤ reachBytes := hq _ (by simp [DataW.weights, ht])
    have each : ∀ i, i < n → ∃ y : α × List Value, w.cells? base (a.add (i * P.cellsOf e)) (P.cellsOf e) = some y.2 ∧ r All w y.2 y.1 := by
      intro i hi
      obtain ⟨cs', h1, h2⟩ := hx i (by omega)
      obtain ⟨y, hy⟩ := ho.get enc w base spare held f cs' _ h2 fun q hq' => hq q (by
        rw [DataW.weights, ht]
        refine List.mem_cons_of_mem _ (List.mem_append_left _ ?_)
        have : ∀ (l : List (DataW H)) (d : DataW H), d ∈ l → q ∈ DataW.weights P e d → q ∈ DataW.weightsAll P e l := by
          intro l
          induction l with
          | nil => intro d hd; simp at hd
          | cons z l ih =>
            intro d hd hqd
            rw [DataW.weightsAll, List.mem_append]
            rcases List.mem_cons.1 hd with rfl | hd
            · exact .inl hqd
            · exact .inr (ih d hd hqd)
        exact this _ (D i) (List.mem_map.2 ⟨i, List.mem_range.2 hi, rfl⟩) hq')
      exact ⟨(y, cs'), h1, hy⟩
    obtain ⟨l, hl2, hg⟩ := list_choose n each
    refine ⟨l.map (·.1), some a, n, cap, rfl, by simpa using hl2, hl, hm, ?_, by simp, fun i x hx => ?_⟩
    · rw [hbt] at hw0
      have : n * bytes ≤ (n + (m - n)) * bytes := Nat.mul_le_mul_right _ (by omega)
      unfold reachBytes at hw0
      omega
    · rw [List.getElem?_map, Option.map_eq_some_iff] at hx
      obtain ⟨g, hgi, rfl⟩ := hx
      obtain ⟨h1, h2⟩ := hg i g hgi
      rw [hs] at h1
      obtain ⟨_, hlen, hcell⟩ := World.cells?_some h1
      obtain ⟨b, off, spot⟩ := a
      obtain rfl : spot = none := by
        have h0l : 0 < l.length := by have := (List.getElem?_eq_some_iff.1 hgi).1; omega
        obtain ⟨k1, _⟩ := hg 0 _ (List.getElem?_eq_getElem h0l)
        rw [hs] at k1
        obtain ⟨_, klen, kcell⟩ := World.cells?_some k1
        have c0 := kcell 0 (by omega)
        rw [Deep.add_add] at c0
        have hsp := World.cell?_spot (c0.trans (List.getElem?_eq_getElem (by omega)))
        simpa [Addr.add] using hsp
      have hcc : ∀ j, j < size → w.cell? ⟨b, off + i * size + j, none⟩ = g.2[j]? := fun j hj => by
        have := hcell j hj
        rw [Deep.add_add, Addr.add_lit] at this
        rw [← this, Nat.add_assoc]
      refine ⟨b, off, g.2, rfl, ?_, trivial, hlen, fun j u hu => ?_, h2⟩
      · have := hcc 0 h0
        rw [List.getElem?_eq_getElem (by omega)] at this
        exact World.block_lt_of_cell? w _ this
      · rw [hcc j (by have := (List.getElem?_eq_some_iff.1 hu).1; omega)]
        exact hu
/-- The fields of a struct from cell o on. -/
structure OpensFs {γ : Type} (P : Program) (fs : List Field) (o tot : Nat) (r : Rd γ) : Prop where
  get : ∀ {H : Type} (enc : TypeId × Value → H) (w : World) (base : Nat) (spare : Nat → Bool) (held : Bool) (n : Nat) (cs : List Value) (xs : List (DataW H × List MemPlace)),
    cs.length = tot → xs.length = fs.length → (∀ (i : Nat) (f : Field), fs[i]? = some f → DataW.trod enc P w base spare held n f.type ((cs.drop f.offset).take (P.cellsOf f.type)) = xs[i]?) →
    (∀ q ∈ DataW.weightsEach P (fs.map (·.type)) (xs.map (·.1)), q ≤ reachBytes) → ∃ y, r All w (cs.drop o) y
theorem fs_one {γ : Type} {P : Program} {f : Field} {o tot s : Nat} {r : Rd γ} (h1 : f.offset = o) (h2 : P.cellsOf f.type = s) (h3 : o + s = tot) (ho : Opens P f.type r) : OpensFs P [f] o tot r := by
  constructor
  intro H enc w base spare held n cs xs hcs hxs hx hq
  match xs, hxs with
  | [x], _ =>
    have e := hx 0 f rfl
    rw [h1, h2, List.take_of_length_le (by rw [List.length_drop]; omega)] at e
    exact ho.get enc w base spare held n _ x e fun q hq' => hq q (by simpa [DataW.weightsEach] using hq')
theorem fs_cons {α γ : Type} {P : Program} {f : Field} {fs : List Field} {o tot s : Nat} {r : Rd α} {q : Rd γ} (h1 : f.offset = o) (h2 : P.cellsOf f.type = s) (ho : Opens P f.type r) (hn : OpensFs P fs (o + s) tot q) : OpensFs P (f :: fs) o tot (Rd.pair r q) := by
  constructor
  intro H enc w base spare held n cs xs hcs hxs hx hq
  match xs, hxs with
  | x :: xs, hl =>
    have e := hx 0 f rfl
    rw [h1, h2] at e
    obtain ⟨y1, hy1⟩ := ho.get enc w base spare held n _ x e fun q hq' => hq q (by rw [List.map_cons, List.map_cons, DataW.weightsEach]; exact List.mem_append_left _ hq')
    obtain ⟨y2, hy2⟩ := hn.get enc w base spare held n cs xs hcs (by simpa using hl) (fun i g hg => by simpa using hx (i + 1) g (by simpa using hg)) fun q hq' => hq q (by rw [List.map_cons, List.map_cons, DataW.weightsEach]; exact List.mem_append_right _ hq')
    refine ⟨(y1, y2), _, _, ?_, hy1, hy2⟩
    rw [← List.drop_drop, List.take_append_drop]
theorem opens_struct {γ : Type} {P : Program} {t : TypeId} {fs : Array Field} {tot : Nat} {r : Rd γ} (ht : P.underlying t = some (.struct fs)) (hc : P.cellsOf t = tot) (ho : OpensFs P fs.toList 0 tot r) : Opens P t r := by
  constructor
  intro H enc w base spare held fuel cs x h hq
  obtain ⟨xs, n, _, rfl, hl, hxs, hx⟩ := DataW.trod_struct ht h
  obtain ⟨y, hy⟩ := ho.get enc w base spare held n cs xs (by omega) (by simpa using hxs) (fun i f hf => hx i f (by simpa using hf)) fun q hq' => hq q (by simpa [DataW.weights, ht] using hq')
  exact ⟨y, by simpa using hy⟩
end Go.Proofs.YtephllgddhncgaaGreatDoor
/- Trees read out of memory; whatever came in, read, with its bulk. -/
namespace Go.Proofs.YtephllgddhncgaaGreatDoor
open Go.RowKit
set_option linter.unusedVariables false
inductive DescV where
  | mk (kind n : Int) (kids : List DescV)
namespace DescV
def kind : DescV → Int | .mk k _ _ => k
def n : DescV → Int | .mk _ n _ => n
def kids : DescV → List DescV | .mk _ _ l => l
mutual
def nodes : DescV → Nat | .mk _ _ l => nodesL l + 1
def nodesL : List DescV → Nat | [] => 0 | d :: l => d.nodes + nodesL l
end
theorem nodesL_sum (l : List DescV) : nodesL l = (l.map nodes).sum := by
  induction l with
  | nil => rfl
  | cons d l ih => rw [nodesL, ih]; rfl
theorem nodes_kids (d : DescV) : d.nodes = nodesL d.kids + 1 := by cases d; rfl
theorem eta (d : DescV) : d = .mk d.kind d.n d.kids := by cases d; rfl
theorem nodesL_get {l : List DescV} {i : Nat} (h : i < l.length) : (l[i]).nodes ≤ nodesL l := by
  induction l generalizing i with
  | nil => simp at h
  | cons d l ih =>
    rw [nodesL]
    cases i with
    | zero => simp
    | succ i => have := ih (i := i) (by simpa using h); simp; omega
theorem nodes_pos (d : DescV) : 0 < d.nodes := by rw [nodes_kids]; omega
theorem nodesL_take_succ {l : List DescV} {i : Nat} (h : i < l.length) : nodesL (l.take (i + 1)) = nodesL (l.take i) + (l[i]).nodes := by
  rw [List.take_succ_eq_append_getElem h, nodesL_sum, nodesL_sum, List.map_append, List.sum_append]
  simp
theorem nodesL_take_le (l : List DescV) (i : Nat) : nodesL (l.take i) ≤ nodesL l := by
  induction l generalizing i with
  | nil => simp
  | cons d l ih =>
    cases i with
    | zero => simp [nodesL]
    | succ i => simp only [List.take_succ_cons, nodesL]; have := ih i; omega
end DescV
/-- A tree of at most so many floors, read. -/
def descRd : Nat → Rd DescV
  | 0 => fun _ _ _ _ => False
  | k + 1 => fun F w cs d => ∃ a n cap, cs = [.int .i64 d.kind, .int .i64 d.n, .slice a n cap] ∧ (Lit.int .i64 d.kind).wf = true ∧ (Lit.int .i64 d.n).wf = true ∧ RowOf (descRd k) 3 40 F w a n cap d.kids
theorem RowOf.imp {α : Type} {r q : Rd α} {size bytes : Nat} {F : Foot} {w : World} {a : Option Addr} {n cap : Nat} {xs : List α} (h : RowOf r size bytes F w a n cap xs) (k : ∀ cs x, r F w cs x → q F w cs x) : RowOf q size bytes F w a n cap xs := by
  refine ⟨h.len, h.le, h.max, h.room, h.nil, fun i x hx => ?_⟩
  obtain ⟨b, off, cs, h1, h2, h3, h4, h5, h6⟩ := h.at_ i x hx
  exact ⟨b, off, cs, h1, h2, h3, h4, h5, k _ _ h6⟩
theorem descRd_succ : ∀ (k : Nat) {F : Foot} {w : World} {cs : List Value} {d : DescV}, descRd k F w cs d → descRd (k + 1) F w cs d
  | 0, _, _, _, _, h => h.elim
  | k + 1, F, w, cs, d, ⟨a, n, cap, h1, h2, h3, h4⟩ => ⟨a, n, cap, h1, h2, h3, h4.imp fun _ _ h => descRd_succ k h⟩
theorem descRd_mono {k m : Nat} (h : k ≤ m) {F : Foot} {w : World} {cs : List Value} {d : DescV} (hd : descRd k F w cs d) : descRd m F w cs d := by
  obtain ⟨j, rfl⟩ := Nat.le.dest h
  clear h
  induction j with
  | zero => exact hd
  | succ j ih => exact descRd_succ _ ih
theorem descRd_ok : ∀ k, (descRd k).Ok 3
  | 0 => ⟨fun h => h.elim, fun h => h.elim, fun h => h.elim, fun h => h.elim⟩
  | k + 1 => by
    have ih := descRd_ok k
    exact ⟨fun ⟨_, _, _, h, _⟩ => by rw [h]; rfl, fun ⟨a, n, cap, h, h2, h3, h4⟩ hf => ⟨a, n, cap, h, h2, h3, h4.keep ih hf⟩, fun ⟨a, n, cap, h, h2, h3, h4⟩ hg => ⟨a, n, cap, h, h2, h3, h4.mono ih hg⟩,
      fun ⟨a, n, cap, h, _⟩ u hu => by rw [h] at hu; simp at hu; rcases hu with rfl | rfl | rfl <;> rfl⟩
/-! ### Whatever came in, with its bulk -/
abbrev mInt : Int → Nat := fun _ => 1
abbrev mStr : ByteArray → Nat := fun s => s.size + 1
abbrev mList {α : Type} (μ : α → Nat) : List α → Nat := fun l => (l.map μ).sum + 1
abbrev mPair {α β : Type} (μ : α → Nat) (ν : β → Nat) : α × β → Nat := fun x => μ x.1 + ν x.2
structure OB {α : Type} (P : Program) (t : TypeId) (r : Rd α) (μ : α → Nat) (N : Nat) : Prop where
  get : ∀ {H : Type} (enc : TypeId × Value → H) (w : World) (base : Nat) (spare : Nat → Bool) (held : Bool) (fuel : Nat) (cs : List Value) (x : DataW H × List MemPlace), fuel ≤ N →
    DataW.trod enc P w base spare held fuel t cs = some x → (∀ q ∈ DataW.weights P t x.1, q ≤ reachBytes) → ∃ y, r All w cs y ∧ μ y ≤ Rows.uptoBulk x.1
theorem OB.le {α : Type} {P : Program} {t : TypeId} {r : Rd α} {μ : α → Nat} {N M : Nat} (h : OB P t r μ N) (hm : M ≤ N) : OB P t r μ M :=
  ⟨fun enc w base spare held fuel cs x hf hx hq => h.get enc w base spare held fuel cs x (by omega) hx hq⟩
theorem OB.map {α β : Type} {P : Program} {t : TypeId} {r : Rd α} {q : Rd β} {μ : α → Nat} {ν : β → Nat} {N : Nat} (h : OB P t r μ N) (f : α → β) (hf : ∀ {w cs x}, r All w cs x → q All w cs (f x)) (hν : ∀ x, ν (f x) ≤ μ x) : OB P t q ν N := by
  refine ⟨fun enc w base spare held fuel cs x hl hx hq => ?_⟩
  obtain ⟨y, h1, h2⟩ := h.get enc w base spare held fuel cs x hl hx hq
  exact ⟨f y, hf h1, Nat.le_trans (hν y) h2⟩
theorem bulk_pos {H : Type} (d : DataW H) : 1 ≤ Rows.uptoBulk d := by
  cases d with
  | lit l => cases l <;> simp [Rows.uptoBulk]
  | _ => simp [Rows.uptoBulk]
theorem ob_int {P : Program} {t : TypeId} {k : IntKind} (ht : P.underlying t = some (.int k)) (N : Nat) : OB P t (Rd.int k) mInt N :=
  ⟨fun enc w base spare held fuel cs x _ hx hq => by
    obtain ⟨y, hy⟩ := (opens_int ht).get enc w base spare held fuel cs x hx hq
    exact ⟨y, hy, bulk_pos _⟩⟩
theorem ob_bool {P : Program} {t : TypeId} (ht : P.underlying t = some .bool) (N : Nat) : OB P t Rd.bool (fun _ => 1) N :=
  ⟨fun enc w base spare held fuel cs x _ hx hq => by
    obtain ⟨b, rfl, rfl⟩ := DataW.trod_bool ht hx
    exact ⟨b, rfl, bulk_pos _⟩⟩
theorem ob_str {P : Program} {t : TypeId} (ht : P.underlying t = some .string) (N : Nat) : OB P t Rd.str mStr N :=
  ⟨fun enc w base spare held fuel cs x _ hx hq => by
    obtain ⟨s, rfl, rfl, hw⟩ := DataW.trod_string ht hx
    have h2 : s.data.toList.length = s.size := by simp
    refine ⟨s, ⟨rfl, ?_⟩, ?_⟩
    · have := hq s.data.toList.length (by simp [DataW.weights])
      unfold reachBytes at this
      omega
    · simp [Rows.uptoBulk, h2]⟩
theorem bulkAll_eq {H : Type} (l : List (DataW H)) : Rows.uptoBulkAll l = (l.map Rows.uptoBulk).sum := by
  induction l with
  | nil => rfl
  | cons d l ih => rw [Rows.uptoBulkAll, ih]; rfl
theorem sum_le_sum {α β : Type} {f : α → Nat} {g : β → Nat} : ∀ {l : List α} {m : List β}, l.length = m.length → (∀ i (h : i < l.length) (k : i < m.length), f l[i] ≤ g m[i]) → (l.map f).sum ≤ (m.map g).sum
  | [], [], _, _ => Nat.le_refl _
  | x :: l, y :: m, hl, h => by
    have h0 := h 0 (by simp) (by simp)
    have := sum_le_sum (l := l) (m := m) (by simpa using hl) fun i a b => by have := h (i + 1) (by simpa using a) (by simpa using b); simpa only [List.getElem_cons_succ] using this
    simp only [List.map_cons, List.sum_cons]
    simp at h0
    omega
  | [], _ :: _, hl, _ => by simp at hl
  | _ :: _, [], hl, _ => by simp at hl
theorem ob_slice {α : Type} {P : Program} {t e : TypeId} {r : Rd α} {μ : α → Nat} {N size bytes : Nat} (ht : P.underlying t = some (.slice e)) (hs : P.cellsOf e = size) (hbt : P.bytesOf e = bytes) (h0 : 0 < size) (hr : r.Ok size) (ho : OB P e r μ N) :
    OB P t (Rd.slice r size bytes) (mList μ) (N + 1) := by
  refine ⟨fun {H} enc w base spare held fuel cs x hf h hq => ?_⟩
  rcases DataW.trod_slice ht h with ⟨rfl, rfl⟩ | ⟨a, n, cap, elems, rest, f, rfl, rfl, rfl, _, hl, hm, hen, hel, _, _⟩
  · exact ⟨[], ⟨none, 0, 0, rfl, RowOf.empty _ _ _ _ _⟩, by simp [Rows.uptoBulk, mList]⟩
  · have hw0 : (elems.length + rest.length) * P.bytesOf e ≤ reachBytes := by
      have := hq ((elems.length + rest.length) * P.bytesOf e) (by simp [DataW.weights, ht])
      exact this
    have each : ∀ i, i < n → ∃ y : α × List Value, w.cells? base (a.add (i * P.cellsOf e)) (P.cellsOf e) = some y.2 ∧ r All w y.2 y.1 ∧ ∀ z, elems[i]? = some z → μ y.1 ≤ Rows.uptoBulk z.1 := by
      intro i hi
      have hel' := hel i hi
      rw [List.getElem?_eq_getElem (by omega)] at hel'
      obtain ⟨cs', h1, h2⟩ := Option.bind_eq_some_iff.1 hel'
      obtain ⟨y, hy, hμ⟩ := ho.get enc w base spare held f cs' _ (by omega) h2 fun q hq' => hq q (by
        rw [DataW.weights, ht]
        refine List.mem_cons_of_mem _ (List.mem_append_left _ ?_)
        have : ∀ (l : List (DataW H)) (d : DataW H), d ∈ l → q ∈ DataW.weights P e d → q ∈ DataW.weightsAll P e l := by
          intro l
          induction l with
          | nil => intro d hd; simp at hd
          | cons z l ih =>
            intro d hd hqd
            rw [DataW.weightsAll, List.mem_append]
            rcases List.mem_cons.1 hd with rfl | hd
            · exact .inl hqd
            · exact .inr (ih d hd hqd)
        exact this _ _ (List.mem_map.2 ⟨_, List.getElem_mem (by omega), rfl⟩) hq')
      refine ⟨(y, cs'), h1, hy, fun z hz => ?_⟩
      rw [List.getElem?_eq_getElem (by omega)] at hz
      cases hz
      exact hμ
    obtain ⟨l, hl2, hg⟩ := list_choose n each
    refine ⟨l.map (·.1), ⟨some a, n, cap, rfl, by simpa using hl2, hl, hm, ?_, by simp, fun i x hx => ?_⟩, ?_⟩
    · rw [hbt] at hw0
      have : n * bytes ≤ (elems.length + rest.length) * bytes := Nat.mul_le_mul_right _ (by omega)
      unfold reachBytes at hw0
      omega
    · rw [List.getElem?_map, Option.map_eq_some_iff] at hx
      obtain ⟨g, hgi, rfl⟩ := hx
      obtain ⟨h1, h2, _⟩ := hg i g hgi
      rw [hs] at h1
      obtain ⟨_, hlen, hcell⟩ := World.cells?_some h1
      obtain ⟨b, off, spot⟩ := a
      obtain rfl : spot = none := by
        have h0l : 0 < l.length := by have := (List.getElem?_eq_some_iff.1 hgi).1; omega
        obtain ⟨k1, _⟩ := hg 0 _ (List.getElem?_eq_getElem h0l)
        rw [hs] at k1
        obtain ⟨_, klen, kcell⟩ := World.cells?_some k1
        have c0 := kcell 0 (by omega)
        rw [Deep.add_add] at c0
        have hsp := World.cell?_spot (c0.trans (List.getElem?_eq_getElem (by omega)))
        simpa [Addr.add] using hsp
      have hcc : ∀ j, j < size → w.cell? ⟨b, off + i * size + j, none⟩ = g.2[j]? := fun j hj => by
        have := hcell j hj
        rw [Deep.add_add, Addr.add_lit] at this
        rw [← this, Nat.add_assoc]
      refine ⟨b, off, g.2, rfl, ?_, trivial, hlen, fun j u hu => ?_, h2⟩
      · have := hcc 0 h0
        rw [List.getElem?_eq_getElem (by omega)] at this
        exact World.block_lt_of_cell? w _ this
      · rw [hcc j (by have := (List.getElem?_eq_some_iff.1 hu).1; omega)]
        exact hu
    · have := sum_le_sum (f := fun y : α × List Value => μ y.1) (g := fun z : DataW H × List MemPlace => Rows.uptoBulk z.1) (l := l) (m := elems) (by omega) fun i h1 h2 => (hg i _ (List.getElem?_eq_getElem h1)).2.2 _ (List.getElem?_eq_getElem h2)
      show ((l.map (·.1)).map μ).sum + 1 ≤ Rows.uptoBulk (.slice (elems.map (·.1)) (rest.map (·.1)))
      rw [Rows.uptoBulk, bulkAll_eq, List.map_map, List.map_map]
      show (l.map (fun y : α × List Value => μ y.1)).sum + 1 ≤ (elems.map (fun z : DataW H × List MemPlace => Rows.uptoBulk z.1)).sum + _ + 1
      omega
/-- The fields of a struct from cell o on. -/
structure OBFs {γ : Type} (P : Program) (fs : List Field) (o tot : Nat) (r : Rd γ) (μ : γ → Nat) (N : Nat) : Prop where
  get : ∀ {H : Type} (enc : TypeId × Value → H) (w : World) (base : Nat) (spare : Nat → Bool) (held : Bool) (n : Nat) (cs : List Value) (xs : List (DataW H × List MemPlace)), n ≤ N →
    cs.length = tot → xs.length = fs.length → (∀ (i : Nat) (f : Field), fs[i]? = some f → DataW.trod enc P w base spare held n f.type ((cs.drop f.offset).take (P.cellsOf f.type)) = xs[i]?) →
    (∀ q ∈ DataW.weightsEach P (fs.map (·.type)) (xs.map (·.1)), q ≤ reachBytes) → ∃ y, r All w (cs.drop o) y ∧ μ y ≤ Rows.uptoBulkAll (xs.map (·.1))
theorem obf_one {γ : Type} {P : Program} {f : Field} {o tot s N : Nat} {r : Rd γ} {μ : γ → Nat} (h1 : f.offset = o) (h2 : P.cellsOf f.type = s) (h3 : o + s = tot) (ho : OB P f.type r μ N) : OBFs P [f] o tot r μ N := by
  refine ⟨fun {H} enc w base spare held n cs xs hn hcs hxs hx hq => ?_⟩
  match xs, hxs with
  | [x], _ =>
    have e := hx 0 f rfl
    rw [h1, h2, List.take_of_length_le (by rw [List.length_drop]; omega)] at e
    obtain ⟨y, hy, hm⟩ := ho.get enc w base spare held n _ x hn e fun q hq' => hq q (by simpa [DataW.weightsEach] using hq')
    exact ⟨y, hy, by simpa [Rows.uptoBulkAll] using hm⟩
theorem obf_cons {α γ : Type} {P : Program} {f : Field} {fs : List Field} {o tot s N : Nat} {r : Rd α} {q : Rd γ} {μ : α → Nat} {ν : γ → Nat} (h1 : f.offset = o) (h2 : P.cellsOf f.type = s) (ho : OB P f.type r μ N) (hn : OBFs P fs (o + s) tot q ν N) : OBFs P (f :: fs) o tot (Rd.pair r q) (mPair μ ν) N := by
  refine ⟨fun {H} enc w base spare held n cs xs hN hcs hxs hx hq => ?_⟩
  match xs, hxs with
  | x :: xs, hl =>
    have e := hx 0 f rfl
    rw [h1, h2] at e
    obtain ⟨y1, hy1, hm1⟩ := ho.get enc w base spare held n _ x hN e fun q hq' => hq q (by rw [List.map_cons, List.map_cons, DataW.weightsEach]; exact List.mem_append_left _ hq')
    obtain ⟨y2, hy2, hm2⟩ := hn.get enc w base spare held n cs xs hN hcs (by simpa using hl) (fun i g hg => by simpa using hx (i + 1) g (by simpa using hg)) fun q hq' => hq q (by rw [List.map_cons, List.map_cons, DataW.weightsEach]; exact List.mem_append_right _ hq')
    refine ⟨(y1, y2), ⟨_, _, ?_, hy1, hy2⟩, ?_⟩
    · rw [← List.drop_drop, List.take_append_drop]
    · simp only [List.map_cons, Rows.uptoBulkAll]
      show μ y1 + ν y2 ≤ _
      omega
theorem ob_struct {γ : Type} {P : Program} {t : TypeId} {fs : Array Field} {tot N : Nat} {r : Rd γ} {μ : γ → Nat} (ht : P.underlying t = some (.struct fs)) (hc : P.cellsOf t = tot) (ho : OBFs P fs.toList 0 tot r μ N) : OB P t r (fun y => μ y + 1) (N + 1) := by
  refine ⟨fun {H} enc w base spare held fuel cs x hf h hq => ?_⟩
  obtain ⟨xs, n, rfl, rfl, hl, hxs, hx⟩ := DataW.trod_struct ht h
  obtain ⟨y, hy, hm⟩ := ho.get enc w base spare held n cs xs (by omega) (by omega) (by simpa using hxs) (fun i f hf => hx i f (by simpa using hf)) fun q hq' => hq q (by simpa [DataW.weights, ht] using hq')
  exact ⟨y, by simpa using hy, by simp only [Rows.uptoBulk]; omega⟩
theorem ob_desc : ∀ N, OB Tryz.prog 42 (descRd N) DescV.nodes N
  | 0 => ⟨fun enc w base spare held fuel cs x hf h _ => by
      obtain ⟨xs, n, rfl, _⟩ := DataW.trod_struct Tryz.underlying42 h
      omega⟩
  | N + 1 => by
    have ih := ob_desc N
    have hk : OB Tryz.prog 40 (Rd.slice (descRd N) 3 40) (mList DescV.nodes) N := (ob_slice Tryz.underlying40 (by kernel_rfl) (by kernel_rfl) (by omega) (descRd_ok N) ih).le (by omega)
    have hs := ob_struct (tot := 3) Tryz.underlying42 (by kernel_rfl) (obf_cons (s := 1) rfl (by kernel_rfl) (ob_int Tryz.underlying3 N) (obf_cons (s := 1) rfl (by kernel_rfl) (ob_int Tryz.underlying3 N) (obf_one (s := 1) rfl (by kernel_rfl) rfl hk)))
    refine hs.map (fun y => .mk y.1 y.2.1 y.2.2) ?_ ?_
    · rintro w cs ⟨k, n, l⟩ ⟨_, _, rfl, ⟨rfl, h1⟩, _, _, rfl, ⟨rfl, h2⟩, a, m, cap, rfl, h3⟩
      exact ⟨a, m, cap, rfl, h1, h2, h3⟩
    · rintro ⟨k, n, l⟩
      show DescV.nodesL l + 1 ≤ 1 + (1 + ((l.map DescV.nodes).sum + 1)) + 1
      rw [DescV.nodesL_sum]
      omega
end Go.Proofs.YtephllgddhncgaaGreatDoor
/- A row of trees that grows: its own block, and those of its trees. -/
namespace Go.Proofs.YtephllgddhncgaaGreatDoor
open Go.RowKit
set_option linter.unusedVariables false
/-- The blocks from B on. -/
abbrev From (B : Nat) : Foot := fun b => B ≤ b
/-- An append onto the call's own row; where the new row lies. -/
theorem wpl_append_at {P : Program} {w : World} {ops : Array Oper} {rest : List Oper} {o : Oper} {a : Act} {Q : Exit → Act → World → Prop} (hgd : o.guard = none) (s x : Operand) (t : TypeId)
    (ho : o.op = .call { callee := .builtin .append, args := #[s, x], argTypes := #[t, t] })
    {base : Nat} {e : TypeId} {size bytes : Nat} (E : Elem P t e size bytes)
    (v : Value) (n : Nat) (xs : List Value) (hs : a.eval s = v) (ad : Addr) (m c : Nat) (news : List Value) (hx : a.eval x = .slice (some ad) m c)
    (hown : w.ownsRow base e size v n xs) (hsrc : Src w (some ad) m c size news)
    (h63 : n + m ≤ maxLen) (hbytes : (n + m) * bytes ≤ 140737488355328) (hbase : base ≤ w.heap.size)
    (h : ∀ v' w', w'.ownsRow base e size v' (n + m) (xs ++ news) → w.grownBy w' v.ownBlock → (v'.ownBlock = v.ownBlock ∨ v'.ownBlock = some w.heap.size) → wpList P ops Q rest (a.put o.dst v') w') : wpList P ops Q (o :: rest) a w := by
  have hw : Region.wanted o (yielded ops a.tmps) = true := by simp [Region.wanted, hgd]
  simp only [wpList, hw, if_true]
  refine .inl ?_
  obtain ⟨z, hi, hzs⟩ := E.row
  obtain ⟨i, hi, hz0, hz1, hz2⟩ := info_parts hi
  obtain ⟨v', w', hr, h2, h3, h4, h5⟩ := run_append_own_at (P := P) w base t o.type e i z size bytes E.ht hi hz0 hz1 hz2 hzs E.pos v n xs hown ad m c news hsrc.len (hsrc.at_ ad rfl) hsrc.one h63 hbytes hbase
  unfold Oper.wp
  simp [execOp, ho, resolve, invoke, builtin, hs, hx, hr, Result.andThen]
  exact h v' w' h2 h3 h5
theorem descElemG : Elem Tryz.prog 40 42 3 40 := ⟨Tryz.underlying40, ⟨.agg #[.int .i64 0, .int .i64 0, .slice none 0 0], by kernel_rfl, rfl⟩, by omega⟩
/-- A row of the call's own, from block B on, that shows trees: these lie from B on too, and none in the row's block. -/
structure Trees (k B : Nat) (w : World) (v : Value) (l : List DescV) (xs : List Value) : Prop where
  row : w.ownsRow B 42 3 v l.length xs
  at_ : ∀ i d, l[i]? = some d → descRd k (fun b => B ≤ b ∧ some b ≠ v.ownBlock) w ((xs.drop (i * 3)).take 3) d
theorem Trees.nil (k B : Nat) (w : World) : Trees k B w (.slice none 0 0) [] [] := ⟨World.ownsRow_nil w _ _ _, fun i d h => by simp at h⟩
theorem Trees.below {k B : Nat} {w w' : World} {v : Value} {l : List DescV} {xs : List Value} (h : Trees k B w v l xs) (hb : Below w.heap.size w w') : Trees k B w' v l xs :=
  ⟨own_below h.row hb, fun i d hi => (descRd_ok k).keep (h.at_ i d hi) (Fix.of_below hb)⟩
theorem Trees.setCell {k B : Nat} {w : World} {v : Value} {l : List DescV} {xs : List Value} (h : Trees k B w v l xs) {a : Addr} (ha : a.block < B) (u : Value) : Trees k B (w.setCell a u) v l xs :=
  ⟨ownsRow_setCell_below h.row ha u, fun i d hi => (descRd_ok k).keep (h.at_ i d hi) (Fix.setCell w a u fun hf => by have := hf.1; omega)⟩
theorem Trees.add {k B : Nat} {w wm w3 : World} {v v' : Value} {l : List DescV} {xs cs : List Value} {d : DescV} (h : Trees k B w v l xs) (hB : B ≤ w.heap.size) (hb : Below w.heap.size w wm) (hd : descRd k (From w.heap.size) wm cs d)
    (ho : w3.ownsRow B 42 3 v' (l.length + 1) (xs ++ cs)) (hg : wm.grownBy w3 v.ownBlock) (hat : v'.ownBlock = v.ownBlock ∨ v'.ownBlock = some wm.heap.size) : Trees k B w3 v' (l ++ [d]) (xs ++ cs) := by
  have hl := h.row.1
  have hc := (descRd_ok k).len hd
  have hv : ∀ b, v.ownBlock = some b → b < w.heap.size := fun b hb => (h.row.lt b hb).2
  have hsz := hb.size
  have fx : Fix (fun b => some b ≠ v.ownBlock) wm w3 := .of_grown hg fun b _ hf => hf
  have nv : ∀ b, b < wm.heap.size → some b ≠ v.ownBlock → some b ≠ v'.ownBlock := fun b hb hn e => by
    rcases hat with h | h
    · exact hn (e.trans h)
    · rw [h] at e; cases e; omega
  refine ⟨by rw [List.length_append]; exact ho, fun i x hi => ?_⟩
  by_cases hlt : i < l.length
  · rw [List.getElem?_append_left hlt] at hi
    have g := (descRd_ok k).mono (G := fun b => (B ≤ b ∧ some b ≠ v.ownBlock) ∧ b < w.heap.size) (h.at_ i x hi) fun b hb hf => ⟨hf, hb⟩
    have g2 := (descRd_ok k).keep ((descRd_ok k).keep g (Fix.of_below hb)) (fx.mono fun b _ hf => hf.1.2)
    have g3 := (descRd_ok k).mono (G := fun b => B ≤ b ∧ some b ≠ v'.ownBlock) g2 fun b _ hf => ⟨hf.1.1, nv b (by omega) hf.1.2⟩
    have e : ((xs ++ cs).drop (i * 3)).take 3 = (xs.drop (i * 3)).take 3 := by
      rw [List.drop_append_of_le_length (by omega), List.take_append_of_le_length (by rw [List.length_drop]; omega)]
    rw [e]
    exact g3
  · rw [List.getElem?_append_right (by omega)] at hi
    have hi0 : i - l.length = 0 := by have := (List.getElem?_eq_some_iff.1 hi).1; simp at this; omega
    rw [hi0] at hi
    obtain rfl : d = x := by simpa using hi
    obtain rfl : i = l.length := by omega
    have hd' := (descRd_ok k).mono (G := fun b => w.heap.size ≤ b ∧ b < wm.heap.size) hd fun b hb hf => ⟨hf, hb⟩
    have g2 := (descRd_ok k).keep hd' (fx.mono fun b _ hf e => by have := hv b e.symm; omega)
    have g3 := (descRd_ok k).mono (G := fun b => B ≤ b ∧ some b ≠ v'.ownBlock) g2 fun b _ hf => ⟨by omega, nv b hf.2 fun e => by have := hv b e.symm; omega⟩
    have e : ((xs ++ cs).drop (l.length * 3)).take 3 = cs := by
      rw [List.drop_append, List.drop_of_length_le (by omega), List.nil_append, hl, Nat.sub_self, List.drop_zero, List.take_of_length_le (by omega)]
    rw [e]
    exact g3
theorem Trees.rowOf {k B : Nat} {w : World} {v : Value} {l : List DescV} {xs : List Value} (h : Trees k B w v l xs) (hroom : l.length * 40 ≤ 140737488351232) : ∃ a cap, v = .slice a l.length cap ∧ RowOf (descRd k) 3 40 (From B) w a l.length cap l :=
  RowOf.of_owns h.row (by omega) rfl hroom (fun b hb => own_lt h.row b hb) fun i x hx => by
    have g := h.at_ i x hx
    exact ⟨(descRd_ok k).len g, (descRd_ok k).mono g fun b _ hf => hf.1⟩
theorem Trees.slice {k B : Nat} {w : World} {v : Value} {l : List DescV} {xs : List Value} (h : Trees k B w v l xs) : ∃ a c, v = .slice a l.length c := by
  rcases h.row.2 with ⟨q1, q2⟩ | ⟨g, cap, cur, q1, _⟩
  · rw [q2]; exact ⟨_, _, q1⟩
  · exact ⟨_, _, q1⟩
theorem RowOf.desc {k : Nat} {F : Foot} {w : World} {a : Option Addr} {n cap : Nat} {l : List DescV} (h : RowOf (descRd (k + 1)) 3 40 F w a n cap l) (i : Nat) (hi : i < l.length) :
    ∃ b off ax nx cx, a = some ⟨b, off, none⟩ ∧ b < w.heap.size ∧ F b ∧ (Lit.int .i64 (l[i]).kind).wf = true ∧ (Lit.int .i64 (l[i]).n).wf = true ∧ RowOf (descRd k) 3 40 F w ax nx cx (l[i]).kids ∧
      w.cell? ⟨b, off + i * 3, none⟩ = some (.int .i64 (l[i]).kind) ∧ w.cell? ⟨b, off + i * 3 + 1, none⟩ = some (.int .i64 (l[i]).n) ∧ w.cell? ⟨b, off + i * 3 + 2, none⟩ = some (.slice ax nx cx) := by
  obtain ⟨b, off, cs, h1, h2, hf, _, h4, ax, nx, cx, rfl, g1, g2, g3⟩ := h.at_ i _ (List.getElem?_eq_getElem hi)
  exact ⟨b, off, ax, nx, cx, h1, h2, hf, g1, g2, g3, h4 0 _ rfl, h4 1 _ rfl, h4 2 _ rfl⟩
theorem row_no_zero {F : Foot} {w : World} {a : Option Addr} {n cap : Nat} {l : List DescV} (h : RowOf (descRd 0) 3 40 F w a n cap l) : l = [] := by
  cases l with
  | nil => rfl
  | cons d l =>
    obtain ⟨_, _, _, _, _, _, _, _, h5⟩ := h.at_ 0 d rfl
    exact h5.elim
theorem one3 {k n : Int} {a : Option Addr} {m c : Nat} : ∀ u ∈ [Value.int .i64 k, .int .i64 n, .slice a m c], u.oneCell' = true := by
  intro u hu
  simp only [List.mem_cons, List.not_mem_nil, or_false] at hu
  rcases hu with rfl | rfl | rfl <;> rfl
theorem src_new3 {w : World} (news : List Value) (e : TypeId) (n : Nat) (h : news.length = n) (h1 : ∀ u ∈ news, u.oneCell' = true) : Src (w.alloc (.cells news.toArray e)) (some ⟨w.heap.size, 0, none⟩) 1 1 n news := by
  refine ⟨by omega, by simp, fun x hx j u hu => ?_, h1⟩
  cases hx
  rw [Addr.add_lit]
  refine cell_at (heap_alloc_new w _) ?_
  simpa using hu
/-- An append in a region that draws its order; where the new row lies. -/
theorem step_appT {P : Program} {w : World} {ops : Array Oper} {o : Oper} {a : Act} {K : Act → World → Prop} {Q : Exit → Act → World → Prop} {E0 : Prop} (hgd : o.guard = none) (s x : Operand) (t : TypeId)
    (ho : o.op = .call { callee := .builtin .append, args := #[s, x], argTypes := #[t, t] })
    {base : Nat} {e : TypeId} {size bytes : Nat} (E : Elem P t e size bytes)
    (v : Value) (n : Nat) (xs : List Value) (hs : a.eval s = v) (ad : Addr) (m c : Nat) (news : List Value) (hx : a.eval x = .slice (some ad) m c)
    (hown : w.ownsRow base e size v n xs) (hsrc : Src w (some ad) m c size news)
    (h63 : n + m ≤ maxLen) (hbytes : (n + m) * bytes ≤ 140737488355328) (hbase : base ≤ w.heap.size)
    (h : ∀ v' w', w'.ownsRow base e size v' (n + m) (xs ++ news) → w.grownBy w' v.ownBlock → (v'.ownBlock = v.ownBlock ∨ v'.ownBlock = some w.heap.size) → K (a.put o.dst v') w') :
    if Region.wanted o (yielded ops a.tmps) = true then Oper.wp P o a w K Q else E0 := by
  have hw : Region.wanted o (yielded ops a.tmps) = true := by simp [Region.wanted, hgd]
  rw [if_pos hw]
  obtain ⟨z, hi, hzs⟩ := E.row
  obtain ⟨i, hi, hz0, hz1, hz2⟩ := info_parts hi
  obtain ⟨v', w', hr, h2, h3, h4, h5⟩ := run_append_own_at (P := P) w base t o.type e i z size bytes E.ht hi hz0 hz1 hz2 hzs E.pos v n xs hown ad m c news hsrc.len (hsrc.at_ ad rfl) hsrc.one h63 hbytes hbase
  unfold Oper.wp
  simp [execOp, ho, resolve, invoke, builtin, hs, hx, hr, Result.andThen]
  exact h v' w' h2 h3 h5
end Go.Proofs.YtephllgddhncgaaGreatDoor
/- The nodes of a tree, counted by the reference. -/
namespace Go.Proofs.YtephllgddhncgaaGreatDoor
open Go.RowKit
set_option linter.unusedSimpArgs false
set_option linter.unusedVariables false
theorem own_down {w : World} {B B' : Nat} {e : TypeId} {size : Nat} {v : Value} {n : Nat} {xs : List Value} (h : w.ownsRow B e size v n xs) (hb : B' ≤ B) : w.ownsRow B' e size v n xs := by
  refine ⟨h.1, ?_⟩
  rcases h.2 with hn | ⟨g, cap, cur, rfl, hbg, rest⟩
  · exact .inl hn
  · exact .inr ⟨g, cap, cur, rfl, Nat.le_trans hb hbg, rest⟩
theorem own_src {w : World} {B : Nat} {e : TypeId} {size : Nat} {a : Option Addr} {n cap : Nat} {xs : List Value} (h : w.ownsRow B e size (.slice a n cap) n xs) (h1 : ∀ u ∈ xs, u.oneCell' = true) : Src w a n cap size xs := by
  rcases h.2 with ⟨hv, hx⟩ | ⟨g, cap', cur, hv, hb, hg, hn, hm, hs, ht⟩
  · cases hv
    exact ⟨h.1, fun _ => ⟨rfl, rfl⟩, fun x hx => by simp at hx, h1⟩
  · cases hv
    refine ⟨h.1, by simp, fun x hx j u hu => ?_, h1⟩
    cases hx
    exact h.cells (g := g) rfl _ u hu
theorem own_val {w : World} {base : Nat} {e : TypeId} {size n : Nat} {v : Value} {xs : List Value} (h : w.ownsRow base e size v n xs) : ∃ a c, v = .slice a n c := by
  rcases h.2 with ⟨rfl, rfl⟩ | ⟨g, cap, cur, rfl, _⟩
  · exact ⟨_, _, rfl⟩
  · exact ⟨_, _, rfl⟩
theorem descElem : Elem Tryz.prog 40 42 3 40 := ⟨Tryz.underlying40, ⟨.agg #[.int .i64 0, .int .i64 0, .slice none 0 0], by kernel_rfl, rfl⟩, by omega⟩
/-- The kinds and sizes of nodes, in order, in a row's cells. -/
def Heads : List Value → List (Int × Int) → Prop
  | xs, [] => xs = []
  | xs, p :: ps => ∃ a n c r, xs = .int .i64 p.1 :: .int .i64 p.2 :: .slice a n c :: r ∧ Heads r ps
theorem Heads.append : ∀ {xs ys : List Value} {ps qs : List (Int × Int)}, Heads xs ps → Heads ys qs → Heads (xs ++ ys) (ps ++ qs)
  | xs, ys, [], qs, h, k => by rw [show xs = [] from h]; exact k
  | xs, ys, p :: ps, qs, ⟨a, n, c, r, e, h⟩, k => ⟨a, n, c, r ++ ys, by rw [e]; rfl, h.append k⟩
theorem Heads.get : ∀ {xs : List Value} {ps : List (Int × Int)} {i : Nat} {p : Int × Int}, Heads xs ps → ps[i]? = some p → xs[i * 3]? = some (.int .i64 p.1) ∧ xs[i * 3 + 1]? = some (.int .i64 p.2)
  | xs, [], i, p, _, h => by simp at h
  | xs, q :: ps, 0, p, ⟨a, n, c, r, e, hr⟩, h => by
    obtain rfl : q = p := by simpa using h
    subst e
    exact ⟨rfl, rfl⟩
  | xs, q :: ps, i + 1, p, ⟨a, n, c, r, e, hr⟩, h => by
    subst e
    have := hr.get (i := i) (p := p) (by simpa using h)
    rw [Nat.add_mul]
    exact this
namespace DescV
mutual
def heads : DescV → List (Int × Int) | .mk k n l => (k, n) :: headsL l
def headsL : List DescV → List (Int × Int) | [] => [] | d :: l => d.heads ++ headsL l
end
mutual
theorem heads_len : ∀ d : DescV, d.heads.length = d.nodes
  | .mk _ _ l => by rw [heads, nodes, List.length_cons, headsL_len l]
theorem headsL_len : ∀ l : List DescV, (headsL l).length = nodesL l
  | [] => rfl
  | d :: l => by rw [headsL, nodesL, List.length_append, heads_len d, headsL_len l]
end
theorem headsL_snoc (l : List DescV) (d : DescV) : headsL (l ++ [d]) = headsL l ++ d.heads := by
  induction l with
  | nil => simp [headsL]
  | cons a l ih => rw [List.cons_append, headsL, ih, headsL, List.append_assoc]
end DescV
def ListPost (m : Nat) (ps : List (Int × Int)) (w : World) (e : Ending) (w' : World) : Prop := ∃ a cap xs, e = .returned (.slice a m cap) ∧ w'.ownsRow w.heap.size 42 3 (.slice a m cap) m xs ∧ (∀ u ∈ xs, u.oneCell' = true) ∧ Heads xs ps ∧ Below w.heap.size w w'
set_option maxRecDepth 100000 in
set_option maxHeartbeats 4000000 in
theorem list_step (k : Nat) (ih : ∀ j, k = j + 1 → ∀ (F : Foot) (kd nd : Int) (l : List DescV) (a : Option Addr) (n cap : Nat) (w : World), RowOf (descRd j) 3 40 F w a n cap l → DescV.nodesL l < 1048576 →
    Calls Tryz.prog 34 #[.agg #[.int .i64 kd, .int .i64 nd, .slice a n cap]] w (ListPost (1 + DescV.nodesL l) ((kd, nd) :: DescV.headsL l) w)) (F : Foot) (kd nd : Int) (l : List DescV) (a : Option Addr) (n cap : Nat) (w : World) (hl : RowOf (descRd k) 3 40 F w a n cap l) (hm : DescV.nodesL l < 1048576) :
    Calls Tryz.prog 34 #[.agg #[.int .i64 kd, .int .i64 nd, .slice a n cap]] w (ListPost (1 + DescV.nodesL l) ((kd, nd) :: DescV.headsL l) w) := by
  have HL := Lib.hid hl.len
  have hn := hl.room
  have HM := Lib.hid hm
  have HIH := Lib.hid ih
  obtain ⟨W0, hW0⟩ : ∃ W0, W0 = w.alloc (.cells #[.int .i64 kd, .int .i64 nd, .slice a n cap] 42) := ⟨_, rfl⟩
  obtain ⟨W1, hW1⟩ : ∃ W1, W1 = W0.alloc (.cells #[.int .i64 kd, .int .i64 nd, .slice a n cap] 42) := ⟨_, rfl⟩
  have hb0 : Below w.heap.size w W0 := by rw [hW0]; exact (Below.refl _ _).alloc (Nat.le_refl _) _
  have hz0 : W0.heap.size = w.heap.size + 1 := by rw [hW0]; simp
  have hb1 : Below W0.heap.size W0 W1 := by rw [hW1]; exact (Below.refl _ _).alloc (Nat.le_refl _) _
  have g0 : W0.heap[w.heap.size]? = some (.cells #[.int .i64 kd, .int .i64 nd, .slice a n cap] 42 (0, 0)) := by rw [hW0]; exact heap_alloc_new w _
  have t2 := cell_at (o := 2) g0 rfl
  have HT2 := Lib.hid t2
  have ho1 : W1.ownsRow W0.heap.size 42 3 (.slice (some ⟨W0.heap.size, 0, none⟩) 1 1) 1 [.int .i64 kd, .int .i64 nd, .slice a n cap] := by
    rw [hW1]
    exact ⟨rfl, .inr ⟨W0.heap.size, 1, _, rfl, Nat.le_refl _, heap_alloc_new W0 _, Nat.le_refl _, by unfold maxLen; omega, rfl, rfl⟩⟩
  have HO1 := Lib.hid ho1
  have HL0 := Lib.hid (hl.keep (descRd_ok _) (Fix.of_below hb0))
  have HB0 := Lib.hid hb0
  have HB1 := Lib.hid hb1
  have HZ := Lib.hid hz0
  clear hl hm ih hb0 hb1 g0 ho1
  go_enter Tryz.func34, Tryz.ntmps34
  go_wp2_with fail
  rw [← hW0, ← hz0, ← hW1]
  clear hW0 hW1 hz0
  go_loopg [3, 4] n (fun g v iv wr => ∃ i : Nat, i ≤ n ∧ g = n - i ∧ iv = .int .i64 i ∧ (∃ xs, wr.ownsRow W0.heap.size 42 3 v (1 + DescV.nodesL (l.take i)) xs ∧ (∀ u ∈ xs, u.oneCell' = true) ∧ Heads xs ((kd, nd) :: DescV.headsL (l.take i))) ∧ Below W0.heap.size W0 wr)
  case atStart => exact ⟨0, by omega, rfl, rfl, ⟨_, HO1.out, one3, ⟨_, _, _, [], rfl, rfl⟩⟩, HB1.out⟩
  case round =>
    obtain ⟨i, hi, rfl, rfl, ⟨xs, ho, hone, hhd⟩, hB⟩ := hrel
    obtain ⟨wo, rfl⟩ : ∃ wo : World, wo = wr := ⟨_, rfl⟩
    obtain ⟨av, cv, rfl⟩ := own_val ho
    have HO := Lib.hid ho
    have HONE := Lib.hid hone
    have HHD := Lib.hid hhd
    have HBo := Lib.hid hB
    have b2 : wo.cell? ⟨w.heap.size, 2, none⟩ = _ := (hB.cell (p := ⟨w.heap.size, 2, none⟩) (by have := HZ.out; show w.heap.size < _; omega)).trans HT2.out
    clear ho hone hB t2 hhd
    by_cases hlt : i < n
    · obtain ⟨k, rfl⟩ : ∃ j, k = j + 1 := by
        cases k with
        | zero => exact absurd (row_no_zero HL0.out) (fun e => by have := HL.out; rw [e] at this; simp at this; omega)
        | succ j => exact ⟨j, rfl⟩
      obtain ⟨b, off, ax, nx, cx, rfl, hbw, _, _, _, hk, p0, p1, p2⟩ := (HL0.out.keep (descRd_ok _) (Fix.of_below HBo.out)).desc i (by have := HL.out; omega)
      have HTK := Lib.hid (List.take_succ_eq_append_getElem (l := l) (i := i) (by have := HL.out; omega))
      have HSUM := Lib.hid (DescV.nodesL_take_succ (l := l) (i := i) (by have := HL.out; omega))
      have HLE := Lib.hid (DescV.nodesL_take_le l (i + 1))
      have HNK := Lib.hid (DescV.nodes_kids (l[i]'(by have := HL.out; omega)))
      generalize l[i]'_ = d at *
      obtain ⟨dk, dn, dl⟩ := d
      simp only [DescV.kind, DescV.n, DescV.kids] at p0 p1 p2 hk
      have HNK' : Hid ((DescV.mk dk dn dl).nodes = DescV.nodesL dl + 1) := HNK
      have HK := Lib.hid hk
      clear hk
      go_wp2_with fail
      refine (HIH.out k rfl F dk dn dl ax nx cx _ HK.out (by have := HM.out; have := HSUM.out; have := HLE.out; have := HNK'.out; omega)).mono ?_
      rintro e w2 ⟨a2, c2, xs2, rfl, ho2, hone2, hhd2, hb2⟩
      have HO2 := Lib.hid ho2
      have HONE2 := Lib.hid hone2
      have HHD2 := Lib.hid hhd2
      have HB2 := Lib.hid hb2
      clear ho2 hone2 hb2 hhd2
      go_wp2_with (at_builtin; refine wpl_append rfl _ _ 40 rfl descElem _ _ _ rfl _ _ _ _ rfl (own_below HO.out HB2.out) (own_src HO2.out HONE2.out) (by unfold maxLen; have := HM.out; have := HSUM.out; have := HLE.out; have := HNK'.out; omega) (by have := HM.out; have := HSUM.out; have := HLE.out; have := HNK'.out; omega) (by have := HBo.out.size; have := HB2.out.size; omega) ?_; intro v' w3 ho3 hg3 _)
      have HB3 : Hid (Below W0.heap.size W0 w3) := Lib.hid ((HBo.out.trans (HB2.out.mono HBo.out.size)).grown hg3 (by have := HBo.out.size; have := HB2.out.size; omega) (fun q hq => own_lt HO.out q hq))
      have HO3 := Lib.hid ho3
      clear ho3 hg3
      go_wp2_with fail
      go_roundg (n - (i + 1))
      case measure => omega
      case rel =>
        refine ⟨i + 1, by omega, rfl, by go_num, ⟨xs ++ xs2, ?_, ?_, ?_⟩, HB3.out⟩
        · have h3 := HO3.out
          rw [show 1 + DescV.nodesL (l.take i) + (1 + DescV.nodesL dl) = 1 + DescV.nodesL (l.take (i + 1)) by rw [HSUM.out, HNK'.out]; omega] at h3
          exact h3
        · intro u hu
          rcases List.mem_append.1 hu with hu | hu
          · exact HONE.out u hu
          · exact HONE2.out u hu
        · rw [HTK.out, DescV.headsL_snoc, ← List.cons_append]
          exact HHD.out.append HHD2.out
    · obtain rfl : i = n := by omega
      rw [List.take_of_length_le (by have := HL.out; omega)] at HO HHD ⊢
      clear b2
      have b2 : wo.cell? ⟨w.heap.size, 2, none⟩ = _ := (HBo.out.cell (p := ⟨w.heap.size, 2, none⟩) (by have := HZ.out; show w.heap.size < _; omega)).trans HT2.out
      go_wp2_with fail
      go_ret
      exact ⟨_, _, _, rfl, own_down HO.out HB0.out.size, HONE.out, HHD.out, HB0.out.trans (HBo.out.mono HB0.out.size)⟩
theorem list_any : ∀ (k : Nat) (F : Foot) (kd nd : Int) (l : List DescV) (a : Option Addr) (n cap : Nat) (w : World), RowOf (descRd k) 3 40 F w a n cap l → DescV.nodesL l < 1048576 →
    Calls Tryz.prog 34 #[.agg #[.int .i64 kd, .int .i64 nd, .slice a n cap]] w (ListPost (1 + DescV.nodesL l) ((kd, nd) :: DescV.headsL l) w)
  | 0 => list_step 0 fun j h => by omega
  | k + 1 => list_step (k + 1) fun j h => by
    obtain rfl : k = j := by omega
    exact list_any k
set_option maxRecDepth 100000 in
set_option maxHeartbeats 1000000 in
/-- More nodes than statements ask? -/
theorem much_any (k : Nat) (F : Foot) (kd nd : Int) (l : List DescV) (a : Option Addr) (n cap : Nat) (w : World) (hl : RowOf (descRd k) 3 40 F w a n cap l) (hm : DescV.nodesL l < 1048576) :
    Calls Tryz.prog 15 #[.agg #[.int .i64 kd, .int .i64 nd, .slice a n cap]] w fun e w' => e = .returned (.bool (decide (80 < (DescV.mk kd nd l).nodes))) ∧ Below w.heap.size w w' := by
  have hb : Below w.heap.size w (w.alloc (.cells #[.int .i64 kd, .int .i64 nd, .slice a n cap] 42)) := (Below.refl _ _).alloc (Nat.le_refl _) _
  have HL := Lib.hid (hl.keep (descRd_ok _) (Fix.of_below hb))
  have HB := Lib.hid hb
  have HM := Lib.hid hm
  have HN : Hid ((DescV.mk kd nd l).nodes = DescV.nodesL l + 1) := Lib.hid (DescV.nodes_kids _)
  clear hl hb hm
  by_cases hg : 79 < DescV.nodesL l
  · have HT : Hid (decide (80 < (DescV.mk kd nd l).nodes) = true) := Lib.hid (by simp only [decide_eq_true_eq]; have := HN.out; omega)
    go_enter Tryz.func15, Tryz.ntmps15
    go_wp2_with (go_at_call 34; (with_reducible refine (list_any k F kd nd l a n cap _ HL.out HM.out).mono ?_); rintro e w2 ⟨a2, c2, xs2, rfl, _, _, _, hb2⟩; have HB2 := Lib.hid (HB.out.trans (hb2.mono HB.out.size)); clear hb2; have hgt : (80 : Int) < ((1 + DescV.nodesL l : Nat) : Int) := (by omega); have hgt' : 80 < 1 + DescV.nodesL l := (by omega))
    go_ret
    exact ⟨by rw [HT.out]; simp; omega, HB2.out⟩
  · have HT : Hid (decide (80 < (DescV.mk kd nd l).nodes) = false) := Lib.hid (by simp only [decide_eq_false_iff_not]; have := HN.out; omega)
    go_enter Tryz.func15, Tryz.ntmps15
    go_wp2_with (go_at_call 34; (with_reducible refine (list_any k F kd nd l a n cap _ HL.out HM.out).mono ?_); rintro e w2 ⟨a2, c2, xs2, rfl, _, _, _, hb2⟩; have HB2 := Lib.hid (HB.out.trans (hb2.mono HB.out.size)); clear hb2; have hgt : ¬ (80 : Int) < ((1 + DescV.nodesL l : Nat) : Int) := (by omega); have hgt' : ¬ 80 < 1 + DescV.nodesL l := (by omega))
    go_ret
    exact ⟨by rw [HT.out]; simp; omega, HB2.out⟩
end Go.Proofs.YtephllgddhncgaaGreatDoor
