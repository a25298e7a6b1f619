/- A line taken: (*reader).take. -/
import Derived.Test.YtplhmcmfdcklaaaDoorRead
namespace Go.Proofs.YtplhmcmfdcklaaaDoor.Lex
open Go.RowKit
set_option linter.unusedSimpArgs false
set_option linter.unusedVariables false
/-- A script. -/
structure ScrV where
  stripes : Int
  room : Int
  clients : List (List CallV)
  picks : List Int
  ticks : List Int
/-- Ints in blocks of their own kind. -/
def IntT (w : World) (a : Option Addr) (xs : List Int) : Prop := ∀ i (h : i < xs.length), ∃ g off cs f, a = some ⟨g, off, none⟩ ∧ w.heap[g]? = some (.cells cs 3 f) ∧ cs[off + i]? = some (.int .i64 (xs[i]'h)) ∧ -9223372036854775808 ≤ xs[i]'h ∧ xs[i]'h ≤ 9223372036854775807
/-- A slice value of ints. -/
def IntV (w : World) (v : Value) (xs : List Int) : Prop := ∃ a c, v = .slice a xs.length c ∧ IntT w a xs ∧ xs.length ≤ c ∧ (a = none → c = 0)
/-- Calls in blocks of their own kind, below B. -/
def CallT (w : World) (B : Nat) (a : Option Addr) (l : List CallV) : Prop := ∀ k (h : k < l.length), ∃ g off cs f ax cx, a = some ⟨g, off, none⟩ ∧ g < B ∧ w.heap[g]? = some (.cells cs 28 f) ∧
  cs[off + k * 7]? = some (.int .i64 (l[k]'h).kind) ∧ cs[off + k * 7 + 1]? = some (.int .i64 (l[k]'h).n) ∧ cs[off + k * 7 + 2]? = some (.int .i64 (l[k]'h).dir) ∧ cs[off + k * 7 + 3]? = some (.string (l[k]'h).text) ∧
  cs[off + k * 7 + 4]? = some (.int .i64 (l[k]'h).who) ∧ cs[off + k * 7 + 5]? = some (.int .i64 (l[k]'h).at_) ∧ cs[off + k * 7 + 6]? = some (.slice ax (l[k]'h).xs.length cx) ∧ U64T w ax (l[k]'h).xs ∧ (l[k]'h).xs.length ≤ cx ∧ (ax = none → cx = 0)
/-- Blocks of numbers and of calls below B, and others than these, may be told from the frame: what keeps a reading. -/
structure Kept (B : Nat) (w w' : World) : Prop where
  int : ∀ (g : Nat) (cs : Array Value) (f : Nat × Nat), w.heap[g]? = some (.cells cs 3 f) → w'.heap[g]? = w.heap[g]?
  u64 : ∀ (g : Nat) (cs : Array Value) (f : Nat × Nat), w.heap[g]? = some (.cells cs 57 f) → w'.heap[g]? = w.heap[g]?
  call : ∀ (g : Nat) (cs : Array Value) (f : Nat × Nat), g < B → w.heap[g]? = some (.cells cs 28 f) → w'.heap[g]? = w.heap[g]?
theorem IntT.keep {B : Nat} {w w' : World} {a : Option Addr} {xs : List Int} (h : IntT w a xs) (hk : Kept B w w') : IntT w' a xs := fun i hi => by
  obtain ⟨g, off, cs, f, h1, h2, h3⟩ := h i hi
  exact ⟨g, off, cs, f, h1, (hk.int g cs f h2).trans h2, h3⟩
theorem IntV.keep {B : Nat} {w w' : World} {v : Value} {xs : List Int} (h : IntV w v xs) (hk : Kept B w w') : IntV w' v xs := by
  obtain ⟨a, c, h1, h2, h3⟩ := h
  exact ⟨a, c, h1, h2.keep hk, h3⟩
theorem U64T.kept {B : Nat} {w w' : World} {a : Option Addr} {xs : List Nat} (h : U64T w a xs) (hk : Kept B w w') : U64T w' a xs := fun i hi => by
  obtain ⟨g, off, cs, f, h1, h2, h3⟩ := h i hi
  exact ⟨g, off, cs, f, h1, (hk.u64 g cs f h2).trans h2, h3⟩
theorem CallT.keep {B : Nat} {w w' : World} {a : Option Addr} {l : List CallV} (h : CallT w B a l) (hk : Kept B w w') : CallT w' B a l := fun i hi => by
  obtain ⟨g, off, cs, f, ax, cx, h1, hb, h2, c0, c1, c2, c3, c4, c5, c6, hx, h3⟩ := h i hi
  exact ⟨g, off, cs, f, ax, cx, h1, hb, (hk.call g cs f hb h2).trans h2, c0, c1, c2, c3, c4, c5, c6, hx.kept hk, h3⟩
theorem Kept.of_below {B : Nat} {w w' : World} (h : Below w.heap.size w w') : Kept B w w' :=
  ⟨fun g cs f hg => h.block g (Array.getElem?_eq_some_iff.1 hg).1, fun g cs f hg => h.block g (Array.getElem?_eq_some_iff.1 hg).1, fun g cs f _ hg => h.block g (Array.getElem?_eq_some_iff.1 hg).1⟩
theorem Kept.trans {B : Nat} {a b c : World} (h : Kept B a b) (k : Kept B b c) : Kept B a c :=
  ⟨fun g cs f hg => (k.int g cs f ((h.int g cs f hg).trans hg)).trans (h.int g cs f hg), fun g cs f hg => (k.u64 g cs f ((h.u64 g cs f hg).trans hg)).trans (h.u64 g cs f hg), fun g cs f hb hg => (k.call g cs f hb ((h.call g cs f hb hg).trans hg)).trans (h.call g cs f hb hg)⟩
/-- A cell of a block of another kind is set. -/
theorem Kept.setCell {B : Nat} {w : World} {b o : Nat} {v : Value} {cs : Array Value} {T : TypeId} {f : Nat × Nat} (h : w.heap[b]? = some (.cells cs T f)) (h1 : T ≠ 3) (h2 : T ≠ 57) (h3 : T = 28 → B ≤ b) : Kept B w (w.setCell ⟨b, o, none⟩ v) := by
  have ne : ∀ (g : Nat) (cs' : Array Value) (T' : TypeId) (f' : Nat × Nat), w.heap[g]? = some (.cells cs' T' f') → (T' ≠ T ∨ g < b) → (w.setCell ⟨b, o, none⟩ v).heap[g]? = w.heap[g]? := fun g cs' T' f' hg hT => Below.heap_setCell _ _ _ _ (by
    show g ≠ b
    intro e
    subst e
    rw [hg] at h
    cases h
    rcases hT with hT | hT
    · exact hT rfl
    · omega)
  refine ⟨fun g cs' f' hg => ne g cs' _ f' hg (.inl h1.symm), fun g cs' f' hg => ne g cs' _ f' hg (.inl h2.symm), fun g cs' f' hb hg => ne g cs' _ f' hg ?_⟩
  by_cases hT : T = 28
  · have := h3 hT
    exact .inr (by omega)
  · exact .inl fun e => hT e.symm
/-- All blocks that were there are as they were, but for one. -/
structure ButR (R : Nat) (w w' : World) : Prop where
  size : w.heap.size ≤ w'.heap.size
  same : ∀ g, g < w.heap.size → g ≠ R → w'.heap[g]? = w.heap[g]?
theorem ButR.of_below {R : Nat} {w w' : World} (h : Below w.heap.size w w') : ButR R w w' := ⟨h.size, fun g hg _ => h.block g hg⟩
theorem ButR.trans {R : Nat} {a b c : World} (h : ButR R a b) (k : ButR R b c) : ButR R a c := ⟨Nat.le_trans h.size k.size, fun g hg hr => (k.same g (Nat.lt_of_lt_of_le hg h.size) hr).trans (h.same g hg hr)⟩
theorem ButR.set (R o : Nat) (w : World) (v : Value) : ButR R w (w.setCell ⟨R, o, none⟩ v) := ⟨by simp, fun g _ hr => Below.heap_setCell _ _ _ _ hr⟩
theorem ButR.kept {R B : Nat} {w w' : World} {cs : Array Value} {f : Nat × Nat} (h : ButR R w w') (hR : w.heap[R]? = some (.cells cs 74 f)) : Kept B w w' := by
  have ne : ∀ (g : Nat) (cs' : Array Value) (T' : TypeId) (f' : Nat × Nat), w.heap[g]? = some (.cells cs' T' f') → T' ≠ 74 → w'.heap[g]? = w.heap[g]? := fun g cs' T' f' hg hT => h.same g (Array.getElem?_eq_some_iff.1 hg).1 (fun e => by
    subst e
    rw [hg] at hR
    cases hR
    exact hT rfl)
  exact ⟨fun g cs f hg => ne g cs _ f hg (by decide), fun g cs f hg => ne g cs _ f hg (by decide), fun g cs f _ hg => ne g cs _ f hg (by decide)⟩
theorem ButR.own {R base : Nat} {w w' : World} {e : TypeId} {size n : Nat} {v : Value} {xs : List Value} (h : ButR R w w') (hb : R < base) (ho : w.ownsRow base e size v n xs) : w'.ownsRow base e size v n xs := by
  refine ⟨ho.1, ?_⟩
  rcases ho.2 with hn | ⟨g, cap, cur, rfl, hbg, hg, rest⟩
  · exact .inl hn
  · exact .inr ⟨g, cap, cur, rfl, hbg, by rw [h.same g (Array.getElem?_eq_some_iff.1 hg).1 (by omega)]; exact hg, rest⟩
/-- The rows of the clients in memory: L; the outer row and the last one are the call's own. -/
def RC (w : World) (R : Nat) (vC : Value) (L : List (List CallV)) : Prop :=
  ∃ cells B, R < B ∧ B ≤ w.heap.size ∧ w.ownsRow (R + 1) 55 1 vC L.length cells ∧
    (∀ (i : Nat) (h : i < L.length), i + 1 < L.length → ∃ a c, cells[i]? = some (.slice a (L[i]'h).length c) ∧ CallT w B a (L[i]'h)) ∧
    (∀ (h : 0 < L.length), ∃ a c cs, cells[L.length - 1]? = some (.slice a (L[L.length - 1]'(by omega)).length c) ∧ w.ownsRow B 28 7 (.slice a (L[L.length - 1]'(by omega)).length c) (L[L.length - 1]'(by omega)).length cs ∧
      CallT w w.heap.size a (L[L.length - 1]'(by omega)))
theorem CallT.mono {w : World} {B B' : Nat} {a : Option Addr} {l : List CallV} (h : CallT w B a l) (hb : B ≤ B') : CallT w B' a l := fun i hi => by
  obtain ⟨g, off, cs, f, ax, cx, h1, h2, h3⟩ := h i hi
  exact ⟨g, off, cs, f, ax, cx, h1, Nat.lt_of_lt_of_le h2 hb, h3⟩
theorem RC.nil (w : World) (R : Nat) (h : R < w.heap.size) : RC w R (.slice none 0 0) [] :=
  ⟨[], w.heap.size, h, Nat.le_refl _, World.ownsRow_nil _ _ _ _, fun i h => by simp at h, fun h => by simp at h⟩
theorem RC.but {R : Nat} {w w' : World} {vC : Value} {L : List (List CallV)} {cs : Array Value} {f : Nat × Nat} (h : RC w R vC L) (hb : ButR R w w') (hR : w.heap[R]? = some (.cells cs 74 f)) : RC w' R vC L := by
  obtain ⟨cells, B, h1, h2, h3, h4, h5⟩ := h
  refine ⟨cells, B, h1, Nat.le_trans h2 hb.size, hb.own (by omega) h3, fun i hi hl => ?_, fun hi => ?_⟩
  · obtain ⟨a, c, e1, e2⟩ := h4 i hi hl
    exact ⟨a, c, e1, e2.keep (hb.kept hR)⟩
  · obtain ⟨a, c, cs, e1, e2, e3⟩ := h5 hi
    exact ⟨a, c, cs, e1, hb.own h1 e2, (e3.keep (hb.kept hR)).mono hb.size⟩
/-- The reader in memory: k lines taken, S the script so far; its block is the first behind W1. -/
structure RS (W1 w : World) (k : Nat) (S : ScrV) : Prop where
  below : Below W1.heap.size W1 w
  box : ∃ vC vP vT, w.heap[W1.heap.size]? = some (.cells #[.int .i64 S.stripes, .int .i64 S.room, vC, vP, vT, .int .i64 (k : Int)] 74 (0, 0)) ∧ IntV w vP S.picks ∧ IntV w vT S.ticks ∧ RC w W1.heap.size vC S.clients
/-- The reader of a line at fault. -/
structure RF (W1 w : World) (k : Nat) : Prop where
  below : Below W1.heap.size W1 w
  box : ∃ c, w.heap[W1.heap.size]? = some (.cells c 74 (0, 0)) ∧ c[5]? = some (.int .i64 (k : Int))
theorem Txt.but {R : Nat} {w w' : World} {a : Option Addr} {ws : List (List UInt8)} (h : Txt w a ws) (hb : ButR R w w') (ha : ∀ g off, a = some ⟨g, off, none⟩ → g ≠ R) : Txt w' a ws := fun i hi => by
  obtain ⟨g, off, h1, h2, h3⟩ := h i hi
  exact ⟨g, off, h1, Nat.lt_of_lt_of_le h2 hb.size, (World.cell?_of_block (a := ⟨g, off + i, none⟩) (hb.same g h2 (ha g off h1))).trans h3⟩
theorem RS.but {W1 w w' : World} {k : Nat} {S : ScrV} (h : RS W1 w k S) (hb : ButR W1.heap.size w w') (hB : Below W1.heap.size W1 w') {k' : Nat} {st rm : Int} {p t : List Int}
    (hbox : ∀ vC vP vT, w.heap[W1.heap.size]? = some (.cells #[.int .i64 S.stripes, .int .i64 S.room, vC, vP, vT, .int .i64 (k : Int)] 74 (0, 0)) → IntV w vP S.picks → IntV w vT S.ticks → ∃ vP' vT', w'.heap[W1.heap.size]? = some (.cells #[.int .i64 st, .int .i64 rm, vC, vP', vT', .int .i64 (k' : Int)] 74 (0, 0)) ∧ IntV w vP' p ∧ IntV w vT' t) :
    RS W1 w' k' { stripes := st, room := rm, clients := S.clients, picks := p, ticks := t } := by
  obtain ⟨_, vC, vP, vT, h1, h2, h3, h4⟩ := h
  obtain ⟨vP', vT', e1, e2, e3⟩ := hbox vC vP vT h1 h2 h3
  have hk : Kept w.heap.size w w' := hb.kept h1
  exact ⟨hB, vC, vP', vT', e1, e2.keep hk, e3.keep hk, h4.but hb h1⟩
theorem RS.to {W1 w w' : World} {k : Nat} {S : ScrV} (h : RS W1 w k S) (hb : Below w.heap.size w w') : RS W1 w' k S :=
  h.but (ButR.of_below hb) (h.below.trans (hb.mono h.below.size)) fun vC vP vT h1 h2 h3 => ⟨vP, vT, (hb.block _ (Array.getElem?_eq_some_iff.1 h1).1).trans h1, h2, h3⟩
theorem RS.set01 {W1 w : World} {k : Nat} {S : ScrV} (h : RS W1 w k S) (x y : Int) : RS W1 ((w.setCell ⟨W1.heap.size, 0, none⟩ (.int .i64 x)).setCell ⟨W1.heap.size, 1, none⟩ (.int .i64 y)) k { S with stripes := x, room := y } :=
  h.but ((ButR.set _ _ _ _).trans (ButR.set _ _ _ _)) ((h.below.setCell (Nat.le_refl _) _).setCell (Nat.le_refl _) _) fun vC vP vT h1 h2 h3 => ⟨vP, vT, heap_set_at (o := 1) (.int .i64 y) (heap_set_at (o := 0) (.int .i64 x) h1), h2, h3⟩
theorem RS.set3 {W1 w : World} {k : Nat} {S : ScrV} (h : RS W1 w k S) (v : Value) (l : List Int) (hv : IntV w v l) : RS W1 (w.setCell ⟨W1.heap.size, 3, none⟩ v) k { S with picks := l } :=
  h.but (ButR.set _ _ _ _) (h.below.setCell (Nat.le_refl _) _) fun vC vP vT h1 h2 h3 => ⟨v, vT, heap_set_at (o := 3) v h1, hv, h3⟩
theorem RS.set4 {W1 w : World} {k : Nat} {S : ScrV} (h : RS W1 w k S) (v : Value) (l : List Int) (hv : IntV w v l) : RS W1 (w.setCell ⟨W1.heap.size, 4, none⟩ v) k { S with ticks := l } :=
  h.but (ButR.set _ _ _ _) (h.below.setCell (Nat.le_refl _) _) fun vC vP vT h1 h2 h3 => ⟨vP, v, heap_set_at (o := 4) v h1, h2, hv⟩
theorem RS.set5 {W1 w : World} {k k' : Nat} {S : ScrV} (h : RS W1 w k S) : RS W1 (w.setCell ⟨W1.heap.size, 5, none⟩ (.int .i64 (k' : Int))) k' S :=
  h.but (ButR.set _ _ _ _) (h.below.setCell (Nat.le_refl _) _) fun vC vP vT h1 h2 h3 => ⟨vP, vT, heap_set_at (o := 5) (.int .i64 (k' : Int)) h1, h2, h3⟩
theorem RS.fault {W1 w : World} {k : Nat} {S : ScrV} (h : RS W1 w k S) : RF W1 w k := by
  obtain ⟨hb, vC, vP, vT, h1, _⟩ := h
  exact ⟨hb, _, h1, rfl⟩
theorem IntV.nil (w : World) : IntV w (.slice none 0 0) [] := ⟨none, 0, rfl, fun i hi => by simp at hi, by simp, fun _ => rfl⟩
theorem IntV.of_own' {w : World} {base n : Nat} {a : Option Addr} {c : Nat} {l : List Int} (h : w.ownsRow base 3 1 (.slice a n c) n (l.map (Value.int .i64))) (hl : ∀ n ∈ l, -9223372036854775808 ≤ n ∧ n ≤ 9223372036854775807) : IntV w (.slice a n c) l := by
  have hn : l.length = n := by have := h.1; simpa using this
  rcases h.2 with ⟨hv, h0⟩ | ⟨g, cap', cur, hv, hb, hg, hle, hm, hs, ht⟩
  · cases hv
    have : l = [] := List.eq_nil_of_length_eq_zero hn
    subst this
    exact IntV.nil w
  · cases hv
    subst hn
    refine ⟨_, _, rfl, fun i hi => ⟨g, 0, cur, _, rfl, hg, ?_, hl _ (List.getElem_mem hi)⟩, by omega, by simp⟩
    have hc := h.cells (g := g) rfl i (.int .i64 (l[i]'hi)) (by simp [hi])
    rw [Addr.add_lit, Nat.zero_add] at hc
    rw [Nat.zero_add]
    simp only [World.cell?, hg] at hc
    exact hc
theorem IntV.of_own {w : World} {base : Nat} {a : Option Addr} {c : Nat} {l : List Int} (h : w.ownsRow base 3 1 (.slice a l.length c) l.length (l.map (Value.int .i64))) (hl : ∀ n ∈ l, -9223372036854775808 ≤ n ∧ n ≤ 9223372036854775807) : IntV w (.slice a l.length c) l := IntV.of_own' h hl
/-- A call more for the last client. -/
def addLast : List (List CallV) → CallV → Option (List (List CallV))
  | [], _ => none
  | [l], c => some [l ++ [c]]
  | l :: L, c => (addLast L c).map (l :: ·)
/-- A line more, k lines taken; none: it may not stand there. -/
def stepL (k : Nat) (S : ScrV) : List (List UInt8) → Option ScrV
  | [] => none
  | h :: rest =>
    if k = 0 then (if h = playW then (twoW rest).map fun p => { S with stripes := p.1, room := p.2 } else none)
    else if k = 1 then (if h = picksW then (numsW rest).map fun l => { S with picks := l } else none)
    else if k = 2 then (if h = ticksW then (numsW rest).map fun l => { S with ticks := l } else none)
    else if h = clientW then (if rest = [] then some { S with clients := S.clients ++ [[]] } else none)
    else match readW (h :: rest) with
      | some c => (addLast S.clients c).map fun L => { S with clients := L }
      | none => none
/-- What (*reader).take makes of a line. -/
def TakePost (W1 : World) (k : Nat) (r : Option ScrV) (e : Ending) (w' : World) : Prop := match r with
  | some S => e = .returned (.bool true) ∧ RS W1 w' k S
  | none => e = .returned (.bool false) ∧ RF W1 w' k
theorem takePost_yes {W1 w' : World} {k : Nat} {r : Option ScrV} {S : ScrV} (h : r = some S) (hs : RS W1 w' k S) : TakePost W1 k r (.returned (.bool true)) w' := by
  subst h
  exact ⟨rfl, hs⟩
theorem takePost_no {W1 w' : World} {k : Nat} {r : Option ScrV} (h : r = none) (hs : RF W1 w' k) : TakePost W1 k r (.returned (.bool false)) w' := by
  subst h
  exact ⟨rfl, hs⟩
theorem text_is {x l : List UInt8} (h : x = l) : ((bs x).toList == l) = true := by
  subst h
  rw [ByteArray.toList_eq, bs_list]
  exact beq_self_eq_true _
theorem text_no {x l : List UInt8} (h : ¬ x = l) : ((bs x).toList == l) = false := by
  rw [ByteArray.toList_eq, bs_list, beq_eq_false_iff_ne]
  exact h
set_option maxRecDepth 100000 in
set_option maxHeartbeats 4000000 in
/-- The first line. -/
theorem take_play (W1 w : World) (S : ScrV) (h : List UInt8) (rest : List (List UInt8)) (g off cap : Nat) (hS : RS W1 w 0 S) (c0 : w.cell? ⟨g, off, none⟩ = some (.string (bs h))) (hr : Txt w (some ⟨g, off + 1, none⟩) rest) (hsh : Short rest) (hcap : rest.length + 1 ≤ cap) (hg : g ≠ W1.heap.size) (ht : HasTab W1) (he : HasErrs W1) :
    Calls Tryd.prog 31 #[.pointer (some ⟨W1.heap.size, 0, none⟩), .slice (some ⟨g, off, none⟩) (rest.length + 1) cap] w (TakePost W1 1 (stepL 0 S (h :: rest))) := by
  obtain ⟨hB, vC, vP, vT, hbox, hP, hT, hC⟩ := hS
  have hrl := hsh.1
  have r5 := cell_at (o := 5) hbox rfl
  have f5 := free_at (o := 5) hbox
  have hm0 : ((rest.length : Int) + 1 == 0) = false := by
    simp only [beq_eq_false_iff_ne, ne_eq]
    omega
  have c0' : (w.setCell ⟨W1.heap.size, 5, none⟩ (.int .i64 1)).cell? ⟨g, off, none⟩ = some (.string (bs h)) := (World.cell?_of_block (a := ⟨g, off, none⟩) (Below.heap_setCell _ _ _ _ hg)).trans c0
  go_enter Tryd.func31, Tryd.ntmps31
  go_upto_region 6 with fail
  obtain ⟨wA, hwA⟩ : ∃ wA, wA = w.setCell ⟨W1.heap.size, 5, none⟩ (.int .i64 1) := ⟨_, rfl⟩
  have hA : ButR W1.heap.size w wA := by rw [hwA]; exact ButR.set _ _ _ _
  have hboxA := heap_set_at (o := 5) (.int .i64 1) hbox
  rw [← hwA] at hboxA c0' ⊢
  have hBA : Below W1.heap.size W1 wA := by rw [hwA]; exact hB.setCell (Nat.le_refl _) _
  have HRA : Hid (Txt wA (if cap = 1 then some ⟨g, off, none⟩ else some ⟨g, off + 1, none⟩) rest) := Lib.hid (by
    split
    · intro i hi
      omega
    · exact hr.but hA (fun g' off' e => by cases e; exact hg))
  have HK : Hid (Kept wA.heap.size w wA) := Lib.hid (hA.kept hbox)
  have HS := Lib.hid (RS.mk (k := 1) hBA ⟨vC, vP, vT, hboxA, hP.keep HK.out, hT.keep HK.out, hC.but hA hbox⟩)
  have HT := Lib.hid (ht.below hBA)
  have HE := Lib.hid (he.below hBA)
  have HSH := Lib.hid hsh
  have HCA := Lib.hid c0'
  have hg1 : ¬ g = W1.heap.size := hg
  have hg2 : ¬ W1.heap.size = g := fun e => hg e.symm
  have HR0 := Lib.hid hboxA
  have hRz : W1.heap.size < wA.heap.size := (Array.getElem?_eq_some_iff.1 hboxA).1
  have hgz : g < wA.heap.size := World.block_lt_of_cell? wA _ c0'
  clear hwA
  clear c0' hboxA r5 f5 c0
  clear hP hT hC hr hA hBA
  clear hB hbox ht he hsh hg
  cases htw : twoW rest with
  | some p =>
    obtain ⟨x, y⟩ := p
    have HTW := Lib.hid (twoW_some.1 htw)
    have HTS := Lib.hid htw
    clear htw
    by_cases hpl : h = playW
    · have HST : Hid (stepL 0 S (h :: rest) = some { S with stripes := x, room := y }) := Lib.hid (by simp [stepL, hpl, HTS.out])
      have hpt : ((bs h).toList == [112, 108, 97, 121]) = true := text_is hpl
      clear hpl
      go_wp2_with (go_at_call 47; (with_reducible refine (two_yes rest (if cap = 1 then some ⟨g, off, none⟩ else some ⟨g, off + 1, none⟩) _ _ HRA.out HSH.out HT.out HE.out x y HTW.out).mono ?_); rintro e w2 ⟨rfl, hb2⟩; obtain ⟨kc2, kf2⟩ := bcell hb2; have HB2 := Lib.hid hb2; have hzz := hb2.size; have HCB := HCA.out; have x0 := cell_at (o := 0) HR0.out rfl; have x1 := cell_at (o := 1) HR0.out rfl; have y0 := free_at (o := 0) HR0.out; have y1 := free_at (o := 1) HR0.out; clear hb2)
      all_goals
        go_ret
        exact takePost_yes HST.out ((HS.out.to HB2.out).set01 x y)
    · have HST : Hid (stepL 0 S (h :: rest) = none) := Lib.hid (by simp [stepL, hpl, HTS.out])
      have hpt : ((bs h).toList == [112, 108, 97, 121]) = false := text_no hpl
      clear hpl
      go_wp2_with (go_at_call 47; (with_reducible refine (two_yes rest (if cap = 1 then some ⟨g, off, none⟩ else some ⟨g, off + 1, none⟩) _ _ HRA.out HSH.out HT.out HE.out x y HTW.out).mono ?_); rintro e w2 ⟨rfl, hb2⟩; obtain ⟨kc2, kf2⟩ := bcell hb2; have HB2 := Lib.hid hb2; have hzz := hb2.size; have HCB := HCA.out; have x0 := cell_at (o := 0) HR0.out rfl; have x1 := cell_at (o := 1) HR0.out rfl; have y0 := free_at (o := 0) HR0.out; have y1 := free_at (o := 1) HR0.out; clear hb2)
      all_goals
        go_ret
        exact takePost_no HST.out ((HS.out.to HB2.out).set01 x y).fault
  | none =>
    have HTW := Lib.hid (twoW_none htw)
    have HST : Hid (stepL 0 S (h :: rest) = none) := Lib.hid (by simp [stepL, htw])
    clear htw
    go_wp2_with (go_at_call 47; (with_reducible refine (two_no rest (if cap = 1 then some ⟨g, off, none⟩ else some ⟨g, off + 1, none⟩) _ _ HRA.out HSH.out HT.out HE.out HTW.out).mono ?_); rintro e w2 ⟨rfl, hb2⟩; obtain ⟨kc2, kf2⟩ := bcell hb2; have HB2 := Lib.hid hb2; have hzz := hb2.size; have HCB := HCA.out; have x0 := cell_at (o := 0) HR0.out rfl; have x1 := cell_at (o := 1) HR0.out rfl; have y0 := free_at (o := 0) HR0.out; have y1 := free_at (o := 1) HR0.out; clear hb2)
    all_goals
      go_ret
      exact takePost_no HST.out ((HS.out.to HB2.out).set01 0 0).fault
set_option maxRecDepth 100000 in
set_option maxHeartbeats 4000000 in
/-- The second line. -/
theorem take_picks (W1 w : World) (S : ScrV) (h : List UInt8) (rest : List (List UInt8)) (g off cap : Nat) (hS : RS W1 w 1 S) (c0 : w.cell? ⟨g, off, none⟩ = some (.string (bs h))) (hr : Txt w (some ⟨g, off + 1, none⟩) rest) (hsh : Short rest) (hcap : rest.length + 1 ≤ cap) (hg : g ≠ W1.heap.size) (ht : HasTab W1) (he : HasErrs W1) :
    Calls Tryd.prog 31 #[.pointer (some ⟨W1.heap.size, 0, none⟩), .slice (some ⟨g, off, none⟩) (rest.length + 1) cap] w (TakePost W1 2 (stepL 1 S (h :: rest))) := by
  obtain ⟨hB, vC, vP, vT, hbox, hP, hT, hC⟩ := hS
  have hrl := hsh.1
  have r5 := cell_at (o := 5) hbox rfl
  have f5 := free_at (o := 5) hbox
  have hm0 : ((rest.length : Int) + 1 == 0) = false := by
    simp only [beq_eq_false_iff_ne, ne_eq]
    omega
  have c0' : (w.setCell ⟨W1.heap.size, 5, none⟩ (.int .i64 2)).cell? ⟨g, off, none⟩ = some (.string (bs h)) := (World.cell?_of_block (a := ⟨g, off, none⟩) (Below.heap_setCell _ _ _ _ hg)).trans c0
  go_enter Tryd.func31, Tryd.ntmps31
  go_upto_region 9 with fail
  obtain ⟨wA, hwA⟩ : ∃ wA, wA = w.setCell ⟨W1.heap.size, 5, none⟩ (.int .i64 2) := ⟨_, rfl⟩
  have hA : ButR W1.heap.size w wA := by rw [hwA]; exact ButR.set _ _ _ _
  have hboxA := heap_set_at (o := 5) (.int .i64 2) hbox
  rw [← hwA] at hboxA c0' ⊢
  have hBA : Below W1.heap.size W1 wA := by rw [hwA]; exact hB.setCell (Nat.le_refl _) _
  have HRA : Hid (Txt wA (if cap = 1 then some ⟨g, off, none⟩ else some ⟨g, off + 1, none⟩) rest) := Lib.hid (by
    split
    · intro i hi
      omega
    · exact hr.but hA (fun g' off' e => by cases e; exact hg))
  have HK : Hid (Kept wA.heap.size w wA) := Lib.hid (hA.kept hbox)
  have HS := Lib.hid (RS.mk (k := 2) hBA ⟨vC, vP, vT, hboxA, hP.keep HK.out, hT.keep HK.out, hC.but hA hbox⟩)
  have HT := Lib.hid (ht.below hBA)
  have HE := Lib.hid (he.below hBA)
  have HSH := Lib.hid hsh
  have HCA := Lib.hid c0'
  have hg1 : ¬ g = W1.heap.size := hg
  have hg2 : ¬ W1.heap.size = g := fun e => hg e.symm
  have HR0 := Lib.hid hboxA
  have hRz : W1.heap.size < wA.heap.size := (Array.getElem?_eq_some_iff.1 hboxA).1
  have hgz : g < wA.heap.size := World.block_lt_of_cell? wA _ c0'
  clear hwA
  clear c0' hboxA r5 f5 c0
  clear hP hT hC hr hA hBA
  clear hB hbox ht he hsh hg
  cases htw : numsW rest with
  | some l =>
    have HTW := Lib.hid htw
    have HLB := Lib.hid (allW_map numW_iff htw).2
    clear htw
    by_cases hpl : h = picksW
    · have HST : Hid (stepL 1 S (h :: rest) = some { S with picks := l }) := Lib.hid (by simp [stepL, hpl, HTW.out])
      have hpt : ((bs h).toList == [112, 105, 99, 107, 115]) = true := text_is hpl
      clear hpl
      go_wp2_with (go_at_call 48; (with_reducible refine (numbers_any rest (if cap = 1 then some ⟨g, off, none⟩ else some ⟨g, off + 1, none⟩) _ _ HRA.out HSH.out HT.out HE.out).mono ?_); rintro e w2 hp; obtain ⟨hb2, a2, c2, rfl, ho⟩ := rowPost_get hp HTW.out; have HV := Lib.hid (IntV.of_own ho HLB.out); clear ho hp; obtain ⟨kc2, kf2⟩ := bcell hb2; have HB2 := Lib.hid hb2; have hzz := hb2.size; have HCB := HCA.out; have x0 := cell_at (o := 3) HR0.out rfl; have y0 := free_at (o := 3) HR0.out; clear hb2)
      all_goals
        go_ret
        exact takePost_yes HST.out ((HS.out.to HB2.out).set3 _ _ HV.out)
    · have HST : Hid (stepL 1 S (h :: rest) = none) := Lib.hid (by simp [stepL, hpl])
      have hpt : ((bs h).toList == [112, 105, 99, 107, 115]) = false := text_no hpl
      clear hpl
      go_wp2_with (go_at_call 48; (with_reducible refine (numbers_any rest (if cap = 1 then some ⟨g, off, none⟩ else some ⟨g, off + 1, none⟩) _ _ HRA.out HSH.out HT.out HE.out).mono ?_); rintro e w2 hp; obtain ⟨hb2, a2, c2, rfl, ho⟩ := rowPost_get hp HTW.out; have HV := Lib.hid (IntV.of_own ho HLB.out); clear ho hp; obtain ⟨kc2, kf2⟩ := bcell hb2; have HB2 := Lib.hid hb2; have hzz := hb2.size; have HCB := HCA.out; have x0 := cell_at (o := 3) HR0.out rfl; have y0 := free_at (o := 3) HR0.out; clear hb2)
      all_goals
        go_ret
        exact takePost_no HST.out ((HS.out.to HB2.out).set3 _ _ HV.out).fault
  | none =>
    have HTW := Lib.hid htw
    have HST : Hid (stepL 1 S (h :: rest) = none) := Lib.hid (by simp [stepL, htw])
    clear htw
    go_wp2_with (go_at_call 48; (with_reducible refine (numbers_any rest (if cap = 1 then some ⟨g, off, none⟩ else some ⟨g, off + 1, none⟩) _ _ HRA.out HSH.out HT.out HE.out).mono ?_); rintro e w2 hp; obtain ⟨hb2, rfl⟩ := rowPost_no hp HTW.out; clear hp; obtain ⟨kc2, kf2⟩ := bcell hb2; have HB2 := Lib.hid hb2; have hzz := hb2.size; have HCB := HCA.out; have x0 := cell_at (o := 3) HR0.out rfl; have y0 := free_at (o := 3) HR0.out; clear hb2)
    all_goals
      go_ret
      exact takePost_no HST.out ((HS.out.to HB2.out).set3 _ _ (IntV.nil _)).fault
set_option maxRecDepth 100000 in
set_option maxHeartbeats 4000000 in
/-- The third line. -/
theorem take_ticks (W1 w : World) (S : ScrV) (h : List UInt8) (rest : List (List UInt8)) (g off cap : Nat) (hS : RS W1 w 2 S) (c0 : w.cell? ⟨g, off, none⟩ = some (.string (bs h))) (hr : Txt w (some ⟨g, off + 1, none⟩) rest) (hsh : Short rest) (hcap : rest.length + 1 ≤ cap) (hg : g ≠ W1.heap.size) (ht : HasTab W1) (he : HasErrs W1) :
    Calls Tryd.prog 31 #[.pointer (some ⟨W1.heap.size, 0, none⟩), .slice (some ⟨g, off, none⟩) (rest.length + 1) cap] w (TakePost W1 3 (stepL 2 S (h :: rest))) := by
  obtain ⟨hB, vC, vP, vT, hbox, hP, hT, hC⟩ := hS
  have hrl := hsh.1
  have r5 := cell_at (o := 5) hbox rfl
  have f5 := free_at (o := 5) hbox
  have hm0 : ((rest.length : Int) + 1 == 0) = false := by
    simp only [beq_eq_false_iff_ne, ne_eq]
    omega
  have c0' : (w.setCell ⟨W1.heap.size, 5, none⟩ (.int .i64 3)).cell? ⟨g, off, none⟩ = some (.string (bs h)) := (World.cell?_of_block (a := ⟨g, off, none⟩) (Below.heap_setCell _ _ _ _ hg)).trans c0
  go_enter Tryd.func31, Tryd.ntmps31
  go_upto_region 12 with fail
  obtain ⟨wA, hwA⟩ : ∃ wA, wA = w.setCell ⟨W1.heap.size, 5, none⟩ (.int .i64 3) := ⟨_, rfl⟩
  have hA : ButR W1.heap.size w wA := by rw [hwA]; exact ButR.set _ _ _ _
  have hboxA := heap_set_at (o := 5) (.int .i64 3) hbox
  rw [← hwA] at hboxA c0' ⊢
  have hBA : Below W1.heap.size W1 wA := by rw [hwA]; exact hB.setCell (Nat.le_refl _) _
  have HRA : Hid (Txt wA (if cap = 1 then some ⟨g, off, none⟩ else some ⟨g, off + 1, none⟩) rest) := Lib.hid (by
    split
    · intro i hi
      omega
    · exact hr.but hA (fun g' off' e => by cases e; exact hg))
  have HK : Hid (Kept wA.heap.size w wA) := Lib.hid (hA.kept hbox)
  have HS := Lib.hid (RS.mk (k := 3) hBA ⟨vC, vP, vT, hboxA, hP.keep HK.out, hT.keep HK.out, hC.but hA hbox⟩)
  have HT := Lib.hid (ht.below hBA)
  have HE := Lib.hid (he.below hBA)
  have HSH := Lib.hid hsh
  have HCA := Lib.hid c0'
  have hg1 : ¬ g = W1.heap.size := hg
  have hg2 : ¬ W1.heap.size = g := fun e => hg e.symm
  have HR0 := Lib.hid hboxA
  have hRz : W1.heap.size < wA.heap.size := (Array.getElem?_eq_some_iff.1 hboxA).1
  have hgz : g < wA.heap.size := World.block_lt_of_cell? wA _ c0'
  clear hwA
  clear c0' hboxA r5 f5 c0
  clear hP hT hC hr hA hBA
  clear hB hbox ht he hsh hg
  cases htw : numsW rest with
  | some l =>
    have HTW := Lib.hid htw
    have HLB := Lib.hid (allW_map numW_iff htw).2
    clear htw
    by_cases hpl : h = ticksW
    · have HST : Hid (stepL 2 S (h :: rest) = some { S with ticks := l }) := Lib.hid (by simp [stepL, hpl, HTW.out])
      have hpt : ((bs h).toList == [116, 105, 99, 107, 115]) = true := text_is hpl
      clear hpl
      go_wp2_with (go_at_call 48; (with_reducible refine (numbers_any rest (if cap = 1 then some ⟨g, off, none⟩ else some ⟨g, off + 1, none⟩) _ _ HRA.out HSH.out HT.out HE.out).mono ?_); rintro e w2 hp; obtain ⟨hb2, a2, c2, rfl, ho⟩ := rowPost_get hp HTW.out; have HV := Lib.hid (IntV.of_own ho HLB.out); clear ho hp; obtain ⟨kc2, kf2⟩ := bcell hb2; have HB2 := Lib.hid hb2; have hzz := hb2.size; have HCB := HCA.out; have x0 := cell_at (o := 4) HR0.out rfl; have y0 := free_at (o := 4) HR0.out; clear hb2)
      all_goals
        go_ret
        exact takePost_yes HST.out ((HS.out.to HB2.out).set4 _ _ HV.out)
    · have HST : Hid (stepL 2 S (h :: rest) = none) := Lib.hid (by simp [stepL, hpl])
      have hpt : ((bs h).toList == [116, 105, 99, 107, 115]) = false := text_no hpl
      clear hpl
      go_wp2_with (go_at_call 48; (with_reducible refine (numbers_any rest (if cap = 1 then some ⟨g, off, none⟩ else some ⟨g, off + 1, none⟩) _ _ HRA.out HSH.out HT.out HE.out).mono ?_); rintro e w2 hp; obtain ⟨hb2, a2, c2, rfl, ho⟩ := rowPost_get hp HTW.out; have HV := Lib.hid (IntV.of_own ho HLB.out); clear ho hp; obtain ⟨kc2, kf2⟩ := bcell hb2; have HB2 := Lib.hid hb2; have hzz := hb2.size; have HCB := HCA.out; have x0 := cell_at (o := 4) HR0.out rfl; have y0 := free_at (o := 4) HR0.out; clear hb2)
      all_goals
        go_ret
        exact takePost_no HST.out ((HS.out.to HB2.out).set4 _ _ HV.out).fault
  | none =>
    have HTW := Lib.hid htw
    have HST : Hid (stepL 2 S (h :: rest) = none) := Lib.hid (by simp [stepL, htw])
    clear htw
    go_wp2_with (go_at_call 48; (with_reducible refine (numbers_any rest (if cap = 1 then some ⟨g, off, none⟩ else some ⟨g, off + 1, none⟩) _ _ HRA.out HSH.out HT.out HE.out).mono ?_); rintro e w2 hp; obtain ⟨hb2, rfl⟩ := rowPost_no hp HTW.out; clear hp; obtain ⟨kc2, kf2⟩ := bcell hb2; have HB2 := Lib.hid hb2; have hzz := hb2.size; have HCB := HCA.out; have x0 := cell_at (o := 4) HR0.out rfl; have y0 := free_at (o := 4) HR0.out; clear hb2)
    all_goals
      go_ret
      exact takePost_no HST.out ((HS.out.to HB2.out).set4 _ _ (IntV.nil _)).fault
theorem Kept.of_grown {B : Nat} {w w' : World} {base n size : Nat} {e : TypeId} {v : Value} {xs : List Value} (h : w.grownBy w' v.ownBlock) (ho : w.ownsRow base e size v n xs) (h1 : e ≠ 3) (h2 : e ≠ 57) (h3 : e = 28 → B ≤ base) : Kept B w w' := by
  have ne : ∀ (g : Nat) (cs' : Array Value) (T' : TypeId) (f' : Nat × Nat), w.heap[g]? = some (.cells cs' T' f') → (T' ≠ e ∨ g < base) → w'.heap[g]? = w.heap[g]? := fun g cs' T' f' hg hT => h.block g (Array.getElem?_eq_some_iff.1 hg).1 (fun hr => by
    rcases ho.2 with ⟨rfl, _⟩ | ⟨g', cap, cur, rfl, hb, hg', _⟩
    · cases hr
    · cases hr
      rw [hg] at hg'
      cases hg'
      rcases hT with hT | hT
      · exact hT rfl
      · have hT' : g' < base := hT
        omega)
  refine ⟨fun g cs' f' hg => ne g cs' _ f' hg (.inl h1.symm), fun g cs' f' hg => ne g cs' _ f' hg (.inl h2.symm), fun g cs' f' hb hg => ne g cs' _ f' hg ?_⟩
  by_cases hT : e = 28
  · have := h3 hT
    exact .inr (by omega)
  · exact .inl fun e => hT e.symm
theorem callssElem : Elem Tryd.prog 33 55 1 24 := ⟨Tryd.underlying33, ⟨.slice none 0 0, by kernel_rfl, rfl⟩, by omega⟩
/-- An empty client more. -/
theorem RC.client {w w' : World} {R : Nat} {vC v' : Value} {L : List (List CallV)} {cells : List Value} {B : Nat} (h1 : R < B) (h2 : B ≤ w.heap.size) (h3 : w.ownsRow (R + 1) 55 1 vC L.length cells)
    (h4 : ∀ (i : Nat) (h : i < L.length), i + 1 < L.length → ∃ a c, cells[i]? = some (.slice a (L[i]'h).length c) ∧ CallT w B a (L[i]'h))
    (h5 : ∀ (h : 0 < L.length), ∃ a c cs, cells[L.length - 1]? = some (.slice a (L[L.length - 1]'(by omega)).length c) ∧ w.ownsRow B 28 7 (.slice a (L[L.length - 1]'(by omega)).length c) (L[L.length - 1]'(by omega)).length cs ∧
      CallT w w.heap.size a (L[L.length - 1]'(by omega)))
    (ho : w'.ownsRow (R + 1) 55 1 v' (L.length + 1) (cells ++ [.slice none 0 0])) (hg : w.grownBy w' vC.ownBlock) : RC w' R v' (L ++ [[]]) := by
  have hk : ∀ B, Kept B w w' := fun B => Kept.of_grown hg h3 (by decide) (by decide) (fun e => absurd e (by decide))
  have hcl : cells.length = L.length := by have := h3.1; omega
  refine ⟨cells ++ [.slice none 0 0], w'.heap.size, Nat.lt_of_lt_of_le h1 (Nat.le_trans h2 hg.size), Nat.le_refl _, by simpa using ho, fun i hi hl => ?_, fun hi => ?_⟩
  · have hiL : i < L.length := by simp at hl; omega
    rw [List.getElem?_append_left (by omega)]
    simp only [List.getElem_append_left hiL]
    by_cases hlast : i + 1 < L.length
    · obtain ⟨a, c, e1, e2⟩ := h4 i hiL hlast
      exact ⟨a, c, e1, (e2.keep (hk B)).mono (Nat.le_trans h2 hg.size)⟩
    · obtain ⟨a, c, cs, e1, e2, e3⟩ := h5 (by omega)
      have : L.length - 1 = i := by omega
      subst this
      exact ⟨a, c, e1, (e3.keep (hk _)).mono hg.size⟩
  · refine ⟨none, 0, [], ?_, ?_, fun k hk => ?_⟩
    · simp [← hcl]
    · have : (L ++ [[]])[(L ++ [([] : List CallV)]).length - 1]'(by simp) = [] := by simp
      simp only [this]
      exact World.ownsRow_nil _ _ _ _
    · simp at hk
set_option maxRecDepth 100000 in
set_option maxHeartbeats 4000000 in
/-- A client's head. -/
theorem take_client (W1 w : World) (k : Nat) (S : ScrV) (h : List UInt8) (rest : List (List UInt8)) (g off cap : Nat) (hk3 : 3 ≤ k) (hkm : k ≤ 1099511627776) (hS : RS W1 w k S) (c0 : w.cell? ⟨g, off, none⟩ = some (.string (bs h))) (hcl : h = clientW) (hsh : Short rest) (hcap : rest.length + 1 ≤ cap) (hg : g ≠ W1.heap.size) (hL : S.clients.length ≤ 1099511627776) :
    Calls Tryd.prog 31 #[.pointer (some ⟨W1.heap.size, 0, none⟩), .slice (some ⟨g, off, none⟩) (rest.length + 1) cap] w (TakePost W1 (k + 1) (stepL k S (h :: rest))) := by
  obtain ⟨hB, vC, vP, vT, hbox, hP, hT, hC⟩ := hS
  obtain ⟨cells, B, h1, h2, h3, h4, h5⟩ := hC
  obtain ⟨aC, cC, rfl⟩ := own_slice h3
  have hrl := hsh.1
  have r5 := cell_at (o := 5) hbox rfl
  have f5 := free_at (o := 5) hbox
  have hm0 : ((rest.length : Int) + 1 == 0) = false := by
    simp only [beq_eq_false_iff_ne, ne_eq]
    omega
  have hk1 : ((k : Int) + 1 == 1) = false := by
    simp only [beq_eq_false_iff_ne, ne_eq]
    omega
  have hk2 : ((k : Int) + 1 == 2) = false := by
    simp only [beq_eq_false_iff_ne, ne_eq]
    omega
  have hk3' : ((k : Int) + 1 == 3) = false := by
    simp only [beq_eq_false_iff_ne, ne_eq]
    omega
  have hpt : ((bs h).toList == [99, 108, 105, 101, 110, 116]) = true := text_is hcl
  have c0' : (w.setCell ⟨W1.heap.size, 5, none⟩ (.int .i64 ((k : Int) + 1))).cell? ⟨g, off, none⟩ = some (.string (bs h)) := (World.cell?_of_block (a := ⟨g, off, none⟩) (Below.heap_setCell _ _ _ _ hg)).trans c0
  go_enter Tryd.func31, Tryd.ntmps31
  go_upto_region 5 with fail
  obtain ⟨wA, hwA⟩ : ∃ wA, wA = w.setCell ⟨W1.heap.size, 5, none⟩ (.int .i64 ((k : Int) + 1)) := ⟨_, rfl⟩
  have hA : ButR W1.heap.size w wA := by rw [hwA]; exact ButR.set _ _ _ _
  have hboxA := heap_set_at (o := 5) (.int .i64 ((k : Int) + 1)) hbox
  rw [← hwA] at hboxA c0' ⊢
  have hBA : Below W1.heap.size W1 wA := by rw [hwA]; exact hB.setCell (Nat.le_refl _) _
  have HK : Hid (Kept wA.heap.size w wA) := Lib.hid (hA.kept hbox)
  have HPA := Lib.hid (hP.keep HK.out)
  have HTA := Lib.hid (hT.keep HK.out)
  have h3A := hA.own (by omega) h3
  have h4A : ∀ (i : Nat) (h : i < S.clients.length), i + 1 < S.clients.length → ∃ a c, cells[i]? = some (.slice a (S.clients[i]'h).length c) ∧ CallT wA B a (S.clients[i]'h) := fun i hi hl => by
    obtain ⟨a, c, e1, e2⟩ := h4 i hi hl
    exact ⟨a, c, e1, e2.keep (hA.kept hbox)⟩
  have h5A : ∀ (h : 0 < S.clients.length), ∃ a c cs, cells[S.clients.length - 1]? = some (.slice a (S.clients[S.clients.length - 1]'(by omega)).length c) ∧ wA.ownsRow B 28 7 (.slice a (S.clients[S.clients.length - 1]'(by omega)).length c) (S.clients[S.clients.length - 1]'(by omega)).length cs ∧
      CallT wA wA.heap.size a (S.clients[S.clients.length - 1]'(by omega)) := fun hi => by
    obtain ⟨a, c, cs, e1, e2, e3⟩ := h5 hi
    exact ⟨a, c, cs, e1, hA.own h1 e2, (e3.keep (hA.kept hbox)).mono hA.size⟩
  have h2A : B ≤ wA.heap.size := Nat.le_trans h2 hA.size
  have H4 := Lib.hid h4A
  have H5 := Lib.hid h5A
  have H3 := Lib.hid h3A
  have HBA := Lib.hid hBA
  have HBX := Lib.hid hboxA
  have x5 := cell_at (o := 5) hboxA rfl
  have x2 := cell_at (o := 2) hboxA rfl
  have hRz : W1.heap.size < wA.heap.size := (Array.getElem?_eq_some_iff.1 hboxA).1
  have hRz1 : W1.heap.size + 1 ≤ wA.heap.size := hRz
  clear hwA h4A h5A h3A hBA hboxA
  clear r5 f5 c0
  clear hP hT h3 h4 h5 h2 hA HK
  have HCL := Lib.hid hcl
  clear hB hbox hsh hcl
  go_upto_region 16 with (at_builtin; go_must (refine wpl_app1 rfl _ _ 33 rfl callssElem _ _ _ rfl (.slice none 0 0) rfl rfl H3.out HBA.out (by omega) hRz1 (by omega) (by unfold maxLen; omega) ?_); intro v' w3 hown3 hbw3 hg3; obtain ⟨a', c', ev⟩ := own_slice hown3; have HO3 := Lib.hid hown3; have HB3 := Lib.hid hbw3; have HG3 := Lib.hid hg3; have gR := (hg3.block W1.heap.size hRz (fun e => by have := own_lt H3.out _ e.symm; omega)).trans HBX.out; have z2 := cell_at (o := 2) gR rfl; have zf := free_at (o := 2) gR; rw [ev]; have HEV := Lib.hid ev; have HGR := Lib.hid gR; clear hown3 hbw3 hg3 gR ev)
  have HRS : Hid (RS W1 (w3.setCell ⟨W1.heap.size, 2, none⟩ (.slice a' (S.clients.length + 1) c')) (k + 1) { S with clients := S.clients ++ [[]] }) := Lib.hid (by
    have hC3 := RC.client h1 h2A H3.out H4.out H5.out HO3.out HG3.out
    have hk : Kept w3.heap.size wA w3 := Kept.of_grown HG3.out H3.out (by decide) (by decide) (fun e => absurd e (by decide))
    have hs : ButR W1.heap.size w3 (w3.setCell ⟨W1.heap.size, 2, none⟩ (.slice a' (S.clients.length + 1) c')) := ButR.set _ _ _ _
    have hk2 : Kept w3.heap.size w3 (w3.setCell ⟨W1.heap.size, 2, none⟩ (.slice a' (S.clients.length + 1) c')) := hs.kept HGR.out
    rw [HEV.out] at hC3
    exact ⟨HB3.out.setCell (Nat.le_refl _) _, _, vP, vT, heap_set_at (o := 2) _ HGR.out, (HPA.out.keep hk).keep hk2, (HTA.out.keep hk).keep hk2, hC3.but hs HGR.out⟩)
  by_cases hr0 : rest = []
  · have HST : Hid (stepL k S (h :: rest) = some { S with clients := S.clients ++ [[]] }) := Lib.hid (by
      simp only [stepL]
      rw [if_neg (by omega), if_neg (by omega), if_neg (by omega), if_pos HCL.out, if_pos hr0])
    have hl0 : rest.length = 0 := by rw [hr0]; rfl
    have hl1 : ((rest.length : Int) + 1 == 1) = true := by rw [hl0]; rfl
    clear hl0 hr0
    go_wp2_with fail
    go_ret
    exact takePost_yes HST.out HRS.out
  · have HST : Hid (stepL k S (h :: rest) = none) := Lib.hid (by
      simp only [stepL]
      rw [if_neg (by omega), if_neg (by omega), if_neg (by omega), if_pos HCL.out, if_neg hr0])
    have hl1 : ((rest.length : Int) + 1 == 1) = false := by
      have : rest.length ≠ 0 := fun e => hr0 (List.eq_nil_of_length_eq_zero e)
      simp only [beq_eq_false_iff_ne, ne_eq]
      omega
    clear hr0
    go_wp2_with fail
    go_ret
    exact takePost_no HST.out HRS.out.fault
end Go.Proofs.YtplhmcmfdcklaaaDoor.Lex
