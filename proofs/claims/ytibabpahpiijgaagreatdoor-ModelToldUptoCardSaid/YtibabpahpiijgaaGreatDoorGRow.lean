/- RowE, Ents, SwapE, RotE, Stab6: laid into one text. -/
import Derived.Test.YtibabpahpiijgaaGreatDoorGStab
import Derived.Test.YtibabpahpiijgaaGreatDoorFoot
import Derived.Below
import Derived.Test.YtibabpahpiijgaaGreatDoorEnt
import Derived.Test.YtibabpahpiijgaaGreatDoorGrow
import Derived.Deep.DeepAppendRoom
import Derived.BigRegion
import Derived.Deep.Cut
import Derived.Deep.LoopGhost
import Derived.Test.YtibabpahpiijgaaGreatDoorProg
import Derived.WalkKit
import Derived.Deep.RegionHeld3
/- A row of entries in a block of its own: read, and two of them changed. -/
namespace Go.Proofs.YtibabpahpiijgaaGreatDoor.Stab
open Go Go.RowKit
set_option linter.unusedVariables false
structure EC where
  kn : Int
  kd : Int
  dk : Int
  dn : Int
  da : Option Addr
  dm : Nat
  dc : Nat
def EC.cells (e : EC) : List Value := [.int .i64 e.kn, .int .i64 e.kd, .int .i64 e.dk, .int .i64 e.dn, .slice e.da e.dm e.dc]
def EC.val (e : EC) : Value := .agg #[.int .i64 e.kn, .int .i64 e.kd, .int .i64 e.dk, .int .i64 e.dn, .slice e.da e.dm e.dc]
structure Lies (L : List EC) (C : Array Value) : Prop where
  size : C.size = L.length * 5
  at_ : ∀ i e, L[i]? = some e → ∀ j v, e.cells[j]? = some v → C[i * 5 + j]? = some v
def put5 (C : Array Value) (i : Nat) (e : EC) : Array Value := ((((C.setIfInBounds (i * 5) (.int .i64 e.kn)).setIfInBounds (i * 5 + 1) (.int .i64 e.kd)).setIfInBounds (i * 5 + 2) (.int .i64 e.dk)).setIfInBounds (i * 5 + 3) (.int .i64 e.dn)).setIfInBounds (i * 5 + 4) (.slice e.da e.dm e.dc)
theorem cells_lt {e : EC} {j : Nat} {v : Value} (h : e.cells[j]? = some v) : j < 5 := (List.getElem?_eq_some_iff.1 h).1
theorem Lies.put {L : List EC} {C : Array Value} (h : Lies L C) {i : Nat} (hi : i < L.length) (e : EC) : Lies (L.set i e) (put5 C i e) := by
  refine ⟨by simp [put5, h.size], fun k x hx j v hv => ?_⟩
  have hj := cells_lt hv
  have hs := h.size
  rw [List.getElem?_set] at hx
  unfold put5
  simp only [Array.getElem?_setIfInBounds, Array.size_setIfInBounds]
  by_cases hk : i = k
  · subst hk
    rw [if_pos rfl, if_pos hi] at hx
    cases hx
    rcases (by omega : j = 0 ∨ j = 1 ∨ j = 2 ∨ j = 3 ∨ j = 4) with rfl | rfl | rfl | rfl | rfl <;> (simp only [EC.cells, List.getElem?_cons_zero, List.getElem?_cons_succ, Option.some.injEq] at hv; subst hv; repeat (first | rw [if_neg (by omega)] | rw [if_pos (by omega), if_pos (by omega)]))
  · rw [if_neg hk] at hx
    have := h.at_ k x hx j v hv
    rw [if_neg (by omega), if_neg (by omega), if_neg (by omega), if_neg (by omega), if_neg (by omega)]
    exact this
/-- While a row is sorted: it lies in block b; all else that was there is as it was. -/
structure St (B b : Nat) (W0 : World) (L : List EC) (W : World) : Prop where
  row : ∃ C T, W.heap[b]? = some (.cells C T (0, 0)) ∧ Lies L C
  below : Below B W0 W
  keep : ∀ x, x ≠ b → x < W0.heap.size → W.heap[x]? = W0.heap[x]?
theorem St.lt {B b : Nat} {W0 W : World} {L : List EC} (h : St B b W0 L W) : b < W.heap.size := by
  obtain ⟨C, T, g, _⟩ := h.row
  exact (Array.getElem?_eq_some_iff.1 g).1
theorem St.step {B b : Nat} {W0 W W' : World} {L : List EC} (h : St B b W0 L W) (hB : B ≤ b) (hb : Below W.heap.size W W') : St B b W0 L W' := by
  obtain ⟨C, T, g, hl⟩ := h.row
  have hz := h.lt
  exact ⟨⟨C, T, (hb.block _ hz).trans g, hl⟩, h.below.trans (hb.mono (by omega)), fun x hx hz => (hb.block _ (Nat.lt_of_lt_of_le hz h.below.size)).trans (h.keep x hx hz)⟩
theorem St.cell {B b : Nat} {W0 W : World} {L : List EC} (h : St B b W0 L W) {i : Nat} {e : EC} (he : L[i]? = some e) :
    W.cell? ⟨b, i * 5, none⟩ = some (.int .i64 e.kn) ∧ W.cell? ⟨b, i * 5 + 1, none⟩ = some (.int .i64 e.kd) ∧ W.cell? ⟨b, i * 5 + 2, none⟩ = some (.int .i64 e.dk) ∧ W.cell? ⟨b, i * 5 + 3, none⟩ = some (.int .i64 e.dn) ∧ W.cell? ⟨b, i * 5 + 4, none⟩ = some (.slice e.da e.dm e.dc) := by
  obtain ⟨C, T, g, hl⟩ := h.row
  exact ⟨cell_at g (hl.at_ i e he 0 _ rfl), cell_at g (hl.at_ i e he 1 _ rfl), cell_at g (hl.at_ i e he 2 _ rfl), cell_at g (hl.at_ i e he 3 _ rfl), cell_at g (hl.at_ i e he 4 _ rfl)⟩
theorem St.free {B b : Nat} {W0 W : World} {L : List EC} (h : St B b W0 L W) (o : Nat) : W.frozen? ⟨b, o, none⟩ = false := by
  obtain ⟨C, T, g, hl⟩ := h.row
  exact free_at g
/-- An entry stored at place i. -/
def set5 (W : World) (b i : Nat) (e : EC) : World := ((((W.setCell ⟨b, i * 5, none⟩ (.int .i64 e.kn)).setCell ⟨b, i * 5 + 1, none⟩ (.int .i64 e.kd)).setCell ⟨b, i * 5 + 2, none⟩ (.int .i64 e.dk)).setCell ⟨b, i * 5 + 3, none⟩ (.int .i64 e.dn)).setCell ⟨b, i * 5 + 4, none⟩ (.slice e.da e.dm e.dc)
theorem St.put {B b : Nat} {W0 W : World} {L : List EC} (h : St B b W0 L W) (hB : B ≤ b) {i : Nat} (hi : i < L.length) (e : EC) : St B b W0 (L.set i e) (set5 W b i e) := by
  obtain ⟨C, T, g, hl⟩ := h.row
  refine ⟨⟨put5 C i e, T, ?_, hl.put hi e⟩, ?_, fun x hx hz => ?_⟩
  · exact heap_set_at _ (heap_set_at _ (heap_set_at _ (heap_set_at _ (heap_set_at _ g))))
  · exact ((((h.below.setCell hB _).setCell hB _).setCell hB _).setCell hB _).setCell hB _
  · unfold set5
    rw [Below.heap_setCell _ _ _ _ hx, Below.heap_setCell _ _ _ _ hx, Below.heap_setCell _ _ _ _ hx, Below.heap_setCell _ _ _ _ hx, Below.heap_setCell _ _ _ _ hx]
    exact h.keep x hx hz
theorem St.fix {B b : Nat} {W0 W : World} {L : List EC} (h : St B b W0 L W) {F : Foot} (hF : ∀ x, F x → x ≠ b) : Fix F W0 W := ⟨h.below.size, fun x hx hf => h.keep x (hF x hf) hx⟩
theorem St.drew {B b : Nat} {W0 W : World} {L : List EC} (h : St B b W0 L W) (hB : B ≤ b) : St B b W0 L W.drew := h.step hB ((Below.refl _ _).drew)
end Go.Proofs.YtibabpahpiijgaaGreatDoor.Stab
/- A row of entries that grows within its room, in a block of its own, and the trees that its entries have. -/
namespace Go.Proofs.YtibabpahpiijgaaGreatDoor.Stab
open Go Go.RowKit
set_option linter.unusedSimpArgs false
set_option linter.unusedVariables false
/-- Cells of an entry that show this. -/
structure EntOf (k : Nat) (F : Foot) (w : World) (e : EC) (x : EntryV) : Prop where
  kn : e.kn = x.1.1
  kd : e.kd = x.1.2
  wn : (Lit.int .i64 x.1.1).wf = true
  wd : (Lit.int .i64 x.1.2).wf = true
  rd : descRd k F w [.int .i64 e.dk, .int .i64 e.dn, .slice e.da e.dm e.dc] x.2
theorem EntOf.keep {k : Nat} {F : Foot} {w w' : World} {e : EC} {x : EntryV} (h : EntOf k F w e x) (hf : Fix F w w') : EntOf k F w' e x := ⟨h.kn, h.kd, h.wn, h.wd, (descRd_ok k).keep h.rd hf⟩
theorem EntOf.mono {k : Nat} {F G : Foot} {w : World} {e : EC} {x : EntryV} (h : EntOf k F w e x) (hg : ∀ b, b < w.heap.size → F b → G b) : EntOf k G w e x := ⟨h.kn, h.kd, h.wn, h.wd, (descRd_ok k).mono h.rd hg⟩
theorem EntOf.entry {k : Nat} {F : Foot} {w : World} {e : EC} {x : EntryV} (h : EntOf k F w e x) : entryRd k F w e.cells x :=
  ⟨[.int .i64 e.kn, .int .i64 e.kd], [.int .i64 e.dk, .int .i64 e.dn, .slice e.da e.dm e.dc], rfl, ⟨[.int .i64 e.kn], [.int .i64 e.kd], rfl, ⟨by rw [h.kn], h.wn⟩, by rw [h.kd], h.wd⟩, h.rd⟩
def cellsOf (L : List EC) : List Value := (L.map EC.cells).flatten
theorem cellsOf_len : ∀ L : List EC, (cellsOf L).length = L.length * 5
  | [] => rfl
  | e :: L => by
    have := cellsOf_len L
    show (e.cells ++ cellsOf L).length = _
    rw [List.length_append, this]
    simp [EC.cells]
    omega
theorem cellsOf_snoc (L : List EC) (e : EC) : cellsOf (L ++ [e]) = cellsOf L ++ e.cells := by simp [cellsOf]
theorem cellsOf_get : ∀ {L : List EC} {i : Nat} {e : EC} {j : Nat} {v : Value}, L[i]? = some e → e.cells[j]? = some v → (cellsOf L)[i * 5 + j]? = some v
  | [], i, e, j, v, h, _ => by simp at h
  | x :: L, 0, e, j, v, h, hv => by
    obtain rfl : x = e := by simpa using h
    show (x.cells ++ cellsOf L)[0 * 5 + j]? = _
    rw [Nat.zero_mul, Nat.zero_add, List.getElem?_append_left (cells_lt hv)]
    exact hv
  | x :: L, i + 1, e, j, v, h, hv => by
    show (x.cells ++ cellsOf L)[(i + 1) * 5 + j]? = _
    rw [List.getElem?_append_right (by show 5 ≤ _; omega), show (i + 1) * 5 + j - x.cells.length = i * 5 + j by show _ - 5 = _; omega]
    exact cellsOf_get (by simpa using h) hv
theorem cells_one (e : EC) : ∀ u ∈ e.cells, u.oneCell' = true := by
  intro u hu
  simp only [EC.cells, List.mem_cons, List.not_mem_nil, or_false] at hu
  rcases hu with rfl | rfl | rfl | rfl | rfl <;> rfl
/-- An append within a row's room, in a region that draws its order. -/
theorem step_appS {P : Program} {w : World} {ops : Array Oper} {o : Oper} {a : Act} {K : Act → World → Prop} {Q : Exit → Act → World → Prop} {E0 : Prop} (hgd : o.guard = none) (s x : Operand) (t : TypeId)
    (ho : o.op = .call { callee := .builtin .append, args := #[s, x], argTypes := #[t, t] })
    {base : Nat} {e : TypeId} {size bytes : Nat} (E : Elem P t e size bytes)
    (g n cap : Nat) (xs : List Value) (hs : a.eval s = .slice (some ⟨g, 0, none⟩) n cap) (ad : Addr) (m c : Nat) (news : List Value) (hx : a.eval x = .slice (some ad) m c)
    (hown : w.ownsRow base e size (.slice (some ⟨g, 0, none⟩) n cap) n xs) (hsrc : Src w (some ad) m c size news) (hroom : n + m ≤ cap)
    (h : ∀ w', w'.ownsRow base e size (.slice (some ⟨g, 0, none⟩) (n + m) cap) (n + m) (xs ++ news) → w.grownBy w' (some g) → K (a.put o.dst (.slice (some ⟨g, 0, none⟩) (n + m) cap)) w') :
    if Region.wanted o (yielded ops a.tmps) = true then Oper.wp P o a w K Q else E0 := by
  have hw : Region.wanted o (yielded ops a.tmps) = true := by simp [Region.wanted, hgd]
  rw [if_pos hw]
  obtain ⟨z, hi, hzs⟩ := E.row
  obtain ⟨i, hi, hz0, hz1, hz2⟩ := info_parts hi
  exact wp_append_own_spare w s x t ho base e i size E.ht hi hz1 g n cap xs hs hown ad m c news hx hsrc.len (hsrc.at_ ad rfl) hsrc.one hroom h
/-- A row of n places in block g, of which the first ones are filled; its trees lie behind block g. -/
structure Ents (k B g n : Nat) (w : World) (L : List EC) (l : List EntryV) : Prop where
  row : w.ownsRow B 70 5 (.slice (some ⟨g, 0, none⟩) L.length n) L.length (cellsOf L)
  len : L.length = l.length
  at_ : ∀ (i : Nat) e, L[i]? = some e → ∃ x, l[i]? = some x ∧ EntOf k (From (g + 1)) w e x
theorem Ents.below {k B g n : Nat} {w w' : World} {L : List EC} {l : List EntryV} (h : Ents k B g n w L l) (hb : Below w.heap.size w w') : Ents k B g n w' L l :=
  ⟨own_below h.row hb, h.len, fun i e hi => by
    obtain ⟨x, h1, h2⟩ := h.at_ i e hi
    exact ⟨x, h1, h2.keep (Fix.of_below hb)⟩⟩
theorem Ents.add {k B g n : Nat} {wm w3 : World} {L : List EC} {l : List EntryV} {e : EC} {x : EntryV} (h : Ents k B g n wm L l) (hd : EntOf k (From (g + 1)) wm e x)
    (ho : w3.ownsRow B 70 5 (.slice (some ⟨g, 0, none⟩) (L.length + 1) n) (L.length + 1) (cellsOf L ++ e.cells)) (hg : wm.grownBy w3 (some g)) : Ents k B g n w3 (L ++ [e]) (l ++ [x]) := by
  have fx : Fix (From (g + 1)) wm w3 := .of_grown hg fun b _ hf e => by have h2 := Option.some.inj e; have hf' : g + 1 ≤ b := hf; omega
  refine ⟨by rw [List.length_append, cellsOf_snoc]; exact ho, by simp [h.len], fun i e' hi => ?_⟩
  by_cases hlt : i < L.length
  · rw [List.getElem?_append_left hlt] at hi
    obtain ⟨x', h1, h2⟩ := h.at_ i e' hi
    exact ⟨x', by rw [List.getElem?_append_left (by rw [← h.len]; exact hlt)]; exact h1, h2.keep fx⟩
  · rw [List.getElem?_append_right (by omega)] at hi
    have hi0 : i - L.length = 0 := by have := (List.getElem?_eq_some_iff.1 hi).1; simp at this; omega
    rw [hi0] at hi
    obtain rfl : e = e' := by simpa using hi
    exact ⟨x, by rw [List.getElem?_append_right (by rw [← h.len]; omega), ← h.len, hi0]; rfl, hd.keep fx⟩
/-- A row that is full lies in its block. -/
theorem Ents.full {k B g : Nat} {w : World} {L : List EC} {l : List EntryV} (h : Ents k B g L.length w L l) : ∃ C T, w.heap[g]? = some (.cells C T (0, 0)) ∧ Lies L C := by
  rcases h.row.2 with ⟨h0, _⟩ | ⟨g', cap, cur, hv, hb, hg, hn, hm, hs, ht⟩
  · cases h0
  · cases hv
    refine ⟨cur, _, hg, hs, fun i e hi j v hj => ?_⟩
    have hc := cellsOf_get hi hj
    rw [← ht] at hc
    rw [List.getElem?_take] at hc
    split at hc
    · rw [← Array.getElem?_toList]; exact hc
    · cases hc
/-- Behind the sorting: the row shows the entries by their keys. -/
theorem sorted_row {k B g : Nat} {w w' : World} {L L' : List EC} {l : List EntryV} {lt : EC → EC → Bool} (hlt : lt = fun x y => ltK (x.kn, x.kd) (y.kn, y.kd)) (h : Ents k B g L.length w L l) (hs : Srt lt L') (sm : Same lt L L') (hlen : L'.length = L.length)
    (hst : St g g w L' w') (hroom : L.length * 56 ≤ 140737488351232) (hm : L.length ≤ maxLen) : RowOf (entryRd k) 5 56 (From g) w' (some ⟨g, 0, none⟩) L.length L.length (sortE l) := by
  subst hlt
  obtain ⟨g1, g2⟩ := isort_spec (ord_by ltK_ord fun x : EntryV => x.1) l
  have hz1 : (L.zip l).map Prod.fst = L := List.map_fst_zip (by rw [h.len]; omega)
  have hz2 : (L.zip l).map Prod.snd = l := List.map_snd_zip (by rw [h.len]; omega)
  have hmem : ∀ z ∈ L.zip l, EntOf k (From (g + 1)) w z.1 z.2 := fun z hz => by
    obtain ⟨i, hi⟩ := List.getElem?_of_mem hz
    rw [List.getElem?_zip_eq_some] at hi
    obtain ⟨x, h1, h2⟩ := h.at_ i _ hi.1
    rw [hi.2] at h1
    cases h1
    exact h2
  obtain ⟨Z, e1, e2, e3⟩ := pair_sort (k := ltK) ltK_ord (ka := fun x : EC => (x.kn, x.kd)) (kb := fun x : EntryV => x.1) (Z := L.zip l) (fun z hz => by rw [(hmem z hz).kn, (hmem z hz).kd]) hs (by rw [hz1]; exact sm) g1 (by rw [hz2]; exact g2)
  obtain ⟨C, T, hg, hl⟩ := hst.row
  have hln : (sortE l).length = L.length := by
    have := congrArg List.length e1
    have k2 := congrArg List.length e2
    rw [List.length_map] at this k2
    show (isort _ l).length = _
    rw [← k2, this, hlen]
  refine ⟨hln, Nat.le_refl _, hm, hroom, by simp, fun i x hx => ?_⟩
  have hx' : (Z.map Prod.snd)[i]? = some x := by rw [e2]; exact hx
  rw [List.getElem?_map, Option.map_eq_some_iff] at hx'
  obtain ⟨z, hz, rfl⟩ := hx'
  have hL : L'[i]? = some z.1 := by rw [← e1, List.getElem?_map, hz]; rfl
  have hE := (hmem z (e3 z (List.mem_of_getElem? hz))).keep (hst.fix fun b hb e => by have hb' : g + 1 ≤ b := hb; omega)
  refine ⟨g, 0, z.1.cells, rfl, hst.lt, Nat.le_refl g, rfl, fun j u hu => ?_, (hE.mono fun b _ hb => by have hb' : g + 1 ≤ b := hb; show g ≤ b; omega).entry⟩
  rw [Nat.zero_add]
  exact cell_at hg (hl.at_ i _ hL j u hu)
end Go.Proofs.YtibabpahpiijgaaGreatDoor.Stab
/- Two blocks of a row of entries change places. -/
namespace Go.Proofs.YtibabpahpiijgaaGreatDoor.Stab
open Go Go.RowKit
set_option linter.unusedSimpArgs false
set_option linter.unusedVariables false
theorem wrapN {n m i : Nat} (h : i = n + m) (hi : i < 4611686018427387904) : IntKind.i64.wrap ((n : Int) + (m : Int)) = (i : Int) := by
  subst h
  simp only [IntKind.wrap, IntKind.bits, IntKind.signed]
  simp
  omega
set_option maxRecDepth 100000 in
set_option maxHeartbeats 4000000 in
theorem swapr_any (B b : Nat) (W0 : World) (hB : B ≤ b) (L : List EC) (cap a c n : Nat) (v : Value) (hac : a + n ≤ c) (hcn : c + n ≤ L.length) (hl : L.length ≤ 1099511627776) (W : World) (hst : St B b W0 L W) :
    Calls Tryz.prog 166 #[.slice (some ⟨b, 0, none⟩) L.length cap, .int .i64 a, .int .i64 c, .int .i64 n, v] W fun e w' => e = .returned (.tuple #[]) ∧ ∃ L', Turned (sig a c n) L L' ∧ St B b W0 L' w' := by
  have HST := Lib.hid hst
  obtain ⟨N, hN⟩ : ∃ N, N = L.length := ⟨_, rfl⟩
  rw [← hN] at hcn hl ⊢
  have HN := Lib.hid hN
  have HAC := Lib.hid hac
  clear hst hN
  go_enter Tryz.func166, Tryz.ntmps166
  go_wp2_with fail
  go_loopg [10] n (fun g iv wr => ∃ k : Nat, ∃ L' : List EC, k ≤ n ∧ g = n - k ∧ iv = .int .i64 (k : Int) ∧ Turned (sig a c k) L L' ∧ St B b W0 L' wr)
  case atStart => exact ⟨0, L, by omega, rfl, rfl, ⟨rfl, fun t => by rw [sig_none]⟩, HST.out⟩
  case round =>
    obtain ⟨k, L', hk, rfl, rfl, ht, hs⟩ := hrel
    obtain ⟨wo, rfl⟩ : ∃ wo : World, wo = wr := ⟨_, rfl⟩
    have HT := Lib.hid ht
    have HS := Lib.hid hs
    clear ht hs
    by_cases hlt : k < n
    · obtain ⟨i, hi⟩ : ∃ i, i = a + k := ⟨_, rfl⟩
      obtain ⟨j, hj⟩ : ∃ j, j = c + k := ⟨_, rfl⟩
      have hlen : L'.length = N := by rw [HT.out.len, HN.out]
      have hiN : i < N := by omega
      have hjN : j < N := by omega
      have hij : i < j := by omega
      obtain ⟨x, hx⟩ : ∃ x, L'[i]? = some x := ⟨_, List.getElem?_eq_getElem (by omega)⟩
      obtain ⟨y, hy⟩ : ∃ y, L'[j]? = some y := ⟨_, List.getElem?_eq_getElem (by omega)⟩
      have wi : IntKind.i64.wrap ((a : Int) + (k : Int)) = (i : Int) := wrapN hi (by omega)
      have wj : IntKind.i64.wrap ((c : Int) + (k : Int)) = (j : Int) := wrapN hj (by omega)
      have i0 : (0 : Int) ≤ (i : Int) := by omega
      have j0 : (0 : Int) ≤ (j : Int) := by omega
      have iN : (i : Int) < (N : Int) := by omega
      have jN : (j : Int) < (N : Int) := by omega
      obtain ⟨x0, x1, x2, x3, x4⟩ := HS.out.cell hx
      obtain ⟨y0, y1, y2, y3, y4⟩ := HS.out.cell hy
      have fr := fun o => HS.out.free o
      have HX := Lib.hid hx
      have HY := Lib.hid hy
      have HI := Lib.hid hi
      have HJ := Lib.hid hj
      have HLEN := Lib.hid hlen
      clear hx hy hi hj hlen
      go_upto_region 3 with fail
      go_region
      have hS9 : St B b W0 ((L'.set i y).set j x) (set5 (set5 wo b i y) b j x).drew := ((HS.out.put hB (by rw [HLEN.out]; omega) y).put hB (by rw [List.length_set, HLEN.out]; omega) x).drew hB
      have HS9 := Lib.hid hS9
      obtain ⟨W9, hW9⟩ : ∃ W9, W9 = (set5 (set5 wo b i y) b j x).drew := ⟨_, rfl⟩
      rw [← hW9] at HS9
      unfold set5 at hW9
      rw [← hW9]
      clear hW9 hS9 x0 x1 x2 x3 x4 y0 y1 y2 y3 y4 fr
      go_wp2_with fail
      go_roundg (n - (k + 1))
      case measure => omega
      case rel =>
        refine ⟨k + 1, (L'.set i y).set j x, by omega, rfl, by go_num, ?_, HS9.out⟩
        refine (HT.out.trans (turned_swap hij HX.out HY.out)).congr fun t => ?_
        rw [HI.out, HJ.out]
        exact sig_step (by have := HAC.out; omega)
    · obtain rfl : k = n := by omega
      go_wp2_with fail
      go_end0
      exact ⟨rfl, L', HT.out, HS.out⟩
end Go.Proofs.YtibabpahpiijgaaGreatDoor.Stab
/- Two sections of a row of entries change places. -/
namespace Go.Proofs.YtibabpahpiijgaaGreatDoor.Stab
open Go Go.RowKit
set_option linter.unusedSimpArgs false
set_option linter.unusedVariables false
theorem wrapS {n m i : Nat} (h : n = i + m) (hi : n < 4611686018427387904) : IntKind.i64.wrap ((n : Int) - (m : Int)) = (i : Int) := by
  have e : (n : Int) - (m : Int) = ((i : Nat) : Int) + ((0 : Nat) : Int) := by omega
  rw [e]
  exact wrapN (by omega) (by omega)
set_option maxRecDepth 100000 in
set_option maxHeartbeats 4000000 in
theorem rot_any (B b : Nat) (W0 : World) (hB : B ≤ b) (L : List EC) (cap a m c : Nat) (v : Value) (ham : a < m) (hmc : m < c) (hcn : c ≤ L.length) (hl : L.length ≤ 1099511627776) (W : World) (hst : St B b W0 L W) :
    Calls Tryz.prog 153 #[.slice (some ⟨b, 0, none⟩) L.length cap, .int .i64 a, .int .i64 m, .int .i64 c, v] W fun e w' => e = .returned (.tuple #[]) ∧ ∃ L', Turned (rho a m c) L L' ∧ St B b W0 L' w' := by
  have HST := Lib.hid hst
  obtain ⟨N, hN⟩ : ∃ N, N = L.length := ⟨_, rfl⟩
  rw [← hN] at hcn hl ⊢
  have HN := Lib.hid hN
  have HSW : Hid (∀ (L' : List EC) (x y n : Nat) (W' : World), L'.length = N → x + n ≤ y → y + n ≤ N → St B b W0 L' W' → Calls Tryz.prog 166 #[.slice (some ⟨b, 0, none⟩) N cap, .int .i64 x, .int .i64 y, .int .i64 n, v] W' fun e w' => e = .returned (.tuple #[]) ∧ ∃ L'', Turned (sig x y n) L' L'' ∧ St B b W0 L'' w') := Lib.hid fun L' x y n W' h1 h2 h3 h4 => by
    have h := swapr_any B b W0 hB L' cap x y n v h2 (by omega) (by omega) W' h4
    rw [h1] at h
    exact h
  obtain ⟨i0, hi0, hi0'⟩ : ∃ i0, m ≤ i0 + a ∧ i0 + a ≤ m := ⟨m - a, by omega, by omega⟩
  obtain ⟨j0, hj0, hj0'⟩ : ∃ j0, c ≤ j0 + m ∧ j0 + m ≤ c := ⟨c - m, by omega, by omega⟩
  have w1 := wrapS (n := m) (m := a) (i := i0) (by omega) (by omega)
  have w2 := wrapS (n := c) (m := m) (i := j0) (by omega) (by omega)
  clear hst hN
  go_enter Tryz.func153, Tryz.ntmps153
  go_wp2_with fail
  clear w1 w2
  go_loopg [10, 11] (i0 + j0) (fun g iv jv wr => ∃ i j : Nat, ∃ L' : List EC, 1 ≤ i ∧ 1 ≤ j ∧ a + i ≤ m ∧ m + j ≤ c ∧ g = i + j ∧ iv = .int .i64 (i : Int) ∧ jv = .int .i64 (j : Int) ∧ L'.length = N ∧ (∀ t, L'[rho (m - i) m (m + j) t]? = L[rho a m c t]?) ∧ St B b W0 L' wr)
  case atStart => exact ⟨i0, j0, L, by omega, by omega, by omega, by omega, rfl, rfl, rfl, HN.out.symm, fun t => by rw [show m - i0 = a by omega, show m + j0 = c by omega], HST.out⟩
  case round =>
    obtain ⟨i, j, L', hi, hj, hai, hjc, rfl, rfl, rfl, hlen, hrho, hs⟩ := hrel
    obtain ⟨wo, rfl⟩ : ∃ wo : World, wo = wr := ⟨_, rfl⟩
    have HR := Lib.hid hrho
    have HS := Lib.hid hs
    have HLEN := Lib.hid hlen
    obtain ⟨mi, hmi, hmi'⟩ : ∃ mi, m ≤ mi + i ∧ mi + i ≤ m := ⟨m - i, by omega, by omega⟩
    have hmie : m - i = mi := by omega
    have wmi := wrapS (n := m) (m := i) (i := mi) (by omega) (by omega)
    have HMI := Lib.hid hmie
    clear hrho hs hlen hmie
    by_cases hij : i = j
    · subst hij
      go_wp2_with (go_at_call 166; (with_reducible refine (HSW.out L' mi m i _ HLEN.out (by omega) (by omega) HS.out).mono ?_); rintro e w9 ⟨rfl, L9, ht9, hs9⟩; have HT9 := Lib.hid ht9; have HS9 := Lib.hid hs9; clear ht9 hs9)
      go_end0
      refine ⟨rfl, L9, ⟨by rw [HT9.out.len, HLEN.out, HN.out], fun t => ?_⟩, HS9.out⟩
      rw [HT9.out.at_, ← HR.out t, HMI.out]
      congr 1
      have h := rho_last (i := i) (m := m) (t := t) (by omega)
      rw [HMI.out] at h
      exact h
    · have hne : ¬ (i : Int) = (j : Int) := by omega
      by_cases hlt : j < i
      · have hlt' : (j : Int) < (i : Int) := by omega
        obtain ⟨i2, hi2, hi2'⟩ : ∃ i2, i ≤ i2 + j ∧ i2 + j ≤ i := ⟨i - j, by omega, by omega⟩
        have wi2 := wrapS (n := i) (m := j) (i := i2) (by omega) (by omega)
        go_wp2_with (go_at_call 166; (with_reducible refine (HSW.out L' mi m j _ HLEN.out (by omega) (by omega) HS.out).mono ?_); rintro e w9 ⟨rfl, L9, ht9, hs9⟩; have HT9 := Lib.hid ht9; have HS9 := Lib.hid hs9; clear ht9 hs9)
        go_roundg (i2 + j)
        case measure => omega
        case rel =>
          refine ⟨i2, j, L9, by omega, hj, by omega, hjc, rfl, rfl, rfl, by rw [HT9.out.len, HLEN.out], fun t => ?_, HS9.out⟩
          rw [HT9.out.at_, ← HR.out t, HMI.out]
          congr 1
          have h := rho_left (i := i) (j := j) (m := m) (t := t) hlt (by omega)
          rw [HMI.out] at h
          rw [← h, show m - i2 = mi + j by omega]
      · have hlt' : ¬ (j : Int) < (i : Int) := by omega
        obtain ⟨j2, hj2, hj2'⟩ : ∃ j2, j ≤ j2 + i ∧ j2 + i ≤ j := ⟨j - i, by omega, by omega⟩
        have wj2 := wrapS (n := j) (m := i) (i := j2) (by omega) (by omega)
        obtain ⟨mj, hmj, hmj'⟩ : ∃ mj, mj ≤ m + j ∧ m + j ≤ mj := ⟨m + j, by omega, by omega⟩
        have wmj := wrapN (n := m) (m := j) (i := mj) (by omega) (by omega)
        obtain ⟨q, hq, hq'⟩ : ∃ q, mj ≤ q + i ∧ q + i ≤ mj := ⟨mj - i, by omega, by omega⟩
        have wq := wrapS (n := mj) (m := i) (i := q) (by omega) (by omega)
        have HJQ : Hid (m + j - i = q) := Lib.hid (by omega)
        have HJ2 : Hid (m + j2 = q) := Lib.hid (by omega)
        go_wp2_with (go_at_call 166; (with_reducible refine (HSW.out L' mi q i _ HLEN.out (by omega) (by omega) HS.out).mono ?_); rintro e w9 ⟨rfl, L9, ht9, hs9⟩; have HT9 := Lib.hid ht9; have HS9 := Lib.hid hs9; clear ht9 hs9)
        go_roundg (i + j2)
        case measure => omega
        case rel =>
          refine ⟨i, j2, L9, hi, by omega, hai, by omega, rfl, rfl, rfl, by rw [HT9.out.len, HLEN.out], fun t => ?_, HS9.out⟩
          rw [HT9.out.at_, ← HR.out t, HMI.out]
          congr 1
          have h := rho_right (i := i) (j := j) (m := m) (t := t) (by omega) (by omega)
          rw [HMI.out, HJQ.out] at h
          rw [← h, HJ2.out]
end Go.Proofs.YtibabpahpiijgaaGreatDoor.Stab
/- Sorting that keeps what is equal in its order: the three steps of a merge from the middle, each of them done or left. -/
namespace Go.Proofs.YtibabpahpiijgaaGreatDoor.Stab
variable {α : Type} {lt : α → α → Bool}
/-- The sections s .. m and m .. e have changed places (mid is where they meet now). -/
structure Sec1 (l l1 : List α) (s m e mid : Nat) : Prop where
  len : l1.length = l.length
  pre : l1.take s = l.take s
  post : l1.drop e = l.drop e
  x1 : sec l1 s mid = sec l m e
  x2 : sec l1 mid e = sec l s m
theorem sec1_turn {l l1 : List α} {s m e mid : Nat} (h1 : s ≤ m) (h2 : m ≤ e) (hm : mid = s + (e - m)) (h : Turned (rho s m e) l l1) : Sec1 l l1 s m e mid := by
  obtain ⟨p1, p2, p3, p4⟩ := turned_parts h1 h2 h
  subst hm
  exact ⟨h.len, p1, p2, p3, p4⟩
theorem sec1_same {l : List α} {s m e mid : Nat} (h1 : s ≤ m) (h2 : m ≤ e) (hm : mid = s + (e - m)) (h : ¬ (s < m ∧ m < e)) : Sec1 l l s m e mid := by
  refine ⟨rfl, rfl, rfl, ?_, ?_⟩
  · by_cases c : s = m
    · rw [show mid = e by omega, c]
    · rw [sec_nil _ (by omega), sec_nil _ (by omega)]
  · by_cases c : s = m
    · rw [sec_nil _ (by omega), sec_nil _ (by omega)]
    · rw [show mid = s by omega, show e = m by omega]
theorem sec1_two {l l1 : List α} {a s m e mid b : Nat} (h : Sec1 l l1 s m e mid) (h1 : a ≤ s) (h2 : s ≤ m) (h3 : m ≤ e) (h4 : e ≤ b) (hu : Srt lt (sec l a m)) (hv : Srt lt (sec l m b)) : Srt lt (sec l1 a s) ∧ Srt lt (sec l1 s mid) := by
  rw [sec_split l h1 h2] at hu
  rw [sec_split l h3 h4] at hv
  exact ⟨by rw [sec_before h.pre (Nat.le_refl s)]; exact srt_left hu, by rw [h.x1]; exact srt_left hv⟩
theorem two_same {l l1 : List α} {a s m e mid b : Nat} (h : Sec1 l l1 s m e mid) (hm : mid = s + (e - m)) (h1 : a ≤ s) (h2 : s ≤ m) (h3 : m ≤ e) (h4 : e ≤ b) (hu : Srt lt (sec l a m)) (hv : Srt lt (sec l m b)) (c : ¬ (a < s ∧ s < mid)) : On lt a mid l1 l1 := by
  obtain ⟨g1, g2⟩ := sec1_two h h1 h2 h3 h4 hu hv
  refine On.refl ?_
  by_cases e : a = s
  · rw [e]; exact g2
  · rw [show mid = s by omega]; exact g1
theorem sec1_three {l l1 l2 : List α} {a s m e mid b : Nat} (h : Sec1 l l1 s m e mid) (hm : mid = s + (e - m)) (h1 : a ≤ s) (h2 : s ≤ m) (h3 : m ≤ e) (h4 : e ≤ b) (hu : Srt lt (sec l a m)) (hv : Srt lt (sec l m b)) (ho : On lt a mid l1 l2) : Srt lt (sec l2 mid e) ∧ Srt lt (sec l2 e b) := by
  rw [sec_split l h1 h2] at hu
  rw [sec_split l h3 h4] at hv
  refine ⟨?_, ?_⟩
  · rw [sec_after ho.post (Nat.le_refl mid), h.x2]; exact srt_right hu
  · rw [sec_after ho.post (by omega), sec_after h.post (Nat.le_refl e)]; exact srt_right hv
theorem three_same {l l1 l2 : List α} {a s m e mid b : Nat} (h : Sec1 l l1 s m e mid) (hm : mid = s + (e - m)) (h1 : a ≤ s) (h2 : s ≤ m) (h3 : m ≤ e) (h4 : e ≤ b) (hu : Srt lt (sec l a m)) (hv : Srt lt (sec l m b)) (ho : On lt a mid l1 l2) (c : ¬ (mid < e ∧ e < b)) : On lt mid b l2 l2 := by
  obtain ⟨g1, g2⟩ := sec1_three h hm h1 h2 h3 h4 hu hv ho
  refine On.refl ?_
  by_cases k : mid = e
  · rw [k]; exact g2
  · rw [show b = e by omega]; exact g1
theorem sec1_all (ho : Ord lt) {l l1 l2 l3 : List α} {a s m mid e b : Nat} (h : Sec1 l l1 s m e mid) (h1 : a ≤ s) (h2 : s ≤ m) (h3 : m ≤ e) (h4 : e ≤ b) (hb : b ≤ l.length) (hm : mid = s + (e - m))
    (hu : Srt lt (sec l a m)) (hv : Srt lt (sec l m b)) (B1 : a < s → e < b → ∀ x y, l[s - 1]? = some x → l[e]? = some y → lt y x = false) (B2 : s < m → m < e → ∀ x y, l[s]? = some x → l[e - 1]? = some y → lt y x = true)
    (on2 : On lt a mid l1 l2) (on3 : On lt mid b l2 l3) : On lt a b l l3 :=
  merge_on ho h1 h2 h3 h4 hb hm hu hv B1 B2 h.len h.pre h.post h.x1 h.x2 on2 on3
end Go.Proofs.YtibabpahpiijgaaGreatDoor.Stab
