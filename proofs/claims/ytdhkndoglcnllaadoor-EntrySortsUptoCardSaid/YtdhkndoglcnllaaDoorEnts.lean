/- A row of entries that grows within its room, in a block of its own, and the trees that its entries have. -/
import Derived.Test.YtdhkndoglcnllaaDoorEnt
import Derived.Test.YtdhkndoglcnllaaDoorRowE
import Derived.Test.YtdhkndoglcnllaaDoorGrow
import Derived.Deep.DeepAppendRoom
namespace Go.Proofs.YtdhkndoglcnllaaDoor.Stab
open Go Go.RowKit
set_option linter.unusedSimpArgs false
set_option linter.unusedVariables false
/-- Cells of an entry that show this. -/
structure EntOf (k : Nat) (F : Foot) (w : World) (e : EC) (x : EntryV) : Prop where
  kn : e.kn = x.1.1
  kd : e.kd = x.1.2
  wn : (Lit.int .i64 x.1.1).wf = true
  wd : (Lit.int .i64 x.1.2).wf = true
  rd : descRd k F w [.int .i64 e.dk, .int .i64 e.dn, .slice e.da e.dm e.dc] x.2
theorem EntOf.keep {k : Nat} {F : Foot} {w w' : World} {e : EC} {x : EntryV} (h : EntOf k F w e x) (hf : Fix F w w') : EntOf k F w' e x := ⟨h.kn, h.kd, h.wn, h.wd, (descRd_ok k).keep h.rd hf⟩
theorem EntOf.mono {k : Nat} {F G : Foot} {w : World} {e : EC} {x : EntryV} (h : EntOf k F w e x) (hg : ∀ b, b < w.heap.size → F b → G b) : EntOf k G w e x := ⟨h.kn, h.kd, h.wn, h.wd, (descRd_ok k).mono h.rd hg⟩
theorem EntOf.entry {k : Nat} {F : Foot} {w : World} {e : EC} {x : EntryV} (h : EntOf k F w e x) : entryRd k F w e.cells x :=
  ⟨[.int .i64 e.kn, .int .i64 e.kd], [.int .i64 e.dk, .int .i64 e.dn, .slice e.da e.dm e.dc], rfl, ⟨[.int .i64 e.kn], [.int .i64 e.kd], rfl, ⟨by rw [h.kn], h.wn⟩, by rw [h.kd], h.wd⟩, h.rd⟩
def cellsOf (L : List EC) : List Value := (L.map EC.cells).flatten
theorem cellsOf_len : ∀ L : List EC, (cellsOf L).length = L.length * 5
  | [] => rfl
  | e :: L => by
    have := cellsOf_len L
    show (e.cells ++ cellsOf L).length = _
    rw [List.length_append, this]
    simp [EC.cells]
    omega
theorem cellsOf_snoc (L : List EC) (e : EC) : cellsOf (L ++ [e]) = cellsOf L ++ e.cells := by simp [cellsOf]
theorem cellsOf_get : ∀ {L : List EC} {i : Nat} {e : EC} {j : Nat} {v : Value}, L[i]? = some e → e.cells[j]? = some v → (cellsOf L)[i * 5 + j]? = some v
  | [], i, e, j, v, h, _ => by simp at h
  | x :: L, 0, e, j, v, h, hv => by
    obtain rfl : x = e := by simpa using h
    show (x.cells ++ cellsOf L)[0 * 5 + j]? = _
    rw [Nat.zero_mul, Nat.zero_add, List.getElem?_append_left (cells_lt hv)]
    exact hv
  | x :: L, i + 1, e, j, v, h, hv => by
    show (x.cells ++ cellsOf L)[(i + 1) * 5 + j]? = _
    rw [List.getElem?_append_right (by show 5 ≤ _; omega), show (i + 1) * 5 + j - x.cells.length = i * 5 + j by show _ - 5 = _; omega]
    exact cellsOf_get (by simpa using h) hv
theorem cells_one (e : EC) : ∀ u ∈ e.cells, u.oneCell' = true := by
  intro u hu
  simp only [EC.cells, List.mem_cons, List.not_mem_nil, or_false] at hu
  rcases hu with rfl | rfl | rfl | rfl | rfl <;> rfl
/-- An append within a row's room, in a region that draws its order. -/
theorem step_appS {P : Program} {w : World} {ops : Array Oper} {o : Oper} {a : Act} {K : Act → World → Prop} {Q : Exit → Act → World → Prop} {E0 : Prop} (hgd : o.guard = none) (s x : Operand) (t : TypeId)
    (ho : o.op = .call { callee := .builtin .append, args := #[s, x], argTypes := #[t, t] })
    {base : Nat} {e : TypeId} {size bytes : Nat} (E : Elem P t e size bytes)
    (g n cap : Nat) (xs : List Value) (hs : a.eval s = .slice (some ⟨g, 0, none⟩) n cap) (ad : Addr) (m c : Nat) (news : List Value) (hx : a.eval x = .slice (some ad) m c)
    (hown : w.ownsRow base e size (.slice (some ⟨g, 0, none⟩) n cap) n xs) (hsrc : Src w (some ad) m c size news) (hroom : n + m ≤ cap)
    (h : ∀ w', w'.ownsRow base e size (.slice (some ⟨g, 0, none⟩) (n + m) cap) (n + m) (xs ++ news) → w.grownBy w' (some g) → K (a.put o.dst (.slice (some ⟨g, 0, none⟩) (n + m) cap)) w') :
    if Region.wanted o (yielded ops a.tmps) = true then Oper.wp P o a w K Q else E0 := by
  have hw : Region.wanted o (yielded ops a.tmps) = true := by simp [Region.wanted, hgd]
  rw [if_pos hw]
  obtain ⟨z, hi, hzs⟩ := E.row
  obtain ⟨i, hi, hz0, hz1, hz2⟩ := info_parts hi
  exact wp_append_own_spare w s x t ho base e i size E.ht hi hz1 g n cap xs hs hown ad m c news hx hsrc.len (hsrc.at_ ad rfl) hsrc.one hroom h
/-- A row of n places in block g, of which the first ones are filled; its trees lie behind block g. -/
structure Ents (k B g n : Nat) (w : World) (L : List EC) (l : List EntryV) : Prop where
  row : w.ownsRow B 37 5 (.slice (some ⟨g, 0, none⟩) L.length n) L.length (cellsOf L)
  len : L.length = l.length
  at_ : ∀ (i : Nat) e, L[i]? = some e → ∃ x, l[i]? = some x ∧ EntOf k (From (g + 1)) w e x
theorem Ents.below {k B g n : Nat} {w w' : World} {L : List EC} {l : List EntryV} (h : Ents k B g n w L l) (hb : Below w.heap.size w w') : Ents k B g n w' L l :=
  ⟨own_below h.row hb, h.len, fun i e hi => by
    obtain ⟨x, h1, h2⟩ := h.at_ i e hi
    exact ⟨x, h1, h2.keep (Fix.of_below hb)⟩⟩
theorem Ents.add {k B g n : Nat} {wm w3 : World} {L : List EC} {l : List EntryV} {e : EC} {x : EntryV} (h : Ents k B g n wm L l) (hd : EntOf k (From (g + 1)) wm e x)
    (ho : w3.ownsRow B 37 5 (.slice (some ⟨g, 0, none⟩) (L.length + 1) n) (L.length + 1) (cellsOf L ++ e.cells)) (hg : wm.grownBy w3 (some g)) : Ents k B g n w3 (L ++ [e]) (l ++ [x]) := by
  have fx : Fix (From (g + 1)) wm w3 := .of_grown hg fun b _ hf e => by have h2 := Option.some.inj e; have hf' : g + 1 ≤ b := hf; omega
  refine ⟨by rw [List.length_append, cellsOf_snoc]; exact ho, by simp [h.len], fun i e' hi => ?_⟩
  by_cases hlt : i < L.length
  · rw [List.getElem?_append_left hlt] at hi
    obtain ⟨x', h1, h2⟩ := h.at_ i e' hi
    exact ⟨x', by rw [List.getElem?_append_left (by rw [← h.len]; exact hlt)]; exact h1, h2.keep fx⟩
  · rw [List.getElem?_append_right (by omega)] at hi
    have hi0 : i - L.length = 0 := by have := (List.getElem?_eq_some_iff.1 hi).1; simp at this; omega
    rw [hi0] at hi
    obtain rfl : e = e' := by simpa using hi
    exact ⟨x, by rw [List.getElem?_append_right (by rw [← h.len]; omega), ← h.len, hi0]; rfl, hd.keep fx⟩
/-- A row that is full lies in its block. -/
theorem Ents.full {k B g : Nat} {w : World} {L : List EC} {l : List EntryV} (h : Ents k B g L.length w L l) : ∃ C T, w.heap[g]? = some (.cells C T (0, 0)) ∧ Lies L C := by
  rcases h.row.2 with ⟨h0, _⟩ | ⟨g', cap, cur, hv, hb, hg, hn, hm, hs, ht⟩
  · cases h0
  · cases hv
    refine ⟨cur, _, hg, hs, fun i e hi j v hj => ?_⟩
    have hc := cellsOf_get hi hj
    rw [← ht] at hc
    rw [List.getElem?_take] at hc
    split at hc
    · rw [← Array.getElem?_toList]; exact hc
    · cases hc
/-- Behind the sorting: the row shows the entries by their keys. -/
theorem sorted_row {k B g : Nat} {w w' : World} {L L' : List EC} {l : List EntryV} {lt : EC → EC → Bool} (hlt : lt = fun x y => ltK (x.kn, x.kd) (y.kn, y.kd)) (h : Ents k B g L.length w L l) (hs : Srt lt L') (sm : Same lt L L') (hlen : L'.length = L.length)
    (hst : St g g w L' w') (hroom : L.length * 56 ≤ 140737488351232) (hm : L.length ≤ maxLen) : RowOf (entryRd k) 5 56 (From g) w' (some ⟨g, 0, none⟩) L.length L.length (sortE l) := by
  subst hlt
  obtain ⟨g1, g2⟩ := isort_spec (ord_by ltK_ord fun x : EntryV => x.1) l
  have hz1 : (L.zip l).map Prod.fst = L := List.map_fst_zip (by rw [h.len]; omega)
  have hz2 : (L.zip l).map Prod.snd = l := List.map_snd_zip (by rw [h.len]; omega)
  have hmem : ∀ z ∈ L.zip l, EntOf k (From (g + 1)) w z.1 z.2 := fun z hz => by
    obtain ⟨i, hi⟩ := List.getElem?_of_mem hz
    rw [List.getElem?_zip_eq_some] at hi
    obtain ⟨x, h1, h2⟩ := h.at_ i _ hi.1
    rw [hi.2] at h1
    cases h1
    exact h2
  obtain ⟨Z, e1, e2, e3⟩ := pair_sort (k := ltK) ltK_ord (ka := fun x : EC => (x.kn, x.kd)) (kb := fun x : EntryV => x.1) (Z := L.zip l) (fun z hz => by rw [(hmem z hz).kn, (hmem z hz).kd]) hs (by rw [hz1]; exact sm) g1 (by rw [hz2]; exact g2)
  obtain ⟨C, T, hg, hl⟩ := hst.row
  have hln : (sortE l).length = L.length := by
    have := congrArg List.length e1
    have k2 := congrArg List.length e2
    rw [List.length_map] at this k2
    show (isort _ l).length = _
    rw [← k2, this, hlen]
  refine ⟨hln, Nat.le_refl _, hm, hroom, by simp, fun i x hx => ?_⟩
  have hx' : (Z.map Prod.snd)[i]? = some x := by rw [e2]; exact hx
  rw [List.getElem?_map, Option.map_eq_some_iff] at hx'
  obtain ⟨z, hz, rfl⟩ := hx'
  have hL : L'[i]? = some z.1 := by rw [← e1, List.getElem?_map, hz]; rfl
  have hE := (hmem z (e3 z (List.mem_of_getElem? hz))).keep (hst.fix fun b hb e => by have hb' : g + 1 ≤ b := hb; omega)
  refine ⟨g, 0, z.1.cells, rfl, hst.lt, Nat.le_refl g, rfl, fun j u hu => ?_, (hE.mono fun b _ hb => by have hb' : g + 1 ≤ b := hb; show g ≤ b; omega).entry⟩
  rw [Nat.zero_add]
  exact cell_at hg (hl.at_ i _ hL j u hu)
end Go.Proofs.YtdhkndoglcnllaaDoor.Stab
