/- slim.Clone: the memory of its walk. -/
import Derived.Test.YtbijacoiblbnfaaSlimB
import Derived.Laws.MakeOwn
import Derived.Maps.AppendAt
namespace Go.Proofs.Ytbijacoiblbnfaa
open Go.RowKit
set_option linter.unusedSimpArgs false
set_option linter.unusedVariables false
theorem Fix.set_new {F : Foot} {w w' : World} (h : Fix F w w') {b o : Nat} (hb : w.heap.size ≤ b) (u : Value) : Fix F w (w'.setCell ⟨b, o, none⟩ u) :=
  ⟨by simpa [World.setCell] using h.size, fun x hx hf => (Below.heap_setCell _ _ _ _ (fun e => by simp at e; omega)).trans (h.same x hx hf)⟩
theorem Fix.set_other {F : Foot} {w w' : World} (h : Fix F w w') {b o : Nat} (hb : ¬ F b) (u : Value) : Fix F w (w'.setCell ⟨b, o, none⟩ u) :=
  ⟨by simpa [World.setCell] using h.size, fun x hx hf => (Below.heap_setCell _ _ _ _ (fun e => by simp at e; subst e; exact hb hf)).trans (h.same x hx hf)⟩
theorem src_new {w : World} (news : List Value) (e : TypeId) (n : Nat) (h : news.length = n) (h1 : ∀ u ∈ news, u.oneCell' = true) : Src (w.alloc (.cells news.toArray e)) (some ⟨w.heap.size, 0, none⟩) 1 1 n news := by
  refine ⟨by omega, by simp, fun x hx j u hu => ?_, h1⟩
  cases hx
  rw [Addr.add_lit]
  refine cell_at (heap_alloc_new w _) ?_
  simpa using hu
theorem calls_nil_make (n : Nat) (hn : n ≤ 5864062014805) (w : World) : (Instr.makeSlice 22 (.int .i64 n) (.int .i64 n)).run Try.prog w = .ok (.slice (some ⟨w.heap.size, 0, none⟩) n n) (w.alloc (.cells (madeCells #[.slice none 0 0] n) 70)) := by
  obtain ⟨i, hi, hz0, hz1, hz2⟩ := info_parts (show (Try.prog.info? 70).map (fun i => (i.zero, i.size, i.bytes)) = some (some (.slice none 0 0), 1, 24) by kernel_rfl)
  have h := run_make (P := Try.prog) w 22 70 i (.slice none 0 0) Try.underlying22 hi hz0 .i64 .i64 n n (by omega) (by omega) (by rw [hz2]; omega) (by omega)
  rw [hz1, Nat.mul_one, Int.toNat_natCast] at h
  exact h
theorem madeNil_get (n k : Nat) (h : k < n) : (madeCells #[Value.slice none 0 0] n)[k]? = some (.slice none 0 0) := by
  simp [madeCells, h, Nat.mod_one]
/-- The state of slim.Clone's outer loop, at client i. -/
structure CS (w wr : World) (box res : Array Value) (n : Nat) (L : List (List CallV)) (i : Nat) : Prop where
  below : Below w.heap.size w wr
  box : wr.heap[w.heap.size]? = some (.cells box 25 (0, 0))
  res : wr.heap[w.heap.size + 1]? = some (.cells res 25 (0, 0))
  size : w.heap.size + 3 ≤ wr.heap.size
  cur : ∃ cur, wr.heap[w.heap.size + 2]? = some (.cells cur 70 (0, 0)) ∧ cur.size = n ∧ (∀ j, i ≤ j → j < n → cur[j]? = some (.slice none 0 0)) ∧
    ∀ j (h : j < L.length), j < i → ∃ a c, cur[j]? = some (.slice a (L[j]'h).length c) ∧ RowOf callRd 7 80 (From (w.heap.size + 3)) wr a (L[j]'h).length c (L[j]'h)
/-- The state of its inner loop: row v, the call's own from block B on, shows the first k calls of l. -/
structure CI (w wr : World) (box res : Array Value) (n : Nat) (L : List (List CallV)) (i B : Nat) (l : List CallV) (k : Nat) (v : Value) : Prop where
  below : Below w.heap.size w wr
  box : wr.heap[w.heap.size]? = some (.cells box 25 (0, 0))
  res : wr.heap[w.heap.size + 1]? = some (.cells res 25 (0, 0))
  base : w.heap.size + 3 ≤ B
  size : B ≤ wr.heap.size
  cur : ∃ cur, wr.heap[w.heap.size + 2]? = some (.cells cur 70 (0, 0)) ∧ cur.size = n ∧ (∀ j, i < j → j < n → cur[j]? = some (.slice none 0 0)) ∧ cur[i]? = some v ∧
    ∀ j (h : j < L.length), j < i → ∃ a c, cur[j]? = some (.slice a (L[j]'h).length c) ∧ RowOf callRd 7 80 (fun b => w.heap.size + 3 ≤ b ∧ b < B) wr a (L[j]'h).length c (L[j]'h)
  own : ∃ cells, wr.ownsRow B 73 7 v k cells ∧ ∀ j (h : j < l.length), j < k → callRd (fun b => B ≤ b ∧ some b ≠ v.ownBlock) wr ((cells.drop (j * 7)).take 7) (l[j]'h)
theorem CS.start (w : World) (box res : Array Value) (n : Nat) (L : List (List CallV)) :
    CS w (((w.alloc (.cells box 25)).alloc (.cells res 25)).alloc (.cells (madeCells #[.slice none 0 0] n) 70)) box res n L 0 := by
  refine ⟨(((Below.refl _ _).alloc (Nat.le_refl _) _).alloc (by simp) _).alloc (by simp; omega) _, ?_, ?_, by simp, ⟨madeCells #[.slice none 0 0] n, ?_, size_madeCells _ _, fun j _ h => madeNil_get n j h, fun j _ h => by omega⟩⟩
  · rw [Lib.alloc_old _ _ _ (by simp; omega), Lib.alloc_old _ _ _ (by simp)]
    exact heap_alloc_new w _
  · rw [Lib.alloc_old _ _ _ (by simp)]
    have := heap_alloc_new (w.alloc (.cells box 25)) (.cells res 25)
    simpa using this
  · have := heap_alloc_new ((w.alloc (.cells box 25)).alloc (.cells res 25)) (.cells (madeCells #[.slice none 0 0] n) 70)
    simpa using this
theorem CS.inner {w wr : World} {box res : Array Value} {n i : Nat} {L : List (List CallV)} (h : CS w wr box res n L i) (hi : i < n) (l : List CallV) : CI w wr box res n L i wr.heap.size l 0 (.slice none 0 0) := by
  obtain ⟨cur, h1, h2, h3, h4⟩ := h.cur
  refine ⟨h.below, h.box, h.res, h.size, Nat.le_refl _, ⟨cur, h1, h2, fun j hj hn => h3 j (by omega) hn, h3 i (Nat.le_refl _) hi, fun j hj hji => ?_⟩, ⟨[], World.ownsRow_nil wr _ _ _, fun j _ h => by omega⟩⟩
  obtain ⟨a, c, k1, k2⟩ := h4 j hj hji
  exact ⟨a, c, k1, k2.mono callRd_ok fun b hb hf => ⟨hf, hb⟩⟩
theorem CI.outer {w wr : World} {box res : Array Value} {n i B : Nat} {L : List (List CallV)} {l : List CallV} {v : Value} {k : Nat} (h : CI w wr box res n L i B l k v) (hk : k = l.length) (hL : L[i]? = some l) (hroom : l.length * 80 ≤ 140737488351232) : CS w wr box res n L (i + 1) := by
  subst hk
  obtain ⟨cur, h1, h2, h3, h4, h5⟩ := h.cur
  obtain ⟨cells, ho, he⟩ := h.own
  refine ⟨h.below, h.box, h.res, Nat.le_trans h.base h.size, ⟨cur, h1, h2, fun j hj hn => h3 j (by omega) hn, fun j hj hji => ?_⟩⟩
  by_cases e : j = i
  · subst e
    obtain rfl : L[j]'hj = l := (List.getElem?_eq_some_iff.1 hL).2
    obtain ⟨a, c, rfl, hr⟩ := RowOf.of_owns (r := callRd) (bytes := 80) (F := From (w.heap.size + 3)) ho (by omega) rfl hroom (fun b hb => by have := own_lt ho b hb; have := h.base; show _ ≤ b; omega) fun j' x hx => by
      obtain ⟨hj', rfl⟩ := List.getElem?_eq_some_iff.1 hx
      have hc := he j' hj' hj'
      exact ⟨callRd_ok.len hc, callRd_ok.mono hc fun b _ hb => by have := h.base; show _ ≤ b; omega⟩
    exact ⟨a, c, h4, hr⟩
  · obtain ⟨a, c, k1, k2⟩ := h5 j hj (by omega)
    exact ⟨a, c, k1, k2.mono callRd_ok fun b _ hf => hf.1⟩
theorem CS.done {w wr : World} {box res : Array Value} {n i : Nat} {L : List (List CallV)} (h : CS w wr box res n L i) (hi : ¬ i < n) (hL : L.length = n) (hroom : n * 24 ≤ 140737488351232) : RowOf rowsRd 1 24 (From (w.heap.size + 2)) wr (some ⟨w.heap.size + 1 + 1, 0, none⟩) n n L := by
  obtain ⟨cur, h1, h2, h3, h4⟩ := h.cur
  refine ⟨hL, Nat.le_refl _, by unfold maxLen; omega, hroom, by simp, fun j x hx => ?_⟩
  obtain ⟨hj, rfl⟩ := List.getElem?_eq_some_iff.1 hx
  obtain ⟨a, c, k1, k2⟩ := h4 j hj (by omega)
  refine ⟨_, _, [.slice a (L[j]'hj).length c], rfl, (Array.getElem?_eq_some_iff.1 h1).1, by show w.heap.size + 2 ≤ w.heap.size + 1 + 1; omega, rfl, fun j' u hu => ?_, ⟨a, _, c, rfl, k2.mono callRd_ok fun b _ hf => by show _ ≤ b; have : w.heap.size + 3 ≤ b := hf; omega⟩⟩
  have hj' : j' = 0 := by have := (List.getElem?_eq_some_iff.1 hu).1; simpa using this
  subst hj'
  simp only [List.getElem?_cons_zero, Option.some.injEq] at hu
  subst hu
  simpa using cell_at h1 k1
/-- One more call: its box, its row cloned, the row appended to, the clients' row stored into. -/
theorem CI.step {w wk w1 w2 w3 w4 w5 : World} {box res cb : Array Value} {n i B : Nat} {L : List (List CallV)} {l : List CallV} {k : Nat} {v v' : Value} {c : CallV} {a' : Option Addr} {n' cap' : Nat} {T1 : TypeId}
    (h : CI w wk box res n L i B l k v) (hi : i < n) (hk : l[k]? = some c) (hw : CallWf c) (e1 : w1 = wk.alloc (.cells cb T1)) (h2 : Below w1.heap.size w1 w2) (hx : RowOf (Rd.int .u64) 1 8 (From w1.heap.size) w2 a' n' cap' c.2.2.2.2)
    {u3 : Value} (e3 : w3 = w2.setCell ⟨wk.heap.size, 6, none⟩ u3) (h4 : Below w3.heap.size w3 w4) (hown : ∀ cells, wk.ownsRow B 73 7 v k cells → w5.ownsRow B 73 7 v' (k + 1) (cells ++ callCells c a' n' cap'))
    (hg : w4.grownBy w5 v.ownBlock) (hat : v'.ownBlock = v.ownBlock ∨ v'.ownBlock = some w4.heap.size) : CI w (w5.setCell ⟨w.heap.size + 2, i, none⟩ v') box res n L i B l (k + 1) v' := by
  obtain ⟨cur, q1, q2, q3, q4, q5⟩ := h.cur
  obtain ⟨cells, ho, he⟩ := h.own
  have hbase := h.base
  have hsz := h.size
  have s1 : w1.heap.size = wk.heap.size + 1 := by rw [e1]; simp
  have s2 := h2.size
  have s3 : w3.heap.size = w2.heap.size := by rw [e3]; simp [World.setCell]
  have s4 := h4.size
  have s5 := hg.size
  have hv : ∀ b, v.ownBlock = some b → B ≤ b ∧ b < wk.heap.size := fun b hb => ho.lt b hb
  -- everything that stood keeps, but for the row and the clients' row
  have f5 : Fix (fun b => some b ≠ v.ownBlock) wk w5 := by
    have f2 : Fix (fun b => some b ≠ v.ownBlock) wk w2 := (e1 ▸ Fix.alloc _ wk _ : Fix _ wk w1).trans (.of_below h2)
    have f3 : Fix (fun b => some b ≠ v.ownBlock) wk w3 := by rw [e3]; exact f2.set_new (Nat.le_refl _) _
    exact (f3.trans (.of_below h4)).trans (.of_grown hg fun b _ hf => hf)
  have f6 : Fix (fun b => b ≠ w.heap.size + 2 ∧ some b ≠ v.ownBlock) wk (w5.setCell ⟨w.heap.size + 2, i, none⟩ v') := (f5.mono fun b _ hf => hf.2).set_other (fun hf => hf.1 rfl) _
  have hne : ∀ b, b < B → some b ≠ v.ownBlock := fun b hb e => by have := (hv b e.symm).1; omega
  have hown5 := hown cells ho
  refine ⟨?_, ?_, ?_, hbase, by rw [show (w5.setCell ⟨w.heap.size + 2, i, none⟩ v').heap.size = w5.heap.size by simp [World.setCell]]; omega, ⟨cur.setIfInBounds i v', ?_, by simpa using q2, fun j hj hn => ?_, ?_, fun j hj hji => ?_⟩, ⟨_, ownsRow_setCell_below hown5 (by show w.heap.size + 2 < B; omega) _, fun j hj hjk => ?_⟩⟩
  · have b1 : Below w.heap.size w w1 := by rw [e1]; exact h.below.alloc (by omega) _
    have b2 := b1.trans (h2.mono (by omega))
    have b3 : Below w.heap.size w w3 := by rw [e3]; exact b2.setCell (by show _ ≤ wk.heap.size; omega) _
    have b4 := b3.trans (h4.mono (by omega))
    exact (b4.grown hg (by omega) (fun x hx => by have := (hv x hx).1; omega)).setCell (by show _ ≤ w.heap.size + 2; omega) _
  · rw [f6.same _ (by omega) ⟨by omega, hne _ (by omega)⟩]; exact h.box
  · rw [f6.same _ (by omega) ⟨by omega, hne _ (by omega)⟩]; exact h.res
  · exact heap_set_at _ (by rw [f5.same _ (by omega) (hne _ (by omega))]; exact q1)
  · rw [Array.getElem?_setIfInBounds_ne (by omega)]; exact q3 j hj hn
  · rw [Array.getElem?_setIfInBounds_self, if_pos (by omega)]
  · obtain ⟨a, c', k1, k2⟩ := q5 j hj hji
    exact ⟨a, c', by rw [Array.getElem?_setIfInBounds_ne (by omega)]; exact k1, k2.keep callRd_ok (f6.mono fun b _ hf => ⟨by omega, hne b hf.2⟩)⟩
  · have hcl := ho.1
    have hv' : ∀ b, b < w4.heap.size → some b ≠ v.ownBlock → some b ≠ v'.ownBlock := fun b hb hn e => by
      rcases hat with h | h
      · exact hn (e.trans h)
      · rw [h] at e; cases e; omega
    by_cases e : j = k
    · subst e
      obtain rfl : l[j]'hj = c := (List.getElem?_eq_some_iff.1 hk).2
      have e7 : (((cells ++ callCells (l[j]'hj) a' n' cap').drop (j * 7)).take 7) = callCells (l[j]'hj) a' n' cap' := by
        rw [List.drop_append, List.drop_eq_nil_of_le (by omega), show j * 7 - cells.length = 0 by omega]
        rfl
      rw [e7]
      refine callRd_mk hw ?_
      have x2 : RowOf (Rd.int .u64) 1 8 (fun b => w1.heap.size ≤ b ∧ b < w2.heap.size) w2 a' n' cap' (l[j]'hj).2.2.2.2 := hx.mono (Rd.int_ok _) fun b hb hf => ⟨hf, hb⟩
      have g2 : Fix (fun b => w1.heap.size ≤ b ∧ b < w2.heap.size) w2 (w5.setCell ⟨w.heap.size + 2, i, none⟩ v') := by
        have g3 : Fix (fun b => w1.heap.size ≤ b ∧ b < w2.heap.size) w2 w3 := by rw [e3]; exact (Fix.refl _ _).set_other (fun hf => by have := hf.1; omega) _
        refine (((g3.trans (.of_below h4))).trans (.of_grown hg fun b _ hf e => ?_)).set_other (fun hf => by have := hf.1; omega) _
        have := (hv b e.symm).2
        have := hf.1
        omega
      exact (x2.keep (Rd.int_ok _) g2).mono (Rd.int_ok _) fun b _ hf => ⟨by omega, hv' b (by omega) fun e => by have := (hv b e.symm).2; omega⟩
    · have hjk' : j < k := by omega
      have hc := he j hj hjk'
      have e7 : (((cells ++ callCells c a' n' cap').drop (j * 7)).take 7) = (cells.drop (j * 7)).take 7 := by
        rw [List.drop_append_of_le_length (by omega), List.take_append_of_le_length (by rw [List.length_drop]; omega)]
      rw [e7]
      have h1 := callRd_ok.mono hc (G := fun b => B ≤ b ∧ some b ≠ v.ownBlock ∧ some b ≠ v'.ownBlock) fun b hb hf => ⟨hf.1, hf.2, hv' b (by omega) hf.2⟩
      exact callRd_ok.mono (callRd_ok.keep h1 (f6.mono fun b _ hf => ⟨by omega, hf.2.1⟩)) fun b _ hf => ⟨hf.1, hf.2.2⟩
end Go.Proofs.Ytbijacoiblbnfaa
