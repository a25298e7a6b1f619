/- A row of trees that grows: its own block, and those of its trees. -/
import Derived.Test.YtibabpahpiijgaaGreatDoorDesc
import Derived.Maps.AppendAt
namespace Go.Proofs.YtibabpahpiijgaaGreatDoor
open Go.RowKit
set_option linter.unusedVariables false
/-- The blocks from B on. -/
abbrev From (B : Nat) : Foot := fun b => B ≤ b
/-- An append onto the call's own row; where the new row lies. -/
theorem wpl_append_at {P : Program} {w : World} {ops : Array Oper} {rest : List Oper} {o : Oper} {a : Act} {Q : Exit → Act → World → Prop} (hgd : o.guard = none) (s x : Operand) (t : TypeId)
    (ho : o.op = .call { callee := .builtin .append, args := #[s, x], argTypes := #[t, t] })
    {base : Nat} {e : TypeId} {size bytes : Nat} (E : Elem P t e size bytes)
    (v : Value) (n : Nat) (xs : List Value) (hs : a.eval s = v) (ad : Addr) (m c : Nat) (news : List Value) (hx : a.eval x = .slice (some ad) m c)
    (hown : w.ownsRow base e size v n xs) (hsrc : Src w (some ad) m c size news)
    (h63 : n + m ≤ maxLen) (hbytes : (n + m) * bytes ≤ 140737488355328) (hbase : base ≤ w.heap.size)
    (h : ∀ v' w', w'.ownsRow base e size v' (n + m) (xs ++ news) → w.grownBy w' v.ownBlock → (v'.ownBlock = v.ownBlock ∨ v'.ownBlock = some w.heap.size) → wpList P ops Q rest (a.put o.dst v') w') : wpList P ops Q (o :: rest) a w := by
  have hw : Region.wanted o (yielded ops a.tmps) = true := by simp [Region.wanted, hgd]
  simp only [wpList, hw, if_true]
  refine .inl ?_
  obtain ⟨z, hi, hzs⟩ := E.row
  obtain ⟨i, hi, hz0, hz1, hz2⟩ := info_parts hi
  obtain ⟨v', w', hr, h2, h3, h4, h5⟩ := run_append_own_at (P := P) w base t o.type e i z size bytes E.ht hi hz0 hz1 hz2 hzs E.pos v n xs hown ad m c news hsrc.len (hsrc.at_ ad rfl) hsrc.one h63 hbytes hbase
  unfold Oper.wp
  simp [execOp, ho, resolve, invoke, builtin, hs, hx, hr, Result.andThen]
  exact h v' w' h2 h3 h5
theorem descElemG : Elem Tryz.prog 23 25 3 40 := ⟨Tryz.underlying23, ⟨.agg #[.int .i64 0, .int .i64 0, .slice none 0 0], by kernel_rfl, rfl⟩, by omega⟩
/-- A row of the call's own, from block B on, that shows trees: these lie from B on too, and none in the row's block. -/
structure Trees (k B : Nat) (w : World) (v : Value) (l : List DescV) (xs : List Value) : Prop where
  row : w.ownsRow B 25 3 v l.length xs
  at_ : ∀ i d, l[i]? = some d → descRd k (fun b => B ≤ b ∧ some b ≠ v.ownBlock) w ((xs.drop (i * 3)).take 3) d
theorem Trees.nil (k B : Nat) (w : World) : Trees k B w (.slice none 0 0) [] [] := ⟨World.ownsRow_nil w _ _ _, fun i d h => by simp at h⟩
theorem Trees.below {k B : Nat} {w w' : World} {v : Value} {l : List DescV} {xs : List Value} (h : Trees k B w v l xs) (hb : Below w.heap.size w w') : Trees k B w' v l xs :=
  ⟨own_below h.row hb, fun i d hi => (descRd_ok k).keep (h.at_ i d hi) (Fix.of_below hb)⟩
theorem Trees.setCell {k B : Nat} {w : World} {v : Value} {l : List DescV} {xs : List Value} (h : Trees k B w v l xs) {a : Addr} (ha : a.block < B) (u : Value) : Trees k B (w.setCell a u) v l xs :=
  ⟨ownsRow_setCell_below h.row ha u, fun i d hi => (descRd_ok k).keep (h.at_ i d hi) (Fix.setCell w a u fun hf => by have := hf.1; omega)⟩
theorem Trees.add {k B : Nat} {w wm w3 : World} {v v' : Value} {l : List DescV} {xs cs : List Value} {d : DescV} (h : Trees k B w v l xs) (hB : B ≤ w.heap.size) (hb : Below w.heap.size w wm) (hd : descRd k (From w.heap.size) wm cs d)
    (ho : w3.ownsRow B 25 3 v' (l.length + 1) (xs ++ cs)) (hg : wm.grownBy w3 v.ownBlock) (hat : v'.ownBlock = v.ownBlock ∨ v'.ownBlock = some wm.heap.size) : Trees k B w3 v' (l ++ [d]) (xs ++ cs) := by
  have hl := h.row.1
  have hc := (descRd_ok k).len hd
  have hv : ∀ b, v.ownBlock = some b → b < w.heap.size := fun b hb => (h.row.lt b hb).2
  have hsz := hb.size
  have fx : Fix (fun b => some b ≠ v.ownBlock) wm w3 := .of_grown hg fun b _ hf => hf
  have nv : ∀ b, b < wm.heap.size → some b ≠ v.ownBlock → some b ≠ v'.ownBlock := fun b hb hn e => by
    rcases hat with h | h
    · exact hn (e.trans h)
    · rw [h] at e; cases e; omega
  refine ⟨by rw [List.length_append]; exact ho, fun i x hi => ?_⟩
  by_cases hlt : i < l.length
  · rw [List.getElem?_append_left hlt] at hi
    have g := (descRd_ok k).mono (G := fun b => (B ≤ b ∧ some b ≠ v.ownBlock) ∧ b < w.heap.size) (h.at_ i x hi) fun b hb hf => ⟨hf, hb⟩
    have g2 := (descRd_ok k).keep ((descRd_ok k).keep g (Fix.of_below hb)) (fx.mono fun b _ hf => hf.1.2)
    have g3 := (descRd_ok k).mono (G := fun b => B ≤ b ∧ some b ≠ v'.ownBlock) g2 fun b _ hf => ⟨hf.1.1, nv b (by omega) hf.1.2⟩
    have e : ((xs ++ cs).drop (i * 3)).take 3 = (xs.drop (i * 3)).take 3 := by
      rw [List.drop_append_of_le_length (by omega), List.take_append_of_le_length (by rw [List.length_drop]; omega)]
    rw [e]
    exact g3
  · rw [List.getElem?_append_right (by omega)] at hi
    have hi0 : i - l.length = 0 := by have := (List.getElem?_eq_some_iff.1 hi).1; simp at this; omega
    rw [hi0] at hi
    obtain rfl : d = x := by simpa using hi
    obtain rfl : i = l.length := by omega
    have hd' := (descRd_ok k).mono (G := fun b => w.heap.size ≤ b ∧ b < wm.heap.size) hd fun b hb hf => ⟨hf, hb⟩
    have g2 := (descRd_ok k).keep hd' (fx.mono fun b _ hf e => by have := hv b e.symm; omega)
    have g3 := (descRd_ok k).mono (G := fun b => B ≤ b ∧ some b ≠ v'.ownBlock) g2 fun b _ hf => ⟨by omega, nv b hf.2 fun e => by have := hv b e.symm; omega⟩
    have e : ((xs ++ cs).drop (l.length * 3)).take 3 = cs := by
      rw [List.drop_append, List.drop_of_length_le (by omega), List.nil_append, hl, Nat.sub_self, List.drop_zero, List.take_of_length_le (by omega)]
    rw [e]
    exact g3
theorem Trees.rowOf {k B : Nat} {w : World} {v : Value} {l : List DescV} {xs : List Value} (h : Trees k B w v l xs) (hroom : l.length * 40 ≤ 140737488351232) : ∃ a cap, v = .slice a l.length cap ∧ RowOf (descRd k) 3 40 (From B) w a l.length cap l :=
  RowOf.of_owns h.row (by omega) rfl hroom (fun b hb => own_lt h.row b hb) fun i x hx => by
    have g := h.at_ i x hx
    exact ⟨(descRd_ok k).len g, (descRd_ok k).mono g fun b _ hf => hf.1⟩
theorem Trees.slice {k B : Nat} {w : World} {v : Value} {l : List DescV} {xs : List Value} (h : Trees k B w v l xs) : ∃ a c, v = .slice a l.length c := by
  rcases h.row.2 with ⟨q1, q2⟩ | ⟨g, cap, cur, q1, _⟩
  · rw [q2]; exact ⟨_, _, q1⟩
  · exact ⟨_, _, q1⟩
theorem RowOf.desc {k : Nat} {F : Foot} {w : World} {a : Option Addr} {n cap : Nat} {l : List DescV} (h : RowOf (descRd (k + 1)) 3 40 F w a n cap l) (i : Nat) (hi : i < l.length) :
    ∃ b off ax nx cx, a = some ⟨b, off, none⟩ ∧ b < w.heap.size ∧ F b ∧ (Lit.int .i64 (l[i]).kind).wf = true ∧ (Lit.int .i64 (l[i]).n).wf = true ∧ RowOf (descRd k) 3 40 F w ax nx cx (l[i]).kids ∧
      w.cell? ⟨b, off + i * 3, none⟩ = some (.int .i64 (l[i]).kind) ∧ w.cell? ⟨b, off + i * 3 + 1, none⟩ = some (.int .i64 (l[i]).n) ∧ w.cell? ⟨b, off + i * 3 + 2, none⟩ = some (.slice ax nx cx) := by
  obtain ⟨b, off, cs, h1, h2, hf, _, h4, ax, nx, cx, rfl, g1, g2, g3⟩ := h.at_ i _ (List.getElem?_eq_getElem hi)
  exact ⟨b, off, ax, nx, cx, h1, h2, hf, g1, g2, g3, h4 0 _ rfl, h4 1 _ rfl, h4 2 _ rfl⟩
theorem row_no_zero {F : Foot} {w : World} {a : Option Addr} {n cap : Nat} {l : List DescV} (h : RowOf (descRd 0) 3 40 F w a n cap l) : l = [] := by
  cases l with
  | nil => rfl
  | cons d l =>
    obtain ⟨_, _, _, _, _, _, _, _, h5⟩ := h.at_ 0 d rfl
    exact h5.elim
theorem one3 {k n : Int} {a : Option Addr} {m c : Nat} : ∀ u ∈ [Value.int .i64 k, .int .i64 n, .slice a m c], u.oneCell' = true := by
  intro u hu
  simp only [List.mem_cons, List.not_mem_nil, or_false] at hu
  rcases hu with rfl | rfl | rfl <;> rfl
theorem src_new3 {w : World} (news : List Value) (e : TypeId) (n : Nat) (h : news.length = n) (h1 : ∀ u ∈ news, u.oneCell' = true) : Src (w.alloc (.cells news.toArray e)) (some ⟨w.heap.size, 0, none⟩) 1 1 n news := by
  refine ⟨by omega, by simp, fun x hx j u hu => ?_, h1⟩
  cases hx
  rw [Addr.add_lit]
  refine cell_at (heap_alloc_new w _) ?_
  simpa using hu
/-- An append in a region that draws its order; where the new row lies. -/
theorem step_appT {P : Program} {w : World} {ops : Array Oper} {o : Oper} {a : Act} {K : Act → World → Prop} {Q : Exit → Act → World → Prop} {E0 : Prop} (hgd : o.guard = none) (s x : Operand) (t : TypeId)
    (ho : o.op = .call { callee := .builtin .append, args := #[s, x], argTypes := #[t, t] })
    {base : Nat} {e : TypeId} {size bytes : Nat} (E : Elem P t e size bytes)
    (v : Value) (n : Nat) (xs : List Value) (hs : a.eval s = v) (ad : Addr) (m c : Nat) (news : List Value) (hx : a.eval x = .slice (some ad) m c)
    (hown : w.ownsRow base e size v n xs) (hsrc : Src w (some ad) m c size news)
    (h63 : n + m ≤ maxLen) (hbytes : (n + m) * bytes ≤ 140737488355328) (hbase : base ≤ w.heap.size)
    (h : ∀ v' w', w'.ownsRow base e size v' (n + m) (xs ++ news) → w.grownBy w' v.ownBlock → (v'.ownBlock = v.ownBlock ∨ v'.ownBlock = some w.heap.size) → K (a.put o.dst v') w') :
    if Region.wanted o (yielded ops a.tmps) = true then Oper.wp P o a w K Q else E0 := by
  have hw : Region.wanted o (yielded ops a.tmps) = true := by simp [Region.wanted, hgd]
  rw [if_pos hw]
  obtain ⟨z, hi, hzs⟩ := E.row
  obtain ⟨i, hi, hz0, hz1, hz2⟩ := info_parts hi
  obtain ⟨v', w', hr, h2, h3, h4, h5⟩ := run_append_own_at (P := P) w base t o.type e i z size bytes E.ht hi hz0 hz1 hz2 hzs E.pos v n xs hown ad m c news hsrc.len (hsrc.at_ ad rfl) hsrc.one h63 hbytes hbase
  unfold Oper.wp
  simp [execOp, ho, resolve, invoke, builtin, hs, hx, hr, Result.andThen]
  exact h v' w' h2 h3 h5
end Go.Proofs.YtibabpahpiijgaaGreatDoor
