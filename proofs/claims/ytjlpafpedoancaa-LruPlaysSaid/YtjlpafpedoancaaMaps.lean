/- Maps with keys of kind int, whatever their values: what a block of memory holds, and the laws of look-up, store, delete and len for a walk. -/
import Derived.Test.YtjlpafpedoancaaMem2
import Derived.Maps.OwnSet
import Derived.Maps.OwnOps
namespace Go.Proofs.Ytjlpafpedoancaa
open Go.RowKit
def ent (e : MapEntry) : Value × Value := (e.key, e.val)
/-- Block b is a map whose entries are l, one behind the other. -/
def IMap (w : World) (b : Nat) (l : List (Int × Value)) : Prop :=
  ∃ es clock, w.heap[b]? = some (.map es clock) ∧ es.toList.map ent = l.map (fun x => (Value.int .i64 x.1, x.2)) ∧ (l.map (·.1)).Nodup
def idx (k : Int) : List (Int × Value) → Option (Nat × Value)
  | [] => none
  | x :: l => if k = x.1 then some (0, x.2) else (idx k l).map fun r => (r.1 + 1, r.2)
theorem findNow_idx (k : Int) : ∀ (l : List (Int × Value)) (es : List MapEntry) (i : Nat), es.map ent = l.map (fun x => (Value.int .i64 x.1, x.2)) →
    Instr.findNow (.int .i64) (.int .i64 k) es i = some ((idx k l).map fun r => (i + r.1, r.2))
  | [], es, i, h => by
    have : es = [] := by simpa using h
    subst this; rfl
  | x :: l, [], i, h => by simp at h
  | x :: l, e :: es, i, h => by
    simp only [List.map_cons, List.cons.injEq, ent, Prod.mk.injEq] at h
    obtain ⟨⟨hk, hv⟩, ht⟩ := h
    have ih := findNow_idx k l es (i + 1) ht
    unfold Instr.findNow
    simp only [hk, Instr.sameNow, if_true, idx]
    by_cases hx : k = x.1
    · rw [beq_iff_eq.2 hx]; simp [hx, hv]
    · rw [beq_eq_false_iff_ne.2 hx]; simp only [if_neg hx]; rw [ih]
      cases idx k l <;> simp; omega
theorem idx_none {k : Int} : ∀ {l : List (Int × Value)}, (∀ x ∈ l, x.1 ≠ k) → idx k l = none
  | [], _ => rfl
  | x :: l, h => by
    have h1 : ¬ k = x.1 := fun e => h x (by simp) e.symm
    simp only [idx, if_neg h1]; rw [idx_none (l := l) (fun y hy => h y (List.mem_cons_of_mem _ hy))]; rfl
theorem idx_some {k : Int} {v : Value} : ∀ {l : List (Int × Value)}, (k, v) ∈ l → (l.map (·.1)).Nodup → ∃ i, idx k l = some (i, v) ∧ l[i]? = some (k, v) ∧ l.eraseIdx i = l.filter (fun x => x.1 ≠ k)
  | [], h, _ => by cases h
  | x :: l, h, hn => by
    simp only [List.map_cons, List.nodup_cons] at hn
    by_cases hx : k = x.1
    · have hv : v = x.2 := by
        rcases List.mem_cons.1 h with e | e
        · rw [← e]
        · exact absurd (List.mem_map_of_mem (f := (·.1)) e) (by simpa [hx] using hn.1)
      refine ⟨0, by simp [idx, hx, hv], by simp [hx, hv], ?_⟩
      simp only [List.eraseIdx_cons_zero, List.filter_cons]
      rw [if_neg (by simp [hx])]
      symm
      refine List.filter_eq_self.2 fun y hy => ?_
      have : y.1 ≠ x.1 := fun e => hn.1 (by rw [← e]; exact List.mem_map_of_mem (f := (·.1)) hy)
      simpa [hx] using this
    · have hm : (k, v) ∈ l := by
        rcases List.mem_cons.1 h with e | e
        · exact absurd (by rw [← e]) hx
        · exact e
      obtain ⟨i, h1, h2, h3⟩ := idx_some hm hn.2
      refine ⟨i + 1, by simp [idx, hx, h1], by simpa using h2, ?_⟩
      simp only [List.eraseIdx_cons_succ, List.filter_cons]
      rw [if_pos (by simpa using fun e => hx e.symm), h3]
theorem map_erase {α β : Type} (f : α → β) : ∀ (l : List α) (i : Nat), (l.eraseIdx i).map f = (l.map f).eraseIdx i
  | [], _ => rfl
  | _ :: _, 0 => rfl
  | x :: l, i + 1 => by simp [map_erase f l i]
section
variable {P : Program} {w : World} {b : Nat} {l : List (Int × Value)} {t kt et : TypeId}
theorem run_find (ht : P.underlying kt = some (.int .i64)) (k : Int) (es : List MapEntry) (h : es.map ent = l.map (fun x => (Value.int .i64 x.1, x.2))) :
    (Instr.findKey kt (.int .i64 k) es).run P w = .ok (idx k l) w :=
  MapKept.run_findKey ht (by rw [findNow_idx k l es 0 h]; cases idx k l <;> simp)
theorem run_check (ht : P.underlying kt = some (.int .i64)) (k : Int) (e : Bool) : (Instr.checkKey e 10000 kt (.int .i64 k)).run P w = .ok () w :=
  MapKept.run_checkKey ht (by simp [MapKept.IsKey]) e _
theorem IMap.look (h : IMap w b l) (hm : P.underlying t = some (.map kt et)) (ht : P.underlying kt = some (.int .i64)) (z : Value) (hz : ∀ w, (zeroValue et).run P w = .ok z w) (k : Int) :
    (Instr.lookup t (.map (some b)) (.int .i64 k) false).run P w = .ok (((idx k l).map (·.2)).getD z) w := by
  obtain ⟨es, clock, hb, he, _⟩ := h
  have hf := run_find (P := P) (w := w) ht k es.toList he
  simp [Instr.lookup, run_underlying hm, MapKept.run_getObj_map hb, run_check ht, hf, Result.andThen]
  cases idx k l <;> simp [hz]
theorem IMap.kept {w' : World} {r : Option Nat} (h : IMap w b l) (hg : w.grownBy w' r) (hne : some b ≠ r) : IMap w' b l := by
  obtain ⟨es, clock, hb, rest⟩ := h
  exact ⟨es, clock, (hg.block b (Array.getElem?_eq_some_iff.1 hb).1 hne).trans hb, rest⟩
theorem IMap.of_block {w' : World} (h : IMap w b l) (hg : w'.heap[b]? = w.heap[b]?) : IMap w' b l := by
  obtain ⟨es, clock, hb, rest⟩ := h
  exact ⟨es, clock, hg.trans hb, rest⟩
theorem IMap.len (h : IMap w b l) (hm : P.underlying t = some (.map kt et)) (ty : TypeId) : (Builtin.len_ #[t] ty #[.map (some b)]).run P w = .ok (.int .i64 l.length) w := by
  obtain ⟨es, clock, hb, he, _⟩ := h
  have hl : es.size = l.length := by have := congrArg List.length he; simpa using this
  simp [Builtin.len_, run_underlying hm, MapKept.run_getObj_map hb, Result.andThen, goInt, hl]
theorem IMap.made (w : World) : IMap (w.alloc (.map #[] 0)) w.heap.size [] := ⟨#[], 0, (MapKept.heap_alloc w _).1, by simp, by simp⟩
theorem set_grown {w : World} {b : Nat} {o o' : Obj} (hb : w.heap[b]? = some o) : w.grownBy { w with heap := w.heap.setIfInBounds b o' } (some b) :=
  ⟨rfl, rfl, rfl, by simp, fun k _ hk => (MapKept.heap_set hb).2 k (fun e => hk (by rw [e]))⟩
theorem IMap.store_new (h : IMap w b l) (hm : P.underlying t = some (.map kt et)) (ht : P.underlying kt = some (.int .i64)) (k : Int) (v : Value) (hk : ∀ x ∈ l, x.1 ≠ k) :
    ∃ w', (Instr.mapUpdate t (.map (some b)) (.int .i64 k) v).run P w = .ok () w' ∧ IMap w' b (l ++ [(k, v)]) ∧ w.grownBy w' (some b) := by
  obtain ⟨es, clock, hb, he, hn⟩ := h
  have hf := run_find (P := P) (w := w) ht k es.toList he
  rw [idx_none hk] at hf
  refine ⟨{ w with heap := w.heap.setIfInBounds b (.map (es.push { key := .int .i64 k, val := v, born := clock }) (clock + 1)) }, ?_, ⟨_, _, (MapKept.heap_set hb).1, ?_, ?_⟩, set_grown hb⟩
  · simp [Instr.mapUpdate, run_underlying hm, MapKept.run_getObj_map hb, run_check ht, hf, MapKept.run_setObj_map _ hb, Result.andThen]
  · simp [he, ent]
  · rw [List.map_append, List.nodup_append]
    exact ⟨hn, by simp, fun x hx y hy => by
      obtain ⟨z, hz, rfl⟩ := List.mem_map.1 hx
      simp at hy; subst hy
      exact hk z hz⟩
theorem IMap.drop (h : IMap w b l) (hm : P.underlying t = some (.map kt et)) (ht : P.underlying kt = some (.int .i64)) (k : Int) (v : Value) (hk : (k, v) ∈ l) (ty kt' : TypeId) :
    ∃ w', (Builtin.delete_ #[t, kt'] ty #[.map (some b), .int .i64 k]).run P w = .ok (.tuple #[]) w' ∧ IMap w' b (l.filter fun x => x.1 ≠ k) ∧ w.grownBy w' (some b) := by
  obtain ⟨es, clock, hb, he, hn⟩ := h
  obtain ⟨i, h1, h2, h3⟩ := idx_some hk hn
  have hf := run_find (P := P) (w := w) ht k es.toList he
  rw [h1] at hf
  refine ⟨{ w with heap := w.heap.setIfInBounds b (.map (es.eraseIdxIfInBounds i) clock) }, ?_, ⟨_, _, (MapKept.heap_set hb).1, ?_, ?_⟩, set_grown hb⟩
  · simp [Builtin.delete_, run_underlying hm, MapKept.run_getObj_map hb, run_check ht, hf, MapKept.run_setObj_map _ hb, Result.andThen]
  · rw [← h3, Array.toList_eraseIdxIfInBounds, map_erase, map_erase, he]
  · exact hn.sublist ((List.filter_sublist).map _)
end
section
variable {P : Program} {w : World} {ops : Array Oper} {rest : List Oper} {o : Oper} {a : Act} {Q : Exit → Act → World → Prop}
theorem wpl_store_new (hg : o.guard = none) (m x v : Operand) (t : TypeId) (hop : o.op = Op.mapUpdate t m x v) {kt et : TypeId} (hm : P.underlying t = some (.map kt et)) (ht : P.underlying kt = some (.int .i64))
    (b : Nat) (l : List (Int × Value)) (hmv : a.eval m = .map (some b)) (k : Int) (hx : a.eval x = .int .i64 k) (u : Value) (hv : a.eval v = u) (h : IMap w b l) (hk : ∀ x ∈ l, x.1 ≠ k)
    (hK : ∀ w', IMap w' b (l ++ [(k, u)]) → w.grownBy w' (some b) → wpList P ops Q rest (a.put o.dst undef) w') : wpList P ops Q (o :: rest) a w := by
  refine wpList_plain hg fun K' hK' => ?_
  obtain ⟨w', hrun, r1, r2⟩ := h.store_new hm ht k u hk
  unfold Oper.wp
  simp [execOp, hop, hmv, hx, hv, hrun, Result.andThen]
  exact hK' _ _ (hK w' r1 r2)
theorem wpl_drop (hg : o.guard = none) (m x : Operand) (t kt' : TypeId) (hop : o.op = .call { callee := .builtin .delete, args := #[m, x], argTypes := #[t, kt'] }) {kt et : TypeId} (hm : P.underlying t = some (.map kt et)) (ht : P.underlying kt = some (.int .i64))
    (b : Nat) (l : List (Int × Value)) (hmv : a.eval m = .map (some b)) (k : Int) (hx : a.eval x = .int .i64 k) (u : Value) (h : IMap w b l) (hk : (k, u) ∈ l)
    (hK : ∀ w', IMap w' b (l.filter fun x => x.1 ≠ k) → w.grownBy w' (some b) → wpList P ops Q rest (a.put o.dst (.tuple #[])) w') : wpList P ops Q (o :: rest) a w := by
  refine wpList_plain hg fun K' hK' => ?_
  obtain ⟨w', hrun, r1, r2⟩ := h.drop (P := P) hm ht k u hk o.type kt'
  unfold Oper.wp
  simp [execOp, hop, resolve, invoke, builtin, hmv, hx, hrun, Result.andThen]
  exact hK' _ _ (hK w' r1 r2)
end
end Go.Proofs.Ytjlpafpedoancaa
