/- A whole struct stored into a block that was made just now. -/
import Derived.Test.YthjcmcgmalnfpaaGreatDoorMem2
import Derived.Deep.MidRow
import Derived.Laws.NewBlocks
import Derived.StillTailTactics
namespace Go.Proofs.YthjcmcgmalnfpaaGreatDoor
open Go.RowKit
theorem setCells_new (W : World) (T : TypeId) : ∀ (cs pre z : List Value), z.length = cs.length → (W.alloc (.cells (pre ++ z).toArray T)).setCells W.heap.size pre.length cs = W.alloc (.cells (pre ++ cs).toArray T)
  | [], pre, [], _ => rfl
  | v :: r, pre, u :: z, h => by
    have e : (pre ++ u :: z).toArray.setIfInBounds pre.length v = ((pre ++ [v]) ++ z).toArray := by simp
    have ih := setCells_new W T r (pre ++ [v]) z (by simpa using h)
    show ((W.alloc (.cells (pre ++ u :: z).toArray T)).setCell ⟨W.heap.size, pre.length, none⟩ v).setCells W.heap.size (pre.length + 1) r = _
    rw [World.setCell_alloc_at _ _ _ _ _ rfl, e]
    rw [List.length_append, List.length_singleton] at ih
    rw [ih, List.append_assoc, List.singleton_append]
/-- 'x := v' of a whole struct: the block, made just now, holds v's cells. -/
theorem wpList_store_new {P : Program} {ops : Array Oper} {rest : List Oper} {op : Oper} {a : Act} {W : World} {z : Array Value} {T : TypeId} {Q : Exit → Act → World → Prop} (hgd : op.guard = none) (ty : TypeId) (x y : Operand) (ho : op.op = .store ty x y)
    (n : Nat) (hn : n = W.heap.size) (cs : List Value) (hx : a.eval x = .pointer (some ⟨n, 0, none⟩)) (hy : a.eval y = .agg cs.toArray) (hz : z.size = cs.length) (hi : (P.info? ty).map (·.size) = some cs.length) (h1 : ∀ v ∈ cs, v.oneCell' = true)
    (h : wpList P ops Q rest (a.put op.dst undef) (W.alloc (.cells cs.toArray T))) : wpList P ops Q (op :: rest) a (W.alloc (.cells z T)) := by
  subst hn
  refine wpList_store_mid hgd ty x y ho W.heap.size 0 cs.toArray hx hy (fun j hj => ?_) (by simpa using hi) (all_oneCell_toArray h1) ?_
  · have hj' : j < z.size := by rw [hz]; simpa using hj
    have hg := heap_alloc_new W (.cells z T)
    rw [Nat.zero_add]
    exact ⟨by rw [cell_at (o := j) hg (Array.getElem?_eq_getElem hj')]; rfl, free_at (o := j) hg⟩
  · have e := setCells_new W T cs [] z.toList (by simpa using hz)
    simp only [List.nil_append, List.length_nil, Array.toArray_toList] at e
    rw [List.toList_toArray, e]
    exact h
/-- A whole struct loaded in a region that draws its order. -/
theorem step_load {P : Program} {w : World} {ops : Array Oper} {o : Oper} {a : Act} {K : Act → World → Prop} {Q : Exit → Act → World → Prop} {E0 : Prop} (hw : Region.wanted o (yielded ops a.tmps) = true) (ty : TypeId) (x : Operand) (ho : o.op = .load ty x)
    (b off : Nat) (hx : a.eval x = .pointer (some ⟨b, off, none⟩)) (cs : List Value) (d : TypeDesc) (hc : w.rangeAt b off cs) (hu : P.underlying ty = some d) (hd : d.isRow = true) (hi : (P.info? ty).map (·.size) = some cs.length)
    (h : K (a.put o.dst (.agg cs.toArray)) w) : if Region.wanted o (yielded ops a.tmps) = true then Oper.wp P o a w K Q else E0 := by
  rw [if_pos hw]
  exact wp_load_mid ty x ho b off hx cs d hc hu hd hi h
/-- A whole struct loaded by an operation that stands under a guard. -/
theorem wpList_load_midg {P : Program} {ops : Array Oper} {rest : List Oper} {op : Oper} {a : Act} {w : World} {Q : Exit → Act → World → Prop} (hw : Region.wanted op (yielded ops a.tmps) = true) (ty : TypeId) (x : Operand) (ho : op.op = .load ty x)
    (b o : Nat) (hx : a.eval x = .pointer (some ⟨b, o, none⟩)) (cs : List Value) (d : TypeDesc) (hc : w.rangeAt b o cs) (hu : P.underlying ty = some d) (hd : d.isRow = true) (hi : (P.info? ty).map (·.size) = some cs.length)
    (h : wpList P ops Q rest (a.put op.dst (.agg cs.toArray)) w) : wpList P ops Q (op :: rest) a w := by
  simp only [wpList, hw, if_true]
  exact .inl (wp_load_mid ty x ho b o hx cs d hc hu hd hi h)
/-- The same in a region's still part. -/
theorem wpStill_load {P : Program} {ops : Array Oper} {rest : List Oper} {op : Oper} {a : Act} {w : World} {Q : Act → Prop} (hw : Region.wanted op (yielded ops a.tmps) = true) (ty : TypeId) (x : Operand) (ho : op.op = .load ty x)
    (b o : Nat) (hx : a.eval x = .pointer (some ⟨b, o, none⟩)) (cs : List Value) (d : TypeDesc) (hc : w.rangeAt b o cs) (hu : P.underlying ty = some d) (hd : d.isRow = true) (hi : (P.info? ty).map (·.size) = some cs.length)
    (h : wpStill P ops w Q rest (a.put op.dst (.agg cs.toArray))) : wpStill P ops w Q (op :: rest) a := by
  refine wpStill_step fun K hK => ?_
  rw [if_pos hw]
  unfold Oper.still execOp
  simp only [ho, hx, Instr.loadAt, Instr.sureAddr, Sem.run_bind, Sem.run_pure, Result.andThen_ok, run_loadVar_mid w b o ty cs d hc hu hd hi, Oper.stillUpon_value]
  exact hK _ h
end Go.Proofs.YthjcmcgmalnfpaaGreatDoor
