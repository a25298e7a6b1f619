/- Rows of structs of three cells: an append of one, a store into one. Plain memory. -/
import Derived.Test.YthcffdmbpbjdpaaDoorMem2
import Derived.Lib.OthersKept
namespace Go.Proofs.YthcffdmbpbjdpaaDoor
open Go.RowKit
set_option linter.unusedSimpArgs false
set_option linter.unusedVariables false
/-- 'append(out, T{u0, u1, u2})', out the call's own: behind the block that holds the struct. -/
theorem wpl_app3 {P : Program} {W w0 : World} {ops : Array Oper} {rest : List Oper} {o : Oper} {a : Act} {Q : Exit → Act → World → Prop} (hgd : o.guard = none) (s x : Operand) (t : TypeId)
    (ho : o.op = .call { callee := .builtin .append, args := #[s, x], argTypes := #[t, t] })
    {base B : Nat} {e : TypeId} {bytes : Nat} (E : Elem P t e 3 bytes) (v : Value) (n : Nat) (xs : List Value) (hs : a.eval s = v) (u0 u1 u2 : Value) (hx : a.eval x = .slice (some ⟨W.heap.size, 0, none⟩) 1 1) (hu : ∀ u ∈ [u0, u1, u2], u.oneCell' = true)
    (hown : W.ownsRow base e 3 v n xs) (hB : Below B w0 W) (hBb : B ≤ base) (hbase : base ≤ W.heap.size) (hn : (n + 1) * bytes ≤ 140737488355328) (hm : n + 1 ≤ maxLen)
    (h : ∀ v' w', w'.ownsRow base e 3 v' (n + 1) (xs ++ [u0, u1, u2]) → Below B w0 w' → W.grownBy w' v.ownBlock → wpList P ops Q rest (a.put o.dst v') w') : wpList P ops Q (o :: rest) a (W.alloc (.cells #[u0, u1, u2] e)) := by
  refine wpl_append hgd s x t ho E v n xs hs (some ⟨W.heap.size, 0, none⟩) 1 1 [u0, u1, u2] hx (hown.alloc _) ⟨rfl, by simp, fun y hy j z hz => ?_, hu⟩ hm hn (by simp; omega) fun v' w' h1 h2 _ => h v' w' h1 ?_ (grown_trans (World.grownBy_alloc W _ _) h2)
  · cases hy
    rw [Addr.add_lit, Nat.zero_add]
    exact cell_at (heap_alloc_new W _) (by simpa using hz)
  · exact (hB.alloc (by omega) _).grown h2 (by simp; omega) (fun k hk => by have := own_lt hown k hk; omega)
/-- A store into a row of the call's own. -/
theorem own_set {w : World} {base : Nat} {e : TypeId} {size g cap n : Nat} {xs : List Value} (h : w.ownsRow base e size (.slice (some ⟨g, 0, none⟩) n cap) n xs) (i : Nat) (hi : i < n * size) (u : Value) :
    (w.setCell ⟨g, i, none⟩ u).ownsRow base e size (.slice (some ⟨g, 0, none⟩) n cap) n (xs.set i u) := by
  refine ⟨by simpa using h.1, .inr ?_⟩
  rcases h.2 with ⟨h1, _⟩ | ⟨g', cap', cur, h1, hb, hg, hn, hm, hs, ht⟩
  · cases h1
  · cases h1
    refine ⟨g, cap, cur.setIfInBounds i u, rfl, hb, heap_set_at u hg, hn, hm, by simpa using hs, ?_⟩
    rw [Array.toList_setIfInBounds, List.take_set, ht]
theorem grown_obj {W w3 : World} {base : Nat} {e : TypeId} {size : Nat} {v : Value} {n : Nat} {xs : List Value} (h : W.ownsRow base e size v n xs) (hg : W.grownBy w3 v.ownBlock) {k : Nat} {o : Obj} (hit : W.heap[k]? = some o) (hk : k < base) : w3.heap[k]? = some o := by
  rw [hg.block k (Array.getElem?_eq_some_iff.1 hit).1 (fun e => by have := own_lt h k e.symm; omega)]
  exact hit
theorem set_mid (xs : List Value) (a b c u : Value) : (xs ++ [a, b, c]).set (xs.length + 1) u = xs ++ [a, u, c] := by
  rw [List.set_append_right _ _ (by omega)]
  simp
theorem own_some {w : World} {base : Nat} {e : TypeId} {size n : Nat} {v : Value} {xs : List Value} (h : w.ownsRow base e size v n xs) (hn : 0 < n) : ∃ g cap, v = .slice (some ⟨g, 0, none⟩) n cap ∧ base ≤ g ∧ g < w.heap.size ∧ n ≤ cap ∧ cap ≤ maxLen := by
  rcases h.2 with ⟨_, h1⟩ | ⟨g', cap', cur, h1, hb, hg, hn, hm, hs, ht⟩
  · omega
  · exact ⟨g', cap', h1, hb, (Array.getElem?_eq_some_iff.1 hg).1, hn, hm⟩
theorem own_cell {w : World} {base : Nat} {e : TypeId} {size g cap n : Nat} {xs : List Value} (h : w.ownsRow base e size (.slice (some ⟨g, 0, none⟩) n cap) n xs) {i : Nat} {u : Value} (hi : xs[i]? = some u) :
    w.cell? ⟨g, i, none⟩ = some u ∧ w.frozen? ⟨g, i, none⟩ = false := by
  rcases h.2 with ⟨h1, _⟩ | ⟨g', cap', cur, h1, hb, hg, hn, hm, hs, ht⟩
  · cases h1
  · cases h1
    have hi' := (List.getElem?_eq_some_iff.1 hi).1
    rw [h.1] at hi'
    refine ⟨cell_at hg ?_, free_at hg⟩
    rw [← ht, List.getElem?_take, if_pos hi'] at hi
    simpa using hi
end Go.Proofs.YthcffdmbpbjdpaaDoor
