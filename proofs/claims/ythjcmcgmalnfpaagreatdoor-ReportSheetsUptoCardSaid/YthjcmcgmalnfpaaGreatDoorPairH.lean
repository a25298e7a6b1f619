/- Two calls of a region that draws its order, each giving its value in whatever world is met: their order is nothing. -/
import Derived.Deep.RegionHeld3
import Derived.OrdersHeld
import Derived.Laws.Concat
namespace Go.Proofs.YthjcmcgmalnfpaaGreatDoor.Lex
open Go
section
variable {P : Program} {ops : Array Oper} {Q : Exit → Act → World → Prop} {md : Region.Mode} {S : World → Prop}
theorem wpAnyH_one {i : Nat} {oi : Oper} {vi : Value} {fuel : Nat} {listed : Array Bool} {a : Act} {w : World} (hoi : ops[i]? = some oi) (hr : Region.ready md ops listed = [i]) (hS : S w)
    (hi : ∀ (W : World) (K : Act → World → Prop), S W → (∀ W', S W' → K (a.put oi.dst vi) W') → wpOp P ops Q i K a W)
    (rest : ∀ W, S W → wpAnyH P md ops Q S fuel (listed.setIfInBounds i true) (a.put oi.dst vi) W) : wpAnyH P md ops Q S (fuel + 1) listed a w := by
  refine wpAnyH_all hr (by simp) fun k hk => ?_
  obtain rfl := List.mem_singleton.1 hk
  exact hi w _ hS fun W' h' => ⟨h', rest W' h'⟩
theorem wpAnyH_pair {i j : Nat} {oi oj : Oper} {vi vj : Value} {fuel : Nat} {listed : Array Bool} {a : Act} {w : World} (hoi : ops[i]? = some oi) (hoj : ops[j]? = some oj) (hne : i ≠ j)
    (hr : Region.ready md ops listed = [i, j]) (hr1 : Region.ready md ops (listed.setIfInBounds i true) = [j]) (hr2 : Region.ready md ops (listed.setIfInBounds j true) = [i]) (hS : S w)
    (hi : ∀ (W : World) (K : Act → World → Prop), S W → (∀ W', S W' → K (a.put oi.dst vi) W') → wpOp P ops Q i K a W)
    (hij : ∀ (W : World) (K : Act → World → Prop), S W → (∀ W', S W' → K ((a.put oi.dst vi).put oj.dst vj) W') → wpOp P ops Q j K (a.put oi.dst vi) W)
    (hj : ∀ (W : World) (K : Act → World → Prop), S W → (∀ W', S W' → K (a.put oj.dst vj) W') → wpOp P ops Q j K a W)
    (hji : ∀ (W : World) (K : Act → World → Prop), S W → (∀ W', S W' → K ((a.put oj.dst vj).put oi.dst vi) W') → wpOp P ops Q i K (a.put oj.dst vj) W)
    (hc : (a.put oj.dst vj).put oi.dst vi = (a.put oi.dst vi).put oj.dst vj)
    (rest : ∀ W, S W → wpAnyH P md ops Q S fuel ((listed.setIfInBounds i true).setIfInBounds j true) ((a.put oi.dst vi).put oj.dst vj) W) : wpAnyH P md ops Q S (fuel + 2) listed a w := by
  refine wpAnyH_all hr (by simp) fun k hk => ?_
  simp only [List.mem_cons, List.not_mem_nil, or_false] at hk
  rcases hk with rfl | rfl
  · refine hi w _ hS fun W' h' => ⟨h', wpAnyH_all hr1 (by simp) fun k' hk' => ?_⟩
    obtain rfl := List.mem_singleton.1 hk'
    exact hij W' _ h' fun W2 h2 => ⟨h2, rest W2 h2⟩
  · refine hj w _ hS fun W' h' => ⟨h', wpAnyH_all hr2 (by simp) fun k' hk' => ?_⟩
    obtain rfl := List.mem_singleton.1 hk'
    refine hji W' _ h' fun W2 h2 => ⟨h2, ?_⟩
    rw [hc, Array.setIfInBounds_comm _ _ (Ne.symm hne)]
    exact rest W2 h2
/-- Two strings joined: their length is an int. -/
theorem yieldsIf_cat {op : Oper} {a : Act} (hw : Region.wanted op (yielded ops a.tmps) = true) (ty ty' : TypeId) (x y : Operand) (ho : op.op = .binOp .add ty x y ty') (s t : ByteArray) (hx : a.eval x = .string s) (hy : a.eval y = .string t)
    (hs : (s ++ t).size ≤ 9223372036854775807) : YieldsIf P ops S op (.string (s ++ t)) a :=
  .inl ⟨hw, fun w _ => by
    rw [ByteArray.size_append] at hs
    have hadd := run_string_add_sum (P := P) w s t hs
    unfold execOp
    simp only [ho, hx, hy, eqGuard, binOp]
    simp [hadd, go_sem]⟩
end
end Go.Proofs.YthjcmcgmalnfpaaGreatDoor.Lex
