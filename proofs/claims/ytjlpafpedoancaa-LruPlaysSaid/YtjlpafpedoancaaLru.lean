/- The contracts of package lru's methods at [int, int]: nodes and their ring. -/
import Derived.Test.YtjlpafpedoancaaRing
import Derived.RegionTactic
import Derived.BigRegion
namespace Go.Proofs.Ytjlpafpedoancaa.Ring
open Go.RowKit
theorem heap_setCell (w : World) (b o : Nat) (u : Value) (j : Nat) : (w.setCell ⟨b, o, none⟩ u).heap[j]? = if j = b then (match w.heap[j]? with | some (.cells c t f) => some (.cells (c.setIfInBounds o u) t f) | x => x) else w.heap[j]? := by
  simp only [World.setCell, Array.getElem?_modify]
  by_cases h : b = j
  · subst h
    simp only [if_true]
    cases hb : w.heap[b]? with
    | none => rfl
    | some x => cases x <;> rfl
  · rw [if_neg h, if_neg (fun e => h e.symm)]
theorem linked_of (w : World) (p n : Nat) : Linked w ((w.setCell ⟨p, 3, none⟩ (ptr n)).setCell ⟨n, 2, none⟩ (ptr p)).drew p n := by
  refine ⟨rfl, rfl, rfl, by simp [World.setCell], fun j => ?_⟩
  show ((w.setCell ⟨p, 3, none⟩ (ptr n)).setCell ⟨n, 2, none⟩ (ptr p)).heap[j]? = _
  rw [heap_setCell, heap_setCell]
  rfl
theorem unlink (w : World) (b p n : Nat) (k v : Int) (hb : node w b k v p n) {kp vp kn vn : Int} {pp np pn nn : Nat} (hp : node w p kp vp pp np) (hn : node w n kn vn pn nn) :
    Calls Try.prog 66 #[ptr b] w fun e w' => e = .returned (.tuple #[]) ∧ Linked w w' p n := by
  have c2 : w.cell? ⟨b, 2, none⟩ = some (.pointer (some ⟨p, 0, none⟩)) := cell_at hb rfl
  have c3 : w.cell? ⟨b, 3, none⟩ = some (.pointer (some ⟨n, 0, none⟩)) := cell_at hb rfl
  have d3 : w.cell? ⟨p, 3, none⟩ = some (.pointer (some ⟨np, 0, none⟩)) := cell_at hp rfl
  have d2 : w.cell? ⟨n, 2, none⟩ = some (.pointer (some ⟨pn, 0, none⟩)) := cell_at hn rfl
  have f3 : w.frozen? ⟨p, 3, none⟩ = false := free_at hp
  have f2 : w.frozen? ⟨n, 2, none⟩ = false := free_at hn
  clear hb hp hn
  unfold ptr
  go_enter Try.func66, Try.ntmps66
  go_wp2
  go_region
  all_goals go_end0
  all_goals exact ⟨rfl, linked_of w p n⟩
/-- w' is w but that b, which was not of the ring, stands between e and ne. -/
structure Fronted (w w' : World) (b : Nat) (k v : Int) (e ne : Nat) : Prop where
  os : w'.os = w.os
  tape : w'.tape = w.tape
  output : w'.output = w.output
  size : w'.heap.size = w.heap.size
  new : node w' b k v e ne
  heap : ∀ j, j ≠ b → w'.heap[j]? = if j = ne then setPrev (if j = e then setNext w.heap[j]? b else w.heap[j]?) b else if j = e then setNext w.heap[j]? b else w.heap[j]?
theorem fronted_of (w : World) (b e ne : Nat) (k v : Int) (P N : Value) (hb : w.heap[b]? = some (.cells #[.int .i64 k, .int .i64 v, P, N] 115 (0, 0))) (h1 : b ≠ e) (h2 : b ≠ ne) :
    Fronted w ((((w.setCell ⟨b, 2, none⟩ (ptr e)).setCell ⟨b, 3, none⟩ (ptr ne)).setCell ⟨e, 3, none⟩ (ptr b)).setCell ⟨ne, 2, none⟩ (ptr b)).drew.drew b k v e ne := by
  refine ⟨rfl, rfl, rfl, by simp [World.setCell], ?_, fun j hj => ?_⟩
  · show ((((w.setCell ⟨b, 2, none⟩ (ptr e)).setCell ⟨b, 3, none⟩ (ptr ne)).setCell ⟨e, 3, none⟩ (ptr b)).setCell ⟨ne, 2, none⟩ (ptr b)).heap[b]? = _
    rw [heap_setCell, heap_setCell, heap_setCell, heap_setCell, if_neg h2, if_neg h1, if_pos rfl, if_pos rfl, hb]
    rfl
  · show ((((w.setCell ⟨b, 2, none⟩ (ptr e)).setCell ⟨b, 3, none⟩ (ptr ne)).setCell ⟨e, 3, none⟩ (ptr b)).setCell ⟨ne, 2, none⟩ (ptr b)).heap[j]? = _
    rw [heap_setCell, heap_setCell, heap_setCell, heap_setCell, if_neg hj, if_neg hj]
    rfl
theorem front (w : World) (lb b e ne pe : Nat) (k v : Int) (R M P N : Value) (hl : w.heap[lb]? = some (.cells #[R, M, ptr e] 118 (0, 0))) (hb : w.heap[b]? = some (.cells #[.int .i64 k, .int .i64 v, P, N] 115 (0, 0)))
    (he : node w e 0 0 pe ne) {kn vn : Int} {pn nn : Nat} (hn : node w ne kn vn pn nn) (h1 : b ≠ e) (h2 : b ≠ ne) :
    Calls Try.prog 64 #[ptr lb, ptr b] w fun x w' => x = .returned (.tuple #[]) ∧ Fronted w w' b k v e ne := by
  have l2 : w.cell? ⟨lb, 2, none⟩ = some (.pointer (some ⟨e, 0, none⟩)) := cell_at hl rfl
  have c3 : w.cell? ⟨e, 3, none⟩ = some (.pointer (some ⟨ne, 0, none⟩)) := cell_at he rfl
  have b2 : w.cell? ⟨b, 2, none⟩ = some P := cell_at hb rfl
  have b3 : w.cell? ⟨b, 3, none⟩ = some N := cell_at hb rfl
  have d2 : w.cell? ⟨ne, 2, none⟩ = some (.pointer (some ⟨pn, 0, none⟩)) := cell_at hn rfl
  have f1 : w.frozen? ⟨b, 2, none⟩ = false := free_at hb
  have f2 : w.frozen? ⟨b, 3, none⟩ = false := free_at hb
  have f3 : w.frozen? ⟨e, 3, none⟩ = false := free_at he
  have f4 : w.frozen? ⟨ne, 2, none⟩ = false := free_at hn
  have n1 : ¬ e = b := fun e => h1 e.symm
  have n2 : ¬ ne = b := fun e => h2 e.symm
  have HB := Lib.hid hb
  have hlb : ¬ lb = b := by
    intro e1; subst e1; rw [hl] at hb; cases hb
  clear hb he hn hl
  unfold ptr
  go_enter Try.func64, Try.ntmps64
  go_wp2
  go_region
  all_goals go_wp2
  all_goals go_region
  all_goals go_end0
  all_goals exact ⟨rfl, fronted_of w b e ne k v P N HB.out h1 h2⟩
theorem front_ring {w w' : World} {e b : Nat} {k v : Int} {L : List Nd} (h : Ring w e L) (hf : Fronted w w' b k v e (hd e L)) (hb : b ∉ e :: L.map (·.1)) : Ring w' e ((b, k, v) :: L) := by
  have hbe : b ≠ e := fun x => hb (by simp [x])
  have hn := h.nodup
  simp only [List.nodup_cons] at hn
  have hnb : ∀ x ∈ L, x.1 ≠ b := fun x hx e1 => hb (by rw [← e1]; exact List.mem_cons_of_mem _ (List.mem_map_of_mem hx))
  have hne : ∀ x ∈ L, x.1 ≠ e := fun x hx e1 => hn.1 (by rw [← e1]; exact List.mem_map_of_mem hx)
  refine ⟨?_, ⟨hf.new, ?_⟩, ?_⟩
  · show w'.heap[e]? = _
    rw [hf.heap e (fun x => hbe x.symm)]
    have := h.fin
    cases L with
    | nil => simp only [hd, lst, if_true] at *; rw [show w.heap[e]? = _ from this]; rfl
    | cons c C =>
      simp only [hd, lst] at *
      rw [if_neg (fun x => hne c (by simp) x.symm), if_true, show w.heap[e]? = _ from this]; rfl
  · have hs := h.seg
    cases L with
    | nil => trivial
    | cons c C =>
      simp only [seg, hd, List.map_cons, List.nodup_cons] at hs hf hn ⊢
      refine ⟨?_, seg_same hs.2 fun x hx => ?_⟩
      · show w'.heap[c.1]? = _
        rw [hf.heap c.1 (hnb c (by simp)), if_pos rfl, if_neg (hne c (by simp)), show w.heap[c.1]? = _ from hs.1]; rfl
      · rw [hf.heap x.1 (hnb x (by simp [hx])), if_neg, if_neg (hne x (by simp [hx]))]
        exact fun e1 => hn.2.1 (by rw [← e1]; exact List.mem_map_of_mem hx)
  · simp only [List.map_cons, List.nodup_cons, List.mem_cons, not_or] at hb hn ⊢
    exact ⟨⟨fun x => hbe x.symm, hn.1⟩, hb.2, hn.2⟩
end Go.Proofs.Ytjlpafpedoancaa.Ring
