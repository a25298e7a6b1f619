/- The contracts of package lru's methods at [int, int]: the list. -/
import Derived.Test.YtjlpafpedoancaaLru
namespace Go.Proofs.Ytjlpafpedoancaa.Ring
open Go.RowKit
/-- Blocks that are no nodes' are as they were. -/
def Keeps (w w' : World) : Prop := ∀ (j : Nat) (c : Array Value) (t : TypeId) (f : Nat × Nat), t ≠ 115 → w.heap[j]? = some (Obj.cells c t f) → w'.heap[j]? = some (Obj.cells c t f)
theorem Keeps.refl (w : World) : Keeps w w := fun _ _ _ _ _ h => h
theorem Keeps.trans {a b c : World} (h : Keeps a b) (k : Keeps b c) : Keeps a c := fun j x t f ht hj => k j x t f ht (h j x t f ht hj)
theorem Keeps.of_below {w w' : World} (h : Below w.heap.size w w') : Keeps w w' := fun j c t f _ hj => by rw [h.block j (Array.getElem?_eq_some_iff.1 hj).1]; exact hj
theorem Keeps.own {w w' : World} (hk : Keeps w w') {base : Nat} {v : Value} {n : Nat} {xs : List Value} (h : w.ownsRow base 3 1 v n xs) : w'.ownsRow base 3 1 v n xs := by
  refine ⟨h.1, ?_⟩
  rcases h.2 with hn | ⟨g, cap, cur, rfl, hb, hg, rest⟩
  · exact .inl hn
  · exact .inr ⟨g, cap, cur, rfl, hb, hk _ _ _ _ (by decide) hg, rest⟩
theorem Linked.below {w w' : World} {p n B : Nat} (h : Linked w w' p n) (h1 : B ≤ p) (h2 : B ≤ n) : Below B w w' :=
  ⟨h.os, h.tape, h.output, by rw [h.size]; exact Nat.le_refl _, fun k hk => h.other (by omega) (by omega)⟩
theorem Linked.keeps {w w' : World} {p n : Nat} (h : Linked w w' p n) {kp vp kn vn : Int} {pp np pn nn : Nat} (hp : node w p kp vp pp np) (hn : node w n kn vn pn nn) : Keeps w w' := by
  intro j c t f ht hj
  rw [h.other]
  · exact hj
  · rintro rfl; rw [show w.heap[j]? = _ from hp] at hj; cases hj; exact ht rfl
  · rintro rfl; rw [show w.heap[j]? = _ from hn] at hj; cases hj; exact ht rfl
theorem Fronted.below {w w' : World} {b e ne B : Nat} {k v : Int} (h : Fronted w w' b k v e ne) (h1 : B ≤ b) (h2 : B ≤ e) (h3 : B ≤ ne) : Below B w w' :=
  ⟨h.os, h.tape, h.output, by rw [h.size]; exact Nat.le_refl _, fun j hj => by rw [h.heap j (by omega), if_neg (by omega), if_neg (by omega)]⟩
theorem Fronted.keeps {w w' : World} {b e ne : Nat} {k v : Int} (h : Fronted w w' b k v e ne) {kp vp kn vn : Int} {pp np pn nn : Nat} (hp : node w e kp vp pp np) (hn : node w ne kn vn pn nn) {k1 v1 : Int} {P N : Value}
    (hb : w.heap[b]? = some (.cells #[.int .i64 k1, .int .i64 v1, P, N] 115 (0, 0))) : Keeps w w' := by
  intro j c t f ht hj
  rw [h.heap j (by rintro rfl; rw [hb] at hj; cases hj; exact ht rfl), if_neg, if_neg]
  · exact hj
  · rintro rfl; rw [show w.heap[j]? = _ from hp] at hj; cases hj; exact ht rfl
  · rintro rfl; rw [show w.heap[j]? = _ from hn] at hj; cases hj; exact ht rfl
theorem lst_ne {p q : Nat} {l : List Nd} (h : l ≠ []) : lst p l = lst q l := by cases l with
  | nil => exact absurd rfl h
  | cons x l => rfl
theorem seg_node {w : World} {t : Nat} : ∀ {l : List Nd} {p : Nat}, seg w t p l → ∀ x ∈ l, ∃ p n, node w x.1 x.2.1 x.2.2 p n
  | [], _, _, _, h => by cases h
  | y :: l, p, h, x, hx => by
    rcases List.mem_cons.1 hx with rfl | hx
    · exact ⟨_, _, h.1⟩
    · exact seg_node h.2 x hx
theorem Ring.any {w : World} {e : Nat} {L : List Nd} (h : Ring w e L) {j : Nat} (hj : j = e ∨ j ∈ L.map (·.1)) : ∃ k v p n, node w j k v p n := by
  rcases hj with rfl | hj
  · exact ⟨_, _, _, _, h.fin⟩
  · obtain ⟨x, hx, rfl⟩ := List.mem_map.1 hj
    obtain ⟨p, n, hp⟩ := seg_node h.seg x hx
    exact ⟨_, _, _, _, hp⟩
theorem Ring.mid {w : World} {e : Nat} {A C : List Nd} {x : Nd} (h : Ring w e (A ++ x :: C)) :
    node w x.1 x.2.1 x.2.2 (lst e A) (hd e C) ∧ (∃ k v p n, node w (lst e A) k v p n) ∧ ∃ k v p n, node w (hd e C) k v p n := by
  have hs := (seg_append _ _ _ _ _).1 h.seg
  refine ⟨hs.2.1, h.any ?_, h.any ?_⟩
  · rcases lst_mem (p := e) (l := A) with h | h
    · exact .inl h
    · exact .inr (by simp [List.map_append]; left; simpa using h)
  · rcases hd_mem (t := e) (l := C) with h | h
    · exact .inl h
    · exact .inr (by simp [List.map_append]; right; right; simpa using h)
theorem Ring.unlinked {w w' : World} {e : Nat} {A C : List Nd} {x : Nd} (h : Ring w e (A ++ x :: C)) (hl : Linked w w' (lst e A) (hd e C)) : Ring w' e (A ++ C) ∧ w'.heap[x.1]? = w.heap[x.1]? := by
  have hs := (seg_append _ _ _ _ _).1 h.seg
  have hn := h.nodup
  have hf := h.fin
  have hsub : (e :: (A ++ C).map (·.1)).Nodup := by
    refine hn.sublist ?_
    simp only [List.map_append, List.map_cons]
    exact List.Sublist.cons_cons _ (List.Sublist.append_left (List.sublist_cons_self _ _) _)
  rw [List.nodup_cons, List.map_append, List.map_cons, List.nodup_append, List.nodup_cons] at hn
  obtain ⟨hne, hnA, ⟨hxC, hnC⟩, hd2⟩ := hn
  simp only [List.mem_append, List.mem_cons, not_or] at hne
  refine ⟨link_ring (pe := x.1) (ne := x.1) hl hsub ?_ hs.1 hs.2.2, hl.other ?_ ?_⟩
  · have e1 : lst e (A ++ x :: C) = if C = [] then x.1 else lst e C := by
      rw [lst_append]
      split
      · rename_i h; subst h; rfl
      · rename_i h; exact lst_ne h
    have e2 : hd e (A ++ x :: C) = if A = [] then x.1 else hd e A := by
      cases A <;> rfl
    rw [← e1, ← e2]; exact hf
  · intro e1
    rcases lst_mem (p := e) (l := A) with h1 | h1
    · exact hne.2.1 (by rw [← h1]; exact e1.symm)
    · exact hd2 _ h1 x.1 (by simp) e1.symm
  · intro e1
    rcases hd_mem (t := e) (l := C) with h1 | h1
    · exact hne.2.1 (by rw [← h1]; exact e1.symm)
    · exact hxC (by rw [e1]; exact h1)
/-- A list in memory: its head, its map, its ring; all of it from block B on. -/
structure Lst (w : World) (B lb : Nat) (room : Int) (mb e : Nat) (L : List Nd) : Prop where
  head : w.heap[lb]? = some (.cells #[.int .i64 room, .map (some mb), ptr e] 118 (0, 0))
  map : ∃ m, IMap w mb m ∧ m.Perm (L.map fun x => (x.2.1, ptr x.1))
  keys : (L.map (·.2.1)).Nodup
  ring : Ring w e L
  base : ∀ j ∈ lb :: mb :: e :: L.map (·.1), B ≤ j
theorem Lst.ne_map {w : World} {B lb mb e : Nat} {room : Int} {L : List Nd} (h : Lst w B lb room mb e L) {j : Nat} {c : Array Value} {t : TypeId} {f : Nat × Nat} (hj : w.heap[j]? = some (.cells c t f)) : j ≠ mb := by
  rintro rfl
  obtain ⟨m, ⟨es, clock, hb, _⟩, _⟩ := h.map
  rw [hj] at hb; cases hb
theorem Lst.ne_head {w : World} {B lb mb e : Nat} {room : Int} {L : List Nd} (h : Lst w B lb room mb e L) {j : Nat} {k v : Int} {p n : Nat} (hj : node w j k v p n) : lb ≠ j := by
  rintro rfl
  have := h.head
  rw [show w.heap[lb]? = _ from hj] at this
  cases this
/-- Its head and its map are as they were: what a turn of nodes alone leaves. -/
theorem Lst.rest {w w' : World} {B lb mb e : Nat} {room : Int} {L : List Nd} (h : Lst w B lb room mb e L) (h1 : w'.heap[lb]? = w.heap[lb]?) (h2 : w'.heap[mb]? = w.heap[mb]?) :
    w'.heap[lb]? = some (.cells #[.int .i64 room, .map (some mb), ptr e] 118 (0, 0)) ∧ ∃ m, IMap w' mb m ∧ m.Perm (L.map fun x => (x.2.1, ptr x.1)) := by
  obtain ⟨m, hm, hp⟩ := h.map
  exact ⟨h1.trans h.head, m, hm.of_block h2, hp⟩
theorem find_nil (w : World) (k : Int) : Calls Try.prog 65 #[.pointer none, .int .i64 k] w fun x w' => x = .returned (.pointer none) ∧ w = w' := by
  go_enter Try.func65, Try.ntmps65
  go_wp2
  go_ret
  exact ⟨rfl, rfl⟩
theorem find_any (w : World) (B lb mb e : Nat) (room : Int) (L : List Nd) (h : Lst w B lb room mb e L) (k : Int) (r : Value) (hr : ∀ m : List (Int × Value), m.Perm (L.map fun x => (x.2.1, ptr x.1)) → (m.map (·.1)).Nodup → ((idx k m).map (·.2)).getD (.pointer none) = r) :
    Calls Try.prog 65 #[ptr lb, .int .i64 k] w fun x w' => x = .returned r ∧ w = w' := by
  have c1 : w.cell? ⟨lb, 1, none⟩ = some (.map (some mb)) := cell_at h.head rfl
  obtain ⟨m, hm, hp⟩ := h.map
  have hn : (m.map (·.1)).Nodup := by obtain ⟨_, _, _, _, hn⟩ := hm; exact hn
  have hl := hm.look (P := Try.prog) (t := 116) (kt := 3) (et := 113) Try.underlying116 Try.underlying3 (.pointer none) (fun _ => by kernel_rfl) k
  rw [hr m hp hn] at hl
  clear hr hm hp h hn
  unfold ptr
  go_enter Try.func65, Try.ntmps65
  go_wp2
  go_ret
  exact ⟨rfl, rfl⟩
theorem find_yes (w : World) (B lb mb e : Nat) (room : Int) (L : List Nd) (h : Lst w B lb room mb e L) (x : Nd) (hx : x ∈ L) :
    Calls Try.prog 65 #[ptr lb, .int .i64 x.2.1] w fun y w' => y = .returned (ptr x.1) ∧ w = w' :=
  find_any w B lb mb e room L h x.2.1 (ptr x.1) fun m hp hn => by
    obtain ⟨i, hi, _⟩ := idx_some (k := x.2.1) (v := ptr x.1) (l := m) (hp.mem_iff.2 (List.mem_map.2 ⟨x, hx, rfl⟩)) hn
    rw [hi]; rfl
theorem find_no (w : World) (B lb mb e : Nat) (room : Int) (L : List Nd) (h : Lst w B lb room mb e L) (k : Int) (hk : ∀ x ∈ L, x.2.1 ≠ k) :
    Calls Try.prog 65 #[ptr lb, .int .i64 k] w fun y w' => y = .returned (.pointer none) ∧ w = w' :=
  find_any w B lb mb e room L h k (.pointer none) fun m hp _ => by
    rw [idx_none (l := m) (fun y hy => by
      obtain ⟨z, hz, rfl⟩ := List.mem_map.1 (hp.mem_iff.1 hy)
      exact hk z hz)]
    rfl
theorem told_nil (w : World) : Calls Try.prog 67 #[.pointer none] w fun x w' => x = .returned (.tuple #[.int .i64 0, .bool false]) ∧ w = w' := by
  go_enter Try.func67, Try.ntmps67
  go_wp2
  go_ret2
  exact ⟨rfl, rfl⟩
theorem told_some (w : World) (b : Nat) (k v : Int) (P N : Value) (h : w.heap[b]? = some (.cells #[.int .i64 k, .int .i64 v, P, N] 115 (0, 0))) : Calls Try.prog 67 #[ptr b] w fun x w' => x = .returned (.tuple #[.int .i64 v, .bool true]) ∧ w = w' := by
  have c1 : w.cell? ⟨b, 1, none⟩ = some (.int .i64 v) := cell_at h rfl
  clear h
  unfold ptr
  go_enter Try.func67, Try.ntmps67
  go_wp2
  go_ret2
  exact ⟨rfl, rfl⟩
end Go.Proofs.Ytjlpafpedoancaa.Ring
