/- Rings of nodes in memory: each node's block holds a key, a value, and the places of its neighbours. No function of the program here. -/
import Derived.Test.YtjlpafpedoancaaMaps
namespace Go.Proofs.Ytjlpafpedoancaa.Ring
open Go.RowKit
abbrev Nd := Nat × Int × Int
abbrev ptr (b : Nat) : Value := .pointer (some ⟨b, 0, none⟩)
def nodeO (k v : Int) (p n : Nat) : Obj := .cells #[.int .i64 k, .int .i64 v, ptr p, ptr n] 115 (0, 0)
def node (w : World) (b : Nat) (k v : Int) (p n : Nat) : Prop := w.heap[b]? = some (nodeO k v p n)
def hd (t : Nat) : List Nd → Nat
  | [] => t
  | x :: _ => x.1
def lst (p : Nat) : List Nd → Nat
  | [] => p
  | x :: l => lst x.1 l
def seg (w : World) (t : Nat) : Nat → List Nd → Prop
  | _, [] => True
  | p, x :: l => node w x.1 x.2.1 x.2.2 p (hd t l) ∧ seg w t x.1 l
theorem hd_append (t : Nat) (A B : List Nd) : hd t (A ++ B) = hd (hd t B) A := by cases A <;> rfl
theorem lst_append (p : Nat) (A B : List Nd) : lst p (A ++ B) = lst (lst p A) B := by
  induction A generalizing p with
  | nil => rfl
  | cons x A ih => exact ih x.1
theorem seg_append (w : World) (t : Nat) : ∀ (A B : List Nd) (p : Nat), seg w t p (A ++ B) ↔ seg w (hd t B) p A ∧ seg w t (lst p A) B
  | [], B, p => by simp [seg, lst]
  | x :: A, B, p => by
    simp only [List.cons_append, seg, lst, hd_append, seg_append w t A B x.1]
    exact and_assoc.symm
theorem seg_same {w w' : World} {t p : Nat} {l : List Nd} (h : seg w t p l) (hs : ∀ x ∈ l, w'.heap[x.1]? = w.heap[x.1]?) : seg w' t p l := by
  induction l generalizing p with
  | nil => trivial
  | cons x l ih => exact ⟨(hs x (by simp)).trans h.1, ih h.2 (fun y hy => hs y (by simp [hy]))⟩
theorem hd_mem {t : Nat} {l : List Nd} : hd t l = t ∨ hd t l ∈ l.map (·.1) := by cases l <;> simp [hd]
theorem lst_mem {p : Nat} {l : List Nd} : lst p l = p ∨ lst p l ∈ l.map (·.1) := by
  induction l generalizing p with
  | nil => simp [lst]
  | cons x l ih => rcases ih (p := x.1) with h | h
                   · right; simp [lst, h]
                   · right; simp [lst, h]
/-- A ring: e is its end, which has no thing. -/
structure Ring (w : World) (e : Nat) (L : List Nd) : Prop where
  fin : node w e 0 0 (lst e L) (hd e L)
  seg : seg w e e L
  nodup : (e :: L.map (·.1)).Nodup
/-- What a store into a node's field 3 (next), 2 (prev) makes of a heap. -/
def setNext (o : Option Obj) (n : Nat) : Option Obj := match o with
  | some (.cells c t f) => some (.cells (c.setIfInBounds 3 (ptr n)) t f)
  | o => o
def setPrev (o : Option Obj) (p : Nat) : Option Obj := match o with
  | some (.cells c t f) => some (.cells (c.setIfInBounds 2 (ptr p)) t f)
  | o => o
theorem setNext_node (k v : Int) (p n n' : Nat) : setNext (some (nodeO k v p n)) n' = some (nodeO k v p n') := rfl
theorem setPrev_node (k v : Int) (p n p' : Nat) : setPrev (some (nodeO k v p n)) p' = some (nodeO k v p' n) := rfl
/-- w' is w but that p's next is n, and n's prev is p. -/
structure Linked (w w' : World) (p n : Nat) : Prop where
  os : w'.os = w.os
  tape : w'.tape = w.tape
  output : w'.output = w.output
  size : w'.heap.size = w.heap.size
  heap : ∀ j, w'.heap[j]? = if j = n then setPrev (if j = p then setNext w.heap[j]? n else w.heap[j]?) p else if j = p then setNext w.heap[j]? n else w.heap[j]?
theorem Linked.other {w w' : World} {p n j : Nat} (h : Linked w w' p n) (h1 : j ≠ p) (h2 : j ≠ n) : w'.heap[j]? = w.heap[j]? := by rw [h.heap, if_neg h2, if_neg h1]
theorem Linked.next {w w' : World} {p n : Nat} {k v : Int} {pp np : Nat} (h : Linked w w' p n) (hpn : p ≠ n) (hp : node w p k v pp np) : node w' p k v pp n := by
  show w'.heap[p]? = _; rw [h.heap, if_neg hpn, if_pos rfl, hp]; rfl
theorem Linked.prev {w w' : World} {p n : Nat} {k v : Int} {pp np : Nat} (h : Linked w w' p n) (hpn : p ≠ n) (hp : node w n k v pp np) : node w' n k v p np := by
  show w'.heap[n]? = _; rw [h.heap, if_pos rfl, if_neg (fun e => hpn e.symm), hp]; rfl
theorem Linked.both {w w' : World} {p : Nat} {k v : Int} {pp np : Nat} (h : Linked w w' p p) (hp : node w p k v pp np) : node w' p k v p p := by
  show w'.heap[p]? = _; rw [h.heap, if_pos rfl, if_pos rfl, hp]; rfl
/-- Joining what stands before and behind: a ring without what was between. -/
theorem link_ring {w w' : World} {e : Nat} {A C : List Nd} {pe ne : Nat} (h : Linked w w' (lst e A) (hd e C)) (hn : (e :: (A ++ C).map (·.1)).Nodup)
    (he : node w e 0 0 (if C = [] then pe else lst e C) (if A = [] then ne else hd e A)) {tA pC : Nat} (hA : seg w tA e A) (hC : seg w e pC C) : Ring w' e (A ++ C) := by
  simp only [List.map_append, List.nodup_cons, List.mem_append, not_or, List.nodup_append] at hn
  obtain ⟨⟨heA, heC⟩, hnA, hnC, hd1⟩ := hn
  have hdis : ∀ x ∈ A, ∀ y ∈ C, x.1 ≠ y.1 := fun x hx y hy => hd1 x.1 (List.mem_map_of_mem hx) y.1 (List.mem_map_of_mem hy)
  have nodup : (e :: (A ++ C).map (·.1)).Nodup := by
    simp only [List.map_append, List.nodup_cons, List.mem_append, not_or, List.nodup_append]
    exact ⟨⟨heA, heC⟩, hnA, hnC, hd1⟩
  -- the part ahead: its last one's next turns
  have SA : seg w' (hd e C) e A := by
    rcases List.eq_nil_or_concat A with rfl | ⟨A', y, rfl⟩
    · trivial
    · simp only [List.concat_eq_append] at *
      rw [seg_append] at hA ⊢
      have hy : lst e (A' ++ [y]) = y.1 := by rw [lst_append]; rfl
      rw [hy] at h
      have hynC : y.1 ≠ hd e C := by
        rcases hd_mem (t := e) (l := C) with h1 | h1
        · rw [h1]; exact fun e1 => heA (by rw [← e1]; simp)
        · intro e1
          obtain ⟨z, hz, hz1⟩ := List.mem_map.1 h1
          exact hdis y (by simp) z hz (by rw [hz1]; exact e1)
      refine ⟨seg_same hA.1 fun x hx => h.other ?_ ?_, h.next hynC hA.2.1, trivial⟩
      · intro e1
        have : (A'.map (·.1) ++ [y.1]).Nodup := by simpa using hnA
        rw [List.nodup_append] at this
        exact this.2.2 x.1 (List.mem_map_of_mem hx) y.1 (by simp) e1
      · intro e1
        rcases hd_mem (t := e) (l := C) with h1 | h1
        · exact heA (by rw [← h1, ← e1]; exact List.mem_map_of_mem (by simp [hx]))
        · obtain ⟨z, hz, hz1⟩ := List.mem_map.1 h1
          exact hdis x (by simp [hx]) z hz (by rw [hz1]; exact e1)
  -- the part behind: its first one's prev turns
  have SC : seg w' e (lst e A) C := by
    cases C with
    | nil => trivial
    | cons c C =>
      simp only [seg, hd] at hC h ⊢
      have hlc : lst e A ≠ c.1 := by
        rcases lst_mem (p := e) (l := A) with h1 | h1
        · rw [h1]; exact fun e1 => heC (by rw [e1]; simp)
        · intro e1
          obtain ⟨z, hz, hz1⟩ := List.mem_map.1 h1
          exact hdis z hz c (by simp) (by rw [hz1]; exact e1)
      refine ⟨h.prev hlc hC.1, seg_same hC.2 fun x hx => h.other ?_ ?_⟩
      · intro e1
        rcases lst_mem (p := e) (l := A) with h1 | h1
        · exact heC (by rw [← h1, ← e1]; exact List.mem_map_of_mem (by simp [hx]))
        · obtain ⟨z, hz, hz1⟩ := List.mem_map.1 h1
          exact hdis z hz x (by simp [hx]) (by rw [hz1]; exact e1.symm)
      · intro e1
        simp only [List.map_cons, List.nodup_cons] at hnC
        exact hnC.1 (by rw [← e1]; exact List.mem_map_of_mem hx)
  refine ⟨?_, (seg_append _ _ _ _ _).2 ⟨SA, SC⟩, nodup⟩
  rw [lst_append, hd_append]
  cases A with
  | nil =>
    cases C with
    | nil => simp only [lst, hd] at h ⊢; exact h.both he
    | cons c C =>
      simp only [lst, hd, if_true] at h he ⊢
      simp only [reduceCtorEq, if_false] at he
      have hec : e ≠ c.1 := fun e1 => heC (by rw [e1]; simp)
      simpa [lst] using h.next hec he
  | cons x A =>
    simp only [reduceCtorEq, if_false] at he
    cases C with
    | nil =>
      have hle : lst e (x :: A) ≠ e := by
        intro e1
        rcases lst_mem (p := x.1) (l := A) with h1 | h1
        · exact heA (by rw [← e1]; simp [lst, h1])
        · exact heA (by rw [← e1]; simp only [lst, List.map_cons]; exact List.mem_cons_of_mem _ h1)
      simp only [hd] at h he ⊢
      simpa [lst] using h.prev hle he
    | cons c C =>
      simp only [reduceCtorEq, if_false] at he
      have h1 : e ≠ lst e (x :: A) := by
        intro e1
        rcases lst_mem (p := x.1) (l := A) with h1 | h1
        · exact heA (by rw [e1]; simp [lst, h1])
        · exact heA (by rw [e1]; simp only [lst, List.map_cons]; exact List.mem_cons_of_mem _ h1)
      have h2 : e ≠ c.1 := fun e1 => heC (by rw [e1]; simp)
      show w'.heap[e]? = _
      rw [h.other h1 h2]
      simpa [hd, lst, node] using he
end Go.Proofs.Ytjlpafpedoancaa.Ring
