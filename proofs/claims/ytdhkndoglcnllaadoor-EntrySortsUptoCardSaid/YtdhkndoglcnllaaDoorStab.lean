/- Sorting that keeps what is equal in its order: the plain law. -/
import Derived.Test.YtdhkndoglcnllaaDoorMem2
namespace Go.Proofs.YtdhkndoglcnllaaDoor.Stab
/-- A strict order whose 'neither is ahead' goes through. -/
structure Ord {α : Type} (lt : α → α → Bool) : Prop where
  asym : ∀ a b, lt a b = true → lt b a = false
  nt : ∀ a b c, lt a b = false → lt b c = false → lt a c = false
variable {α : Type} {lt : α → α → Bool}
theorem Ord.irr (h : Ord lt) (a : α) : lt a a = false := by
  cases e : lt a a with
  | false => rfl
  | true => exact (h.asym a a e).symm.trans e |>.symm ▸ rfl
theorem Ord.le_lt (h : Ord lt) {a b c : α} (h1 : lt b a = false) (h2 : lt b c = true) : lt a c = true := by
  cases e : lt a c with
  | true => rfl
  | false => rw [h.nt b a c h1 e] at h2; cases h2
theorem Ord.lt_le (h : Ord lt) {a b c : α} (h1 : lt a b = true) (h2 : lt c b = false) : lt a c = true := by
  cases e : lt a c with
  | true => rfl
  | false => rw [h.nt a c b e h2] at h1; cases h1
def eqv (lt : α → α → Bool) (x y : α) : Bool := !lt x y && !lt y x
theorem eqv_iff {x y : α} : eqv lt x y = true ↔ lt x y = false ∧ lt y x = false := by simp [eqv]
def Srt (lt : α → α → Bool) (l : List α) : Prop := l.Pairwise fun a b => lt b a = false
def Same (lt : α → α → Bool) (l m : List α) : Prop := ∀ x, l.filter (eqv lt x) = m.filter (eqv lt x)
theorem Same.refl (l : List α) : Same lt l l := fun _ => rfl
theorem Same.trans {l m k : List α} (h : Same lt l m) (g : Same lt m k) : Same lt l k := fun x => (h x).trans (g x)
theorem Same.symm {l m : List α} (h : Same lt l m) : Same lt m l := fun x => (h x).symm
theorem Same.append {l m l' m' : List α} (h : Same lt l m) (g : Same lt l' m') : Same lt (l ++ l') (m ++ m') := fun x => by rw [List.filter_append, List.filter_append, h x, g x]
theorem Same.cons (x : α) {l m : List α} (h : Same lt l m) : Same lt (x :: l) (x :: m) := (Same.refl [x]).append h
theorem Same.mem (ho : Ord lt) {l m : List α} (h : Same lt l m) {x : α} (hx : x ∈ l) : x ∈ m := by
  have h1 : x ∈ l.filter (eqv lt x) := List.mem_filter.2 ⟨hx, eqv_iff.2 ⟨ho.irr x, ho.irr x⟩⟩
  rw [h x] at h1
  exact (List.mem_filter.1 h1).1
theorem uniq (ho : Ord lt) : ∀ {l m : List α}, Srt lt l → Srt lt m → Same lt l m → l = m
  | [], [], _, _, _ => rfl
  | [], y :: m, _, _, h => by have := h.symm.mem ho (List.mem_cons_self (a := y) (l := m)); simp at this
  | x :: l, [], _, _, h => by have := h.mem ho (List.mem_cons_self (a := x) (l := l)); simp at this
  | x :: l, y :: m, hl, hm, h => by
    have hx : lt x y = false := by
      have h1 := h.mem ho (List.mem_cons_self (a := x) (l := l))
      rcases List.mem_cons.1 h1 with e | h2
      · rw [e]; exact ho.irr y
      · exact (List.pairwise_cons.1 hm).1 x h2
    have hy : lt y x = false := by
      have h1 := h.symm.mem ho (List.mem_cons_self (a := y) (l := m))
      rcases List.mem_cons.1 h1 with e | h2
      · rw [e]; exact ho.irr x
      · exact (List.pairwise_cons.1 hl).1 y h2
    have h1 := h x
    rw [List.filter_cons_of_pos (eqv_iff.2 ⟨ho.irr x, ho.irr x⟩), List.filter_cons_of_pos (eqv_iff.2 ⟨hx, hy⟩)] at h1
    obtain rfl := (List.cons.inj h1).1
    congr 1
    refine uniq ho (List.pairwise_cons.1 hl).2 (List.pairwise_cons.1 hm).2 fun z => ?_
    have h2 := h z
    simp only [List.filter_cons] at h2
    split at h2
    · exact (List.cons.inj h2).2
    · exact h2
/-- Two blocks change places, where each of the second is ahead of each of the first. -/
theorem same_swap (ho : Ord lt) {u v : List α} (h : ∀ a ∈ u, ∀ b ∈ v, lt b a = true) : Same lt (u ++ v) (v ++ u) := fun x => by
  rw [List.filter_append, List.filter_append]
  by_cases hu : u.filter (eqv lt x) = []
  · rw [hu]; simp
  · have hv : v.filter (eqv lt x) = [] := by
      rw [List.filter_eq_nil_iff]
      intro b hb he
      obtain ⟨a, ha⟩ := List.exists_mem_of_ne_nil _ hu
      obtain ⟨ha1, ha2⟩ := List.mem_filter.1 ha
      have e1 := eqv_iff.1 ha2
      have e2 := eqv_iff.1 he
      have := h a ha1 b hb
      rw [ho.nt b x a e2.2 e1.1] at this
      cases this
    rw [hv]; simp
/-- One step of a merge from the middle. -/
theorem merge_step (ho : Ord lt) {u1 u2 v1 v2 x y : List α} (hu : Srt lt (u1 ++ u2)) (hv : Srt lt (v1 ++ v2)) (h1 : ∀ a ∈ u2, ∀ b ∈ v1, lt b a = true) (h2 : ∀ a ∈ u1, ∀ b ∈ v2, lt b a = false)
    (hx : Srt lt x) (sx : Same lt (u1 ++ v1) x) (hy : Srt lt y) (sy : Same lt (u2 ++ v2) y) : Srt lt (x ++ y) ∧ Same lt (u1 ++ u2 ++ (v1 ++ v2)) (x ++ y) := by
  constructor
  · refine List.pairwise_append.2 ⟨hx, hy, fun a ha b hb => ?_⟩
    have ha' := sx.symm.mem ho ha
    have hb' := sy.symm.mem ho hb
    have hU := (List.pairwise_append.1 hu).2.2
    have hV := (List.pairwise_append.1 hv).2.2
    rcases List.mem_append.1 ha' with ha1 | ha1 <;> rcases List.mem_append.1 hb' with hb1 | hb1
    · exact hU a ha1 b hb1
    · exact h2 a ha1 b hb1
    · exact ho.asym _ _ (h1 b hb1 a ha1)
    · exact hV a ha1 b hb1
  · have e : Same lt (u1 ++ u2 ++ (v1 ++ v2)) ((u1 ++ v1) ++ (u2 ++ v2)) := by
      have := ((Same.refl (lt := lt) u1).append (same_swap ho h1)).append (Same.refl v2)
      simpa [List.append_assoc] using this
    exact e.trans (sx.append sy)
/-- The last of the one ahead of the first of the other: each of the one is ahead of each of the other. -/
theorem all_lt (ho : Ord lt) {v u : List α} (hv : Srt lt v) (hu : Srt lt u) (h : ∀ b a, v.getLast? = some b → u.head? = some a → lt b a = true) : ∀ a ∈ u, ∀ b ∈ v, lt b a = true := by
  intro a ha b hb
  have hvn : v ≠ [] := List.ne_nil_of_mem hb
  have hun : u ≠ [] := List.ne_nil_of_mem ha
  have h0 := h _ _ (List.getLast?_eq_some_getLast hvn) (List.head?_eq_some_head hun)
  have hb' : lt (v.getLast hvn) b = false := by
    have e := List.dropLast_concat_getLast hvn
    have hb2 : b ∈ v.dropLast ++ [v.getLast hvn] := by rw [e]; exact hb
    rcases List.mem_append.1 hb2 with h1 | h1
    · have hv' : Srt lt (v.dropLast ++ [v.getLast hvn]) := by rw [e]; exact hv
      exact (List.pairwise_append.1 hv').2.2 b h1 _ (List.mem_singleton.2 rfl)
    · rw [List.mem_singleton.1 h1]; exact ho.irr _
  have ha' : lt a (u.head hun) = false := by
    have e := List.cons_head_tail hun
    have ha2 : a ∈ u.head hun :: u.tail := by rw [e]; exact ha
    rcases List.mem_cons.1 ha2 with h1 | h1
    · rw [h1]; exact ho.irr _
    · have hu' : Srt lt (u.head hun :: u.tail) := by rw [e]; exact hu
      exact (List.pairwise_cons.1 hu').1 a h1
  exact ho.le_lt hb' (ho.lt_le h0 ha')
/-- The same with 'not behind'. -/
theorem all_le (ho : Ord lt) {u v : List α} (hu : Srt lt u) (hv : Srt lt v) (h : ∀ a b, u.getLast? = some a → v.head? = some b → lt b a = false) : ∀ a ∈ u, ∀ b ∈ v, lt b a = false := by
  intro a ha b hb
  have hun : u ≠ [] := List.ne_nil_of_mem ha
  have hvn : v ≠ [] := List.ne_nil_of_mem hb
  have h0 := h _ _ (List.getLast?_eq_some_getLast hun) (List.head?_eq_some_head hvn)
  have ha' : lt (u.getLast hun) a = false := by
    have e := List.dropLast_concat_getLast hun
    have ha2 : a ∈ u.dropLast ++ [u.getLast hun] := by rw [e]; exact ha
    rcases List.mem_append.1 ha2 with h1 | h1
    · have hu' : Srt lt (u.dropLast ++ [u.getLast hun]) := by rw [e]; exact hu
      exact (List.pairwise_append.1 hu').2.2 a h1 _ (List.mem_singleton.2 rfl)
    · rw [List.mem_singleton.1 h1]; exact ho.irr _
  have hb' : lt b (v.head hvn) = false := by
    have e := List.cons_head_tail hvn
    have hb2 : b ∈ v.head hvn :: v.tail := by rw [e]; exact hb
    rcases List.mem_cons.1 hb2 with h1 | h1
    · rw [h1]; exact ho.irr _
    · have hv' : Srt lt (v.head hvn :: v.tail) := by rw [e]; exact hv
      exact (List.pairwise_cons.1 hv').1 b h1
  exact ho.nt _ _ _ hb' (ho.nt _ _ _ h0 ha')
/-- One is put into its place in a sorted row. -/
theorem insert_step (ho : Ord lt) {s1 s2 : List α} {x : α} (hs : Srt lt (s1 ++ s2)) (h1 : ∀ a, s1.getLast? = some a → lt x a = false) (h2 : ∀ b ∈ s2, lt x b = true) :
    Srt lt (s1 ++ x :: s2) ∧ Same lt (s1 ++ s2 ++ [x]) (s1 ++ x :: s2) := by
  obtain ⟨p1, p2, p3⟩ := List.pairwise_append.1 hs
  refine ⟨List.pairwise_append.2 ⟨p1, List.pairwise_cons.2 ⟨fun b hb => ho.asym _ _ (h2 b hb), p2⟩, fun a ha b hb => ?_⟩, ?_⟩
  · rcases List.mem_cons.1 hb with rfl | hb
    · exact all_le ho p1 (List.pairwise_singleton _ _) (fun a' b' e1 e2 => by simp at e2; subst e2; exact h1 a' e1) a ha b (List.mem_singleton.2 rfl)
    · exact p3 a ha b hb
  · have := (Same.refl (lt := lt) s1).append (same_swap ho (u := s2) (v := [x]) fun a ha b hb => by rw [List.mem_singleton.1 hb]; exact h2 a ha)
    simpa [List.append_assoc] using this
end Go.Proofs.YtdhkndoglcnllaaDoor.Stab
