/- Sorting that keeps what is equal in its order: two rows that go together, each sorted by the same keys, go together still. -/
import Derived.Test.YtdhkndoglcnllaaDoorStab4
namespace Go.Proofs.YtdhkndoglcnllaaDoor.Stab
variable {α β K : Type} {lt : α → α → Bool}
def ins (lt : α → α → Bool) (x : α) : List α → List α
  | [] => [x]
  | b :: l => if lt x b then x :: b :: l else b :: ins lt x l
theorem ins_spec (ho : Ord lt) (x : α) : ∀ {s : List α}, Srt lt s → Srt lt (ins lt x s) ∧ Same lt (s ++ [x]) (ins lt x s)
  | [], _ => ⟨List.pairwise_singleton _ _, Same.refl _⟩
  | b :: s, hs => by
    obtain ⟨h1, h2⟩ := List.pairwise_cons.1 hs
    obtain ⟨g1, g2⟩ := ins_spec ho x h2
    unfold ins
    cases e : lt x b with
    | true =>
      rw [if_pos rfl]
      have ha : ∀ a ∈ b :: s, lt x a = true := fun a ha => by
        rcases List.mem_cons.1 ha with rfl | ha
        · exact e
        · exact ho.lt_le e (h1 a ha)
      refine ⟨List.pairwise_cons.2 ⟨fun a h => ho.asym _ _ (ha a h), hs⟩, ?_⟩
      exact same_swap ho (u := b :: s) (v := [x]) fun a h c hc => by rw [List.mem_singleton.1 hc]; exact ha a h
    | false =>
      rw [if_neg (by simp)]
      refine ⟨List.pairwise_cons.2 ⟨fun a h => ?_, g1⟩, g2.cons b⟩
      have h' := g2.symm.mem ho h
      rcases List.mem_append.1 h' with h' | h'
      · exact h1 a h'
      · rw [List.mem_singleton.1 h']; exact e
def isort (lt : α → α → Bool) (l : List α) : List α := l.foldl (fun acc x => ins lt x acc) []
theorem isort_go (ho : Ord lt) : ∀ (l acc pre : List α), Srt lt acc → Same lt pre acc → Srt lt (l.foldl (fun acc x => ins lt x acc) acc) ∧ Same lt (pre ++ l) (l.foldl (fun acc x => ins lt x acc) acc)
  | [], acc, pre, h1, h2 => by simpa using ⟨h1, h2⟩
  | x :: l, acc, pre, h1, h2 => by
    obtain ⟨g1, g2⟩ := ins_spec ho x h1
    have := isort_go ho l (ins lt x acc) (pre ++ [x]) g1 ((h2.append (Same.refl [x])).trans g2)
    simpa [List.append_assoc] using this
theorem isort_spec (ho : Ord lt) (l : List α) : Srt lt (isort lt l) ∧ Same lt l (isort lt l) := by
  have := isort_go ho l [] [] List.Pairwise.nil (Same.refl _)
  simpa [isort] using this
theorem ord_by {k : K → K → Bool} (ho : Ord k) (f : α → K) : Ord fun x y => k (f x) (f y) := ⟨fun _ _ => ho.asym _ _, fun _ _ _ => ho.nt _ _ _⟩
theorem same_map {k : K → K → Bool} {f : α → K} {g : β → K} {h : α → β} (e : ∀ x, g (h x) = f x) {l m : List α} (hs : ∀ q : K, l.filter (fun x => eqv k q (f x)) = m.filter (fun x => eqv k q (f x))) : Same (fun x y => k (g x) (g y)) (l.map h) (m.map h) := fun x => by
  rw [List.filter_map, List.filter_map]
  have e1 : (eqv (fun x y => k (g x) (g y)) x ∘ h) = fun z => eqv k (g x) (f z) := by
    funext z
    simp [eqv, e]
  rw [e1, hs]
/-- Rows that go together, pair by pair, sorted by keys that are the same in each pair. -/
theorem pair_sort {k : K → K → Bool} (ho : Ord k) {ka : α → K} {kb : β → K} {Z : List (α × β)} (hZ : ∀ z ∈ Z, ka z.1 = kb z.2) {L : List α} {X : List β}
    (hL : Srt (fun x y => k (ka x) (ka y)) L) (sL : Same (fun x y => k (ka x) (ka y)) (Z.map Prod.fst) L)
    (hX : Srt (fun x y => k (kb x) (kb y)) X) (sX : Same (fun x y => k (kb x) (kb y)) (Z.map Prod.snd) X) :
    ∃ Z' : List (α × β), Z'.map Prod.fst = L ∧ Z'.map Prod.snd = X ∧ ∀ z ∈ Z', z ∈ Z := by
  have hoz : Ord fun x y : α × β => k (ka x.1) (ka y.1) := ord_by ho fun z : α × β => ka z.1
  obtain ⟨g1, g2⟩ := isort_spec hoz Z
  refine ⟨isort (fun x y : α × β => k (ka x.1) (ka y.1)) Z, ?_, ?_, fun z hz => g2.symm.mem hoz hz⟩
  · refine uniq (ord_by ho ka) (List.pairwise_map.2 g1) hL (Same.trans (m := Z.map Prod.fst) (fun x => ?_) sL)
    rw [List.filter_map, List.filter_map]
    refine congrArg _ ?_
    by_cases hn : Z = []
    · subst hn; rfl
    · obtain ⟨z0, hz0⟩ := List.exists_mem_of_ne_nil _ hn
      exact (g2 (x, z0.2)).symm
  · have hm : ∀ z ∈ isort (fun x y : α × β => k (ka x.1) (ka y.1)) Z, ka z.1 = kb z.2 := fun z hz => hZ z (g2.symm.mem hoz hz)
    refine uniq (ord_by ho kb) (List.pairwise_map.2 (g1.imp_of_mem fun {a b} ha hb h => ?_)) hX (Same.trans (m := Z.map Prod.snd) (fun x => ?_) sX)
    · show k (kb b.2) (kb a.2) = false
      rw [← hm a ha, ← hm b hb]; exact h
    · rw [List.filter_map, List.filter_map]
      refine congrArg _ ?_
      have e1 : ∀ M : List (α × β), (∀ z ∈ M, ka z.1 = kb z.2) → ∀ q, M.filter (eqv (fun x y => k (kb x) (kb y)) q ∘ Prod.snd) = M.filter fun z => eqv k (kb q) (ka z.1) := fun M h q =>
        List.filter_congr fun z hz => by simp [eqv, h z hz]
      rw [e1 _ hm, e1 _ hZ]
      by_cases hc : ∃ z ∈ Z, eqv k (kb x) (ka z.1) = true
      · obtain ⟨z0, hz0, he⟩ := hc
        have e2 : ∀ M : List (α × β), M.filter (fun z => eqv k (kb x) (ka z.1)) = M.filter (eqv (fun x y : α × β => k (ka x.1) (ka y.1)) z0) := fun M =>
          List.filter_congr fun z hz => by
            obtain ⟨p1, p2⟩ := eqv_iff.1 he
            cases c1 : eqv k (kb x) (ka z.1) with
            | true =>
              obtain ⟨q1, q2⟩ := eqv_iff.1 c1
              exact (eqv_iff.2 ⟨ho.nt _ _ _ p2 q1, ho.nt _ _ _ q2 p1⟩).symm
            | false =>
              cases c2 : eqv (fun x y : α × β => k (ka x.1) (ka y.1)) z0 z with
              | false => rfl
              | true =>
                obtain ⟨q1, q2⟩ := eqv_iff.1 c2
                rw [eqv_iff.2 ⟨ho.nt _ _ _ p1 q1, ho.nt _ _ _ q2 p2⟩] at c1
                cases c1
        rw [e2, e2]
        exact (g2 z0).symm
      · have e3 : ∀ M : List (α × β), (∀ z ∈ M, z ∈ Z) → M.filter (fun z => eqv k (kb x) (ka z.1)) = [] := fun M h =>
          List.filter_eq_nil_iff.2 fun z hz he => hc ⟨z, h z hz, he⟩
        rw [e3 _ fun z hz => g2.symm.mem hoz hz, e3 _ fun z h => h]
end Go.Proofs.YtdhkndoglcnllaaDoor.Stab
