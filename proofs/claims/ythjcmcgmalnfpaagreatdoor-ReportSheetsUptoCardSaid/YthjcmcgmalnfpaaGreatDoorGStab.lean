/- Stab, Stab2, Stab3, Stab4, Stab5, Stab6: laid into one text. -/
import Derived.Test.YthjcmcgmalnfpaaGreatDoorMem2
/- Sorting that keeps what is equal in its order: the plain law. -/
namespace Go.Proofs.YthjcmcgmalnfpaaGreatDoor.Stab
/-- A strict order whose 'neither is ahead' goes through. -/
structure Ord {α : Type} (lt : α → α → Bool) : Prop where
  asym : ∀ a b, lt a b = true → lt b a = false
  nt : ∀ a b c, lt a b = false → lt b c = false → lt a c = false
variable {α : Type} {lt : α → α → Bool}
theorem Ord.irr (h : Ord lt) (a : α) : lt a a = false := by
  cases e : lt a a with
  | false => rfl
  | true => exact (h.asym a a e).symm.trans e |>.symm ▸ rfl
theorem Ord.le_lt (h : Ord lt) {a b c : α} (h1 : lt b a = false) (h2 : lt b c = true) : lt a c = true := by
  cases e : lt a c with
  | true => rfl
  | false => rw [h.nt b a c h1 e] at h2; cases h2
theorem Ord.lt_le (h : Ord lt) {a b c : α} (h1 : lt a b = true) (h2 : lt c b = false) : lt a c = true := by
  cases e : lt a c with
  | true => rfl
  | false => rw [h.nt a c b e h2] at h1; cases h1
def eqv (lt : α → α → Bool) (x y : α) : Bool := !lt x y && !lt y x
theorem eqv_iff {x y : α} : eqv lt x y = true ↔ lt x y = false ∧ lt y x = false := by simp [eqv]
def Srt (lt : α → α → Bool) (l : List α) : Prop := l.Pairwise fun a b => lt b a = false
def Same (lt : α → α → Bool) (l m : List α) : Prop := ∀ x, l.filter (eqv lt x) = m.filter (eqv lt x)
theorem Same.refl (l : List α) : Same lt l l := fun _ => rfl
theorem Same.trans {l m k : List α} (h : Same lt l m) (g : Same lt m k) : Same lt l k := fun x => (h x).trans (g x)
theorem Same.symm {l m : List α} (h : Same lt l m) : Same lt m l := fun x => (h x).symm
theorem Same.append {l m l' m' : List α} (h : Same lt l m) (g : Same lt l' m') : Same lt (l ++ l') (m ++ m') := fun x => by rw [List.filter_append, List.filter_append, h x, g x]
theorem Same.cons (x : α) {l m : List α} (h : Same lt l m) : Same lt (x :: l) (x :: m) := (Same.refl [x]).append h
theorem Same.mem (ho : Ord lt) {l m : List α} (h : Same lt l m) {x : α} (hx : x ∈ l) : x ∈ m := by
  have h1 : x ∈ l.filter (eqv lt x) := List.mem_filter.2 ⟨hx, eqv_iff.2 ⟨ho.irr x, ho.irr x⟩⟩
  rw [h x] at h1
  exact (List.mem_filter.1 h1).1
theorem uniq (ho : Ord lt) : ∀ {l m : List α}, Srt lt l → Srt lt m → Same lt l m → l = m
  | [], [], _, _, _ => rfl
  | [], y :: m, _, _, h => by have := h.symm.mem ho (List.mem_cons_self (a := y) (l := m)); simp at this
  | x :: l, [], _, _, h => by have := h.mem ho (List.mem_cons_self (a := x) (l := l)); simp at this
  | x :: l, y :: m, hl, hm, h => by
    have hx : lt x y = false := by
      have h1 := h.mem ho (List.mem_cons_self (a := x) (l := l))
      rcases List.mem_cons.1 h1 with e | h2
      · rw [e]; exact ho.irr y
      · exact (List.pairwise_cons.1 hm).1 x h2
    have hy : lt y x = false := by
      have h1 := h.symm.mem ho (List.mem_cons_self (a := y) (l := m))
      rcases List.mem_cons.1 h1 with e | h2
      · rw [e]; exact ho.irr x
      · exact (List.pairwise_cons.1 hl).1 y h2
    have h1 := h x
    rw [List.filter_cons_of_pos (eqv_iff.2 ⟨ho.irr x, ho.irr x⟩), List.filter_cons_of_pos (eqv_iff.2 ⟨hx, hy⟩)] at h1
    obtain rfl := (List.cons.inj h1).1
    congr 1
    refine uniq ho (List.pairwise_cons.1 hl).2 (List.pairwise_cons.1 hm).2 fun z => ?_
    have h2 := h z
    simp only [List.filter_cons] at h2
    split at h2
    · exact (List.cons.inj h2).2
    · exact h2
/-- Two blocks change places, where each of the second is ahead of each of the first. -/
theorem same_swap (ho : Ord lt) {u v : List α} (h : ∀ a ∈ u, ∀ b ∈ v, lt b a = true) : Same lt (u ++ v) (v ++ u) := fun x => by
  rw [List.filter_append, List.filter_append]
  by_cases hu : u.filter (eqv lt x) = []
  · rw [hu]; simp
  · have hv : v.filter (eqv lt x) = [] := by
      rw [List.filter_eq_nil_iff]
      intro b hb he
      obtain ⟨a, ha⟩ := List.exists_mem_of_ne_nil _ hu
      obtain ⟨ha1, ha2⟩ := List.mem_filter.1 ha
      have e1 := eqv_iff.1 ha2
      have e2 := eqv_iff.1 he
      have := h a ha1 b hb
      rw [ho.nt b x a e2.2 e1.1] at this
      cases this
    rw [hv]; simp
/-- One step of a merge from the middle. -/
theorem merge_step (ho : Ord lt) {u1 u2 v1 v2 x y : List α} (hu : Srt lt (u1 ++ u2)) (hv : Srt lt (v1 ++ v2)) (h1 : ∀ a ∈ u2, ∀ b ∈ v1, lt b a = true) (h2 : ∀ a ∈ u1, ∀ b ∈ v2, lt b a = false)
    (hx : Srt lt x) (sx : Same lt (u1 ++ v1) x) (hy : Srt lt y) (sy : Same lt (u2 ++ v2) y) : Srt lt (x ++ y) ∧ Same lt (u1 ++ u2 ++ (v1 ++ v2)) (x ++ y) := by
  constructor
  · refine List.pairwise_append.2 ⟨hx, hy, fun a ha b hb => ?_⟩
    have ha' := sx.symm.mem ho ha
    have hb' := sy.symm.mem ho hb
    have hU := (List.pairwise_append.1 hu).2.2
    have hV := (List.pairwise_append.1 hv).2.2
    rcases List.mem_append.1 ha' with ha1 | ha1 <;> rcases List.mem_append.1 hb' with hb1 | hb1
    · exact hU a ha1 b hb1
    · exact h2 a ha1 b hb1
    · exact ho.asym _ _ (h1 b hb1 a ha1)
    · exact hV a ha1 b hb1
  · have e : Same lt (u1 ++ u2 ++ (v1 ++ v2)) ((u1 ++ v1) ++ (u2 ++ v2)) := by
      have := ((Same.refl (lt := lt) u1).append (same_swap ho h1)).append (Same.refl v2)
      simpa [List.append_assoc] using this
    exact e.trans (sx.append sy)
/-- The last of the one ahead of the first of the other: each of the one is ahead of each of the other. -/
theorem all_lt (ho : Ord lt) {v u : List α} (hv : Srt lt v) (hu : Srt lt u) (h : ∀ b a, v.getLast? = some b → u.head? = some a → lt b a = true) : ∀ a ∈ u, ∀ b ∈ v, lt b a = true := by
  intro a ha b hb
  have hvn : v ≠ [] := List.ne_nil_of_mem hb
  have hun : u ≠ [] := List.ne_nil_of_mem ha
  have h0 := h _ _ (List.getLast?_eq_some_getLast hvn) (List.head?_eq_some_head hun)
  have hb' : lt (v.getLast hvn) b = false := by
    have e := List.dropLast_concat_getLast hvn
    have hb2 : b ∈ v.dropLast ++ [v.getLast hvn] := by rw [e]; exact hb
    rcases List.mem_append.1 hb2 with h1 | h1
    · have hv' : Srt lt (v.dropLast ++ [v.getLast hvn]) := by rw [e]; exact hv
      exact (List.pairwise_append.1 hv').2.2 b h1 _ (List.mem_singleton.2 rfl)
    · rw [List.mem_singleton.1 h1]; exact ho.irr _
  have ha' : lt a (u.head hun) = false := by
    have e := List.cons_head_tail hun
    have ha2 : a ∈ u.head hun :: u.tail := by rw [e]; exact ha
    rcases List.mem_cons.1 ha2 with h1 | h1
    · rw [h1]; exact ho.irr _
    · have hu' : Srt lt (u.head hun :: u.tail) := by rw [e]; exact hu
      exact (List.pairwise_cons.1 hu').1 a h1
  exact ho.le_lt hb' (ho.lt_le h0 ha')
/-- The same with 'not behind'. -/
theorem all_le (ho : Ord lt) {u v : List α} (hu : Srt lt u) (hv : Srt lt v) (h : ∀ a b, u.getLast? = some a → v.head? = some b → lt b a = false) : ∀ a ∈ u, ∀ b ∈ v, lt b a = false := by
  intro a ha b hb
  have hun : u ≠ [] := List.ne_nil_of_mem ha
  have hvn : v ≠ [] := List.ne_nil_of_mem hb
  have h0 := h _ _ (List.getLast?_eq_some_getLast hun) (List.head?_eq_some_head hvn)
  have ha' : lt (u.getLast hun) a = false := by
    have e := List.dropLast_concat_getLast hun
    have ha2 : a ∈ u.dropLast ++ [u.getLast hun] := by rw [e]; exact ha
    rcases List.mem_append.1 ha2 with h1 | h1
    · have hu' : Srt lt (u.dropLast ++ [u.getLast hun]) := by rw [e]; exact hu
      exact (List.pairwise_append.1 hu').2.2 a h1 _ (List.mem_singleton.2 rfl)
    · rw [List.mem_singleton.1 h1]; exact ho.irr _
  have hb' : lt b (v.head hvn) = false := by
    have e := List.cons_head_tail hvn
    have hb2 : b ∈ v.head hvn :: v.tail := by rw [e]; exact hb
    rcases List.mem_cons.1 hb2 with h1 | h1
    · rw [h1]; exact ho.irr _
    · have hv' : Srt lt (v.head hvn :: v.tail) := by rw [e]; exact hv
      exact (List.pairwise_cons.1 hv').1 b h1
  exact ho.nt _ _ _ hb' (ho.nt _ _ _ h0 ha')
/-- One is put into its place in a sorted row. -/
theorem insert_step (ho : Ord lt) {s1 s2 : List α} {x : α} (hs : Srt lt (s1 ++ s2)) (h1 : ∀ a, s1.getLast? = some a → lt x a = false) (h2 : ∀ b ∈ s2, lt x b = true) :
    Srt lt (s1 ++ x :: s2) ∧ Same lt (s1 ++ s2 ++ [x]) (s1 ++ x :: s2) := by
  obtain ⟨p1, p2, p3⟩ := List.pairwise_append.1 hs
  refine ⟨List.pairwise_append.2 ⟨p1, List.pairwise_cons.2 ⟨fun b hb => ho.asym _ _ (h2 b hb), p2⟩, fun a ha b hb => ?_⟩, ?_⟩
  · rcases List.mem_cons.1 hb with rfl | hb
    · exact all_le ho p1 (List.pairwise_singleton _ _) (fun a' b' e1 e2 => by simp at e2; subst e2; exact h1 a' e1) a ha b (List.mem_singleton.2 rfl)
    · exact p3 a ha b hb
  · have := (Same.refl (lt := lt) s1).append (same_swap ho (u := s2) (v := [x]) fun a ha b hb => by rw [List.mem_singleton.1 hb]; exact h2 a ha)
    simpa [List.append_assoc] using this
end Go.Proofs.YthjcmcgmalnfpaaGreatDoor.Stab
/- Sorting that keeps what is equal in its order: sections, runs, passes. -/
namespace Go.Proofs.YthjcmcgmalnfpaaGreatDoor.Stab
variable {α : Type} {lt : α → α → Bool}
/-- What lies from place a to place b. -/
def sec (l : List α) (a b : Nat) : List α := (l.drop a).take (b - a)
theorem sec_eq (l : List α) (a b : Nat) : sec l a b = (l.take b).drop a := by rw [sec, List.drop_take]
theorem sec_before {l l' : List α} {a c d : Nat} (h : l'.take a = l.take a) (hd : d ≤ a) : sec l' c d = sec l c d := by
  have e : ∀ l : List α, l.take d = (l.take a).take d := fun l => by rw [List.take_take, Nat.min_eq_left hd]
  rw [sec_eq, sec_eq, e l', e l, h]
theorem sec_after {l l' : List α} {b c d : Nat} (h : l'.drop b = l.drop b) (hb : b ≤ c) : sec l' c d = sec l c d := by
  have e : ∀ l : List α, l.drop c = (l.drop b).drop (c - b) := fun l => by rw [List.drop_drop]; congr 1; omega
  rw [sec, sec, e l', e l, h]
theorem sec_mid (p u q : List α) : sec (p ++ (u ++ q)) p.length (p.length + u.length) = u := by
  rw [sec, List.drop_left, Nat.add_sub_cancel_left, List.take_left]
theorem parts (l : List α) {a b : Nat} (hab : a ≤ b) : l = l.take a ++ (sec l a b ++ l.drop b) := by
  have h1 : sec l a b ++ l.drop b = l.drop a := by
    have := List.take_append_drop (b - a) (l.drop a)
    rw [List.drop_drop, show a + (b - a) = b by omega] at this
    exact this
  rw [h1, List.take_append_drop]
theorem sec_len (l : List α) {a b : Nat} (hb : b ≤ l.length) : (sec l a b).length = b - a := by rw [sec, List.length_take, List.length_drop]; omega
theorem sec_past (l : List α) {a b : Nat} (hb : l.length ≤ b) : sec l a b = l.drop a := by rw [sec, List.take_of_length_le]; rw [List.length_drop]; omega
/-- From a to b it is sorted, all else is as it was. -/
structure On (lt : α → α → Bool) (a b : Nat) (l l' : List α) : Prop where
  len : l'.length = l.length
  pre : l'.take a = l.take a
  post : l'.drop b = l.drop b
  srt : Srt lt (sec l' a b)
  same : Same lt (sec l a b) (sec l' a b)
theorem on_of {p u q x : List α} (hx : Srt lt x) (hl : x.length = u.length) (hs : Same lt u x) : On lt p.length (p.length + u.length) (p ++ (u ++ q)) (p ++ (x ++ q)) := by
  have e : sec (p ++ (x ++ q)) p.length (p.length + u.length) = x := by rw [← hl, sec_mid]
  refine ⟨by simp [hl], by rw [List.take_left, List.take_left], ?_, by rw [e]; exact hx, by rw [sec_mid, e]; exact hs⟩
  rw [← List.append_assoc, ← List.append_assoc, List.drop_left' (by simp [hl]), List.drop_left' (by simp)]
theorem On.all {a b : Nat} {l l' : List α} (h : On lt a b l l') (hab : a ≤ b) : Same lt l l' := by
  have h1 := parts l hab
  have h2 := parts l' hab
  rw [h1, h2, h.pre, h.post]
  exact (Same.refl _).append (h.same.append (Same.refl _))
theorem On.refl {a b : Nat} {l : List α} (h : Srt lt (sec l a b)) : On lt a b l l := ⟨rfl, rfl, rfl, h, Same.refl _⟩
/-- All runs of s are sorted. -/
def Runs (lt : α → α → Bool) (s : Nat) (l : List α) : Prop := ∀ k, Srt lt (sec l (k * s) (k * s + s))
/-- The first q runs of s are sorted. -/
def Upto (lt : α → α → Bool) (s q : Nat) (l : List α) : Prop := ∀ k, k < q → Srt lt (sec l (k * s) (k * s + s))
theorem upto_step {s q : Nat} {l l' : List α} (h : Upto lt s q l) (ho : On lt (q * s) (q * s + s) l l') : Upto lt s (q + 1) l' := fun k hk => by
  by_cases e : k = q
  · subst e; exact ho.srt
  · have h1 : (k + 1) * s ≤ q * s := Nat.mul_le_mul_right s (by omega)
    rw [Nat.add_mul, Nat.one_mul] at h1
    rw [sec_before ho.pre h1]
    exact h k (by omega)
theorem srt_nil_drop {l : List α} {a b : Nat} (h : l.length ≤ a) : Srt lt (sec l a b) := by
  rw [sec, List.drop_of_length_le h]; simp [Srt]
theorem upto_end {s q n : Nat} {l l' : List α} (h : Upto lt s q l) (hn : l.length = n) (hlt : n < q * s + s) (ho : On lt (q * s) n l l') : Runs lt s l' := fun k => by
  by_cases h1 : k < q
  · have h2 : (k + 1) * s ≤ q * s := Nat.mul_le_mul_right s (by omega)
    rw [Nat.add_mul, Nat.one_mul] at h2
    rw [sec_before ho.pre h2]
    exact h k h1
  · by_cases e : k = q
    · subst e
      rw [sec_past _ (by rw [ho.len]; omega), ← sec_past (b := n) _ (by rw [ho.len]; omega)]
      exact ho.srt
    · have h2 : (q + 1) * s ≤ k * s := Nat.mul_le_mul_right s (by omega)
      rw [Nat.add_mul, Nat.one_mul] at h2
      exact srt_nil_drop (by rw [ho.len]; omega)
/-- A pass of merges: the first q runs of twice s are sorted, and the rest in runs of s. -/
structure Pass (lt : α → α → Bool) (s q : Nat) (l : List α) : Prop where
  done : Upto lt (2 * s) q l
  rest : ∀ k, 2 * q ≤ k → Srt lt (sec l (k * s) (k * s + s))
theorem pass_start {s : Nat} {l : List α} (h : Runs lt s l) : Pass lt s 0 l := ⟨fun k hk => by omega, fun k _ => h k⟩
theorem pass_two {s q : Nat} {l : List α} (h : Pass lt s q l) : Srt lt (sec l (q * (2 * s)) (q * (2 * s) + s)) ∧ Srt lt (sec l (q * (2 * s) + s) (q * (2 * s) + 2 * s)) := by
  have e : q * (2 * s) = 2 * q * s := by rw [← Nat.mul_assoc, Nat.mul_comm q 2]
  have h1 := h.rest (2 * q) (Nat.le_refl _)
  have h2 := h.rest (2 * q + 1) (by omega)
  rw [Nat.add_mul, Nat.one_mul] at h2
  rw [e]
  refine ⟨h1, ?_⟩
  rw [show 2 * q * s + 2 * s = 2 * q * s + s + s by omega]
  exact h2
theorem pass_step {s q : Nat} {l l' : List α} (h : Pass lt s q l) (ho : On lt (q * (2 * s)) (q * (2 * s) + 2 * s) l l') : Pass lt s (q + 1) l' := by
  refine ⟨upto_step h.done ho, fun k hk => ?_⟩
  have e : q * (2 * s) + 2 * s = 2 * (q + 1) * s := by
    rw [← Nat.mul_assoc, Nat.mul_comm q 2, Nat.mul_add, Nat.add_mul]
  have h2 : 2 * (q + 1) * s ≤ k * s := Nat.mul_le_mul_right s hk
  rw [sec_after ho.post (by omega)]
  exact h.rest k (by omega)
theorem pass_end {s q n : Nat} {l l' : List α} (h : Pass lt s q l) (hn : l.length = n) (hlt : n < q * (2 * s) + 2 * s) (ho : On lt (q * (2 * s)) n l l') : Runs lt (2 * s) l' := upto_end h.done hn hlt ho
theorem pass_end' {s q n : Nat} {l : List α} (h : Pass lt s q l) (hn : l.length = n) (hlt : n ≤ q * (2 * s) + s) : Srt lt (sec l (q * (2 * s)) n) := by
  have h1 := (pass_two h).1
  rw [sec_past _ (by omega)] at h1
  rw [sec_past _ (by omega)]
  exact h1
theorem runs_all {s : Nat} {l : List α} (h : Runs lt s l) (hs : l.length ≤ s) : Srt lt l := by
  have h1 := h 0
  rw [sec_past _ (by omega)] at h1
  simpa using h1
end Go.Proofs.YthjcmcgmalnfpaaGreatDoor.Stab
/- Sorting that keeps what is equal in its order: a merge from the middle, by turning a section round. -/
namespace Go.Proofs.YthjcmcgmalnfpaaGreatDoor.Stab
variable {α : Type} {lt : α → α → Bool}
theorem sec_split (l : List α) {a m b : Nat} (h1 : a ≤ m) (h2 : m ≤ b) : sec l a b = sec l a m ++ sec l m b := by
  have e : (l.drop a).drop (m - a) = l.drop m := by rw [List.drop_drop]; congr 1; omega
  have := List.take_add (l := l.drop a) (i := m - a) (j := b - m)
  rw [e, show m - a + (b - m) = b - a by omega] at this
  exact this
theorem sec_nil (l : List α) {a b : Nat} (h : b ≤ a) : sec l a b = [] := by rw [sec, show b - a = 0 by omega]; rfl
theorem sec_get (l : List α) (a b i : Nat) : (sec l a b)[i]? = if i < b - a then l[a + i]? else none := by
  rw [sec, List.getElem?_take, List.getElem?_drop]
theorem sec_head (l : List α) {a b : Nat} {x : α} (h : (sec l a b).head? = some x) : a < b ∧ l[a]? = some x := by
  rw [List.head?_eq_getElem?, sec_get] at h
  split at h
  · exact ⟨by omega, h⟩
  · cases h
theorem sec_last (l : List α) {a b : Nat} (hb : b ≤ l.length) {x : α} (h : (sec l a b).getLast? = some x) : a < b ∧ l[b - 1]? = some x := by
  rw [List.getLast?_eq_getElem?, sec_get, sec_len l hb] at h
  split at h
  · rw [show a + (b - a - 1) = b - 1 by omega] at h
    exact ⟨by omega, h⟩
  · cases h
theorem srt_left {u v : List α} (h : Srt lt (u ++ v)) : Srt lt u := (List.pairwise_append.1 h).1
theorem srt_right {u v : List α} (h : Srt lt (u ++ v)) : Srt lt v := (List.pairwise_append.1 h).2.1
theorem merge_on (ho : Ord lt) {l l1 l2 l3 : List α} {a s m mid e b : Nat} (h1 : a ≤ s) (h2 : s ≤ m) (h3 : m ≤ e) (h4 : e ≤ b) (hb : b ≤ l.length) (hm : mid = s + (e - m))
    (hu : Srt lt (sec l a m)) (hv : Srt lt (sec l m b)) (B1 : a < s → e < b → ∀ x y, l[s - 1]? = some x → l[e]? = some y → lt y x = false) (B2 : s < m → m < e → ∀ x y, l[s]? = some x → l[e - 1]? = some y → lt y x = true)
    (len1 : l1.length = l.length) (pre1 : l1.take s = l.take s) (post1 : l1.drop e = l.drop e) (x1 : sec l1 s mid = sec l m e) (x2 : sec l1 mid e = sec l s m)
    (on2 : On lt a mid l1 l2) (on3 : On lt mid b l2 l3) : On lt a b l l3 := by
  have hse : s ≤ mid := by omega
  have hme : mid ≤ e := by omega
  have eu := sec_split l h1 h2
  have ev := sec_split l h3 h4
  rw [eu] at hu
  rw [ev] at hv
  have e1 : sec l1 a mid = sec l a s ++ sec l m e := by rw [sec_split l1 h1 hse, sec_before pre1 (Nat.le_refl s), x1]
  have e2 : sec l2 mid b = sec l s m ++ sec l e b := by rw [sec_after on2.post (Nat.le_refl mid), sec_split l1 hme h4, x2, sec_after post1 (Nat.le_refl e)]
  have e3 : sec l3 a mid = sec l2 a mid := sec_before on3.pre (Nat.le_refl mid)
  have k2 := on2.same
  have k3 := on3.same
  rw [e1] at k2
  rw [e2] at k3
  obtain ⟨g1, g2⟩ := merge_step ho hu hv
    (all_lt ho (srt_left hv) (srt_right hu) fun y x hy hx => by
      obtain ⟨p1, p2⟩ := sec_last l (by omega) hy
      obtain ⟨p3, p4⟩ := sec_head l hx
      exact B2 p3 p1 x y p4 p2)
    (all_le ho (srt_left hu) (srt_right hv) fun x y hx hy => by
      obtain ⟨p1, p2⟩ := sec_last l (by omega) hx
      obtain ⟨p3, p4⟩ := sec_head l hy
      exact B1 p1 p3 x y p2 p4) on2.srt k2 on3.srt k3
  have e4 : sec l3 a b = sec l2 a mid ++ sec l3 mid b := by rw [sec_split l3 (m := mid) (by omega) (by omega), e3]
  have pre : l3.take a = l.take a := by
    have t : ∀ l : List α, l.take a = (l.take s).take a := fun l => by rw [List.take_take, Nat.min_eq_left h1]
    have t' : ∀ l : List α, l.take a = (l.take mid).take a := fun l => by rw [List.take_take, Nat.min_eq_left (by omega)]
    rw [t' l3, on3.pre, ← t', on2.pre, t l1, pre1, ← t]
  have post : l3.drop b = l.drop b := by
    have t : ∀ l : List α, l.drop b = (l.drop e).drop (b - e) := fun l => by rw [List.drop_drop]; congr 1; omega
    have t' : ∀ l : List α, l.drop b = (l.drop mid).drop (b - mid) := fun l => by rw [List.drop_drop]; congr 1; omega
    rw [on3.post, t' l2, on2.post, ← t', t l1, post1, ← t]
  refine ⟨by rw [on3.len, on2.len, len1], pre, post, by rw [e4]; exact g1, ?_⟩
  rw [e4, sec_split l (m := m) (by omega) (by omega), eu, ev]
  exact g2
/-- Where what lies at place t came from, when the sections a .. m and m .. b have changed places. -/
def rho (a m b t : Nat) : Nat := if t < a then t else if t < a + (b - m) then t - a + m else if t < b then t - (b - m) else t
/-- The same, when n places from a on and n places from b on have changed places. -/
def sig (a b n t : Nat) : Nat := if t < a then t else if t < a + n then t - a + b else if t < b then t else if t < b + n then t - b + a else t
structure Turned (f : Nat → Nat) (l l' : List α) : Prop where
  len : l'.length = l.length
  at_ : ∀ t, l'[t]? = l[f t]?
theorem Turned.trans {f g : Nat → Nat} {l l' l'' : List α} (h : Turned f l l') (k : Turned g l' l'') : Turned (fun t => f (g t)) l l'' := ⟨k.len.trans h.len, fun t => (k.at_ t).trans (h.at_ _)⟩
theorem Turned.congr {f g : Nat → Nat} {l l' : List α} (h : Turned f l l') (e : ∀ t, f t = g t) : Turned g l l' := ⟨h.len, fun t => by rw [h.at_, e]⟩
theorem rho_left {i j m t : Nat} (h : j < i) (hi : i ≤ m) : sig (m - i) m j (rho (m - i + j) m (m + j) t) = rho (m - i) m (m + j) t := by
  unfold sig rho
  repeat' split
  all_goals omega
theorem rho_right {i j m t : Nat} (h : i < j) (hi : i ≤ m) : sig (m - i) (m + j - i) i (rho (m - i) m (m + j - i) t) = rho (m - i) m (m + j) t := by
  unfold sig rho
  repeat' split
  all_goals omega
theorem rho_last {i m t : Nat} (hi : i ≤ m) : sig (m - i) m i t = rho (m - i) m (m + i) t := by
  unfold sig rho
  repeat' split
  all_goals omega
theorem turned_parts {l l' : List α} {a m b : Nat} (h1 : a ≤ m) (h2 : m ≤ b) (h : Turned (rho a m b) l l') :
    l'.take a = l.take a ∧ l'.drop b = l.drop b ∧ sec l' a (a + (b - m)) = sec l m b ∧ sec l' (a + (b - m)) b = sec l a m := by
  refine ⟨List.ext_getElem? fun t => ?_, List.ext_getElem? fun t => ?_, List.ext_getElem? fun t => ?_, List.ext_getElem? fun t => ?_⟩
  · rw [List.getElem?_take, List.getElem?_take]
    split
    · rw [h.at_]; congr 1; unfold rho; split <;> omega
    · rfl
  · rw [List.getElem?_drop, List.getElem?_drop, h.at_]
    congr 1
    unfold rho
    repeat' split
    all_goals omega
  · rw [sec_get, sec_get]
    by_cases hc : t < b - m
    · rw [if_pos (by omega), if_pos hc, h.at_]
      congr 1
      unfold rho
      repeat' split
      all_goals omega
    · rw [if_neg (by omega), if_neg hc]
  · rw [sec_get, sec_get]
    by_cases hc : t < m - a
    · rw [if_pos (by omega), if_pos hc, h.at_]
      congr 1
      unfold rho
      repeat' split
      all_goals omega
    · rw [if_neg (by omega), if_neg hc]
end Go.Proofs.YthjcmcgmalnfpaaGreatDoor.Stab
/- Sorting that keeps what is equal in its order: one element put into a sorted section, from the left and from the right. -/
namespace Go.Proofs.YthjcmcgmalnfpaaGreatDoor.Stab
variable {α : Type} {lt : α → α → Bool}
theorem sec_one {l : List α} {a : Nat} {x : α} (h : l[a]? = some x) : sec l a (a + 1) = [x] := by
  apply List.ext_getElem?
  intro t
  rw [sec_get]
  cases t with
  | zero => rw [if_pos (by omega)]; simpa using h
  | succ t => rw [if_neg (by omega)]; simp
theorem On.trans {a b c : Nat} {l l' l'' : List α} (hab : a ≤ b) (hbc : b ≤ c) (h : On lt a b l l') (k : On lt a c l' l'') : On lt a c l l'' := by
  refine ⟨k.len.trans h.len, k.pre.trans h.pre, ?_, k.srt, ?_⟩
  · have t : ∀ l : List α, l.drop c = (l.drop b).drop (c - b) := fun l => by rw [List.drop_drop]; congr 1; omega
    rw [k.post, t l', h.post, ← t]
  · refine Same.trans ?_ k.same
    rw [sec_split l hab hbc, sec_split l' hab hbc, sec_after h.post (Nat.le_refl b)]
    exact h.same.append (Same.refl _)
/-- The first of a section, put behind those of the sorted rest that are ahead of it. -/
theorem one_left (ho : Ord lt) {l l1 : List α} {a b i : Nat} {x : α} (hx : l[a]? = some x) (h1 : a + 1 ≤ i) (h2 : i ≤ b) (hb : b ≤ l.length) (hv : Srt lt (sec l (a + 1) b))
    (B2 : a + 1 < i → ∀ y, l[i - 1]? = some y → lt y x = true) (B3 : i < b → ∀ y, l[i]? = some y → lt y x = false) (ht : Turned (rho a (a + 1) i) l l1) : On lt a b l l1 := by
  obtain ⟨p1, p2, p3, p4⟩ := turned_parts (by omega) h1 ht
  have e0 := sec_one hx
  have hv' := hv
  rw [sec_split l h1 h2] at hv'
  have hu : Srt lt (sec l a (a + 1)) := by rw [e0]; exact List.pairwise_singleton _ _
  refine merge_on ho (l1 := l1) (l2 := l1) (Nat.le_refl a) (by omega : a ≤ a + 1) h1 h2 hb rfl hu hv (fun h => by omega) (fun _ h x' y e1 e2 => ?_) ht.len p1 p2 p3 p4 (On.refl (by rw [p3]; exact srt_left hv')) (On.refl ?_)
  · rw [hx] at e1
    cases e1
    exact B2 h y e2
  · rw [sec_split l1 (m := i) (by omega) h2, p4, sec_after p2 (Nat.le_refl i)]
    exact List.pairwise_append.2 ⟨hu, srt_right hv', all_le ho hu (srt_right hv') fun x' y e1 e2 => by
      obtain ⟨_, q1⟩ := sec_last l (by omega) e1
      obtain ⟨q2, q3⟩ := sec_head l e2
      rw [Nat.add_sub_cancel, hx] at q1
      cases q1
      exact B3 q2 y q3⟩
/-- The last of a section, put into the sorted rest ahead of those that it is ahead of. -/
theorem one_right (ho : Ord lt) {l l1 : List α} {a m i : Nat} {x : α} (hx : l[m]? = some x) (h1 : a ≤ i) (h2 : i ≤ m) (hu : Srt lt (sec l a m))
    (B1 : a < i → ∀ y, l[i - 1]? = some y → lt x y = false) (B2 : i < m → ∀ y, l[i]? = some y → lt x y = true) (ht : Turned (rho i m (m + 1)) l l1) : On lt a (m + 1) l l1 := by
  obtain ⟨p1, p2, p3, p4⟩ := turned_parts h2 (by omega) ht
  have e0 := sec_one hx
  have hb : m + 1 ≤ l.length := (List.getElem?_eq_some_iff.1 hx).1
  have hu' := hu
  rw [sec_split l h1 h2] at hu'
  have hv : Srt lt (sec l m (m + 1)) := by rw [e0]; exact List.pairwise_singleton _ _
  refine merge_on ho (l1 := l1) (l2 := l1) h1 h2 (by omega : m ≤ m + 1) (Nat.le_refl _) hb rfl hu hv (fun _ h => by omega) (fun h _ x' y e1 e2 => ?_) ht.len p1 p2 p3 p4 (On.refl ?_) (On.refl (by rw [p4]; exact srt_right hu'))
  · rw [Nat.add_sub_cancel, hx] at e2
    cases e2
    exact B2 h x' e1
  · rw [sec_split l1 (m := i) h1 (by omega), p3, sec_before p1 (Nat.le_refl i)]
    exact List.pairwise_append.2 ⟨srt_left hu', hv, all_le ho (srt_left hu') hv fun x' y e1 e2 => by
      obtain ⟨q0, q1⟩ := sec_last l (by omega) e1
      obtain ⟨q2, q3⟩ := sec_head l e2
      rw [hx] at q3
      cases q3
      exact B1 q0 x' q1⟩
/-- One place further in an insertion: neighbours j - 1 and j change places. -/
theorem rho_down {j m t : Nat} (h : j < m) : rho (j + 1) m (m + 1) (sig j (j + 1) 1 t) = rho j m (m + 1) t := by
  unfold sig rho
  repeat' split
  all_goals omega
theorem rho_none {m t : Nat} : rho m m (m + 1) t = t := by
  unfold rho
  repeat' split
  all_goals omega
/-- One place further the other way: neighbours k and k + 1 change places. -/
theorem rho_up {a k t : Nat} (h : a ≤ k) : rho a (a + 1) (k + 1) (sig k (k + 1) 1 t) = rho a (a + 1) (k + 2) t := by
  unfold sig rho
  repeat' split
  all_goals omega
theorem rho_none' {a t : Nat} : rho a (a + 1) (a + 1) t = t := by
  unfold rho
  repeat' split
  all_goals omega
/-- A list whose places i and j have changed. -/
theorem turned_swap {l : List α} {i j : Nat} {x y : α} (hij : i < j) (hx : l[i]? = some x) (hy : l[j]? = some y) : Turned (sig i j 1) l ((l.set i y).set j x) := by
  have hj := (List.getElem?_eq_some_iff.1 hy).1
  have hi := (List.getElem?_eq_some_iff.1 hx).1
  refine ⟨by simp, fun t => ?_⟩
  rw [List.getElem?_set, List.getElem?_set]
  unfold sig
  by_cases e1 : j = t
  · subst e1
    rw [if_pos rfl, if_pos (by simpa using hj), if_neg (by omega), if_neg (by omega), if_neg (by omega), if_pos (by omega), show j - j + i = i by omega, hx]
  · rw [if_neg e1]
    by_cases e2 : i = t
    · subst e2
      rw [if_pos rfl, if_pos hi, if_neg (by omega), if_pos (by omega), show i - i + j = j by omega, hy]
    · rw [if_neg e2]
      congr 1
      repeat' split
      all_goals omega
/-- One pair more of two blocks. -/
theorem sig_step {a b k t : Nat} (h : a + k < b) : sig a b k (sig (a + k) (b + k) 1 t) = sig a b (k + 1) t := by
  unfold sig
  repeat' split
  all_goals omega
theorem sig_none {a b t : Nat} : sig a b 0 t = t := by
  unfold sig
  repeat' split
  all_goals omega
end Go.Proofs.YthjcmcgmalnfpaaGreatDoor.Stab
/- Sorting that keeps what is equal in its order: two rows that go together, each sorted by the same keys, go together still. -/
namespace Go.Proofs.YthjcmcgmalnfpaaGreatDoor.Stab
variable {α β K : Type} {lt : α → α → Bool}
def ins (lt : α → α → Bool) (x : α) : List α → List α
  | [] => [x]
  | b :: l => if lt x b then x :: b :: l else b :: ins lt x l
theorem ins_spec (ho : Ord lt) (x : α) : ∀ {s : List α}, Srt lt s → Srt lt (ins lt x s) ∧ Same lt (s ++ [x]) (ins lt x s)
  | [], _ => ⟨List.pairwise_singleton _ _, Same.refl _⟩
  | b :: s, hs => by
    obtain ⟨h1, h2⟩ := List.pairwise_cons.1 hs
    obtain ⟨g1, g2⟩ := ins_spec ho x h2
    unfold ins
    cases e : lt x b with
    | true =>
      rw [if_pos rfl]
      have ha : ∀ a ∈ b :: s, lt x a = true := fun a ha => by
        rcases List.mem_cons.1 ha with rfl | ha
        · exact e
        · exact ho.lt_le e (h1 a ha)
      refine ⟨List.pairwise_cons.2 ⟨fun a h => ho.asym _ _ (ha a h), hs⟩, ?_⟩
      exact same_swap ho (u := b :: s) (v := [x]) fun a h c hc => by rw [List.mem_singleton.1 hc]; exact ha a h
    | false =>
      rw [if_neg (by simp)]
      refine ⟨List.pairwise_cons.2 ⟨fun a h => ?_, g1⟩, g2.cons b⟩
      have h' := g2.symm.mem ho h
      rcases List.mem_append.1 h' with h' | h'
      · exact h1 a h'
      · rw [List.mem_singleton.1 h']; exact e
def isort (lt : α → α → Bool) (l : List α) : List α := l.foldl (fun acc x => ins lt x acc) []
theorem isort_go (ho : Ord lt) : ∀ (l acc pre : List α), Srt lt acc → Same lt pre acc → Srt lt (l.foldl (fun acc x => ins lt x acc) acc) ∧ Same lt (pre ++ l) (l.foldl (fun acc x => ins lt x acc) acc)
  | [], acc, pre, h1, h2 => by simpa using ⟨h1, h2⟩
  | x :: l, acc, pre, h1, h2 => by
    obtain ⟨g1, g2⟩ := ins_spec ho x h1
    have := isort_go ho l (ins lt x acc) (pre ++ [x]) g1 ((h2.append (Same.refl [x])).trans g2)
    simpa [List.append_assoc] using this
theorem isort_spec (ho : Ord lt) (l : List α) : Srt lt (isort lt l) ∧ Same lt l (isort lt l) := by
  have := isort_go ho l [] [] List.Pairwise.nil (Same.refl _)
  simpa [isort] using this
theorem ord_by {k : K → K → Bool} (ho : Ord k) (f : α → K) : Ord fun x y => k (f x) (f y) := ⟨fun _ _ => ho.asym _ _, fun _ _ _ => ho.nt _ _ _⟩
theorem same_map {k : K → K → Bool} {f : α → K} {g : β → K} {h : α → β} (e : ∀ x, g (h x) = f x) {l m : List α} (hs : ∀ q : K, l.filter (fun x => eqv k q (f x)) = m.filter (fun x => eqv k q (f x))) : Same (fun x y => k (g x) (g y)) (l.map h) (m.map h) := fun x => by
  rw [List.filter_map, List.filter_map]
  have e1 : (eqv (fun x y => k (g x) (g y)) x ∘ h) = fun z => eqv k (g x) (f z) := by
    funext z
    simp [eqv, e]
  rw [e1, hs]
/-- Rows that go together, pair by pair, sorted by keys that are the same in each pair. -/
theorem pair_sort {k : K → K → Bool} (ho : Ord k) {ka : α → K} {kb : β → K} {Z : List (α × β)} (hZ : ∀ z ∈ Z, ka z.1 = kb z.2) {L : List α} {X : List β}
    (hL : Srt (fun x y => k (ka x) (ka y)) L) (sL : Same (fun x y => k (ka x) (ka y)) (Z.map Prod.fst) L)
    (hX : Srt (fun x y => k (kb x) (kb y)) X) (sX : Same (fun x y => k (kb x) (kb y)) (Z.map Prod.snd) X) :
    ∃ Z' : List (α × β), Z'.map Prod.fst = L ∧ Z'.map Prod.snd = X ∧ ∀ z ∈ Z', z ∈ Z := by
  have hoz : Ord fun x y : α × β => k (ka x.1) (ka y.1) := ord_by ho fun z : α × β => ka z.1
  obtain ⟨g1, g2⟩ := isort_spec hoz Z
  refine ⟨isort (fun x y : α × β => k (ka x.1) (ka y.1)) Z, ?_, ?_, fun z hz => g2.symm.mem hoz hz⟩
  · refine uniq (ord_by ho ka) (List.pairwise_map.2 g1) hL (Same.trans (m := Z.map Prod.fst) (fun x => ?_) sL)
    rw [List.filter_map, List.filter_map]
    refine congrArg _ ?_
    by_cases hn : Z = []
    · subst hn; rfl
    · obtain ⟨z0, hz0⟩ := List.exists_mem_of_ne_nil _ hn
      exact (g2 (x, z0.2)).symm
  · have hm : ∀ z ∈ isort (fun x y : α × β => k (ka x.1) (ka y.1)) Z, ka z.1 = kb z.2 := fun z hz => hZ z (g2.symm.mem hoz hz)
    refine uniq (ord_by ho kb) (List.pairwise_map.2 (g1.imp_of_mem fun {a b} ha hb h => ?_)) hX (Same.trans (m := Z.map Prod.snd) (fun x => ?_) sX)
    · show k (kb b.2) (kb a.2) = false
      rw [← hm a ha, ← hm b hb]; exact h
    · rw [List.filter_map, List.filter_map]
      refine congrArg _ ?_
      have e1 : ∀ M : List (α × β), (∀ z ∈ M, ka z.1 = kb z.2) → ∀ q, M.filter (eqv (fun x y => k (kb x) (kb y)) q ∘ Prod.snd) = M.filter fun z => eqv k (kb q) (ka z.1) := fun M h q =>
        List.filter_congr fun z hz => by simp [eqv, h z hz]
      rw [e1 _ hm, e1 _ hZ]
      by_cases hc : ∃ z ∈ Z, eqv k (kb x) (ka z.1) = true
      · obtain ⟨z0, hz0, he⟩ := hc
        have e2 : ∀ M : List (α × β), M.filter (fun z => eqv k (kb x) (ka z.1)) = M.filter (eqv (fun x y : α × β => k (ka x.1) (ka y.1)) z0) := fun M =>
          List.filter_congr fun z hz => by
            obtain ⟨p1, p2⟩ := eqv_iff.1 he
            cases c1 : eqv k (kb x) (ka z.1) with
            | true =>
              obtain ⟨q1, q2⟩ := eqv_iff.1 c1
              exact (eqv_iff.2 ⟨ho.nt _ _ _ p2 q1, ho.nt _ _ _ q2 p1⟩).symm
            | false =>
              cases c2 : eqv (fun x y : α × β => k (ka x.1) (ka y.1)) z0 z with
              | false => rfl
              | true =>
                obtain ⟨q1, q2⟩ := eqv_iff.1 c2
                rw [eqv_iff.2 ⟨ho.nt _ _ _ p1 q1, ho.nt _ _ _ q2 p2⟩] at c1
                cases c1
        rw [e2, e2]
        exact (g2 z0).symm
      · have e3 : ∀ M : List (α × β), (∀ z ∈ M, z ∈ Z) → M.filter (fun z => eqv k (kb x) (ka z.1)) = [] := fun M h =>
          List.filter_eq_nil_iff.2 fun z hz he => hc ⟨z, h z hz, he⟩
        rw [e3 _ fun z hz => g2.symm.mem hoz hz, e3 _ fun z h => h]
end Go.Proofs.YthjcmcgmalnfpaaGreatDoor.Stab
/- Sorting that keeps what is equal in its order: the three steps of a merge from the middle, each of them done or left. -/
namespace Go.Proofs.YthjcmcgmalnfpaaGreatDoor.Stab
variable {α : Type} {lt : α → α → Bool}
/-- The sections s .. m and m .. e have changed places (mid is where they meet now). -/
structure Sec1 (l l1 : List α) (s m e mid : Nat) : Prop where
  len : l1.length = l.length
  pre : l1.take s = l.take s
  post : l1.drop e = l.drop e
  x1 : sec l1 s mid = sec l m e
  x2 : sec l1 mid e = sec l s m
theorem sec1_turn {l l1 : List α} {s m e mid : Nat} (h1 : s ≤ m) (h2 : m ≤ e) (hm : mid = s + (e - m)) (h : Turned (rho s m e) l l1) : Sec1 l l1 s m e mid := by
  obtain ⟨p1, p2, p3, p4⟩ := turned_parts h1 h2 h
  subst hm
  exact ⟨h.len, p1, p2, p3, p4⟩
theorem sec1_same {l : List α} {s m e mid : Nat} (h1 : s ≤ m) (h2 : m ≤ e) (hm : mid = s + (e - m)) (h : ¬ (s < m ∧ m < e)) : Sec1 l l s m e mid := by
  refine ⟨rfl, rfl, rfl, ?_, ?_⟩
  · by_cases c : s = m
    · rw [show mid = e by omega, c]
    · rw [sec_nil _ (by omega), sec_nil _ (by omega)]
  · by_cases c : s = m
    · rw [sec_nil _ (by omega), sec_nil _ (by omega)]
    · rw [show mid = s by omega, show e = m by omega]
theorem sec1_two {l l1 : List α} {a s m e mid b : Nat} (h : Sec1 l l1 s m e mid) (h1 : a ≤ s) (h2 : s ≤ m) (h3 : m ≤ e) (h4 : e ≤ b) (hu : Srt lt (sec l a m)) (hv : Srt lt (sec l m b)) : Srt lt (sec l1 a s) ∧ Srt lt (sec l1 s mid) := by
  rw [sec_split l h1 h2] at hu
  rw [sec_split l h3 h4] at hv
  exact ⟨by rw [sec_before h.pre (Nat.le_refl s)]; exact srt_left hu, by rw [h.x1]; exact srt_left hv⟩
theorem two_same {l l1 : List α} {a s m e mid b : Nat} (h : Sec1 l l1 s m e mid) (hm : mid = s + (e - m)) (h1 : a ≤ s) (h2 : s ≤ m) (h3 : m ≤ e) (h4 : e ≤ b) (hu : Srt lt (sec l a m)) (hv : Srt lt (sec l m b)) (c : ¬ (a < s ∧ s < mid)) : On lt a mid l1 l1 := by
  obtain ⟨g1, g2⟩ := sec1_two h h1 h2 h3 h4 hu hv
  refine On.refl ?_
  by_cases e : a = s
  · rw [e]; exact g2
  · rw [show mid = s by omega]; exact g1
theorem sec1_three {l l1 l2 : List α} {a s m e mid b : Nat} (h : Sec1 l l1 s m e mid) (hm : mid = s + (e - m)) (h1 : a ≤ s) (h2 : s ≤ m) (h3 : m ≤ e) (h4 : e ≤ b) (hu : Srt lt (sec l a m)) (hv : Srt lt (sec l m b)) (ho : On lt a mid l1 l2) : Srt lt (sec l2 mid e) ∧ Srt lt (sec l2 e b) := by
  rw [sec_split l h1 h2] at hu
  rw [sec_split l h3 h4] at hv
  refine ⟨?_, ?_⟩
  · rw [sec_after ho.post (Nat.le_refl mid), h.x2]; exact srt_right hu
  · rw [sec_after ho.post (by omega), sec_after h.post (Nat.le_refl e)]; exact srt_right hv
theorem three_same {l l1 l2 : List α} {a s m e mid b : Nat} (h : Sec1 l l1 s m e mid) (hm : mid = s + (e - m)) (h1 : a ≤ s) (h2 : s ≤ m) (h3 : m ≤ e) (h4 : e ≤ b) (hu : Srt lt (sec l a m)) (hv : Srt lt (sec l m b)) (ho : On lt a mid l1 l2) (c : ¬ (mid < e ∧ e < b)) : On lt mid b l2 l2 := by
  obtain ⟨g1, g2⟩ := sec1_three h hm h1 h2 h3 h4 hu hv ho
  refine On.refl ?_
  by_cases k : mid = e
  · rw [k]; exact g2
  · rw [show b = e by omega]; exact g1
theorem sec1_all (ho : Ord lt) {l l1 l2 l3 : List α} {a s m mid e b : Nat} (h : Sec1 l l1 s m e mid) (h1 : a ≤ s) (h2 : s ≤ m) (h3 : m ≤ e) (h4 : e ≤ b) (hb : b ≤ l.length) (hm : mid = s + (e - m))
    (hu : Srt lt (sec l a m)) (hv : Srt lt (sec l m b)) (B1 : a < s → e < b → ∀ x y, l[s - 1]? = some x → l[e]? = some y → lt y x = false) (B2 : s < m → m < e → ∀ x y, l[s]? = some x → l[e - 1]? = some y → lt y x = true)
    (on2 : On lt a mid l1 l2) (on3 : On lt mid b l2 l3) : On lt a b l l3 :=
  merge_on ho h1 h2 h3 h4 hb hm hu hv B1 B2 h.len h.pre h.post h.x1 h.x2 on2 on3
end Go.Proofs.YthjcmcgmalnfpaaGreatDoor.Stab
