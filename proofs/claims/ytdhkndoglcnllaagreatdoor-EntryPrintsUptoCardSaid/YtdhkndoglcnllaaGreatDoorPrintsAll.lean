/- Stab, Stab2, Stab3, Stab4, Stab5, Ent, RangeS, NodesS, BigS, PairH, Much24, PrE, Back24, LawP24, OpenP24: laid into one text. -/
import Derived.Test.YtdhkndoglcnllaaGreatDoorMem2
import Derived.Test.YtdhkndoglcnllaaGreatDoorDescC
import Derived.RangeFuncRecord
import Derived.RangeFuncFrom
import Derived.RangeFuncCalls
import Derived.Test.YtdhkndoglcnllaaGreatDoorRange
import Derived.Test.YtdhkndoglcnllaaGreatDoorNodes
import Derived.RangeFuncNested
import Derived.RangeFuncLeaves
import Derived.Shelf.Abstract
import Derived.Shelf.RegionOpen
import Derived.OwnWalkIn
import Derived.TacticsInMore
import Derived.LoopNIn
import Derived.LoopIn
import Derived.Sort.LoopGhostIn
import Derived.Lib.SmallJoins
import Derived.RegionTactic
import Derived.Test.YtdhkndoglcnllaaGreatDoorBigV
import Derived.Deep.RegionHeld3
import Derived.OrdersHeld
import Derived.Laws.Concat
import Derived.Test.YtdhkndoglcnllaaGreatDoorDescM
import Derived.Test.YtdhkndoglcnllaaGreatDoorReadsAll
import Derived.Test.YtdhkndoglcnllaaGreatDoorPrintE
import Derived.BigQuiet
import Derived.Deep.QuietTactic
import Derived.WalkKit
import Derived.OpenShut
import Derived.WideShapes
/- Sorting that keeps what is equal in its order: the plain law. -/
namespace Go.Proofs.YtdhkndoglcnllaaGreatDoor.Stab
/-- A strict order whose 'neither is ahead' goes through. -/
structure Ord {α : Type} (lt : α → α → Bool) : Prop where
  asym : ∀ a b, lt a b = true → lt b a = false
  nt : ∀ a b c, lt a b = false → lt b c = false → lt a c = false
variable {α : Type} {lt : α → α → Bool}
theorem Ord.irr (h : Ord lt) (a : α) : lt a a = false := by
  cases e : lt a a with
  | false => rfl
  | true => exact (h.asym a a e).symm.trans e |>.symm ▸ rfl
theorem Ord.le_lt (h : Ord lt) {a b c : α} (h1 : lt b a = false) (h2 : lt b c = true) : lt a c = true := by
  cases e : lt a c with
  | true => rfl
  | false => rw [h.nt b a c h1 e] at h2; cases h2
theorem Ord.lt_le (h : Ord lt) {a b c : α} (h1 : lt a b = true) (h2 : lt c b = false) : lt a c = true := by
  cases e : lt a c with
  | true => rfl
  | false => rw [h.nt a c b e h2] at h1; cases h1
def eqv (lt : α → α → Bool) (x y : α) : Bool := !lt x y && !lt y x
theorem eqv_iff {x y : α} : eqv lt x y = true ↔ lt x y = false ∧ lt y x = false := by simp [eqv]
def Srt (lt : α → α → Bool) (l : List α) : Prop := l.Pairwise fun a b => lt b a = false
def Same (lt : α → α → Bool) (l m : List α) : Prop := ∀ x, l.filter (eqv lt x) = m.filter (eqv lt x)
theorem Same.refl (l : List α) : Same lt l l := fun _ => rfl
theorem Same.trans {l m k : List α} (h : Same lt l m) (g : Same lt m k) : Same lt l k := fun x => (h x).trans (g x)
theorem Same.symm {l m : List α} (h : Same lt l m) : Same lt m l := fun x => (h x).symm
theorem Same.append {l m l' m' : List α} (h : Same lt l m) (g : Same lt l' m') : Same lt (l ++ l') (m ++ m') := fun x => by rw [List.filter_append, List.filter_append, h x, g x]
theorem Same.cons (x : α) {l m : List α} (h : Same lt l m) : Same lt (x :: l) (x :: m) := (Same.refl [x]).append h
theorem Same.mem (ho : Ord lt) {l m : List α} (h : Same lt l m) {x : α} (hx : x ∈ l) : x ∈ m := by
  have h1 : x ∈ l.filter (eqv lt x) := List.mem_filter.2 ⟨hx, eqv_iff.2 ⟨ho.irr x, ho.irr x⟩⟩
  rw [h x] at h1
  exact (List.mem_filter.1 h1).1
theorem uniq (ho : Ord lt) : ∀ {l m : List α}, Srt lt l → Srt lt m → Same lt l m → l = m
  | [], [], _, _, _ => rfl
  | [], y :: m, _, _, h => by have := h.symm.mem ho (List.mem_cons_self (a := y) (l := m)); simp at this
  | x :: l, [], _, _, h => by have := h.mem ho (List.mem_cons_self (a := x) (l := l)); simp at this
  | x :: l, y :: m, hl, hm, h => by
    have hx : lt x y = false := by
      have h1 := h.mem ho (List.mem_cons_self (a := x) (l := l))
      rcases List.mem_cons.1 h1 with e | h2
      · rw [e]; exact ho.irr y
      · exact (List.pairwise_cons.1 hm).1 x h2
    have hy : lt y x = false := by
      have h1 := h.symm.mem ho (List.mem_cons_self (a := y) (l := m))
      rcases List.mem_cons.1 h1 with e | h2
      · rw [e]; exact ho.irr x
      · exact (List.pairwise_cons.1 hl).1 y h2
    have h1 := h x
    rw [List.filter_cons_of_pos (eqv_iff.2 ⟨ho.irr x, ho.irr x⟩), List.filter_cons_of_pos (eqv_iff.2 ⟨hx, hy⟩)] at h1
    obtain rfl := (List.cons.inj h1).1
    congr 1
    refine uniq ho (List.pairwise_cons.1 hl).2 (List.pairwise_cons.1 hm).2 fun z => ?_
    have h2 := h z
    simp only [List.filter_cons] at h2
    split at h2
    · exact (List.cons.inj h2).2
    · exact h2
/-- Two blocks change places, where each of the second is ahead of each of the first. -/
theorem same_swap (ho : Ord lt) {u v : List α} (h : ∀ a ∈ u, ∀ b ∈ v, lt b a = true) : Same lt (u ++ v) (v ++ u) := fun x => by
  rw [List.filter_append, List.filter_append]
  by_cases hu : u.filter (eqv lt x) = []
  · rw [hu]; simp
  · have hv : v.filter (eqv lt x) = [] := by
      rw [List.filter_eq_nil_iff]
      intro b hb he
      obtain ⟨a, ha⟩ := List.exists_mem_of_ne_nil _ hu
      obtain ⟨ha1, ha2⟩ := List.mem_filter.1 ha
      have e1 := eqv_iff.1 ha2
      have e2 := eqv_iff.1 he
      have := h a ha1 b hb
      rw [ho.nt b x a e2.2 e1.1] at this
      cases this
    rw [hv]; simp
/-- One step of a merge from the middle. -/
theorem merge_step (ho : Ord lt) {u1 u2 v1 v2 x y : List α} (hu : Srt lt (u1 ++ u2)) (hv : Srt lt (v1 ++ v2)) (h1 : ∀ a ∈ u2, ∀ b ∈ v1, lt b a = true) (h2 : ∀ a ∈ u1, ∀ b ∈ v2, lt b a = false)
    (hx : Srt lt x) (sx : Same lt (u1 ++ v1) x) (hy : Srt lt y) (sy : Same lt (u2 ++ v2) y) : Srt lt (x ++ y) ∧ Same lt (u1 ++ u2 ++ (v1 ++ v2)) (x ++ y) := by
  constructor
  · refine List.pairwise_append.2 ⟨hx, hy, fun a ha b hb => ?_⟩
    have ha' := sx.symm.mem ho ha
    have hb' := sy.symm.mem ho hb
    have hU := (List.pairwise_append.1 hu).2.2
    have hV := (List.pairwise_append.1 hv).2.2
    rcases List.mem_append.1 ha' with ha1 | ha1 <;> rcases List.mem_append.1 hb' with hb1 | hb1
    · exact hU a ha1 b hb1
    · exact h2 a ha1 b hb1
    · exact ho.asym _ _ (h1 b hb1 a ha1)
    · exact hV a ha1 b hb1
  · have e : Same lt (u1 ++ u2 ++ (v1 ++ v2)) ((u1 ++ v1) ++ (u2 ++ v2)) := by
      have := ((Same.refl (lt := lt) u1).append (same_swap ho h1)).append (Same.refl v2)
      simpa [List.append_assoc] using this
    exact e.trans (sx.append sy)
/-- The last of the one ahead of the first of the other: each of the one is ahead of each of the other. -/
theorem all_lt (ho : Ord lt) {v u : List α} (hv : Srt lt v) (hu : Srt lt u) (h : ∀ b a, v.getLast? = some b → u.head? = some a → lt b a = true) : ∀ a ∈ u, ∀ b ∈ v, lt b a = true := by
  intro a ha b hb
  have hvn : v ≠ [] := List.ne_nil_of_mem hb
  have hun : u ≠ [] := List.ne_nil_of_mem ha
  have h0 := h _ _ (List.getLast?_eq_some_getLast hvn) (List.head?_eq_some_head hun)
  have hb' : lt (v.getLast hvn) b = false := by
    have e := List.dropLast_concat_getLast hvn
    have hb2 : b ∈ v.dropLast ++ [v.getLast hvn] := by rw [e]; exact hb
    rcases List.mem_append.1 hb2 with h1 | h1
    · have hv' : Srt lt (v.dropLast ++ [v.getLast hvn]) := by rw [e]; exact hv
      exact (List.pairwise_append.1 hv').2.2 b h1 _ (List.mem_singleton.2 rfl)
    · rw [List.mem_singleton.1 h1]; exact ho.irr _
  have ha' : lt a (u.head hun) = false := by
    have e := List.cons_head_tail hun
    have ha2 : a ∈ u.head hun :: u.tail := by rw [e]; exact ha
    rcases List.mem_cons.1 ha2 with h1 | h1
    · rw [h1]; exact ho.irr _
    · have hu' : Srt lt (u.head hun :: u.tail) := by rw [e]; exact hu
      exact (List.pairwise_cons.1 hu').1 a h1
  exact ho.le_lt hb' (ho.lt_le h0 ha')
/-- The same with 'not behind'. -/
theorem all_le (ho : Ord lt) {u v : List α} (hu : Srt lt u) (hv : Srt lt v) (h : ∀ a b, u.getLast? = some a → v.head? = some b → lt b a = false) : ∀ a ∈ u, ∀ b ∈ v, lt b a = false := by
  intro a ha b hb
  have hun : u ≠ [] := List.ne_nil_of_mem ha
  have hvn : v ≠ [] := List.ne_nil_of_mem hb
  have h0 := h _ _ (List.getLast?_eq_some_getLast hun) (List.head?_eq_some_head hvn)
  have ha' : lt (u.getLast hun) a = false := by
    have e := List.dropLast_concat_getLast hun
    have ha2 : a ∈ u.dropLast ++ [u.getLast hun] := by rw [e]; exact ha
    rcases List.mem_append.1 ha2 with h1 | h1
    · have hu' : Srt lt (u.dropLast ++ [u.getLast hun]) := by rw [e]; exact hu
      exact (List.pairwise_append.1 hu').2.2 a h1 _ (List.mem_singleton.2 rfl)
    · rw [List.mem_singleton.1 h1]; exact ho.irr _
  have hb' : lt b (v.head hvn) = false := by
    have e := List.cons_head_tail hvn
    have hb2 : b ∈ v.head hvn :: v.tail := by rw [e]; exact hb
    rcases List.mem_cons.1 hb2 with h1 | h1
    · rw [h1]; exact ho.irr _
    · have hv' : Srt lt (v.head hvn :: v.tail) := by rw [e]; exact hv
      exact (List.pairwise_cons.1 hv').1 b h1
  exact ho.nt _ _ _ hb' (ho.nt _ _ _ h0 ha')
/-- One is put into its place in a sorted row. -/
theorem insert_step (ho : Ord lt) {s1 s2 : List α} {x : α} (hs : Srt lt (s1 ++ s2)) (h1 : ∀ a, s1.getLast? = some a → lt x a = false) (h2 : ∀ b ∈ s2, lt x b = true) :
    Srt lt (s1 ++ x :: s2) ∧ Same lt (s1 ++ s2 ++ [x]) (s1 ++ x :: s2) := by
  obtain ⟨p1, p2, p3⟩ := List.pairwise_append.1 hs
  refine ⟨List.pairwise_append.2 ⟨p1, List.pairwise_cons.2 ⟨fun b hb => ho.asym _ _ (h2 b hb), p2⟩, fun a ha b hb => ?_⟩, ?_⟩
  · rcases List.mem_cons.1 hb with rfl | hb
    · exact all_le ho p1 (List.pairwise_singleton _ _) (fun a' b' e1 e2 => by simp at e2; subst e2; exact h1 a' e1) a ha b (List.mem_singleton.2 rfl)
    · exact p3 a ha b hb
  · have := (Same.refl (lt := lt) s1).append (same_swap ho (u := s2) (v := [x]) fun a ha b hb => by rw [List.mem_singleton.1 hb]; exact h2 a ha)
    simpa [List.append_assoc] using this
end Go.Proofs.YtdhkndoglcnllaaGreatDoor.Stab
/- Sorting that keeps what is equal in its order: sections, runs, passes. -/
namespace Go.Proofs.YtdhkndoglcnllaaGreatDoor.Stab
variable {α : Type} {lt : α → α → Bool}
/-- What lies from place a to place b. -/
def sec (l : List α) (a b : Nat) : List α := (l.drop a).take (b - a)
theorem sec_eq (l : List α) (a b : Nat) : sec l a b = (l.take b).drop a := by rw [sec, List.drop_take]
theorem sec_before {l l' : List α} {a c d : Nat} (h : l'.take a = l.take a) (hd : d ≤ a) : sec l' c d = sec l c d := by
  have e : ∀ l : List α, l.take d = (l.take a).take d := fun l => by rw [List.take_take, Nat.min_eq_left hd]
  rw [sec_eq, sec_eq, e l', e l, h]
theorem sec_after {l l' : List α} {b c d : Nat} (h : l'.drop b = l.drop b) (hb : b ≤ c) : sec l' c d = sec l c d := by
  have e : ∀ l : List α, l.drop c = (l.drop b).drop (c - b) := fun l => by rw [List.drop_drop]; congr 1; omega
  rw [sec, sec, e l', e l, h]
theorem sec_mid (p u q : List α) : sec (p ++ (u ++ q)) p.length (p.length + u.length) = u := by
  rw [sec, List.drop_left, Nat.add_sub_cancel_left, List.take_left]
theorem parts (l : List α) {a b : Nat} (hab : a ≤ b) : l = l.take a ++ (sec l a b ++ l.drop b) := by
  have h1 : sec l a b ++ l.drop b = l.drop a := by
    have := List.take_append_drop (b - a) (l.drop a)
    rw [List.drop_drop, show a + (b - a) = b by omega] at this
    exact this
  rw [h1, List.take_append_drop]
theorem sec_len (l : List α) {a b : Nat} (hb : b ≤ l.length) : (sec l a b).length = b - a := by rw [sec, List.length_take, List.length_drop]; omega
theorem sec_past (l : List α) {a b : Nat} (hb : l.length ≤ b) : sec l a b = l.drop a := by rw [sec, List.take_of_length_le]; rw [List.length_drop]; omega
/-- From a to b it is sorted, all else is as it was. -/
structure On (lt : α → α → Bool) (a b : Nat) (l l' : List α) : Prop where
  len : l'.length = l.length
  pre : l'.take a = l.take a
  post : l'.drop b = l.drop b
  srt : Srt lt (sec l' a b)
  same : Same lt (sec l a b) (sec l' a b)
theorem on_of {p u q x : List α} (hx : Srt lt x) (hl : x.length = u.length) (hs : Same lt u x) : On lt p.length (p.length + u.length) (p ++ (u ++ q)) (p ++ (x ++ q)) := by
  have e : sec (p ++ (x ++ q)) p.length (p.length + u.length) = x := by rw [← hl, sec_mid]
  refine ⟨by simp [hl], by rw [List.take_left, List.take_left], ?_, by rw [e]; exact hx, by rw [sec_mid, e]; exact hs⟩
  rw [← List.append_assoc, ← List.append_assoc, List.drop_left' (by simp [hl]), List.drop_left' (by simp)]
theorem On.all {a b : Nat} {l l' : List α} (h : On lt a b l l') (hab : a ≤ b) : Same lt l l' := by
  have h1 := parts l hab
  have h2 := parts l' hab
  rw [h1, h2, h.pre, h.post]
  exact (Same.refl _).append (h.same.append (Same.refl _))
theorem On.refl {a b : Nat} {l : List α} (h : Srt lt (sec l a b)) : On lt a b l l := ⟨rfl, rfl, rfl, h, Same.refl _⟩
/-- All runs of s are sorted. -/
def Runs (lt : α → α → Bool) (s : Nat) (l : List α) : Prop := ∀ k, Srt lt (sec l (k * s) (k * s + s))
/-- The first q runs of s are sorted. -/
def Upto (lt : α → α → Bool) (s q : Nat) (l : List α) : Prop := ∀ k, k < q → Srt lt (sec l (k * s) (k * s + s))
theorem upto_step {s q : Nat} {l l' : List α} (h : Upto lt s q l) (ho : On lt (q * s) (q * s + s) l l') : Upto lt s (q + 1) l' := fun k hk => by
  by_cases e : k = q
  · subst e; exact ho.srt
  · have h1 : (k + 1) * s ≤ q * s := Nat.mul_le_mul_right s (by omega)
    rw [Nat.add_mul, Nat.one_mul] at h1
    rw [sec_before ho.pre h1]
    exact h k (by omega)
theorem srt_nil_drop {l : List α} {a b : Nat} (h : l.length ≤ a) : Srt lt (sec l a b) := by
  rw [sec, List.drop_of_length_le h]; simp [Srt]
theorem upto_end {s q n : Nat} {l l' : List α} (h : Upto lt s q l) (hn : l.length = n) (hlt : n < q * s + s) (ho : On lt (q * s) n l l') : Runs lt s l' := fun k => by
  by_cases h1 : k < q
  · have h2 : (k + 1) * s ≤ q * s := Nat.mul_le_mul_right s (by omega)
    rw [Nat.add_mul, Nat.one_mul] at h2
    rw [sec_before ho.pre h2]
    exact h k h1
  · by_cases e : k = q
    · subst e
      rw [sec_past _ (by rw [ho.len]; omega), ← sec_past (b := n) _ (by rw [ho.len]; omega)]
      exact ho.srt
    · have h2 : (q + 1) * s ≤ k * s := Nat.mul_le_mul_right s (by omega)
      rw [Nat.add_mul, Nat.one_mul] at h2
      exact srt_nil_drop (by rw [ho.len]; omega)
/-- A pass of merges: the first q runs of twice s are sorted, and the rest in runs of s. -/
structure Pass (lt : α → α → Bool) (s q : Nat) (l : List α) : Prop where
  done : Upto lt (2 * s) q l
  rest : ∀ k, 2 * q ≤ k → Srt lt (sec l (k * s) (k * s + s))
theorem pass_start {s : Nat} {l : List α} (h : Runs lt s l) : Pass lt s 0 l := ⟨fun k hk => by omega, fun k _ => h k⟩
theorem pass_two {s q : Nat} {l : List α} (h : Pass lt s q l) : Srt lt (sec l (q * (2 * s)) (q * (2 * s) + s)) ∧ Srt lt (sec l (q * (2 * s) + s) (q * (2 * s) + 2 * s)) := by
  have e : q * (2 * s) = 2 * q * s := by rw [← Nat.mul_assoc, Nat.mul_comm q 2]
  have h1 := h.rest (2 * q) (Nat.le_refl _)
  have h2 := h.rest (2 * q + 1) (by omega)
  rw [Nat.add_mul, Nat.one_mul] at h2
  rw [e]
  refine ⟨h1, ?_⟩
  rw [show 2 * q * s + 2 * s = 2 * q * s + s + s by omega]
  exact h2
theorem pass_step {s q : Nat} {l l' : List α} (h : Pass lt s q l) (ho : On lt (q * (2 * s)) (q * (2 * s) + 2 * s) l l') : Pass lt s (q + 1) l' := by
  refine ⟨upto_step h.done ho, fun k hk => ?_⟩
  have e : q * (2 * s) + 2 * s = 2 * (q + 1) * s := by
    rw [← Nat.mul_assoc, Nat.mul_comm q 2, Nat.mul_add, Nat.add_mul]
  have h2 : 2 * (q + 1) * s ≤ k * s := Nat.mul_le_mul_right s hk
  rw [sec_after ho.post (by omega)]
  exact h.rest k (by omega)
theorem pass_end {s q n : Nat} {l l' : List α} (h : Pass lt s q l) (hn : l.length = n) (hlt : n < q * (2 * s) + 2 * s) (ho : On lt (q * (2 * s)) n l l') : Runs lt (2 * s) l' := upto_end h.done hn hlt ho
theorem pass_end' {s q n : Nat} {l : List α} (h : Pass lt s q l) (hn : l.length = n) (hlt : n ≤ q * (2 * s) + s) : Srt lt (sec l (q * (2 * s)) n) := by
  have h1 := (pass_two h).1
  rw [sec_past _ (by omega)] at h1
  rw [sec_past _ (by omega)]
  exact h1
theorem runs_all {s : Nat} {l : List α} (h : Runs lt s l) (hs : l.length ≤ s) : Srt lt l := by
  have h1 := h 0
  rw [sec_past _ (by omega)] at h1
  simpa using h1
end Go.Proofs.YtdhkndoglcnllaaGreatDoor.Stab
/- Sorting that keeps what is equal in its order: a merge from the middle, by turning a section round. -/
namespace Go.Proofs.YtdhkndoglcnllaaGreatDoor.Stab
variable {α : Type} {lt : α → α → Bool}
theorem sec_split (l : List α) {a m b : Nat} (h1 : a ≤ m) (h2 : m ≤ b) : sec l a b = sec l a m ++ sec l m b := by
  have e : (l.drop a).drop (m - a) = l.drop m := by rw [List.drop_drop]; congr 1; omega
  have := List.take_add (l := l.drop a) (i := m - a) (j := b - m)
  rw [e, show m - a + (b - m) = b - a by omega] at this
  exact this
theorem sec_nil (l : List α) {a b : Nat} (h : b ≤ a) : sec l a b = [] := by rw [sec, show b - a = 0 by omega]; rfl
theorem sec_get (l : List α) (a b i : Nat) : (sec l a b)[i]? = if i < b - a then l[a + i]? else none := by
  rw [sec, List.getElem?_take, List.getElem?_drop]
theorem sec_head (l : List α) {a b : Nat} {x : α} (h : (sec l a b).head? = some x) : a < b ∧ l[a]? = some x := by
  rw [List.head?_eq_getElem?, sec_get] at h
  split at h
  · exact ⟨by omega, h⟩
  · cases h
theorem sec_last (l : List α) {a b : Nat} (hb : b ≤ l.length) {x : α} (h : (sec l a b).getLast? = some x) : a < b ∧ l[b - 1]? = some x := by
  rw [List.getLast?_eq_getElem?, sec_get, sec_len l hb] at h
  split at h
  · rw [show a + (b - a - 1) = b - 1 by omega] at h
    exact ⟨by omega, h⟩
  · cases h
theorem srt_left {u v : List α} (h : Srt lt (u ++ v)) : Srt lt u := (List.pairwise_append.1 h).1
theorem srt_right {u v : List α} (h : Srt lt (u ++ v)) : Srt lt v := (List.pairwise_append.1 h).2.1
theorem merge_on (ho : Ord lt) {l l1 l2 l3 : List α} {a s m mid e b : Nat} (h1 : a ≤ s) (h2 : s ≤ m) (h3 : m ≤ e) (h4 : e ≤ b) (hb : b ≤ l.length) (hm : mid = s + (e - m))
    (hu : Srt lt (sec l a m)) (hv : Srt lt (sec l m b)) (B1 : a < s → e < b → ∀ x y, l[s - 1]? = some x → l[e]? = some y → lt y x = false) (B2 : s < m → m < e → ∀ x y, l[s]? = some x → l[e - 1]? = some y → lt y x = true)
    (len1 : l1.length = l.length) (pre1 : l1.take s = l.take s) (post1 : l1.drop e = l.drop e) (x1 : sec l1 s mid = sec l m e) (x2 : sec l1 mid e = sec l s m)
    (on2 : On lt a mid l1 l2) (on3 : On lt mid b l2 l3) : On lt a b l l3 := by
  have hse : s ≤ mid := by omega
  have hme : mid ≤ e := by omega
  have eu := sec_split l h1 h2
  have ev := sec_split l h3 h4
  rw [eu] at hu
  rw [ev] at hv
  have e1 : sec l1 a mid = sec l a s ++ sec l m e := by rw [sec_split l1 h1 hse, sec_before pre1 (Nat.le_refl s), x1]
  have e2 : sec l2 mid b = sec l s m ++ sec l e b := by rw [sec_after on2.post (Nat.le_refl mid), sec_split l1 hme h4, x2, sec_after post1 (Nat.le_refl e)]
  have e3 : sec l3 a mid = sec l2 a mid := sec_before on3.pre (Nat.le_refl mid)
  have k2 := on2.same
  have k3 := on3.same
  rw [e1] at k2
  rw [e2] at k3
  obtain ⟨g1, g2⟩ := merge_step ho hu hv
    (all_lt ho (srt_left hv) (srt_right hu) fun y x hy hx => by
      obtain ⟨p1, p2⟩ := sec_last l (by omega) hy
      obtain ⟨p3, p4⟩ := sec_head l hx
      exact B2 p3 p1 x y p4 p2)
    (all_le ho (srt_left hu) (srt_right hv) fun x y hx hy => by
      obtain ⟨p1, p2⟩ := sec_last l (by omega) hx
      obtain ⟨p3, p4⟩ := sec_head l hy
      exact B1 p1 p3 x y p2 p4) on2.srt k2 on3.srt k3
  have e4 : sec l3 a b = sec l2 a mid ++ sec l3 mid b := by rw [sec_split l3 (m := mid) (by omega) (by omega), e3]
  have pre : l3.take a = l.take a := by
    have t : ∀ l : List α, l.take a = (l.take s).take a := fun l => by rw [List.take_take, Nat.min_eq_left h1]
    have t' : ∀ l : List α, l.take a = (l.take mid).take a := fun l => by rw [List.take_take, Nat.min_eq_left (by omega)]
    rw [t' l3, on3.pre, ← t', on2.pre, t l1, pre1, ← t]
  have post : l3.drop b = l.drop b := by
    have t : ∀ l : List α, l.drop b = (l.drop e).drop (b - e) := fun l => by rw [List.drop_drop]; congr 1; omega
    have t' : ∀ l : List α, l.drop b = (l.drop mid).drop (b - mid) := fun l => by rw [List.drop_drop]; congr 1; omega
    rw [on3.post, t' l2, on2.post, ← t', t l1, post1, ← t]
  refine ⟨by rw [on3.len, on2.len, len1], pre, post, by rw [e4]; exact g1, ?_⟩
  rw [e4, sec_split l (m := m) (by omega) (by omega), eu, ev]
  exact g2
/-- Where what lies at place t came from, when the sections a .. m and m .. b have changed places. -/
def rho (a m b t : Nat) : Nat := if t < a then t else if t < a + (b - m) then t - a + m else if t < b then t - (b - m) else t
/-- The same, when n places from a on and n places from b on have changed places. -/
def sig (a b n t : Nat) : Nat := if t < a then t else if t < a + n then t - a + b else if t < b then t else if t < b + n then t - b + a else t
structure Turned (f : Nat → Nat) (l l' : List α) : Prop where
  len : l'.length = l.length
  at_ : ∀ t, l'[t]? = l[f t]?
theorem Turned.trans {f g : Nat → Nat} {l l' l'' : List α} (h : Turned f l l') (k : Turned g l' l'') : Turned (fun t => f (g t)) l l'' := ⟨k.len.trans h.len, fun t => (k.at_ t).trans (h.at_ _)⟩
theorem Turned.congr {f g : Nat → Nat} {l l' : List α} (h : Turned f l l') (e : ∀ t, f t = g t) : Turned g l l' := ⟨h.len, fun t => by rw [h.at_, e]⟩
theorem rho_left {i j m t : Nat} (h : j < i) (hi : i ≤ m) : sig (m - i) m j (rho (m - i + j) m (m + j) t) = rho (m - i) m (m + j) t := by
  unfold sig rho
  repeat' split
  all_goals omega
theorem rho_right {i j m t : Nat} (h : i < j) (hi : i ≤ m) : sig (m - i) (m + j - i) i (rho (m - i) m (m + j - i) t) = rho (m - i) m (m + j) t := by
  unfold sig rho
  repeat' split
  all_goals omega
theorem rho_last {i m t : Nat} (hi : i ≤ m) : sig (m - i) m i t = rho (m - i) m (m + i) t := by
  unfold sig rho
  repeat' split
  all_goals omega
theorem turned_parts {l l' : List α} {a m b : Nat} (h1 : a ≤ m) (h2 : m ≤ b) (h : Turned (rho a m b) l l') :
    l'.take a = l.take a ∧ l'.drop b = l.drop b ∧ sec l' a (a + (b - m)) = sec l m b ∧ sec l' (a + (b - m)) b = sec l a m := by
  refine ⟨List.ext_getElem? fun t => ?_, List.ext_getElem? fun t => ?_, List.ext_getElem? fun t => ?_, List.ext_getElem? fun t => ?_⟩
  · rw [List.getElem?_take, List.getElem?_take]
    split
    · rw [h.at_]; congr 1; unfold rho; split <;> omega
    · rfl
  · rw [List.getElem?_drop, List.getElem?_drop, h.at_]
    congr 1
    unfold rho
    repeat' split
    all_goals omega
  · rw [sec_get, sec_get]
    by_cases hc : t < b - m
    · rw [if_pos (by omega), if_pos hc, h.at_]
      congr 1
      unfold rho
      repeat' split
      all_goals omega
    · rw [if_neg (by omega), if_neg hc]
  · rw [sec_get, sec_get]
    by_cases hc : t < m - a
    · rw [if_pos (by omega), if_pos hc, h.at_]
      congr 1
      unfold rho
      repeat' split
      all_goals omega
    · rw [if_neg (by omega), if_neg hc]
end Go.Proofs.YtdhkndoglcnllaaGreatDoor.Stab
/- Sorting that keeps what is equal in its order: one element put into a sorted section, from the left and from the right. -/
namespace Go.Proofs.YtdhkndoglcnllaaGreatDoor.Stab
variable {α : Type} {lt : α → α → Bool}
theorem sec_one {l : List α} {a : Nat} {x : α} (h : l[a]? = some x) : sec l a (a + 1) = [x] := by
  apply List.ext_getElem?
  intro t
  rw [sec_get]
  cases t with
  | zero => rw [if_pos (by omega)]; simpa using h
  | succ t => rw [if_neg (by omega)]; simp
theorem On.trans {a b c : Nat} {l l' l'' : List α} (hab : a ≤ b) (hbc : b ≤ c) (h : On lt a b l l') (k : On lt a c l' l'') : On lt a c l l'' := by
  refine ⟨k.len.trans h.len, k.pre.trans h.pre, ?_, k.srt, ?_⟩
  · have t : ∀ l : List α, l.drop c = (l.drop b).drop (c - b) := fun l => by rw [List.drop_drop]; congr 1; omega
    rw [k.post, t l', h.post, ← t]
  · refine Same.trans ?_ k.same
    rw [sec_split l hab hbc, sec_split l' hab hbc, sec_after h.post (Nat.le_refl b)]
    exact h.same.append (Same.refl _)
/-- The first of a section, put behind those of the sorted rest that are ahead of it. -/
theorem one_left (ho : Ord lt) {l l1 : List α} {a b i : Nat} {x : α} (hx : l[a]? = some x) (h1 : a + 1 ≤ i) (h2 : i ≤ b) (hb : b ≤ l.length) (hv : Srt lt (sec l (a + 1) b))
    (B2 : a + 1 < i → ∀ y, l[i - 1]? = some y → lt y x = true) (B3 : i < b → ∀ y, l[i]? = some y → lt y x = false) (ht : Turned (rho a (a + 1) i) l l1) : On lt a b l l1 := by
  obtain ⟨p1, p2, p3, p4⟩ := turned_parts (by omega) h1 ht
  have e0 := sec_one hx
  have hv' := hv
  rw [sec_split l h1 h2] at hv'
  have hu : Srt lt (sec l a (a + 1)) := by rw [e0]; exact List.pairwise_singleton _ _
  refine merge_on ho (l1 := l1) (l2 := l1) (Nat.le_refl a) (by omega : a ≤ a + 1) h1 h2 hb rfl hu hv (fun h => by omega) (fun _ h x' y e1 e2 => ?_) ht.len p1 p2 p3 p4 (On.refl (by rw [p3]; exact srt_left hv')) (On.refl ?_)
  · rw [hx] at e1
    cases e1
    exact B2 h y e2
  · rw [sec_split l1 (m := i) (by omega) h2, p4, sec_after p2 (Nat.le_refl i)]
    exact List.pairwise_append.2 ⟨hu, srt_right hv', all_le ho hu (srt_right hv') fun x' y e1 e2 => by
      obtain ⟨_, q1⟩ := sec_last l (by omega) e1
      obtain ⟨q2, q3⟩ := sec_head l e2
      rw [Nat.add_sub_cancel, hx] at q1
      cases q1
      exact B3 q2 y q3⟩
/-- The last of a section, put into the sorted rest ahead of those that it is ahead of. -/
theorem one_right (ho : Ord lt) {l l1 : List α} {a m i : Nat} {x : α} (hx : l[m]? = some x) (h1 : a ≤ i) (h2 : i ≤ m) (hu : Srt lt (sec l a m))
    (B1 : a < i → ∀ y, l[i - 1]? = some y → lt x y = false) (B2 : i < m → ∀ y, l[i]? = some y → lt x y = true) (ht : Turned (rho i m (m + 1)) l l1) : On lt a (m + 1) l l1 := by
  obtain ⟨p1, p2, p3, p4⟩ := turned_parts h2 (by omega) ht
  have e0 := sec_one hx
  have hb : m + 1 ≤ l.length := (List.getElem?_eq_some_iff.1 hx).1
  have hu' := hu
  rw [sec_split l h1 h2] at hu'
  have hv : Srt lt (sec l m (m + 1)) := by rw [e0]; exact List.pairwise_singleton _ _
  refine merge_on ho (l1 := l1) (l2 := l1) h1 h2 (by omega : m ≤ m + 1) (Nat.le_refl _) hb rfl hu hv (fun _ h => by omega) (fun h _ x' y e1 e2 => ?_) ht.len p1 p2 p3 p4 (On.refl ?_) (On.refl (by rw [p4]; exact srt_right hu'))
  · rw [Nat.add_sub_cancel, hx] at e2
    cases e2
    exact B2 h x' e1
  · rw [sec_split l1 (m := i) h1 (by omega), p3, sec_before p1 (Nat.le_refl i)]
    exact List.pairwise_append.2 ⟨srt_left hu', hv, all_le ho (srt_left hu') hv fun x' y e1 e2 => by
      obtain ⟨q0, q1⟩ := sec_last l (by omega) e1
      obtain ⟨q2, q3⟩ := sec_head l e2
      rw [hx] at q3
      cases q3
      exact B1 q0 x' q1⟩
/-- One place further in an insertion: neighbours j - 1 and j change places. -/
theorem rho_down {j m t : Nat} (h : j < m) : rho (j + 1) m (m + 1) (sig j (j + 1) 1 t) = rho j m (m + 1) t := by
  unfold sig rho
  repeat' split
  all_goals omega
theorem rho_none {m t : Nat} : rho m m (m + 1) t = t := by
  unfold rho
  repeat' split
  all_goals omega
/-- One place further the other way: neighbours k and k + 1 change places. -/
theorem rho_up {a k t : Nat} (h : a ≤ k) : rho a (a + 1) (k + 1) (sig k (k + 1) 1 t) = rho a (a + 1) (k + 2) t := by
  unfold sig rho
  repeat' split
  all_goals omega
theorem rho_none' {a t : Nat} : rho a (a + 1) (a + 1) t = t := by
  unfold rho
  repeat' split
  all_goals omega
/-- A list whose places i and j have changed. -/
theorem turned_swap {l : List α} {i j : Nat} {x y : α} (hij : i < j) (hx : l[i]? = some x) (hy : l[j]? = some y) : Turned (sig i j 1) l ((l.set i y).set j x) := by
  have hj := (List.getElem?_eq_some_iff.1 hy).1
  have hi := (List.getElem?_eq_some_iff.1 hx).1
  refine ⟨by simp, fun t => ?_⟩
  rw [List.getElem?_set, List.getElem?_set]
  unfold sig
  by_cases e1 : j = t
  · subst e1
    rw [if_pos rfl, if_pos (by simpa using hj), if_neg (by omega), if_neg (by omega), if_neg (by omega), if_pos (by omega), show j - j + i = i by omega, hx]
  · rw [if_neg e1]
    by_cases e2 : i = t
    · subst e2
      rw [if_pos rfl, if_pos hi, if_neg (by omega), if_pos (by omega), show i - i + j = j by omega, hy]
    · rw [if_neg e2]
      congr 1
      repeat' split
      all_goals omega
/-- One pair more of two blocks. -/
theorem sig_step {a b k t : Nat} (h : a + k < b) : sig a b k (sig (a + k) (b + k) 1 t) = sig a b (k + 1) t := by
  unfold sig
  repeat' split
  all_goals omega
theorem sig_none {a b t : Nat} : sig a b 0 t = t := by
  unfold sig
  repeat' split
  all_goals omega
end Go.Proofs.YtdhkndoglcnllaaGreatDoor.Stab
/- Sorting that keeps what is equal in its order: two rows that go together, each sorted by the same keys, go together still. -/
namespace Go.Proofs.YtdhkndoglcnllaaGreatDoor.Stab
variable {α β K : Type} {lt : α → α → Bool}
def ins (lt : α → α → Bool) (x : α) : List α → List α
  | [] => [x]
  | b :: l => if lt x b then x :: b :: l else b :: ins lt x l
theorem ins_spec (ho : Ord lt) (x : α) : ∀ {s : List α}, Srt lt s → Srt lt (ins lt x s) ∧ Same lt (s ++ [x]) (ins lt x s)
  | [], _ => ⟨List.pairwise_singleton _ _, Same.refl _⟩
  | b :: s, hs => by
    obtain ⟨h1, h2⟩ := List.pairwise_cons.1 hs
    obtain ⟨g1, g2⟩ := ins_spec ho x h2
    unfold ins
    cases e : lt x b with
    | true =>
      rw [if_pos rfl]
      have ha : ∀ a ∈ b :: s, lt x a = true := fun a ha => by
        rcases List.mem_cons.1 ha with rfl | ha
        · exact e
        · exact ho.lt_le e (h1 a ha)
      refine ⟨List.pairwise_cons.2 ⟨fun a h => ho.asym _ _ (ha a h), hs⟩, ?_⟩
      exact same_swap ho (u := b :: s) (v := [x]) fun a h c hc => by rw [List.mem_singleton.1 hc]; exact ha a h
    | false =>
      rw [if_neg (by simp)]
      refine ⟨List.pairwise_cons.2 ⟨fun a h => ?_, g1⟩, g2.cons b⟩
      have h' := g2.symm.mem ho h
      rcases List.mem_append.1 h' with h' | h'
      · exact h1 a h'
      · rw [List.mem_singleton.1 h']; exact e
def isort (lt : α → α → Bool) (l : List α) : List α := l.foldl (fun acc x => ins lt x acc) []
theorem isort_go (ho : Ord lt) : ∀ (l acc pre : List α), Srt lt acc → Same lt pre acc → Srt lt (l.foldl (fun acc x => ins lt x acc) acc) ∧ Same lt (pre ++ l) (l.foldl (fun acc x => ins lt x acc) acc)
  | [], acc, pre, h1, h2 => by simpa using ⟨h1, h2⟩
  | x :: l, acc, pre, h1, h2 => by
    obtain ⟨g1, g2⟩ := ins_spec ho x h1
    have := isort_go ho l (ins lt x acc) (pre ++ [x]) g1 ((h2.append (Same.refl [x])).trans g2)
    simpa [List.append_assoc] using this
theorem isort_spec (ho : Ord lt) (l : List α) : Srt lt (isort lt l) ∧ Same lt l (isort lt l) := by
  have := isort_go ho l [] [] List.Pairwise.nil (Same.refl _)
  simpa [isort] using this
theorem ord_by {k : K → K → Bool} (ho : Ord k) (f : α → K) : Ord fun x y => k (f x) (f y) := ⟨fun _ _ => ho.asym _ _, fun _ _ _ => ho.nt _ _ _⟩
theorem same_map {k : K → K → Bool} {f : α → K} {g : β → K} {h : α → β} (e : ∀ x, g (h x) = f x) {l m : List α} (hs : ∀ q : K, l.filter (fun x => eqv k q (f x)) = m.filter (fun x => eqv k q (f x))) : Same (fun x y => k (g x) (g y)) (l.map h) (m.map h) := fun x => by
  rw [List.filter_map, List.filter_map]
  have e1 : (eqv (fun x y => k (g x) (g y)) x ∘ h) = fun z => eqv k (g x) (f z) := by
    funext z
    simp [eqv, e]
  rw [e1, hs]
/-- Rows that go together, pair by pair, sorted by keys that are the same in each pair. -/
theorem pair_sort {k : K → K → Bool} (ho : Ord k) {ka : α → K} {kb : β → K} {Z : List (α × β)} (hZ : ∀ z ∈ Z, ka z.1 = kb z.2) {L : List α} {X : List β}
    (hL : Srt (fun x y => k (ka x) (ka y)) L) (sL : Same (fun x y => k (ka x) (ka y)) (Z.map Prod.fst) L)
    (hX : Srt (fun x y => k (kb x) (kb y)) X) (sX : Same (fun x y => k (kb x) (kb y)) (Z.map Prod.snd) X) :
    ∃ Z' : List (α × β), Z'.map Prod.fst = L ∧ Z'.map Prod.snd = X ∧ ∀ z ∈ Z', z ∈ Z := by
  have hoz : Ord fun x y : α × β => k (ka x.1) (ka y.1) := ord_by ho fun z : α × β => ka z.1
  obtain ⟨g1, g2⟩ := isort_spec hoz Z
  refine ⟨isort (fun x y : α × β => k (ka x.1) (ka y.1)) Z, ?_, ?_, fun z hz => g2.symm.mem hoz hz⟩
  · refine uniq (ord_by ho ka) (List.pairwise_map.2 g1) hL (Same.trans (m := Z.map Prod.fst) (fun x => ?_) sL)
    rw [List.filter_map, List.filter_map]
    refine congrArg _ ?_
    by_cases hn : Z = []
    · subst hn; rfl
    · obtain ⟨z0, hz0⟩ := List.exists_mem_of_ne_nil _ hn
      exact (g2 (x, z0.2)).symm
  · have hm : ∀ z ∈ isort (fun x y : α × β => k (ka x.1) (ka y.1)) Z, ka z.1 = kb z.2 := fun z hz => hZ z (g2.symm.mem hoz hz)
    refine uniq (ord_by ho kb) (List.pairwise_map.2 (g1.imp_of_mem fun {a b} ha hb h => ?_)) hX (Same.trans (m := Z.map Prod.snd) (fun x => ?_) sX)
    · show k (kb b.2) (kb a.2) = false
      rw [← hm a ha, ← hm b hb]; exact h
    · rw [List.filter_map, List.filter_map]
      refine congrArg _ ?_
      have e1 : ∀ M : List (α × β), (∀ z ∈ M, ka z.1 = kb z.2) → ∀ q, M.filter (eqv (fun x y => k (kb x) (kb y)) q ∘ Prod.snd) = M.filter fun z => eqv k (kb q) (ka z.1) := fun M h q =>
        List.filter_congr fun z hz => by simp [eqv, h z hz]
      rw [e1 _ hm, e1 _ hZ]
      by_cases hc : ∃ z ∈ Z, eqv k (kb x) (ka z.1) = true
      · obtain ⟨z0, hz0, he⟩ := hc
        have e2 : ∀ M : List (α × β), M.filter (fun z => eqv k (kb x) (ka z.1)) = M.filter (eqv (fun x y : α × β => k (ka x.1) (ka y.1)) z0) := fun M =>
          List.filter_congr fun z hz => by
            obtain ⟨p1, p2⟩ := eqv_iff.1 he
            cases c1 : eqv k (kb x) (ka z.1) with
            | true =>
              obtain ⟨q1, q2⟩ := eqv_iff.1 c1
              exact (eqv_iff.2 ⟨ho.nt _ _ _ p2 q1, ho.nt _ _ _ q2 p1⟩).symm
            | false =>
              cases c2 : eqv (fun x y : α × β => k (ka x.1) (ka y.1)) z0 z with
              | false => rfl
              | true =>
                obtain ⟨q1, q2⟩ := eqv_iff.1 c2
                rw [eqv_iff.2 ⟨ho.nt _ _ _ p1 q1, ho.nt _ _ _ q2 p2⟩] at c1
                cases c1
        rw [e2, e2]
        exact (g2 z0).symm
      · have e3 : ∀ M : List (α × β), (∀ z ∈ M, z ∈ Z) → M.filter (fun z => eqv k (kb x) (ka z.1)) = [] := fun M h =>
          List.filter_eq_nil_iff.2 fun z hz he => hc ⟨z, h z hz, he⟩
        rw [e3 _ fun z hz => g2.symm.mem hoz hz, e3 _ fun z h => h]
end Go.Proofs.YtdhkndoglcnllaaGreatDoor.Stab
/- Entries read out of memory: keys and trees. -/
namespace Go.Proofs.YtdhkndoglcnllaaGreatDoor
open Go.RowKit
set_option linter.unusedSimpArgs false
set_option linter.unusedVariables false
abbrev KeyV := Int × Int
abbrev keyRd : Rd KeyV := .pair (.int .i64) (.int .i64)
theorem keyRd_ok : keyRd.Ok 2 := Rd.pair_ok (Rd.int_ok _) (Rd.int_ok _)
theorem ob_key (N : Nat) : OB Tryz.prog 24 keyRd (fun x => 0) (N + 1) :=
  (ob_struct (tot := 2) Tryz.underlying24 (by kernel_rfl) (obf_cons (s := 1) rfl (by kernel_rfl) (ob_int Tryz.underlying3 N) (obf_one (s := 1) rfl (by kernel_rfl) rfl (ob_int Tryz.underlying3 N)))).map id (fun h => h) (fun _ => Nat.zero_le _)
abbrev EntryV := (Int × Int) × DescV
abbrev entryRd (k : Nat) : Rd EntryV := .pair keyRd (descRd k)
theorem entryRd_ok (k : Nat) : (entryRd k).Ok 5 := Rd.pair_ok keyRd_ok (descRd_ok k)
theorem ob_entry (N : Nat) : OB Tryz.prog 29 (entryRd (N + 1)) (fun x => x.2.nodes) (N + 2) :=
  (ob_struct (tot := 5) Tryz.underlying29 (by kernel_rfl) (obf_cons (s := 2) rfl (by kernel_rfl) (ob_key N) (obf_one (s := 3) rfl (by kernel_rfl) rfl (ob_desc (N + 1))))).map id (fun h => h) (fun x => by show x.2.nodes ≤ 0 + x.2.nodes + 1; omega)
theorem ob_entries (N : Nat) : OB Tryz.prog 40 (.slice (entryRd (N + 1)) 5 56) (fun l => (l.map fun x => x.2.nodes).sum) (N + 3) :=
  (ob_slice Tryz.underlying40 (by kernel_rfl) (by kernel_rfl) (by omega) (entryRd_ok _) (ob_entry N)).map id (fun h => h) (fun l => Nat.le_succ _)
theorem descRd_cells' {k : Nat} {F : Foot} {w : World} {cs : List Value} {d : DescV} (h : descRd k F w cs d) : ∃ a n c, cs = [.int .i64 d.kind, .int .i64 d.n, .slice a n c] ∧ RowOf (descRd k) 3 40 F w a n c d.kids := by
  cases k with
  | zero => exact h.elim
  | succ k =>
    obtain ⟨a, n, c, h1, _, _, h4⟩ := h
    exact ⟨a, n, c, h1, h4.imp fun _ _ h => descRd_succ k h⟩
theorem descRd_wf {k : Nat} {F : Foot} {w : World} {cs : List Value} {d : DescV} (h : descRd k F w cs d) : (Lit.int .i64 d.kind).wf = true ∧ (Lit.int .i64 d.n).wf = true := by
  cases k with
  | zero => exact h.elim
  | succ k =>
    obtain ⟨a, n, c, _, h2, h3, _⟩ := h
    exact ⟨h2, h3⟩
/-- An entry of a row: where its cells lie, and what they show. -/
theorem RowOf.entry {k : Nat} {F : Foot} {w : World} {a : Option Addr} {n cap : Nat} {l : List EntryV} (h : RowOf (entryRd k) 5 56 F w a n cap l) (i : Nat) (hi : i < l.length) :
    ∃ b o, b < w.heap.size ∧ ∃ kn kd dk dn dl da dm dc, a = some ⟨b, o, none⟩ ∧ l[i] = ((kn, kd), DescV.mk dk dn dl) ∧ (w.cell? ⟨b, o + i * 5, none⟩ = some (.int .i64 kn) ∧ w.cell? ⟨b, o + i * 5 + 1, none⟩ = some (.int .i64 kd) ∧ w.cell? ⟨b, o + i * 5 + 2, none⟩ = some (.int .i64 dk) ∧ w.cell? ⟨b, o + i * 5 + 3, none⟩ = some (.int .i64 dn) ∧ w.cell? ⟨b, o + i * 5 + 4, none⟩ = some (.slice da dm dc)) ∧ (Lit.int .i64 kn).wf = true ∧ (Lit.int .i64 kd).wf = true ∧ descRd k F w [.int .i64 dk, .int .i64 dn, .slice da dm dc] (DescV.mk dk dn dl) := by
  obtain ⟨b, o, cs, h1, h2, _, _, h4, h5⟩ := h.at_ i _ (List.getElem?_eq_getElem hi)
  generalize l[i] = x at h5
  obtain ⟨⟨kn, kd⟩, d⟩ := x
  obtain ⟨_, _, rfl, ⟨_, _, rfl, ⟨rfl, hwn⟩, rfl, hwd⟩, hd⟩ := h5
  obtain ⟨da, dm, dc, rfl, hk⟩ := descRd_cells' hd
  obtain ⟨dk, dn, dl⟩ := d
  exact ⟨b, o, h2, kn, kd, dk, dn, dl, da, dm, dc, h1, rfl, ⟨h4 0 _ rfl, h4 1 _ rfl, h4 2 _ rfl, h4 3 _ rfl, h4 4 _ rfl⟩, hwn, hwd, hd⟩
theorem descRd_kids {k : Nat} {F : Foot} {w : World} {dk dn : Int} {dl : List DescV} {da : Option Addr} {dm dc : Nat} (h : descRd k F w [.int .i64 dk, .int .i64 dn, .slice da dm dc] (DescV.mk dk dn dl)) : RowOf (descRd k) 3 40 F w da dm dc dl := by
  obtain ⟨a, n, c, e, hr⟩ := descRd_cells' h
  cases e
  exact hr
namespace Stab
/-- How two keys stand to each other. -/
def cmpK (a b : KeyV) : Int := or2 (c3 a.1 b.1) (c3 a.2 b.2)
def ltK (a b : KeyV) : Bool := decide (cmpK a b < 0)
theorem cmpK_ways (a b : KeyV) : ((a.1 < b.1 ∨ (a.1 = b.1 ∧ a.2 < b.2)) ∧ cmpK a b = -1) ∨ ((b.1 < a.1 ∨ (b.1 = a.1 ∧ b.2 < a.2)) ∧ cmpK a b = 1) ∨ (a.1 = b.1 ∧ a.2 = b.2 ∧ cmpK a b = 0) := by
  unfold cmpK or2
  rcases c3_ways a.1 b.1 with ⟨h, e⟩ | ⟨h, e⟩ | ⟨h, e⟩ <;> rcases c3_ways a.2 b.2 with ⟨g, f⟩ | ⟨g, f⟩ | ⟨g, f⟩ <;> rw [e, f] <;> simp <;> omega
theorem ltK_iff {a b : KeyV} : ltK a b = true ↔ a.1 < b.1 ∨ (a.1 = b.1 ∧ a.2 < b.2) := by
  unfold ltK
  rw [decide_eq_true_iff]
  rcases cmpK_ways a b with ⟨h, e⟩ | ⟨h, e⟩ | ⟨h, h', e⟩ <;> rw [e] <;> simp <;> omega
theorem cmpK_eq {a b : KeyV} : cmpK a b = if ltK a b then -1 else if ltK b a then 1 else 0 := by
  have e1 : ∀ x y : KeyV, ltK x y = decide (x.1 < y.1 ∨ (x.1 = y.1 ∧ x.2 < y.2)) := fun x y => by rw [Bool.eq_iff_iff, ltK_iff, decide_eq_true_iff]
  rw [e1, e1]
  rcases cmpK_ways a b with ⟨h, e⟩ | ⟨h, e⟩ | ⟨h, h', e⟩ <;> rw [e]
  · rw [if_pos (decide_eq_true h)]
  · rw [if_neg (by rw [decide_eq_true_iff]; omega), if_pos (decide_eq_true h)]
  · rw [if_neg (by rw [decide_eq_true_iff]; omega), if_neg (by rw [decide_eq_true_iff]; omega)]
theorem ltK_ord : Ord ltK := by
  refine ⟨fun a b h => ?_, fun a b c h1 h2 => ?_⟩
  · cases e : ltK b a with
    | false => rfl
    | true =>
      have h1 := ltK_iff.1 h
      have h2 := ltK_iff.1 e
      omega
  · cases e : ltK a c with
    | false => rfl
    | true =>
      have h3 := ltK_iff.1 e
      have h1' : ¬ (a.1 < b.1 ∨ (a.1 = b.1 ∧ a.2 < b.2)) := fun h => by rw [ltK_iff.2 h] at h1; cases h1
      have h2' : ¬ (b.1 < c.1 ∨ (b.1 = c.1 ∧ b.2 < c.2)) := fun h => by rw [ltK_iff.2 h] at h2; cases h2
      omega
/-- Entries by their keys. -/
def sortE (l : List EntryV) : List EntryV := isort (fun x y => ltK x.1 y.1) l
end Stab
end Go.Proofs.YtdhkndoglcnllaaGreatDoor
/- A range over a function whose body goes on N times and then returns. -/
namespace Go.Proofs.YtdhkndoglcnllaaGreatDoor.Lex
open Go.RowKit
set_option linter.unusedVariables false
/-- How the last round must end. -/
def stopsAt (Z : World → Prop) (W : World) : Exit → Act → World → Prop
  | .ret, _, W' => KeepsOthers W W' ∧ Z W'
  | _, _, _ => False
theorem wp_rangeStop {α : Type} {F : Fence} {n : Nat} {P : Program} {g : Operand} {ps : Array Tmp} {assign body : Code} {Q : Exit → Act → World → Prop} {a : Act} {w : World}
    (hro : F.round = none) (h1 : 1 ≤ n) {gf : Nat} {lb : Array Value} (hg : a.eval g = .func (.func gf) #[] lb) (hFg : F.fn gf) (eg : ∀ args w, (callFunc gf args).run P w = .ok (.enter gf args) w)
    (encs : α → Array Value) (hps : ∀ x, (encs x).size = ps.size) (J : Nat → World → Prop) (Z : World → Prop) (Kp : World → World → Prop) (N : Nat) (h0 : J 0 w)
    (hKt : ∀ A B C, Kp A B → Kp B C → Kp A C) (hKp : ∀ W l o o', w.heap.size ≤ l → W.heap[l]? = some o → o.isCells = false → Kp W (W.putObj l o'))
    (hJb : ∀ i W W', J i W → Below W.heap.size W W' → J i W')
    (hJp : ∀ i W l o o', J i W → w.heap.size ≤ l → W.heap[l]? = some o → o.isCells = false → J i (W.putObj l o'))
    (hZb : ∀ W W', Z W → Below W.heap.size W W' → Z W')
    (hZp : ∀ W l o o', Z W → w.heap.size ≤ l → W.heap[l]? = some o → o.isCells = false → Z (W.putObj l o'))
    (hseq : ∀ (l : Nat) (K : Nat → World → Prop) (Zk : World → Prop) (W : World), Below w.heap.size w W → (∀ i W W', K i W → Below W.heap.size W W' → K i W') → (∀ W W', Zk W → Below W.heap.size W W' → Zk W') →
      (∀ i x W1, i < N → K i W1 → YieldAt F (n - 1 - 1) P l (encs x) W1 fun e W' => e = .returned (.bool true) ∧ K (i + 1) W' ∧ Kp W1 W') →
      (∀ x W1, K N W1 → YieldAt F (n - 1 - 1) P l (encs x) W1 fun e W' => e = .returned (.bool false) ∧ Zk W') → K 0 W →
      CallsIn F (n - 1) P gf (#[.func (.yield l) #[] #[]] ++ lb) W fun e W' => (∃ v, e = .returned v) ∧ Zk W')
    (a₁ : α → Act)
    (hassign : ∀ (l : Nat) (x : α) (W : World) (K : Act → World → Prop), K (a₁ x) W →
      assign.wpIn (F.inRound l) (n - 1 - 1) P (Exit.then K (fun _ _ _ => False)) { tmps := (ps.zip (encs x)).foldl (fun t (p, v) => t.setIfInBounds p v) a.tmps, defers := [] } W)
    (hbody : ∀ (l i : Nat) (x : α) (W : World), i < N → J i W → body.wpIn (F.inRound l) (n - 1 - 1) P (goesOn Kp J i W) (a₁ x) W)
    (hlast : ∀ (l : Nat) (x : α) (W : World), J N W → body.wpIn (F.inRound l) (n - 1 - 1) P (stopsAt Z W) (a₁ x) W)
    (hstop : ∀ (D : Nat) (W : World), w.heap.size ≤ D → Z W → W.heap[D]? = some (.deferred (some [])) → Code.ret.wpIn F n P Q { a with defers := { target := .collected D, args := #[] } :: a.defers } W) :
    (Code.rangeFunc g ps assign body).wpIn F n P Q a w := by
  refine wpIn_rangeFunc fun fn hfn => ?_
  rw [hro]
  obtain ⟨rec, hrec⟩ : ∃ rec : LoopState → Option Code → Loop, rec = fun st pe => { state := st, pending := pe, fn, tmps := a.tmps, params := ps, assign, body, defers := w.heap.size } := ⟨_, rfl⟩
  obtain ⟨W1, hW1⟩ : ∃ W1, (w.alloc (.deferred (some []))).alloc (.loop (rec .ready none)) = W1 := ⟨_, rfl⟩
  have hbW : Below w.heap.size w W1 := by rw [← hW1]; exact ((Below.refl _ w).alloc (Nat.le_refl _) _).alloc (by simp) _
  have hL1 : W1.heap[w.heap.size + 1]? = some (.loop (rec .ready none)) := by
    rw [← hW1]; have := World.alloc_heap_new (w.alloc (.deferred (some []))) (.loop (rec .ready none)); rwa [World.size_alloc] at this
  have hD1 : W1.heap[w.heap.size]? = some (.deferred (some [])) := by
    rw [← hW1]; exact (Below.heap_alloc _ _ _ (by simp)).trans (World.alloc_heap_new w _)
  refine ⟨w.heap.size + 1, [{ target := .collected w.heap.size, args := #[] }], W1, { target := .fn (.func gf) lb, args := #[.func (.yield (w.heap.size + 1)) #[] #[]] }, W1, gf,
    #[.func (.yield (w.heap.size + 1)) #[] #[]] ++ lb, W1, ?_, ?_, ?_, ?_, fun _ => h1, ?_⟩
  · rw [← hW1, hrec]; exact run_enterLoop_outer _ _ _ _ _
  · simp only [resolve, hg]
    simp [go_sem]
  · intro f' hf'; simp [Target.leads] at hf'; subst hf'; exact hFg
  · simp [invoke, go_sem, eg]
  · have stays : ∀ {k : Nat} {o : Obj} {A B : World}, A.heap[k]? = some o → Below A.heap.size A B → B.heap[k]? = some o := fun hk hb => (hb.block _ (Array.getElem?_eq_some_iff.1 hk).1).trans hk
    have begin_ : ∀ (x : α) (W : World) (R : Ending → World → Prop), W.heap[w.heap.size + 1]? = some (.loop (rec .ready none)) → W.heap[w.heap.size]? = some (.deferred (some [])) →
        (∀ (W2 : World), W2 = W.putObj (w.heap.size + 1) (.loop { rec .ready none with state := .busy }) → W2.heap[w.heap.size + 1]? = some (.loop { rec .ready none with state := .busy }) → W2.heap[w.heap.size]? = some (.deferred (some [])) →
          body.wpIn (F.inRound (w.heap.size + 1)) (n - 1 - 1) P (roundPost P (w.heap.size + 1) R) (a₁ x) W2) →
        YieldAt F (n - 1 - 1) P (w.heap.size + 1) (encs x) W R := by
      intro x W R hl hk hB
      have hy := run_yield (P := P) (args := encs x) hl (by rw [hrec]; exact hps x)
      rw [hrec] at hy
      have hlt : w.heap.size + 1 < W.heap.size := (Array.getElem?_eq_some_iff.1 hl).1
      exact ⟨fn, _, assign, body, hy, roundIn_of_wpIn hfn (hassign _ x W _ ⟨_, run_beginRound hl (by rw [hrec]), hB _ rfl (World.putObj_heap_same hlt) ((World.putObj_heap_other (by omega)).trans hk)⟩)⟩
    refine (hseq (w.heap.size + 1) (fun i W => J i W ∧ W.heap[w.heap.size + 1]? = some (.loop (rec .ready none)) ∧ W.heap[w.heap.size]? = some (.deferred (some [])))
      (fun W => Z W ∧ W.heap[w.heap.size + 1]? = some (.loop (rec .done (some .ret))) ∧ W.heap[w.heap.size]? = some (.deferred (some []))) W1 hbW
      (fun i A B h hb => ⟨hJb i A B h.1 hb, stays h.2.1 hb, stays h.2.2 hb⟩) (fun A B h hb => ⟨hZb A B h.1 hb, stays h.2.1 hb, stays h.2.2 hb⟩) ?_ ?_ ⟨hJb 0 w W1 h0 hbW, hL1, hD1⟩).mono ?_
    · rintro i x W hiN ⟨hi, hl, hk⟩
      refine begin_ x W _ hl hk fun W2 hW2 hl2 hk2 => ?_
      subst hW2
      refine wpIn_mono (hbody _ i x _ hiN (hJp i W _ _ _ hi (by omega) hl rfl)) ?_
      rintro e a3 W3 hp
      cases e with
      | normal =>
        obtain ⟨hk3, hkp, hi3⟩ := hp
        have hl3 := hk3.same _ _ hl2 rfl
        have hend := run_endRound (P := P) none hl3
        refine ⟨_, _, hend, rfl, ⟨hJp _ W3 _ _ _ hi3 (by omega) hl3 rfl, ?_, (World.putObj_heap_other (by omega)).trans (hk3.same _ _ hk2 rfl)⟩, hKt _ _ _ (hKp W _ _ _ (by omega) hl rfl) (hKt _ _ _ hkp (hKp W3 _ _ _ (by omega) hl3 rfl))⟩
        rw [World.putObj_heap_same (Array.getElem?_eq_some_iff.1 hl3).1, hrec]
        rfl
      | ret => exact hp.elim
      | exit id => exact hp.elim
      | goto t => exact hp.elim
      | panic ch => exact hp.elim
      | outgrown => exact hp.elim
    · rintro x W ⟨hi, hl, hk⟩
      refine begin_ x W _ hl hk fun W2 hW2 hl2 hk2 => ?_
      subst hW2
      refine wpIn_mono (hlast _ x _ (hJp N W _ _ _ hi (by omega) hl rfl)) ?_
      rintro e a3 W3 hp
      cases e with
      | ret =>
        obtain ⟨hk3, hi3⟩ := hp
        have hl3 := hk3.same _ _ hl2 rfl
        have hend := run_endRound (P := P) (some .ret) hl3
        refine ⟨_, _, hend, rfl, hZp W3 _ _ _ hi3 (by omega) hl3 rfl, ?_, (World.putObj_heap_other (by omega)).trans (hk3.same _ _ hk2 rfl)⟩
        rw [World.putObj_heap_same (Array.getElem?_eq_some_iff.1 hl3).1, hrec]
        rfl
      | normal => exact hp.elim
      | exit id => exact hp.elim
      | goto t => exact hp.elim
      | panic ch => exact hp.elim
      | outgrown => exact hp.elim
    · rintro e W2 ⟨⟨v, rfl⟩, hi, hl, hk⟩
      have hend := run_endLoop (P := P) hl (by rw [hrec]; simp)
      exact ⟨some .ret, _, by rw [hrec] at hend; exact hend, hstop _ _ (Nat.le_refl _) (hZp W2 _ _ _ hi (by omega) hl rfl) ((World.putObj_heap_other (by omega)).trans hk)⟩
end Go.Proofs.YtdhkndoglcnllaaGreatDoor.Lex
/- The range over a tree's nodes, left early. -/
namespace Go.Proofs.YtdhkndoglcnllaaGreatDoor.Lex
open Go.RowKit Go.Shelf
set_option linter.unusedSimpArgs false
set_option linter.unusedVariables false
attribute [local go_sem] Oper.semAt_some
set_option maxRecDepth 100000 in
set_option maxHeartbeats 4000000 in
theorem alls_step (k L N B0 N0 : Nat) (K : Nat → World → Prop) (hKb : ∀ i W W', K i W → Below W.heap.size W W' → K i W')
    (hY : ∀ (m i : Nat) (x : Value) (W1 : World), i < N → K i W1 → YieldAt Fence.wide m Tryz.prog L #[x] W1 fun e W' => e = .returned (.bool true) ∧ K (i + 1) W' ∧ KpN B0 N0 W1 W')
    (Z : World → Prop) (hYs : ∀ (m : Nat) (x : Value) (W1 : World), K N W1 → YieldAt Fence.wide m Tryz.prog L #[x] W1 fun e W' => e = .returned (.bool false) ∧ Z W')
    (ih : ∀ j, k = j + 1 → ∀ (kd nd : Int) (l : List DescV) (a : Option Addr) (n cap i : Nat) (W : World), RowOf (descRd j) 3 40 (fun b => b < B0) W a n cap l → K i W → N0 < W.heap.size → i ≤ N → N < i + 1 + DescV.nodesL l →
      Calls Tryz.prog 96 #[.agg #[.int .i64 kd, .int .i64 nd, .slice a n cap], .func (.yield L) #[] #[]] W fun e W' => e = .returned (.bool false) ∧ Z W')
    (kd nd : Int) (l : List DescV) (a : Option Addr) (n cap i : Nat) (W : World) (hl : RowOf (descRd k) 3 40 (fun b => b < B0) W a n cap l) (hK : K i W) (hN0 : N0 < W.heap.size) (hin : i ≤ N) (hi : N < i + 1 + DescV.nodesL l) :
      Calls Tryz.prog 96 #[.agg #[.int .i64 kd, .int .i64 nd, .slice a n cap], .func (.yield L) #[] #[]] W fun e W' => e = .returned (.bool false) ∧ Z W' := by
  have HLN := Lib.hid hl.len
  have HRM := Lib.hid hl.room
  have hn : n ≤ 3518437208880 := by have := hl.room; omega
  obtain ⟨W1, hW1⟩ : ∃ W1, W1 = W.alloc (.cells #[.int .i64 kd, .int .i64 nd, .slice a n cap] 27) := ⟨_, rfl⟩
  have hb1 : Below W.heap.size W W1 := by rw [hW1]; exact (Below.refl _ _).alloc (Nat.le_refl _) _
  have g1 : W1.heap[W.heap.size]? = some (.cells #[.int .i64 kd, .int .i64 nd, .slice a n cap] 27 (0, 0)) := by rw [hW1]; exact heap_alloc_new W _
  have hz1 : W.heap.size < W1.heap.size := by rw [hW1]; simp
  have hl1 := hl.keep (descRd_ok _) (Fix.of_below hb1)
  have HCL := Lib.hid (clone_any k _ kd nd l a n cap W1 hl1)
  have HL1 := Lib.hid hl1
  have HB1 := Lib.hid hb1
  have HG1 := Lib.hid g1
  have HK := Lib.hid hK
  have HKB := Lib.hid hKb
  have HY := Lib.hid hY
  have HYS := Lib.hid hYs
  have HIN := Lib.hid hin
  have HALL := Lib.hid (all_any L N B0 N0 K hKb hY)
  have HIH := Lib.hid ih
  have HI := Lib.hid hi
  have c0 := cell_at (o := 0) g1 rfl
  have c1 := cell_at (o := 1) g1 rfl
  have c2 := cell_at (o := 2) g1 rfl
  clear hl hl1 hb1 hK hKb hY hYs ih hi hin g1
  refine (callsIn_wide (n := 5)).1 ?_
  refine callsIn_of_wp Tryz.func96 rfl trivial ?_ rfl
  simp only [Tryz.ntmps96, List.size_toArray, List.length_cons, List.length_nil, Nat.reduceAdd, Nat.reduceSub, Array.replicate_succ, Array.replicate_zero, List.push_toArray, List.append_toArray, List.nil_append, List.cons_append]
  gi_wp2
  rw [← hW1]
  clear hW1
  refine ⟨trivial, ?_⟩
  refine (callsIn_wide.2 HCL.out).mono ?_
  rintro e w2 ⟨a2, cc2, rfl, hr2, hb2⟩
  have HB2 := Lib.hid hb2
  have hz2 : W.heap.size < w2.heap.size := Nat.lt_of_lt_of_le hz1 hb2.size
  have HB12 := Lib.hid (HB1.out.trans (hb2.mono HB1.out.size))
  by_cases hiN : i = N
  · subst hiN
    obtain ⟨fn, tmps, assign, body, hy, hR⟩ := HYS.out (5 - 1) (.agg #[.int .i64 kd, .int .i64 nd, .slice a2 n cc2]) w2 (HKB.out i W w2 HK.out HB12.out)
    clear hr2 hb2
    gi_wp2
    refine hR.mono ?_
    rintro e w3 ⟨rfl, hZ⟩
    have HZ := Lib.hid hZ
    clear hZ hy hR c0 c1 c2
    gi_wp2
    go_ret
    exact ⟨rfl, HZ.out⟩
  obtain ⟨fn, tmps, assign, body, hy, hR⟩ := HY.out (5 - 1) i (.agg #[.int .i64 kd, .int .i64 nd, .slice a2 n cc2]) w2 (by have := HIN.out; omega) (HKB.out i W w2 HK.out HB12.out)
  clear hr2 hb2
  gi_wp2
  refine hR.mono ?_
  rintro e w3 ⟨rfl, hK3, hkp3⟩
  have hkp : KpN B0 N0 W w3 := (KpN.of_below HB12.out).trans hkp3
  have g3 := hkp3.cells W.heap.size (by omega) _ _ _ ((HB2.out.block _ hz1).trans HG1.out)
  have d2 := cell_at (o := 2) g3 rfl
  have hz3 : W.heap.size < w3.heap.size := (Array.getElem?_eq_some_iff.1 g3).1
  have HK3 := Lib.hid hK3
  have HKP := Lib.hid hkp
  have HL3 := Lib.hid (HL1.out.keep (descRd_ok _) ((KpN.of_below HB2.out).trans hkp3).fix)
  clear hK3 hkp hkp3 hy hR c0 c1 c2 g3
  gi_wp2
  gi_loopg [15] n (fun gh iv wr => ∃ j : Nat, j ≤ n ∧ gh = n - j ∧ iv = .int .i64 (j : Int) ∧ i + 1 + DescV.nodesL (l.take j) ≤ N ∧ K (i + 1 + DescV.nodesL (l.take j)) wr ∧ KpN B0 N0 W wr ∧ KpN B0 N0 w3 wr)
  case atStart => exact ⟨0, by omega, rfl, rfl, by have := HIN.out; simp [DescV.nodesL]; omega, by simpa [DescV.nodesL] using HK3.out, HKP.out, KpN.refl _ _ _⟩
  case round =>
    obtain ⟨j, hj, rfl, rfl, hle, hKj, hkw, hk3⟩ := hrel
    obtain ⟨wo, rfl⟩ : ∃ wo : World, wo = wr := ⟨_, rfl⟩
    have HKJ := Lib.hid hKj
    have HKW := Lib.hid hkw
    have HK3W := Lib.hid hk3
    clear hKj hkw hk3
    by_cases hlt : j < n
    · obtain ⟨k, rfl⟩ : ∃ q, k = q + 1 := by
        cases k with
        | zero => exact absurd (row_no_zero HL1.out) (fun e => by have := HLN.out; rw [e] at this; simp at this; omega)
        | succ q => exact ⟨q, rfl⟩
      have hil : j < l.length := by have := HLN.out; omega
      obtain ⟨b, off, ax, nx, cx, rfl, hbw, _, _, _, hk, p0, p1, p2⟩ := (HL3.out.keep (descRd_ok _) HK3W.out.fix).desc j hil
      have HSUM := Lib.hid (DescV.nodesL_take_succ hil)
      have HLE := Lib.hid (DescV.nodesL_take_le l (j + 1))
      have HNK := Lib.hid (DescV.nodes_kids (l[j]'hil))
      generalize l[j]'hil = d at *
      obtain ⟨dk, dn, dl⟩ := d
      simp only [DescV.kind, DescV.n, DescV.kids] at p0 p1 p2 hk
      have HNK' : Hid ((DescV.mk dk dn dl).nodes = DescV.nodesL dl + 1) := HNK
      gi_wp2
      obtain ⟨W4, hW4⟩ : ∃ W4, W4 = wo.alloc (.cells #[.int .i64 dk, .int .i64 dn, .slice ax nx cx] 27) := ⟨_, rfl⟩
      have hb4 : Below wo.heap.size wo W4 := by rw [hW4]; exact (Below.refl _ _).alloc (Nat.le_refl _) _
      have HKW4 := Lib.hid (HKB.out _ _ _ HKJ.out hb4)
      have hz4 : N0 < W4.heap.size := by have := HKW.out.fix.size; have := hb4.size; omega
      have HC4 := Lib.hid (hk.keep (descRd_ok _) (Fix.of_below hb4))
      have HB4 := Lib.hid hb4
      by_cases htot : i + 1 + DescV.nodesL (l.take (j + 1)) ≤ N
      · have HIHC := Lib.hid (HALL.out k dk dn dl ax nx cx (i + 1 + DescV.nodesL (l.take j)) W4 HC4.out HKW4.out hz4 (by have := HSUM.out; have := HNK'.out; omega))
        have HTOT := Lib.hid htot
        rw [← hW4]
        clear hW4 hk p0 p1 p2 hb4 htot hz4 hle
        refine ⟨trivial, ?_⟩
        refine (callsIn_wide.2 HIHC.out).mono ?_
        rintro e w5 ⟨rfl, hK5, hkp5⟩
        have HK5 := Lib.hid hK5
        have HKP5 := Lib.hid ((KpN.of_below HB4.out : KpN B0 N0 wo W4).trans hkp5)
        clear hK5 hkp5
        gi_wp2
        gi_roundg (n - (j + 1))
        case measure => omega
        case rel =>
          refine ⟨j + 1, by omega, rfl, by go_num, HTOT.out, ?_, HKW.out.trans HKP5.out, HK3W.out.trans HKP5.out⟩
          rw [show i + 1 + DescV.nodesL (l.take (j + 1)) = i + 1 + DescV.nodesL (l.take j) + 1 + DescV.nodesL dl by rw [HSUM.out, HNK'.out]; omega]
          exact HK5.out
      · have HIHC := Lib.hid (HIH.out k rfl dk dn dl ax nx cx (i + 1 + DescV.nodesL (l.take j)) W4 HC4.out HKW4.out hz4 hle (by have := HSUM.out; have := HNK'.out; omega))
        rw [← hW4]
        clear hW4 hk p0 p1 p2 hb4 htot hz4 hle
        refine ⟨trivial, ?_⟩
        refine (callsIn_wide.2 HIHC.out).mono ?_
        rintro e w5 ⟨rfl, hZ⟩
        have HZ := Lib.hid hZ
        clear hZ
        gi_wp2
        go_ret
        exact ⟨rfl, HZ.out⟩
    · obtain rfl : j = n := by omega
      rw [List.take_of_length_le (by have := HLN.out; omega)] at hle
      have := HI.out
      omega
theorem alls_any (L N B0 N0 : Nat) (K : Nat → World → Prop) (hKb : ∀ i W W', K i W → Below W.heap.size W W' → K i W')
    (hY : ∀ (m i : Nat) (x : Value) (W1 : World), i < N → K i W1 → YieldAt Fence.wide m Tryz.prog L #[x] W1 fun e W' => e = .returned (.bool true) ∧ K (i + 1) W' ∧ KpN B0 N0 W1 W')
    (Z : World → Prop) (hYs : ∀ (m : Nat) (x : Value) (W1 : World), K N W1 → YieldAt Fence.wide m Tryz.prog L #[x] W1 fun e W' => e = .returned (.bool false) ∧ Z W') :
    ∀ (k : Nat) (kd nd : Int) (l : List DescV) (a : Option Addr) (n cap i : Nat) (W : World), RowOf (descRd k) 3 40 (fun b => b < B0) W a n cap l → K i W → N0 < W.heap.size → i ≤ N → N < i + 1 + DescV.nodesL l →
      Calls Tryz.prog 96 #[.agg #[.int .i64 kd, .int .i64 nd, .slice a n cap], .func (.yield L) #[] #[]] W fun e W' => e = .returned (.bool false) ∧ Z W'
  | 0 => alls_step 0 L N B0 N0 K hKb hY Z hYs fun j h => by omega
  | k + 1 => alls_step (k + 1) L N B0 N0 K hKb hY Z hYs fun j h => by
    obtain rfl : k = j := by omega
    exact alls_any L N B0 N0 K hKb hY Z hYs k
set_option maxRecDepth 100000 in
set_option maxHeartbeats 4000000 in
theorem all1s_any (L N B0 N0 : Nat) (K : Nat → World → Prop) (hKb : ∀ i W W', K i W → Below W.heap.size W W' → K i W')
    (hY : ∀ (m i : Nat) (x : Value) (W1 : World), i < N → K i W1 → YieldAt Fence.wide m Tryz.prog L #[x] W1 fun e W' => e = .returned (.bool true) ∧ K (i + 1) W' ∧ KpN B0 N0 W1 W')
    (Z : World → Prop) (hYs : ∀ (m : Nat) (x : Value) (W1 : World), K N W1 → YieldAt Fence.wide m Tryz.prog L #[x] W1 fun e W' => e = .returned (.bool false) ∧ Z W')
    (k m : Nat) (kd nd : Int) (l : List DescV) (a : Option Addr) (n cap B : Nat) (W : World) (hl : RowOf (descRd k) 3 40 (fun b => b < B0) W a n cap l) (hK : K 0 W) (hN0 : N0 < W.heap.size) (hi : N < 1 + DescV.nodesL l) (hB : W.heap[B]? = some (.cells #[.int .i64 kd, .int .i64 nd, .slice a n cap] 27 (0, 0))) :
    CallsIn Fence.wide m Tryz.prog 95 #[.func (.yield L) #[] #[], .pointer (some ⟨B, 0, none⟩)] W fun e W' => (∃ v, e = .returned v) ∧ Z W' := by
  have HA := Lib.hid (alls_any L N B0 N0 K hKb hY Z hYs k kd nd l a n cap 0 W hl hK hN0 (by omega) (by omega))
  have c0 := cell_at (o := 0) hB rfl
  have c1 := cell_at (o := 1) hB rfl
  have c2 := cell_at (o := 2) hB rfl
  clear hl hK hKb hY hYs hB
  refine callsIn_of_wp Tryz.func95 rfl trivial ?_ rfl
  simp only [Tryz.ntmps95, List.size_toArray, List.length_cons, List.length_nil, Nat.reduceAdd, Nat.reduceSub, Array.replicate_succ, Array.replicate_zero, List.push_toArray, List.append_toArray, List.nil_append, List.cons_append]
  gi_wp2
  refine ⟨trivial, fun h => (by cases h), ?_⟩
  refine (callsIn_wide.2 HA.out).mono ?_
  rintro e w1 ⟨rfl, hK1⟩
  have HK1 := Lib.hid hK1
  clear hK1
  gi_wp2
  go_end0
  exact ⟨⟨_, rfl⟩, HK1.out⟩
end Go.Proofs.YtdhkndoglcnllaaGreatDoor.Lex
/- valid.big, of trees of more nodes than may be: it is left early. -/
namespace Go.Proofs.YtdhkndoglcnllaaGreatDoor.Lex
open Go.RowKit Go.Shelf
set_option linter.unusedSimpArgs false
set_option linter.unusedVariables false
attribute [local go_sem] Oper.semAt_some
/-- Behind the round that returns. -/
structure ZB (w : World) (W : World) : Prop where
  res : W.heap[w.heap.size + 1]? = some (.cells #[.bool true] 4 (0, 0))
  below : Below w.heap.size w W
  size : w.heap.size + 4 ≤ W.heap.size
set_option maxRecDepth 100000 in
set_option maxHeartbeats 8000000 in
theorem bigV_more (k : Nat) (F : Foot) (kd nd : Int) (l : List DescV) (a : Option Addr) (n cap : Nat) (w : World) (hl : RowOf (descRd k) 3 40 F w a n cap l) (hm : 60 < 1 + DescV.nodesL l) :
    Calls Tryz.prog 66 #[.agg #[.int .i64 kd, .int .i64 nd, .slice a n cap]] w fun e w' => e = .returned (.bool true) ∧ Below w.heap.size w w' := by
  refine (callsIn_wide (n := 5)).1 ?_
  refine callsIn_of_wp_marks Tryz.func66 rfl trivial ?_ rfl
  simp only [Tryz.ntmps66, List.size_toArray, List.length_cons, List.length_nil, Nat.reduceAdd, Nat.reduceSub, Array.replicate_succ, Array.replicate_zero, List.push_toArray, List.append_toArray, List.nil_append, List.cons_append]
  have HL := Lib.hid (hl.mono (G := fun b => b < w.heap.size) (descRd_ok _) fun b hb _ => hb)
  have HM := Lib.hid hm
  clear hl hm
  gi_wp2
  refine ⟨trivial, ?_⟩
  refine (callsIn_wide.2 (allc_any kd nd a n cap _)).mono ?_
  rintro e w1 ⟨rfl, rfl⟩
  gi_wp2
  obtain ⟨W3, hW3⟩ : ∃ W3, W3 = ((((w.alloc (.cells #[.int .i64 kd, .int .i64 nd, .slice a n cap] 27)).alloc (.cells #[.bool false] 4)).alloc (.cells #[.int .i64 0] 3)).alloc (.cells #[.int .i64 kd, .int .i64 nd, .slice a n cap] 27)) := ⟨_, rfl⟩
  have hb3 : Below w.heap.size w W3 := by rw [hW3]; exact ((((Below.refl _ _).alloc (Nat.le_refl _) _).alloc (by simp) _).alloc (by simp; omega) _).alloc (by simp; omega) _
  have hz3 : W3.heap.size = w.heap.size + 4 := by rw [hW3]; simp
  have gs : W3.heap[w.heap.size]? = some (.cells #[.int .i64 kd, .int .i64 nd, .slice a n cap] 27 (0, 0)) ∧ W3.heap[w.heap.size + 1]? = some (.cells #[.bool false] 4 (0, 0)) ∧ W3.heap[w.heap.size + 1 + 1]? = some (.cells #[.int .i64 0] 3 (0, 0)) ∧ W3.heap[w.heap.size + 1 + 1 + 1]? = some (.cells #[.int .i64 kd, .int .i64 nd, .slice a n cap] 27 (0, 0)) := by
    rw [hW3]
    simp only [heap_alloc_iff, World.size_alloc]
    refine ⟨?_, ?_, ?_, ?_⟩ <;> simp
    all_goals omega
  obtain ⟨g0, g1, g2, g3⟩ := gs
  have HL3 := Lib.hid (HL.out.keep (descRd_ok _) (Fix.of_below hb3))
  rw [← hW3]
  clear hW3
  refine wp_rangeStop (α := Value) rfl (by omega) (gf := 95) (lb := #[.pointer (some ⟨w.heap.size + 1 + 1 + 1, 0, none⟩)]) rfl trivial (enters_of Tryz.func95 (by kernel_rfl) rfl) (fun x => #[x]) (fun x => rfl)
    (JB w kd nd (.slice a n cap)) (ZB w) (KpN w.heap.size (w.heap.size + 1 + 1)) 60 ?h0 ?hKt ?hKp ?hJb ?hJp ?hZb ?hZp ?hseq (fun x => { tmps := #[.agg #[.int .i64 kd, .int .i64 nd, .slice a n cap], .pointer (some ⟨w.heap.size, 0, none⟩), .pointer (some ⟨w.heap.size + 1, 0, none⟩), .pointer (some ⟨w.heap.size + 1 + 1, 0, none⟩), .agg #[.int .i64 kd, .int .i64 nd, .slice a n cap], .func (.func 95) #[] #[.pointer (some ⟨w.heap.size + 1 + 1 + 1, 0, none⟩)], x, undef, undef, undef, undef, undef, undef, undef], defers := [] }) ?assign ?body ?last ?stop
  case h0 => exact ⟨g2, g0, g1, hb3, by omega⟩
  case hKt => exact fun A B C h1 h2 => h1.trans h2
  case hKp => exact fun W lo o o' hle hl ho => ⟨Fix.of_grown (grownBy_putObj' W lo o') (fun b _ hf e => by cases e; omega), fun b _ c T f e => putN_cells hl ho e⟩
  case hJb =>
    intro i W W' hj hb
    have hs := hj.size
    exact ⟨(hb.block _ (by omega)).trans hj.n, (hb.block _ (by omega)).trans hj.box, (hb.block _ (by omega)).trans hj.res, hj.below.trans (hb.mono (by omega)), Nat.le_trans hs hb.size⟩
  case hJp =>
    intro i W lo o o' hj hl hlo hoc
    have hs := hj.size
    exact ⟨putN_cells hlo hoc hj.n, putN_cells hlo hoc hj.box, putN_cells hlo hoc hj.res, putN_below hj.below (by omega) (by omega), by rw [World.putObj_size]; exact hs⟩
  case hZb =>
    intro W W' hj hb
    have hs := hj.size
    exact ⟨(hb.block _ (by omega)).trans hj.res, hj.below.trans (hb.mono (by omega)), Nat.le_trans hs hb.size⟩
  case hZp =>
    intro W lo o o' hj hl hlo hoc
    have hs := hj.size
    exact ⟨putN_cells hlo hoc hj.res, putN_below hj.below (by omega) (by omega), by rw [World.putObj_size]; exact hs⟩
  case hseq =>
    intro L K Z W hb hKb hZb hY hYs h0
    have hbW := hb3.trans (hb.mono (by omega))
    exact all1s_any L 60 w.heap.size (w.heap.size + 1 + 1) K hKb (fun m i x W1 hi hK => yieldN rfl m (hY i x W1 hi hK)) Z (fun m x W1 hK => yieldN rfl m (hYs x W1 hK)) k _ kd nd l a n cap (w.heap.size + 1 + 1 + 1) W (HL.out.keep (descRd_ok _) (Fix.of_below hbW)) h0 (by have := hb.size; omega) HM.out ((hb.block _ (by omega)).trans g3)
  case assign =>
    intro lo x W K hK
    dsimp only
    gi_wp2
    first
      | exact hK
      | exact (by kernel_rfl : #[(6 : Nat)].zip #[x] = #[(6, x)]) ▸ hK
      | (rw [show #[(6 : Nat)].zip #[x] = #[(6, x)] from rfl]; exact hK)
      | (have e : #[(6 : Nat)].zip #[x] = #[(6, x)] := by simp
         rw [e]; exact hK)
  case body =>
    intro lo i x W hi hj
    have HJ := Lib.hid hj
    have hi64 : (i : Int) + 1 ≤ 9223372036854775807 := by omega
    have hi60 : ¬ (60 : Int) < (i : Int) + 1 := by omega
    have t0 := cell_at (o := 0) hj.n rfl
    have f0 := free_at (o := 0) hj.n
    clear hj
    gi_wp2
    have hB : Below w.heap.size w (W.setCell ⟨w.heap.size + 1 + 1, 0, none⟩ (.int .i64 ((i : Int) + 1))) := HJ.out.below.setCell (by show w.heap.size ≤ w.heap.size + 1 + 1; omega) _
    refine ⟨KeepsOthers.setCell _ _ _, ⟨Fix.setCell _ _ _ (fun h => by have h' : w.heap.size + 1 + 1 < w.heap.size := h; omega), fun b hb c T f e => (Below.heap_setCell _ _ _ _ hb).trans e⟩, ⟨?_, (Below.heap_setCell _ _ _ _ (by show w.heap.size ≠ w.heap.size + 1 + 1; omega)).trans HJ.out.box, (Below.heap_setCell _ _ _ _ (by show w.heap.size + 1 ≠ w.heap.size + 1 + 1; omega)).trans HJ.out.res, hB, by have := HJ.out.size; simpa [World.setCell] using this⟩⟩
    have h := heap_set_at (o := 0) (.int .i64 ((i : Int) + 1)) HJ.out.n
    exact h
  case last =>
    intro lo x W hj
    have HJ := Lib.hid hj
    have t0 := cell_at (o := 0) hj.n rfl
    have f0 := free_at (o := 0) hj.n
    have r0 := cell_at (o := 0) hj.res rfl
    have fr0 := free_at (o := 0) hj.res
    clear hj
    gi_wp2
    have hs := HJ.out.size
    have hk := (KeepsOthers.setCell W ⟨w.heap.size + 1 + 1, 0, none⟩ (.int .i64 61)).trans (KeepsOthers.setCell _ ⟨w.heap.size + 1, 0, none⟩ (.bool true))
    have hr := (Below.heap_setCell W ⟨w.heap.size + 1 + 1, 0, none⟩ (.int .i64 61) (w.heap.size + 1) (by show w.heap.size + 1 ≠ w.heap.size + 1 + 1; omega)).trans HJ.out.res
    have hb := (HJ.out.below.setCell (p := ⟨w.heap.size + 1 + 1, 0, none⟩) (by show w.heap.size ≤ w.heap.size + 1 + 1; omega) (.int .i64 61)).setCell (p := ⟨w.heap.size + 1, 0, none⟩) (by show w.heap.size ≤ w.heap.size + 1; omega) (.bool true)
    exact ⟨hk, heap_set_at (o := 0) (.bool true) hr, hb, by simpa [World.setCell] using hs⟩
  case stop =>
    intro D W hD hz hdf
    have HZ := Lib.hid hz
    have HD := Lib.hid hdf
    have hsz := hz.size
    have t0 := cell_at (o := 0) hz.res rfl
    clear hz hdf
    gi_wp2
    refine ⟨by simp, .inl ⟨_, _, rfl, run_takeDeferred HD.out, ?_⟩⟩
    have hPP : Below w.heap.size w (W.putObj D (.deferred none)) := putN_below HZ.out.below (by omega) (by omega)
    have hc : (W.putObj D (.deferred none)).cell? ⟨w.heap.size + 1, 0, none⟩ = some (.bool true) := cell_at (putN_cells HD.out rfl HZ.out.res) rfl
    exact ⟨.bool true, by simp [results, Tryz.results66, go_sem, hc], rfl, hPP⟩
end Go.Proofs.YtdhkndoglcnllaaGreatDoor.Lex
/- Two calls of a region that draws its order, each giving its value in whatever world is met: their order is nothing. -/
namespace Go.Proofs.YtdhkndoglcnllaaGreatDoor.Lex
open Go
section
variable {P : Program} {ops : Array Oper} {Q : Exit → Act → World → Prop} {md : Region.Mode} {S : World → Prop}
theorem wpAnyH_one {i : Nat} {oi : Oper} {vi : Value} {fuel : Nat} {listed : Array Bool} {a : Act} {w : World} (hoi : ops[i]? = some oi) (hr : Region.ready md ops listed = [i]) (hS : S w)
    (hi : ∀ (W : World) (K : Act → World → Prop), S W → (∀ W', S W' → K (a.put oi.dst vi) W') → wpOp P ops Q i K a W)
    (rest : ∀ W, S W → wpAnyH P md ops Q S fuel (listed.setIfInBounds i true) (a.put oi.dst vi) W) : wpAnyH P md ops Q S (fuel + 1) listed a w := by
  refine wpAnyH_all hr (by simp) fun k hk => ?_
  obtain rfl := List.mem_singleton.1 hk
  exact hi w _ hS fun W' h' => ⟨h', rest W' h'⟩
theorem wpAnyH_pair {i j : Nat} {oi oj : Oper} {vi vj : Value} {fuel : Nat} {listed : Array Bool} {a : Act} {w : World} (hoi : ops[i]? = some oi) (hoj : ops[j]? = some oj) (hne : i ≠ j)
    (hr : Region.ready md ops listed = [i, j]) (hr1 : Region.ready md ops (listed.setIfInBounds i true) = [j]) (hr2 : Region.ready md ops (listed.setIfInBounds j true) = [i]) (hS : S w)
    (hi : ∀ (W : World) (K : Act → World → Prop), S W → (∀ W', S W' → K (a.put oi.dst vi) W') → wpOp P ops Q i K a W)
    (hij : ∀ (W : World) (K : Act → World → Prop), S W → (∀ W', S W' → K ((a.put oi.dst vi).put oj.dst vj) W') → wpOp P ops Q j K (a.put oi.dst vi) W)
    (hj : ∀ (W : World) (K : Act → World → Prop), S W → (∀ W', S W' → K (a.put oj.dst vj) W') → wpOp P ops Q j K a W)
    (hji : ∀ (W : World) (K : Act → World → Prop), S W → (∀ W', S W' → K ((a.put oj.dst vj).put oi.dst vi) W') → wpOp P ops Q i K (a.put oj.dst vj) W)
    (hc : (a.put oj.dst vj).put oi.dst vi = (a.put oi.dst vi).put oj.dst vj)
    (rest : ∀ W, S W → wpAnyH P md ops Q S fuel ((listed.setIfInBounds i true).setIfInBounds j true) ((a.put oi.dst vi).put oj.dst vj) W) : wpAnyH P md ops Q S (fuel + 2) listed a w := by
  refine wpAnyH_all hr (by simp) fun k hk => ?_
  simp only [List.mem_cons, List.not_mem_nil, or_false] at hk
  rcases hk with rfl | rfl
  · refine hi w _ hS fun W' h' => ⟨h', wpAnyH_all hr1 (by simp) fun k' hk' => ?_⟩
    obtain rfl := List.mem_singleton.1 hk'
    exact hij W' _ h' fun W2 h2 => ⟨h2, rest W2 h2⟩
  · refine hj w _ hS fun W' h' => ⟨h', wpAnyH_all hr2 (by simp) fun k' hk' => ?_⟩
    obtain rfl := List.mem_singleton.1 hk'
    refine hji W' _ h' fun W2 h2 => ⟨h2, ?_⟩
    rw [hc, Array.setIfInBounds_comm _ _ (Ne.symm hne)]
    exact rest W2 h2
/-- Two strings joined: their length is an int. -/
theorem yieldsIf_cat {op : Oper} {a : Act} (hw : Region.wanted op (yielded ops a.tmps) = true) (ty ty' : TypeId) (x y : Operand) (ho : op.op = .binOp .add ty x y ty') (s t : ByteArray) (hx : a.eval x = .string s) (hy : a.eval y = .string t)
    (hs : (s ++ t).size ≤ 9223372036854775807) : YieldsIf P ops S op (.string (s ++ t)) a :=
  .inl ⟨hw, fun w _ => by
    rw [ByteArray.size_append] at hs
    have hadd := run_string_add_sum (P := P) w s t hs
    unfold execOp
    simp only [ho, hx, hy, eqGuard, binOp]
    simp [hadd, go_sem]⟩
end
end Go.Proofs.YtdhkndoglcnllaaGreatDoor.Lex
/- The reference's Much of a row of entries. -/
namespace Go.Proofs.YtdhkndoglcnllaaGreatDoor.Lex
open Go.RowKit Stab
set_option linter.unusedSimpArgs false
set_option linter.unusedVariables false
def MuchPost (n : Nat) (l : List EntryV) (w : World) (e : Ending) (w' : World) : Prop := ∃ t : Bool, e = .returned (.bool t) ∧ (t = false → n ≤ 30 ∧ ∀ x ∈ l, x.2.nodes ≤ 80) ∧ Below w.heap.size w w'
set_option maxRecDepth 100000 in
set_option maxHeartbeats 4000000 in
theorem much24_any (k : Nat) (l : List EntryV) (a : Option Addr) (n cap : Nat) (w : World) (hl : RowOf (entryRd k) 5 56 All w a n cap l) (hm : ∀ x ∈ l, x.2.nodes ≤ 1048576) :
    Calls Tryz.prog 10 #[.slice a n cap] w (MuchPost n l w) := by
  have HLN := Lib.hid hl.len
  have HL := Lib.hid hl
  have HM := Lib.hid hm
  have hroom := hl.room
  clear hl hm
  go_enter Tryz.func10, Tryz.ntmps10
  go_upto_region 2 with fail
  go_loopg [3] n (fun g iv wr => ∃ i : Nat, i ≤ n ∧ i ≤ 40 ∧ g = n - i ∧ iv = .int .i64 i ∧ (∀ x ∈ l.take i, x.2.nodes ≤ 80) ∧ Below w.heap.size w wr)
  case atStart => exact ⟨0, by omega, by omega, rfl, rfl, by simp, Below.refl _ _⟩
  case round =>
    obtain ⟨i, hi, hi40, rfl, rfl, hall, hB⟩ := hrel
    obtain ⟨wo, rfl⟩ : ∃ wo : World, wo = wr := ⟨_, rfl⟩
    have HALL := Lib.hid hall
    have HB := Lib.hid hB
    clear hall hB
    by_cases hlt : i < n
    · have hlti : (i : Int) < (n : Int) := by omega
      by_cases h40 : i < 40
      · have h40i : (i : Int) < 40 := by omega
        have hil : i < l.length := by rw [HLN.out]; exact hlt
        obtain ⟨b, o, hbw, kn, kd, dk, dn, dl, da, dm, dc, rfl, hx, ⟨p0, p1, p2, p3, p4⟩, _, _, hk⟩ := (HL.out.keep (entryRd_ok _) (Fix.of_below HB.out)).entry i hil
        have HMD : Hid (DescV.nodesL dl < 1048576) := Lib.hid (by
          have h := HM.out _ (List.getElem_mem hil)
          rw [hx, DescV.nodes_kids] at h
          exact h)
        have HC := Lib.hid (much_any k All dk dn dl da dm dc wo (descRd_kids hk) HMD.out)
        have HTK := Lib.hid (List.take_succ_eq_append_getElem hil)
        rw [hx] at HTK
        clear hx hk
        by_cases h80 : 80 < (DescV.mk dk dn dl).nodes
        · have HD : Hid (decide (80 < (DescV.mk dk dn dl).nodes) = true) := Lib.hid (decide_eq_true h80)
          clear h80
          go_wp2_with (go_at_call 25; (with_reducible refine HC.out.mono ?_); rintro e w2 ⟨rfl, hb2⟩; rw [HD.out]; have HB2 := Lib.hid (HB.out.trans (hb2.mono HB.out.size)); clear hb2)
          go_ret
          exact ⟨_, rfl, (fun h => by cases h), HB2.out⟩
        · have HD : Hid (decide (80 < (DescV.mk dk dn dl).nodes) = false) := Lib.hid (decide_eq_false h80)
          have H80 : Hid ((DescV.mk dk dn dl).nodes ≤ 80) := Lib.hid (by omega)
          clear h80
          go_wp2_with (go_at_call 25; (with_reducible refine HC.out.mono ?_); rintro e w2 ⟨rfl, hb2⟩; rw [HD.out]; have HB2 := Lib.hid (HB.out.trans (hb2.mono HB.out.size)); clear hb2)
          go_roundg (n - (i + 1))
          case measure => omega
          case rel =>
            refine ⟨i + 1, by omega, by omega, rfl, by go_num, fun x hx => ?_, HB2.out⟩
            rw [HTK.out] at hx
            rcases List.mem_append.1 hx with hx | hx
            · exact HALL.out x hx
            · rw [List.mem_singleton.1 hx]; exact H80.out
      · have h40i : ¬ (i : Int) < 40 := by omega
        have h40b : decide ((i : Int) < 40) = false := decide_eq_false h40i
        have h30 : (30 : Int) < (n : Int) := by omega
        go_wp2_with fail
        go_ret
        exact ⟨_, rfl, (fun h => by simp at h), HB.out⟩
    · obtain rfl : i = n := by omega
      have HA2 : Hid (∀ x ∈ l, x.2.nodes ≤ 80) := Lib.hid (by have h := HALL.out; rw [List.take_of_length_le (by rw [HLN.out]; omega)] at h; exact h)
      go_wp2_with fail
      go_ret
      exact ⟨_, rfl, (fun h => ⟨by simp at h; omega, HA2.out⟩), HB.out⟩
end Go.Proofs.YtdhkndoglcnllaaGreatDoor.Lex
/- entry.Same; the reference's Line; valid.big of whatever tree. -/
namespace Go.Proofs.YtdhkndoglcnllaaGreatDoor.Lex
open Go.RowKit
set_option linter.unusedSimpArgs false
set_option linter.unusedVariables false
theorem bigAt_all {k : Nat} {kd nd : Int} {l : List DescV} : BigAt k kd nd l := by
  by_cases h : (DescV.mk kd nd l).nodes ≤ 60
  · exact bigAt_small h
  · intro F a n cap w hl
    have hn : (DescV.mk kd nd l).nodes = DescV.nodesL l + 1 := DescV.nodes_kids _
    have e : bigD (.mk kd nd l) = true := by
      unfold bigD
      exact decide_eq_true (.inl (by omega))
    rw [e]
    exact bigV_more k F kd nd l a n cap w hl (by omega)
set_option maxRecDepth 100000 in
set_option maxHeartbeats 4000000 in
theorem esame_any (k : Nat) (F G : Foot) (a1 a2 b1 b2 ka na kb nb : Int) (la lb : List DescV) (da db : Option Addr) (ma mb ca cb : Nat) (w : World) (ha : RowOf (descRd k) 3 40 F w da ma ca la) (hb : RowOf (descRd k) 3 40 G w db mb cb lb) :
    Calls Tryz.prog 13 #[.agg #[.int .i64 a1, .int .i64 a2, .int .i64 ka, .int .i64 na, .slice da ma ca], .agg #[.int .i64 b1, .int .i64 b2, .int .i64 kb, .int .i64 nb, .slice db mb cb]] w
      fun e w' => e = .returned (.bool (sameE ((a1, a2), .mk ka na la) ((b1, b2), .mk kb nb lb))) ∧ Below w.heap.size w w' := by
  have hb0 : Below w.heap.size w ((w.alloc (.cells #[.int .i64 a1, .int .i64 a2, .int .i64 ka, .int .i64 na, .slice da ma ca] 29)).alloc (.cells #[.int .i64 b1, .int .i64 b2, .int .i64 kb, .int .i64 nb, .slice db mb cb] 29)) := ((Below.refl _ _).alloc (Nat.le_refl _) _).alloc (by simp) _
  have HA := Lib.hid (ha.keep (descRd_ok _) (Fix.of_below hb0))
  have HB := Lib.hid (hb.keep (descRd_ok _) (Fix.of_below hb0))
  have HB0 := Lib.hid hb0
  clear hb0 ha hb
  by_cases h1 : a1 = b1
  · by_cases h2 : a2 = b2
    · subst h1
      subst h2
      have HR : Hid (sameE ((a1, a2), .mk ka na la) ((a1, a2), .mk kb nb lb) = decide (cmpD (.mk ka na la) (.mk kb nb lb) = 0)) := Lib.hid (by simp [sameE])
      go_enter Tryz.func13, Tryz.ntmps13
      go_wp2_with (go_at_call 28; (with_reducible refine (dsame_any k F G ka na kb nb la lb da db ma mb ca cb _ HA.out HB.out).mono ?_); rintro e w2 ⟨rfl, hb2⟩; have HB2 := Lib.hid (HB0.out.trans (hb2.mono HB0.out.size)); clear hb2)
      go_ret
      exact ⟨by rw [HR.out]; rfl, HB2.out⟩
    · subst h1
      have hb : (a2 == b2) = false := by simpa using h2
      have HR : Hid (sameE ((a1, a2), .mk ka na la) ((a1, b2), .mk kb nb lb) = false) := Lib.hid (by simp [sameE, h2])
      go_enter Tryz.func13, Tryz.ntmps13
      go_wp2_with fail
      go_ret
      exact ⟨by rw [HR.out]; rfl, HB0.out⟩
  · have hb : (a1 == b1) = false := by simpa using h1
    have HR : Hid (sameE ((a1, a2), .mk ka na la) ((b1, b2), .mk kb nb lb) = false) := Lib.hid (by simp [sameE, h1])
    go_enter Tryz.func13, Tryz.ntmps13
    go_wp2_with fail
    go_ret
    exact ⟨by rw [HR.out]; rfl, HB0.out⟩
set_option maxRecDepth 100000 in
set_option maxHeartbeats 4000000 in
theorem rline_any (k : Nat) (F : Foot) (kn kr : Nat) (kd nd : Int) (l : List DescV) (a : Option Addr) (n cap : Nat) (t : List UInt8) (w : World) (h1 : kn ≤ 999999999) (h2 : kr ≤ 999999999) (hl : RowOf (descRd k) 3 40 F w a n cap l) (hm : DescV.nodesL l < 1048576) (ht : textD (.mk kd nd l) = some t)
    (z1 : (bs (Lib.decDigits kn)).size ≤ 20) (z2 : (bs (Lib.decDigits kr)).size ≤ 20) (z3 : (bs t).size ≤ 20971520) :
    Calls Tryz.prog 14 #[.agg #[.int .i64 kn, .int .i64 kr, .int .i64 kd, .int .i64 nd, .slice a n cap]] w fun e w' => e = .returned (.string (bs (lineE kn kr t))) ∧ Below w.heap.size w w' := by
  obtain ⟨W1, hW1⟩ : ∃ W1, W1 = w.alloc (.cells #[.int .i64 kn, .int .i64 kr, .int .i64 kd, .int .i64 nd, .slice a n cap] 29) := ⟨_, rfl⟩
  have hb1 : Below w.heap.size w W1 := by rw [hW1]; exact (Below.refl _ _).alloc (Nat.le_refl _) _
  have g1 : W1.heap[w.heap.size]? = some (.cells #[.int .i64 kn, .int .i64 kr, .int .i64 kd, .int .i64 nd, .slice a n cap] 29 (0, 0)) := by rw [hW1]; exact heap_alloc_new w _
  have hz1 : w.heap.size < W1.heap.size := by rw [hW1]; simp
  have HB := Lib.hid hb1
  have HS : Hid (∀ W, Below W1.heap.size W1 W → W.cell? ⟨w.heap.size, 0, none⟩ = some (.int .i64 (kn : Int)) ∧ W.cell? ⟨w.heap.size, 1, none⟩ = some (.int .i64 (kr : Int)) ∧ W.cell? ⟨w.heap.size, 2, none⟩ = some (.int .i64 kd) ∧ W.cell? ⟨w.heap.size, 3, none⟩ = some (.int .i64 nd) ∧ W.cell? ⟨w.heap.size, 4, none⟩ = some (.slice a n cap)) := Lib.hid fun W hb => by
    have g := (hb.block _ hz1).trans g1
    exact ⟨cell_at g rfl, cell_at g rfl, cell_at g rfl, cell_at g rfl, cell_at g rfl⟩
  have HA : Hid (∀ W, Calls Tryz.prog 29 #[.int .i64 kn] W fun e w' => e = .returned (.string (bs (Lib.decDigits kn))) ∧ W = w') := Lib.hid fun W => rdig kn W (by omega)
  have HR : Hid (∀ W, Calls Tryz.prog 29 #[.int .i64 kr] W fun e w' => e = .returned (.string (bs (Lib.decDigits kr))) ∧ W = w') := Lib.hid fun W => rdig kr W (by omega)
  have HT : Hid (∀ W, Below W1.heap.size W1 W → Calls Tryz.prog 30 #[.agg #[.int .i64 kd, .int .i64 nd, .slice a n cap]] W fun e w' => e = .returned (.string (bs t)) ∧ Below W1.heap.size W1 w') := Lib.hid fun W hb => (rtext_any k F kd nd l a n cap W t (hl.keep (descRd_ok _) (Fix.of_below (hb1.trans (hb.mono hb1.size)))) hm ht).mono fun e w' h => ⟨h.1, hb.trans (h.2.mono hb.size)⟩
  have HE : Hid (bs (Lib.decDigits kn) ++ ⟨#[32]⟩ ++ bs (Lib.decDigits kr) ++ ⟨#[32]⟩ ++ bs t = bs (lineE kn kr t)) := Lib.hid (by
    rw [show (⟨#[32]⟩ : ByteArray) = bs [32] from rfl, bs_bs, bs_bs, bs_bs, bs_bs, lineE, Int.toNat_natCast, Int.toNat_natCast])
  have hbz := Below.refl W1.heap.size W1
  clear hb1 g1 hz1 hl ht h1 h2
  generalize bs (Lib.decDigits kn) = sA at *
  generalize bs (Lib.decDigits kr) = sB at *
  generalize bs t = sT at *
  have e1 : (⟨#[32]⟩ : ByteArray).size = 1 := rfl
  have y1 : (sA ++ ⟨#[32]⟩).size ≤ 21 := by rw [ByteArray.size_append]; omega
  have y2 : (sA ++ ⟨#[32]⟩ ++ sB).size ≤ 41 := by rw [ByteArray.size_append]; omega
  have y3 : (sA ++ ⟨#[32]⟩ ++ sB ++ ⟨#[32]⟩).size ≤ 42 := by rw [ByteArray.size_append]; omega
  have y4 : (sA ++ ⟨#[32]⟩ ++ sB ++ ⟨#[32]⟩ ++ sT).size ≤ 20971562 := by rw [ByteArray.size_append]; omega
  have HAY : Hid (∀ W, Below W1.heap.size W1 W → Calls Tryz.prog 29 #[.int .i64 kn] W fun e w' => e = .returned (.string sA) ∧ Below W1.heap.size W1 w') := Lib.hid fun W hb => (HA.out W).mono fun e w' h => ⟨h.1, h.2 ▸ hb⟩
  have HRY : Hid (∀ W, Below W1.heap.size W1 W → Calls Tryz.prog 29 #[.int .i64 kr] W fun e w' => e = .returned (.string sB) ∧ Below W1.heap.size W1 w') := Lib.hid fun W hb => (HR.out W).mono fun e w' h => ⟨h.1, h.2 ▸ hb⟩
  have HN := HS
  clear HS
  go_enter Tryz.func14, Tryz.ntmps14
  go_upto_region 1 with fail
  rw [← hW1]
  clear hW1
  have HS := Lib.hid hbz.drew
  refine wp_region_held (S := fun W => Below W1.heap.size W1 W) (by kernel_rfl) ?_
  change wpAnyH _ _ _ _ _ 16 #[false, false, false, false, false, false, false, false, false, false, false, false, false, false, false, false] _ W1.drew
  (refine wpAnyH_take (i := 0) (v := ?_) rfl (by kernel_rfl) (by kernel_rfl) (by kernel_rfl) (fun _ _ _ h => h) (Or.inl ⟨by rfl, ?_⟩) HS.out ?_; rotate_left 1; (focus (intro w0 hw0; clear hw0; go_simp; try with_reducible rfl)); simp only [Act.put, List.getElem_toArray, List.getElem_cons_zero, List.getElem_cons_succ, List.setIfInBounds_toArray, List.set_cons_zero, List.set_cons_succ])
  (refine wpAnyH_take (i := 1) (v := ?_) rfl (by kernel_rfl) (by kernel_rfl) (by kernel_rfl) (fun _ _ _ h => h) (Or.inl ⟨by rfl, ?_⟩) HS.out ?_; rotate_left 1; (focus (intro w0 hw0; clear hw0; go_simp; try with_reducible rfl)); simp only [Act.put, List.getElem_toArray, List.getElem_cons_zero, List.getElem_cons_succ, List.setIfInBounds_toArray, List.set_cons_zero, List.set_cons_succ])
  (refine wpAnyH_take (i := 2) (v := ?_) rfl (by kernel_rfl) (by kernel_rfl) (by kernel_rfl) (fun _ _ _ h => h) (Or.inl ⟨by rfl, ?_⟩) HS.out ?_; rotate_left 1; (focus (intro w0 hw0; obtain ⟨q1, q2, q3, q4, q5⟩ := HN.out w0 hw0; clear hw0; go_simp; try with_reducible rfl)); simp only [Act.put, List.getElem_toArray, List.getElem_cons_zero, List.getElem_cons_succ, List.setIfInBounds_toArray, List.set_cons_zero, List.set_cons_succ])
  (refine wpAnyH_take (i := 5) (v := ?_) rfl (by kernel_rfl) (by kernel_rfl) (by kernel_rfl) (fun _ _ _ h => h) (Or.inl ⟨by rfl, ?_⟩) HS.out ?_; rotate_left 1; (focus (intro w0 hw0; clear hw0; go_simp; try with_reducible rfl)); simp only [Act.put, List.getElem_toArray, List.getElem_cons_zero, List.getElem_cons_succ, List.setIfInBounds_toArray, List.set_cons_zero, List.set_cons_succ])
  (refine wpAnyH_take (i := 6) (v := ?_) rfl (by kernel_rfl) (by kernel_rfl) (by kernel_rfl) (fun _ _ _ h => h) (Or.inl ⟨by rfl, ?_⟩) HS.out ?_; rotate_left 1; (focus (intro w0 hw0; clear hw0; go_simp; try with_reducible rfl)); simp only [Act.put, List.getElem_toArray, List.getElem_cons_zero, List.getElem_cons_succ, List.setIfInBounds_toArray, List.set_cons_zero, List.set_cons_succ])
  (refine wpAnyH_take (i := 7) (v := ?_) rfl (by kernel_rfl) (by kernel_rfl) (by kernel_rfl) (fun _ _ _ h => h) (Or.inl ⟨by rfl, ?_⟩) HS.out ?_; rotate_left 1; (focus (intro w0 hw0; obtain ⟨q1, q2, q3, q4, q5⟩ := HN.out w0 hw0; clear hw0; go_simp; try with_reducible rfl)); simp only [Act.put, List.getElem_toArray, List.getElem_cons_zero, List.getElem_cons_succ, List.setIfInBounds_toArray, List.set_cons_zero, List.set_cons_succ])
  (refine wpAnyH_take (i := 11) (v := ?_) rfl (by kernel_rfl) (by kernel_rfl) (by kernel_rfl) (fun _ _ _ h => h) (Or.inl ⟨by rfl, ?_⟩) HS.out ?_; rotate_left 1; (focus (intro w0 hw0; clear hw0; go_simp; try with_reducible rfl)); simp only [Act.put, List.getElem_toArray, List.getElem_cons_zero, List.getElem_cons_succ, List.setIfInBounds_toArray, List.set_cons_zero, List.set_cons_succ])
  (refine wpAnyH_take (i := 12) (v := ?_) rfl (by kernel_rfl) (by kernel_rfl) (by kernel_rfl) (fun _ _ _ h => h) (Or.inl ⟨by rfl, ?_⟩) HS.out ?_; rotate_left 1; (focus (intro w0 hw0; obtain ⟨q1, q2, q3, q4, q5⟩ := HN.out w0 hw0; clear hw0; go_simp; try with_reducible rfl)); simp only [Act.put, List.getElem_toArray, List.getElem_cons_zero, List.getElem_cons_succ, List.setIfInBounds_toArray, List.set_cons_zero, List.set_cons_succ])
  (refine wpAnyH_one (i := 3) (vi := .string sA) rfl (by kernel_rfl) HS.out ?_ ?_; (focus (intro W K hW hK; (try simp only [Act.put, List.getElem_toArray, List.getElem_cons_zero, List.getElem_cons_succ, List.setIfInBounds_toArray, List.set_cons_zero, List.set_cons_succ]); refine wpOp_step rfl (fun K2 hK2 => ?_); go_simp; refine (HAY.out _ hW).mono ?_; rintro e w' ⟨rfl, hb⟩; exact hK2 _ _ (hK _ hb))); clear HS; intro wn hS; have HS := Lib.hid hS; clear hS; simp only [Act.put, List.getElem_toArray, List.getElem_cons_zero, List.getElem_cons_succ, List.setIfInBounds_toArray, List.set_cons_zero, List.set_cons_succ])
  (refine wpAnyH_take (i := 4) (v := _) rfl (by kernel_rfl) (by kernel_rfl) (by kernel_rfl) (fun _ _ _ h => h) (yieldsIf_cat (by rfl) _ _ _ _ rfl _ _ rfl rfl (Nat.le_trans y1 (by decide))) HS.out ?_; simp only [Act.put, List.getElem_toArray, List.getElem_cons_zero, List.getElem_cons_succ, List.setIfInBounds_toArray, List.set_cons_zero, List.set_cons_succ])
  (refine wpAnyH_one (i := 8) (vi := .string sB) rfl (by kernel_rfl) HS.out ?_ ?_; (focus (intro W K hW hK; (try simp only [Act.put, List.getElem_toArray, List.getElem_cons_zero, List.getElem_cons_succ, List.setIfInBounds_toArray, List.set_cons_zero, List.set_cons_succ]); refine wpOp_step rfl (fun K2 hK2 => ?_); go_simp; refine (HRY.out _ hW).mono ?_; rintro e w' ⟨rfl, hb⟩; exact hK2 _ _ (hK _ hb))); clear HS; intro wn hS; have HS := Lib.hid hS; clear hS; simp only [Act.put, List.getElem_toArray, List.getElem_cons_zero, List.getElem_cons_succ, List.setIfInBounds_toArray, List.set_cons_zero, List.set_cons_succ])
  (refine wpAnyH_take (i := 9) (v := _) rfl (by kernel_rfl) (by kernel_rfl) (by kernel_rfl) (fun _ _ _ h => h) (yieldsIf_cat (by rfl) _ _ _ _ rfl _ _ rfl rfl (Nat.le_trans y2 (by decide))) HS.out ?_; simp only [Act.put, List.getElem_toArray, List.getElem_cons_zero, List.getElem_cons_succ, List.setIfInBounds_toArray, List.set_cons_zero, List.set_cons_succ])
  (refine wpAnyH_take (i := 10) (v := _) rfl (by kernel_rfl) (by kernel_rfl) (by kernel_rfl) (fun _ _ _ h => h) (yieldsIf_cat (by rfl) _ _ _ _ rfl _ _ rfl rfl (Nat.le_trans y3 (by decide))) HS.out ?_; simp only [Act.put, List.getElem_toArray, List.getElem_cons_zero, List.getElem_cons_succ, List.setIfInBounds_toArray, List.set_cons_zero, List.set_cons_succ])
  (refine wpAnyH_one (i := 13) (vi := .string sT) rfl (by kernel_rfl) HS.out ?_ ?_; (focus (intro W K hW hK; (try simp only [Act.put, List.getElem_toArray, List.getElem_cons_zero, List.getElem_cons_succ, List.setIfInBounds_toArray, List.set_cons_zero, List.set_cons_succ]); refine wpOp_step rfl (fun K2 hK2 => ?_); go_simp; refine (HT.out _ hW).mono ?_; rintro e w' ⟨rfl, hb⟩; exact hK2 _ _ (hK _ hb))); clear HS; intro wn hS; have HS := Lib.hid hS; clear hS; simp only [Act.put, List.getElem_toArray, List.getElem_cons_zero, List.getElem_cons_succ, List.setIfInBounds_toArray, List.set_cons_zero, List.set_cons_succ])
  (refine wpAnyH_take (i := 14) (v := _) rfl (by kernel_rfl) (by kernel_rfl) (by kernel_rfl) (fun _ _ _ h => h) (yieldsIf_cat (by rfl) _ _ _ _ rfl _ _ rfl rfl (Nat.le_trans y4 (by decide))) HS.out ?_; simp only [Act.put, List.getElem_toArray, List.getElem_cons_zero, List.getElem_cons_succ, List.setIfInBounds_toArray, List.set_cons_zero, List.set_cons_succ])
  (refine wpAnyH_take (i := 15) (v := ?_) rfl (by kernel_rfl) (by kernel_rfl) (by kernel_rfl) (fun _ _ _ h => h) (Or.inl ⟨by rfl, ?_⟩) HS.out ?_; rotate_left 1; (focus (intro w0 hw0; clear hw0; go_simp; try with_reducible rfl)); simp only [Act.put, List.getElem_toArray, List.getElem_cons_zero, List.getElem_cons_succ, List.setIfInBounds_toArray, List.set_cons_zero, List.set_cons_succ])
  refine wpAnyH_done (by kernel_rfl) ?_ _
  rw [HE.out]
  go_wp2_with fail
  go_ret
  exact ⟨rfl, HB.out.trans (HS.out.mono HB.out.size)⟩
end Go.Proofs.YtdhkndoglcnllaaGreatDoor.Lex
/- An entry's line reads back as the entry. No function of the program. -/
namespace Go.Proofs.YtdhkndoglcnllaaGreatDoor.Lex
open Go.RowKit
set_option linter.unusedSimpArgs false
set_option linter.unusedVariables false
/-- Such bytes a word has. -/
def fineB (c : UInt8) : Bool := okb c && !(c == 32)
theorem dec_fine (n : Nat) : (Lib.decDigits n).all fineB = true := by
  have one : ∀ d : Fin 10, fineB (UInt8.ofNat (48 + d.1)) = true := by decide +kernel
  induction n using Nat.strongRecOn with
  | _ n ih =>
    by_cases h : n < 10
    · rw [decDigits_small h]
      simpa using one ⟨n, h⟩
    · rw [decDigits_big h, List.all_append, ih (n / 10) (by omega)]
      simpa using one ⟨n % 10, by omega⟩
theorem word_fine {k : Int} (h : 1 ≤ k ∧ k ≤ 7) : wordD k ≠ [] ∧ (wordD k).all fineB = true := by
  rcases (by omega : k = 1 ∨ k = 2 ∨ k = 3 ∨ k = 4 ∨ k = 5 ∨ k = 6 ∨ k = 7) with rfl | rfl | rfl | rfl | rfl | rfl | rfl <;> decide
theorem join_fine : ∀ ts : List (List UInt8), (∀ x ∈ ts, x.all fineB = true) → (Lib.join ts [44]).all fineB = true
  | [], _ => rfl
  | [a], h => by simpa [Lib.join] using h a (by simp)
  | a :: b :: r, h => by
    have ih := join_fine (b :: r) fun x hx => h x (List.mem_cons_of_mem _ hx)
    have ha := h a (by simp)
    rw [show Lib.join (a :: b :: r) [44] = a ++ [44] ++ Lib.join (b :: r) [44] by simp [Lib.join], List.all_append, List.all_append, ha, ih]
    decide
mutual
theorem textD_fine : ∀ {d : DescV} {t : List UInt8}, textD d = some t → t ≠ [] ∧ t.all fineB = true
  | .mk k n l, t, h => by
    rw [textD] at h
    split at h
    · next hok =>
      obtain ⟨ts, hts, rfl⟩ := Option.map_eq_some_iff.1 h
      have h1 := textsD_fine hts
      have hk := okH_iff.1 hok
      obtain ⟨w1, w2⟩ := word_fine ⟨hk.1, hk.2.1⟩
      refine ⟨by simp [w1], ?_⟩
      rw [List.all_append, List.all_append, w2, dec_fine]
      split
      · rfl
      · rw [List.all_append, List.all_append, join_fine ts h1]
        decide
    · cases h
theorem textsD_fine : ∀ {l : List DescV} {ts : List (List UInt8)}, textsD l = some ts → ∀ x ∈ ts, x.all fineB = true
  | [], ts, h => by cases h; simp
  | a :: l, ts, h => by
    rw [textsD] at h
    cases ha : textD a with
    | none => rw [ha] at h; cases h
    | some t =>
      rw [ha] at h
      obtain ⟨ts', hts, rfl⟩ := Option.map_eq_some_iff.1 h
      intro x hx
      rcases List.mem_cons.1 hx with rfl | hx
      · exact (textD_fine ha).2
      · exact textsD_fine hts x hx
end
theorem pieces_wordB : ∀ {x : List UInt8}, x.all fineB = true → pieces x = [x]
  | [], _ => rfl
  | c :: l, h => by
    rw [List.all_cons, Bool.and_eq_true] at h
    have h1 := h.1
    unfold fineB at h1
    simp at h1
    have ih := pieces_wordB h.2
    rw [pieces, if_neg h1.2, ih]
    rfl
theorem pieces_appB : ∀ {x : List UInt8} (l : List UInt8), x.all fineB = true → pieces (x ++ 32 :: l) = x :: pieces l
  | [], l, _ => by rw [List.nil_append, pieces, if_pos rfl]
  | c :: x, l, h => by
    rw [List.all_cons, Bool.and_eq_true] at h
    have h1 := h.1
    unfold fineB at h1
    simp at h1
    have ih := pieces_appB (x := x) l h.2
    rw [List.cons_append, pieces, if_neg h1.2, ih]
    rfl
theorem fine_ok {x : List UInt8} (h : x.all fineB = true) {c : UInt8} (hc : c ∈ x) : okb c = true := by
  have := List.all_eq_true.1 h c hc
  unfold fineB at this
  simp at this
  exact this.1
theorem wordsOf_three {a b c : List UInt8} (ha : a.all fineB = true) (hb : b.all fineB = true) (hc : c.all fineB = true) (na : a ≠ []) (nb : b ≠ []) (nc : c ≠ []) : wordsOf (a ++ [32] ++ b ++ [32] ++ c) = some [a, b, c] := by
  have e : pieces (a ++ [32] ++ b ++ [32] ++ c) = [a, b, c] := by
    rw [show a ++ [32] ++ b ++ [32] ++ c = a ++ 32 :: (b ++ 32 :: c) by simp, pieces_appB _ ha, pieces_appB _ hb, pieces_wordB hc]
  rw [wordsOf_ok (fun x hx => ?_) (by simp), e, if_neg]
  · intro h
    simp only [List.mem_cons, List.not_mem_nil, or_false] at h
    rcases h with h | h | h
    · exact na h.symm
    · exact nb h.symm
    · exact nc h.symm
  · simp only [List.mem_append, List.mem_singleton] at hx
    rcases hx with (((hx | rfl) | hx) | rfl) | hx
    · exact fine_ok ha hx
    · decide
    · exact fine_ok hb hx
    · decide
    · exact fine_ok hc hx
theorem parseD_text {d : DescV} {t : List UInt8} (h : textD d = some t) (hb : bigD d = false) : parseD t = (0, d) := by
  have hl := textD_len h
  have hn : d.nodes ≤ 60 := by
    unfold bigD at hb
    simp at hb
    omega
  rw [parseD, if_neg (by omega), treeT_iff.2 h]
  dsimp only
  rw [if_neg (by rw [hb]; decide)]
/-- What forE = 0 tells. -/
theorem forE_ok {n r : Int} {d : DescV} (h : forE n r d = 0) : 1 ≤ n ∧ n ≤ 16777216 ∧ (r = 0 ∨ r = 1) ∧ bigD d = false ∧ d.rightD = true := by
  unfold forE at h
  split at h
  · next hh =>
    split at h
    · next hr =>
      split at h
      · next hc =>
        unfold checkE at hc
        split at hc
        · cases hc
        · next hb =>
          split at hc
          · next hrd => exact ⟨(hasB_le hh).1, (hasB_le hh).2, hr, by simpa using hb, hrd⟩
          · cases hc
      · next hc => exact absurd h hc
    · cases h
  · cases h
theorem parseE_line {n r : Int} {d : DescV} {t : List UInt8} (hf : forE n r d = 0) (ht : textD d = some t) : parseE (lineE n r t) = (0, ((n, r), d)) := by
  obtain ⟨h1, h2, h3, h4, _⟩ := forE_ok hf
  have hn : ((n.toNat : Nat) : Int) = n := by omega
  have hr : ((r.toNat : Nat) : Int) = r := by omega
  obtain ⟨c1, c2⟩ := textD_fine ht
  have hw := wordsOf_three (dec_fine n.toNat) (dec_fine r.toNat) c2 (decDigits_ne _) (decDigits_ne _) c1
  have := parseE_three hw
  rw [numOf_digits (by omega), numOf_digits (by omega), parseD_text ht h4] at this
  dsimp only at this
  rw [hn, hr, if_pos rfl, if_pos hf] at this
  exact this
theorem lineE_len {n r : Int} {d : DescV} {t : List UInt8} (hf : forE n r d = 0) (ht : textD d = some t) : (Lib.decDigits n.toNat).length ≤ 19 ∧ (Lib.decDigits r.toNat).length ≤ 19 ∧ t.length ≤ 1200 ∧ (lineE n r t).length ≤ 1048576 := by
  obtain ⟨h1, h2, h3, h4, _⟩ := forE_ok hf
  have l1 := decDigits_len (n := n.toNat) (by omega)
  have l2 := decDigits_len (n := r.toNat) (by omega)
  have l3 := textD_len ht
  have hn : d.nodes ≤ 60 := by
    unfold bigD at h4
    simp at h4
    omega
  refine ⟨l1, l2, by omega, ?_⟩
  unfold lineE
  simp only [List.length_append, List.length_cons, List.length_nil]
  omega
/-- What may be has a text. -/
theorem forE_text {n r : Int} {d : DescV} (hf : forE n r d = 0) : ∃ t, textD d = some t := by
  obtain ⟨_, _, _, _, hr⟩ := forE_ok hf
  exact right_text hr
end Go.Proofs.YtdhkndoglcnllaaGreatDoor.Lex
/- The law EntryPrints. -/
namespace Go.Proofs.YtdhkndoglcnllaaGreatDoor.Lex
open Go.RowKit Stab
set_option linter.unusedSimpArgs false
set_option linter.unusedVariables false
/-- A tree's reading wants no more fuel than it has nodes. -/
theorem descRd_fit : ∀ (k m : Nat) {F : Foot} {w : World} {a : Option Addr} {n c : Nat} {l : List DescV}, RowOf (descRd k) 3 40 F w a n c l → DescV.nodesL l ≤ m → RowOf (descRd m) 3 40 F w a n c l
  | 0, m, F, w, a, n, c, l, h, _ => ⟨h.len, h.le, h.max, h.room, h.nil, fun i x hx => by
    obtain ⟨b, off, cs, h1, h2, h3, h4, h5, hr⟩ := h.at_ i x hx
    exact hr.elim⟩
  | j + 1, m, F, w, a, n, c, l, h, hm => ⟨h.len, h.le, h.max, h.room, h.nil, fun i x hx => by
    obtain ⟨b, off, cs, h1, h2, h3, h4, h5, a', n', c', e, w1, w2, hk⟩ := h.at_ i x hx
    obtain ⟨hil, hxe⟩ := List.getElem?_eq_some_iff.1 hx
    have s1 := DescV.nodesL_take_succ hil
    have s2 := DescV.nodesL_take_le l (i + 1)
    have s3 := DescV.nodes_kids x
    rw [hxe] at s1
    obtain ⟨m, rfl⟩ : ∃ q, m = q + 1 := ⟨m - 1, by omega⟩
    exact ⟨b, off, cs, h1, h2, h3, h4, h5, a', n', c', e, w1, w2, descRd_fit j m hk (by omega)⟩⟩
theorem pair_row (k : Nat) {cx cy : List Value} {x y : EntryV} (w : World) (hx : entryRd k All w cx x) (hy : entryRd k All w cy y) :
    RowOf (entryRd k) 5 56 All (w.alloc (.cells (cx ++ cy).toArray 29)) (some ⟨w.heap.size, 0, none⟩) 2 2 [x, y] := by
  have lx := (entryRd_ok k).len hx
  have ly := (entryRd_ok k).len hy
  have g := heap_alloc_new w (.cells (cx ++ cy).toArray 29)
  have hzz : w.heap.size < (w.alloc (.cells (cx ++ cy).toArray 29)).heap.size := by simp
  have hf : Fix All w (w.alloc (.cells (cx ++ cy).toArray 29)) := Fix.of_below ((Below.refl _ _).alloc (Nat.le_refl _) _)
  refine ⟨rfl, Nat.le_refl _, by unfold maxLen; omega, by omega, by simp, fun i z hz => ?_⟩
  match i, hz with
  | 0, hz =>
    obtain rfl : x = z := by simpa using hz
    refine ⟨_, 0, cx, rfl, hzz, trivial, lx, fun j u hu => cell_at g ?_, (entryRd_ok k).keep hx hf⟩
    have hj : j < cx.length := (List.getElem?_eq_some_iff.1 hu).1
    show (cx ++ cy).toArray[0 + 0 * 5 + j]? = some u
    rw [List.getElem?_toArray, List.getElem?_append_left (by omega), show 0 + 0 * 5 + j = j by omega]
    exact hu
  | 1, hz =>
    obtain rfl : y = z := by simpa using hz
    refine ⟨_, 0, cy, rfl, hzz, trivial, ly, fun j u hu => cell_at g ?_, (entryRd_ok k).keep hy hf⟩
    show (cx ++ cy).toArray[0 + 1 * 5 + j]? = some u
    rw [List.getElem?_toArray, List.getElem?_append_right (by omega), show 0 + 1 * 5 + j - cx.length = j by omega]
    exact hu
  | i + 2, hz => simp at hz
theorem entry_parts {k : Nat} {w : World} {n r kd nd : Int} {l : List DescV} {a : Option Addr} {m c : Nat} (h : entryRd k All w [.int .i64 n, .int .i64 r, .int .i64 kd, .int .i64 nd, .slice a m c] ((n, r), .mk kd nd l)) (hn : (DescV.mk kd nd l).nodes ≤ 1048576) :
    (∀ K, K = 1048576 → RowOf (descRd K) 3 40 All w a m c l) ∧ (Lit.int .i64 kd).wf = true ∧ (Lit.int .i64 nd).wf = true ∧ DescV.nodesL l < 1048576 := by
  obtain ⟨c1, c2, e, ⟨_, _, rfl, ⟨rfl, _⟩, rfl, _⟩, hd⟩ := h
  have e2 : c2 = [.int .i64 kd, .int .i64 nd, .slice a m c] := by simpa using e.symm
  subst e2
  have hk := DescV.nodes_kids (.mk kd nd l)
  have hk' : (DescV.mk kd nd l).nodes = DescV.nodesL l + 1 := hk
  refine ⟨fun K hK => descRd_fit k K (descRd_kids hd) (by omega), ?_⟩
  cases k with
  | zero => exact hd.elim
  | succ k =>
    obtain ⟨_, _, _, _, w1, w2, _⟩ := hd
    exact ⟨w1, w2, by omega⟩
theorem printE_ways (n r : Int) (d : DescV) : ∃ S, printE n r d = .tuple #[.string S, .int .i64 (forE n r d)] ∧ (forE n r d ≠ 0 → S = ⟨#[]⟩) ∧ (forE n r d = 0 → ∃ t, textD d = some t ∧ S = bs (lineE n r t)) := by
  by_cases h : forE n r d = 0
  · obtain ⟨t, ht⟩ := forE_text h
    exact ⟨bs (lineE n r t), by rw [printE, if_pos h, ht, h], fun h2 => absurd h h2, fun _ => ⟨t, ht, rfl⟩⟩
  · exact ⟨⟨#[]⟩, by rw [printE, if_neg h], fun _ => rfl, fun h2 => absurd h2 h⟩
set_option maxRecDepth 100000 in
set_option maxHeartbeats 8000000 in
theorem prints24 (k : Nat) (xn xr xk xd yn yr yk yd : Int) (xl yl : List DescV) (xa ya : Option Addr) (xm xc ym yc : Nat) (w : World)
    (hX : entryRd k All w [.int .i64 xn, .int .i64 xr, .int .i64 xk, .int .i64 xd, .slice xa xm xc] ((xn, xr), .mk xk xd xl)) (hY : entryRd k All w [.int .i64 yn, .int .i64 yr, .int .i64 yk, .int .i64 yd, .slice ya ym yc] ((yn, yr), .mk yk yd yl))
    (bx : (DescV.mk xk xd xl).nodes ≤ 1048576) (by_ : (DescV.mk yk yd yl).nodes ≤ 1048576) (hx : HasMax w) (ht : HasTab w) :
    Calls Tryz.prog 4 #[.agg #[.int .i64 xn, .int .i64 xr, .int .i64 xk, .int .i64 xd, .slice xa xm xc], .agg #[.int .i64 yn, .int .i64 yr, .int .i64 yk, .int .i64 yd, .slice ya ym yc]] w fun e w' => e = .returned (.bool true) ∧ Below w.heap.size w w' := by
  obtain ⟨W0, hW0⟩ : ∃ W0, W0 = (w.alloc (.cells #[.int .i64 xn, .int .i64 xr, .int .i64 xk, .int .i64 xd, .slice xa xm xc] 29)).alloc (.cells #[.int .i64 yn, .int .i64 yr, .int .i64 yk, .int .i64 yd, .slice ya ym yc] 29) := ⟨_, rfl⟩
  have hb0 : Below w.heap.size w W0 := by rw [hW0]; exact ((Below.refl _ _).alloc (Nat.le_refl _) _).alloc (by simp) _
  have hz0 : W0.heap.size = w.heap.size + 2 := by rw [hW0]; simp
  have gs : W0.heap[w.heap.size]? = some (.cells #[.int .i64 xn, .int .i64 xr, .int .i64 xk, .int .i64 xd, .slice xa xm xc] 29 (0, 0)) ∧ W0.heap[w.heap.size + 1]? = some (.cells #[.int .i64 yn, .int .i64 yr, .int .i64 yk, .int .i64 yd, .slice ya ym yc] 29 (0, 0)) := by
    rw [hW0]
    simp only [heap_alloc_iff, World.size_alloc]
    refine ⟨?_, ?_⟩ <;> simp
  obtain ⟨g0, g1⟩ := gs
  have HC : Hid (∀ W, Below W0.heap.size W0 W → W.cell? ⟨w.heap.size, 0, none⟩ = some (.int .i64 xn) ∧ W.cell? ⟨w.heap.size, 1, none⟩ = some (.int .i64 xr) ∧ W.cell? ⟨w.heap.size, 2, none⟩ = some (.int .i64 xk) ∧ W.cell? ⟨w.heap.size, 3, none⟩ = some (.int .i64 xd) ∧ W.cell? ⟨w.heap.size, 4, none⟩ = some (.slice xa xm xc) ∧ W.cell? ⟨w.heap.size + 1, 0, none⟩ = some (.int .i64 yn) ∧ W.cell? ⟨w.heap.size + 1, 1, none⟩ = some (.int .i64 yr) ∧ W.cell? ⟨w.heap.size + 1, 2, none⟩ = some (.int .i64 yk) ∧ W.cell? ⟨w.heap.size + 1, 3, none⟩ = some (.int .i64 yd) ∧ W.cell? ⟨w.heap.size + 1, 4, none⟩ = some (.slice ya ym yc)) := Lib.hid fun W hb => by
    have e0 := (hb.block _ (by omega)).trans g0
    have e1 := (hb.block _ (by omega)).trans g1
    exact ⟨cell_at e0 rfl, cell_at e0 rfl, cell_at e0 rfl, cell_at e0 rfl, cell_at e0 rfl, cell_at e1 rfl, cell_at e1 rfl, cell_at e1 rfl, cell_at e1 rfl, cell_at e1 rfl⟩
  obtain ⟨K, hK⟩ : ∃ K : Nat, K = 1048576 := ⟨_, rfl⟩
  obtain ⟨rx, wxk, wxd, nx⟩ := entry_parts hX bx
  obtain ⟨ry, wyk, wyd, ny⟩ := entry_parts hY by_
  have HRX : Hid (∀ W, Below W0.heap.size W0 W → RowOf (descRd K) 3 40 All W xa xm xc xl) := Lib.hid fun W hb => (rx K hK).keep (descRd_ok _) (Fix.of_below (hb0.trans (hb.mono hb0.size)))
  have HRY : Hid (∀ W, Below W0.heap.size W0 W → RowOf (descRd K) 3 40 All W ya ym yc yl) := Lib.hid fun W hb => (ry K hK).keep (descRd_ok _) (Fix.of_below (hb0.trans (hb.mono hb0.size)))
  have HM : Hid (∀ W, Below W0.heap.size W0 W → HasMax W) := Lib.hid fun W hb => (hx.below hb0).below hb
  have HTB : Hid (∀ W, Below W0.heap.size W0 W → HasTab W) := Lib.hid fun W hb => (ht.below hb0).below hb
  have HMU : Hid (Calls Tryz.prog 10 #[.slice (some ⟨W0.heap.size, 0, none⟩) 2 2] (W0.alloc (.cells #[.int .i64 xn, .int .i64 xr, .int .i64 xk, .int .i64 xd, .slice xa xm xc, .int .i64 yn, .int .i64 yr, .int .i64 yk, .int .i64 yd, .slice ya ym yc] 29)) fun e w' => (∃ t, e = .returned (.bool t)) ∧ Below W0.heap.size W0 w') := Lib.hid ((much24_any k [((xn, xr), .mk xk xd xl), ((yn, yr), .mk yk yd yl)] _ 2 2 _ (pair_row k W0 ((entryRd_ok k).keep hX (Fix.of_below hb0)) ((entryRd_ok k).keep hY (Fix.of_below hb0))) (fun z hz => by
      simp only [List.mem_cons, List.not_mem_nil, or_false] at hz
      rcases hz with rfl | rfl
      · exact bx
      · exact by_)).mono fun e w' h => by
        obtain ⟨t, he, _, hb⟩ := h
        have ha : Below W0.heap.size W0 (W0.alloc (.cells #[.int .i64 xn, .int .i64 xr, .int .i64 xk, .int .i64 xd, .slice xa xm xc, .int .i64 yn, .int .i64 yr, .int .i64 yk, .int .i64 yd, .slice ya ym yc] 29)) := (Below.refl _ _).alloc (Nat.le_refl _) _
        exact ⟨⟨t, he⟩, ha.trans (hb.mono ha.size)⟩)
  have HLV : Hid (∀ W, Below W0.heap.size W0 W → Calls Tryz.prog 5 #[] W fun e w' => e = .returned (.bool true) ∧ Below W0.heap.size W0 w') := Lib.hid fun W hb => (live24 W (HM.out W hb) (HTB.out W hb)).mono fun e w' h => ⟨h.1, hb.trans (h.2.mono hb.size)⟩
  obtain ⟨S, hS1, hS2, hS3⟩ := printE_ways xn xr (.mk xk xd xl)
  have HPR : Hid (∀ W, Below W0.heap.size W0 W → Calls Tryz.prog 9 #[.agg #[.int .i64 xn, .int .i64 xr, .int .i64 xk, .int .i64 xd, .slice xa xm xc]] W fun e w' => e = .returned (.tuple #[.string S, .int .i64 (forE xn xr (.mk xk xd xl))]) ∧ Below W0.heap.size W0 w') := Lib.hid fun W hb => (eprint_any K All xn xr xk xd xl xa xm xc W (HRX.out W hb) (by omega) nx bigAt_all (HM.out W hb) (HTB.out W hb)).mono fun e w' h => ⟨by rw [h.1, hS1], hb.trans (h.2.mono hb.size)⟩
  have HCK : Hid (∀ W, Below W0.heap.size W0 W → Calls Tryz.prog 11 #[.agg #[.int .i64 xn, .int .i64 xr, .int .i64 xk, .int .i64 xd, .slice xa xm xc]] W fun e w' => e = .returned (.int .i64 (forE xn xr (.mk xk xd xl))) ∧ Below W0.heap.size W0 w') := Lib.hid fun W hb => (rcheckE_any K All xn xr xk xd xl xa xm xc W (HRX.out W hb) nx wxk wxd).mono fun e w' h => ⟨h.1, hb.trans (h.2.mono hb.size)⟩
  have HEC : Hid (∀ W, Below W0.heap.size W0 W → Calls Tryz.prog 12 #[.agg #[.int .i64 xn, .int .i64 xr, .int .i64 xk, .int .i64 xd, .slice xa xm xc]] W fun e w' => e = .returned (.int .i64 (forE xn xr (.mk xk xd xl))) ∧ Below W0.heap.size W0 w') := Lib.hid fun W hb => (echeck_any K All xn xr xk xd xl xa xm xc W (HRX.out W hb) (by omega) bigAt_all).mono fun e w' h => ⟨h.1, hb.trans (h.2.mono hb.size)⟩
  have HSA : Hid (∀ W, Below W0.heap.size W0 W → Calls Tryz.prog 13 #[.agg #[.int .i64 xn, .int .i64 xr, .int .i64 xk, .int .i64 xd, .slice xa xm xc], .agg #[.int .i64 yn, .int .i64 yr, .int .i64 yk, .int .i64 yd, .slice ya ym yc]] W fun e w' => e = .returned (.bool (sameE ((xn, xr), .mk xk xd xl) ((yn, yr), .mk yk yd yl))) ∧ Below W0.heap.size W0 w') := Lib.hid fun W hb => (esame_any K All All xn xr yn yr xk xd yk yd xl yl xa ya xm ym xc yc W (HRX.out W hb) (HRY.out W hb)).mono fun e w' h => ⟨h.1, hb.trans (h.2.mono hb.size)⟩
  have HRS : Hid (∀ W, Below W0.heap.size W0 W → Calls Tryz.prog 8 #[.agg #[.int .i64 xn, .int .i64 xr, .int .i64 xk, .int .i64 xd, .slice xa xm xc], .agg #[.int .i64 yn, .int .i64 yr, .int .i64 yk, .int .i64 yd, .slice ya ym yc]] W fun e w' => e = .returned (.bool (sameE ((xn, xr), .mk xk xd xl) ((yn, yr), .mk yk yd yl))) ∧ Below W0.heap.size W0 w') := Lib.hid fun W hb => (same24_any K All All xn xr yn yr xk xd yk yd xl yl xa ya xm ym xc yc W (HRX.out W hb) (HRY.out W hb)).mono fun e w' h => ⟨h.1, hb.trans (h.2.mono hb.size)⟩
  have HSX : Hid (∀ W, Below W0.heap.size W0 W → Calls Tryz.prog 13 #[.agg #[.int .i64 xn, .int .i64 xr, .int .i64 xk, .int .i64 xd, .slice xa xm xc], .agg #[.int .i64 xn, .int .i64 xr, .int .i64 xk, .int .i64 xd, .slice xa xm xc]] W fun e w' => e = .returned (.bool true) ∧ Below W0.heap.size W0 w') := Lib.hid fun W hb => (esame_any K All All xn xr xn xr xk xd xk xd xl xl xa xa xm xm xc xc W (HRX.out W hb) (HRX.out W hb)).mono fun e w' h => ⟨by rw [h.1, sameE_self], hb.trans (h.2.mono hb.size)⟩
  have HPA : Hid (∀ t, forE xn xr (.mk xk xd xl) = 0 → textD (.mk xk xd xl) = some t → (∀ W, Below W0.heap.size W0 W → Calls Tryz.prog 6 #[.string (bs (lineE xn xr t))] W fun e w' => ∃ a' m' c', e = .returned (.tuple #[.agg #[.int .i64 xn, .int .i64 xr, .int .i64 xk, .int .i64 xd, .slice a' m' c'], .int .i64 0]) ∧ RowOf (descRd 16384) 3 40 All w' a' m' c' xl ∧ Below W0.heap.size W0 w') ∧
      ∀ W, Below W0.heap.size W0 W → Calls Tryz.prog 14 #[.agg #[.int .i64 xn, .int .i64 xr, .int .i64 xk, .int .i64 xd, .slice xa xm xc]] W fun e w' => e = .returned (.string (bs (lineE xn xr t))) ∧ Below W.heap.size W w') := Lib.hid fun t hf htx => by
    obtain ⟨f1, f2, f3, _, _⟩ := forE_ok hf
    obtain ⟨l1, l2, l3, l4⟩ := lineE_len hf htx
    refine ⟨fun W hb => (eparse (bs (lineE xn xr t)) W (by rw [size_bs]; exact l4) (HM.out W hb)).mono fun e w' h => ?_, fun W hb => ?_⟩
    · obtain ⟨a', m', c', he, hr, hb'⟩ := h
      rw [data_bs, parseE_line hf htx] at he hr
      exact ⟨a', m', c', he, hr.mono (descRd_ok _) (fun _ _ _ => trivial), hb.trans (hb'.mono hb.size)⟩
    · have h := rline_any K All xn.toNat xr.toNat xk xd xl xa xm xc t W (by omega) (by omega) (HRX.out W hb) nx htx (by rw [size_bs]; omega) (by rw [size_bs]; omega) (by rw [size_bs]; omega)
      rw [show ((xn.toNat : Nat) : Int) = xn by omega, show ((xr.toNat : Nat) : Int) = xr by omega] at h
      exact h
  have HSM : Hid (∀ W (a' : Option Addr) (m' c' : Nat), Below W0.heap.size W0 W → RowOf (descRd 16384) 3 40 All W a' m' c' xl → Calls Tryz.prog 8 #[.agg #[.int .i64 xn, .int .i64 xr, .int .i64 xk, .int .i64 xd, .slice a' m' c'], .agg #[.int .i64 xn, .int .i64 xr, .int .i64 xk, .int .i64 xd, .slice xa xm xc]] W fun e w' => e = .returned (.bool true) ∧ Below W0.heap.size W0 w') := Lib.hid fun W a' m' c' hb hr =>
    (same24_any K All All xn xr xn xr xk xd xk xd xl xl a' xa m' xm c' xc W (hr.imp fun _ _ h => descRd_mono (by omega) h) (HRX.out W hb)).mono fun e w' h => ⟨by rw [h.1, sameE_self], hb.trans (h.2.mono hb.size)⟩
  have HB0 := Lib.hid hb0
  have HS2 := Lib.hid hS2
  have HS3 := Lib.hid hS3
  have HTX := Lib.hid (fun t (h : forE xn xr (.mk xk xd xl) = 0) (h2 : textD (.mk xk xd xl) = some t) => HPA.out t h h2)
  have hbz := Below.refl W0.heap.size W0
  obtain ⟨p0, p1, p2, p3, p4, q0, q1, q2, q3, q4⟩ := HC.out W0 hbz
  clear hX hY bx by_ hx ht hb0 hz0 g0 g1 hK rx ry wxk wxd nx wyk wyd ny hS1 hS2 hS3 HPA
  generalize sameE ((xn, xr), .mk xk xd xl) ((yn, yr), .mk yk yd yl) = B at *
  generalize forE xn xr (.mk xk xd xl) = f at *
  have hff : (f != f) = false := by simp
  have hBB : (B != B) = false := by simp
  go_enter Tryz.func4, Tryz.ntmps4
  go_upto_region 1 with fail
  rw [← hW0]
  clear hW0
  go_upto_if 13 with (go_at_call 10; (with_reducible refine HMU.out.mono ?_); rintro e w1 ⟨⟨t, rfl⟩, hb1⟩; have HB1 := Lib.hid hb1; clear hb1 p0 p1 p2 p3 p4 q0 q1 q2 q3 q4)
  cases t with
  | true =>
    go_wp2_with (go_at_call 5; (with_reducible refine (HLV.out _ HB1.out).mono ?_); rintro e w2 ⟨rfl, hb2⟩; have HB2 := Lib.hid hb2; clear hb2)
    go_ret
    exact ⟨rfl, HB0.out.trans (HB2.out.mono HB0.out.size)⟩
  | false =>
    obtain ⟨p0, p1, p2, p3, p4, q0, q1, q2, q3, q4⟩ := HC.out w1 HB1.out
    go_upto_region 5 with (first
      | (go_at_call 9; (with_reducible refine (HPR.out _ HB1.out).mono ?_); rintro e w2 ⟨rfl, hb2⟩; have HB2 := Lib.hid hb2; clear p0 p1 p2 p3 p4 q0 q1 q2 q3 q4; obtain ⟨p0, p1, p2, p3, p4, q0, q1, q2, q3, q4⟩ := HC.out w2 hb2; clear hb2)
      | (go_at_call 11; (with_reducible refine (HCK.out _ HB2.out).mono ?_); rintro e w3 ⟨rfl, hb3⟩; have HB3 := Lib.hid hb3; clear p0 p1 p2 p3 p4 q0 q1 q2 q3 q4; clear hb3))
    have HS := Lib.hid HB3.out.drew
    refine wp_region_held (S := fun W => Below W0.heap.size W0 W) (by kernel_rfl) ?_
    change wpAnyH _ _ _ _ _ 24 #[false, false, false, false, false, false, false, false, false, false, false, false, false, false, false, false, false, false, false, false, false, false, false, false] _ w3.drew
    (refine wpAnyH_take (i := 0) (v := ?_) rfl (by kernel_rfl) (by kernel_rfl) (by kernel_rfl) (fun _ _ _ h => h) (Or.inl ⟨by rfl, ?_⟩) HS.out ?_; rotate_left 1; (focus (intro w0 hw0; obtain ⟨p0, p1, p2, p3, p4, q0, q1, q2, q3, q4⟩ := HC.out w0 hw0; clear hw0; go_simp; try with_reducible rfl)); simp only [Act.put, List.getElem_toArray, List.getElem_cons_zero, List.getElem_cons_succ, List.setIfInBounds_toArray, List.set_cons_zero, List.set_cons_succ])
    (refine wpAnyH_take (i := 2) (v := ?_) rfl (by kernel_rfl) (by kernel_rfl) (by kernel_rfl) (fun _ _ _ h => h) (Or.inl ⟨by rfl, ?_⟩) HS.out ?_; rotate_left 1; (focus (intro w0 hw0; clear hw0; go_simp; try with_reducible rfl)); simp only [Act.put, List.getElem_toArray, List.getElem_cons_zero, List.getElem_cons_succ, List.setIfInBounds_toArray, List.set_cons_zero, List.set_cons_succ])
    (refine wpAnyH_one (i := 1) (vi := .int .i64 f) rfl (by kernel_rfl) HS.out ?_ ?_; (focus (intro W K hW hK; (try simp only [Act.put, List.getElem_toArray, List.getElem_cons_zero, List.getElem_cons_succ, List.setIfInBounds_toArray, List.set_cons_zero, List.set_cons_succ]); refine wpOp_step rfl (fun K2 hK2 => ?_); go_simp; refine (HEC.out _ hW).mono ?_; rintro e w' ⟨rfl, hb⟩; exact hK2 _ _ (hK _ hb))); clear HS; intro wn hS; have HS := Lib.hid hS; clear hS; simp only [Act.put, List.getElem_toArray, List.getElem_cons_zero, List.getElem_cons_succ, List.setIfInBounds_toArray, List.set_cons_zero, List.set_cons_succ])
    (refine wpAnyH_take (i := 3) (v := ?_) rfl (by kernel_rfl) (by kernel_rfl) (by kernel_rfl) (fun _ _ _ h => h) (Or.inl ⟨by rfl, ?_⟩) HS.out ?_; rotate_left 1; (focus (intro w0 hw0; clear hw0; go_simp; try with_reducible rfl)); simp only [Act.put, List.getElem_toArray, List.getElem_cons_zero, List.getElem_cons_succ, List.setIfInBounds_toArray, List.set_cons_zero, List.set_cons_succ])
    try rw [hff]
    (refine wpAnyH_take (i := 4) (v := ?_) rfl (by kernel_rfl) (by kernel_rfl) (by kernel_rfl) (fun _ _ _ h => h) (Or.inl ⟨by rfl, ?_⟩) HS.out ?_; rotate_left 1; (focus (intro w0 hw0; clear hw0; go_simp; try with_reducible rfl)); simp only [Act.put, List.getElem_toArray, List.getElem_cons_zero, List.getElem_cons_succ, List.setIfInBounds_toArray, List.set_cons_zero, List.set_cons_succ])
    (refine wpAnyH_take (i := 5) (v := ?_) rfl (by kernel_rfl) (by kernel_rfl) (by kernel_rfl) (fun _ _ _ h => h) (Or.inl ⟨by rfl, ?_⟩) HS.out ?_; rotate_left 1; (focus (intro w0 hw0; clear hw0; go_simp; try with_reducible rfl)); simp only [Act.put, List.getElem_toArray, List.getElem_cons_zero, List.getElem_cons_succ, List.setIfInBounds_toArray, List.set_cons_zero, List.set_cons_succ])
    (refine wpAnyH_take (i := 6) (v := ?_) rfl (by kernel_rfl) (by kernel_rfl) (by kernel_rfl) (fun _ _ _ h => h) (Or.inl ⟨by rfl, ?_⟩) HS.out ?_; rotate_left 1; (focus (intro w0 hw0; clear hw0; go_simp; try with_reducible rfl)); simp only [Act.put, List.getElem_toArray, List.getElem_cons_zero, List.getElem_cons_succ, List.setIfInBounds_toArray, List.set_cons_zero, List.set_cons_succ])
    (refine wpAnyH_take (i := 7) (v := ?_) rfl (by kernel_rfl) (by kernel_rfl) (by kernel_rfl) (fun _ _ _ h => h) (Or.inl ⟨by rfl, ?_⟩) HS.out ?_; rotate_left 1; (focus (intro w0 hw0; clear hw0; go_simp; try with_reducible rfl)); simp only [Act.put, List.getElem_toArray, List.getElem_cons_zero, List.getElem_cons_succ, List.setIfInBounds_toArray, List.set_cons_zero, List.set_cons_succ])
    try rw [hff]
    (refine wpAnyH_take (i := 8) (v := ?_) rfl (by kernel_rfl) (by kernel_rfl) (by kernel_rfl) (fun _ _ _ h => h) (Or.inl ⟨by rfl, ?_⟩) HS.out ?_; rotate_left 1; (focus (intro w0 hw0; clear hw0; go_simp; try with_reducible rfl)); simp only [Act.put, List.getElem_toArray, List.getElem_cons_zero, List.getElem_cons_succ, List.setIfInBounds_toArray, List.set_cons_zero, List.set_cons_succ])
    (refine wpAnyH_take (i := 9) (v := ?_) rfl (by kernel_rfl) (by kernel_rfl) (by kernel_rfl) (fun _ _ _ h => h) (Or.inl ⟨by rfl, ?_⟩) HS.out ?_; rotate_left 1; (focus (intro w0 hw0; clear hw0; go_simp; try with_reducible rfl)); simp only [Act.put, List.getElem_toArray, List.getElem_cons_zero, List.getElem_cons_succ, List.setIfInBounds_toArray, List.set_cons_zero, List.set_cons_succ])
    (refine wpAnyH_take (i := 10) (v := ?_) rfl (by kernel_rfl) (by kernel_rfl) (by kernel_rfl) (fun _ _ _ h => h) (Or.inl ⟨by rfl, ?_⟩) HS.out ?_; rotate_left 1; (focus (intro w0 hw0; obtain ⟨p0, p1, p2, p3, p4, q0, q1, q2, q3, q4⟩ := HC.out w0 hw0; clear hw0; go_simp; try with_reducible rfl)); simp only [Act.put, List.getElem_toArray, List.getElem_cons_zero, List.getElem_cons_succ, List.setIfInBounds_toArray, List.set_cons_zero, List.set_cons_succ])
    (refine wpAnyH_take (i := 11) (v := ?_) rfl (by kernel_rfl) (by kernel_rfl) (by kernel_rfl) (fun _ _ _ h => h) (Or.inl ⟨by rfl, ?_⟩) HS.out ?_; rotate_left 1; (focus (intro w0 hw0; obtain ⟨p0, p1, p2, p3, p4, q0, q1, q2, q3, q4⟩ := HC.out w0 hw0; clear hw0; go_simp; try with_reducible rfl)); simp only [Act.put, List.getElem_toArray, List.getElem_cons_zero, List.getElem_cons_succ, List.setIfInBounds_toArray, List.set_cons_zero, List.set_cons_succ])
    (refine wpAnyH_take (i := 13) (v := ?_) rfl (by kernel_rfl) (by kernel_rfl) (by kernel_rfl) (fun _ _ _ h => h) (Or.inl ⟨by rfl, ?_⟩) HS.out ?_; rotate_left 1; (focus (intro w0 hw0; obtain ⟨p0, p1, p2, p3, p4, q0, q1, q2, q3, q4⟩ := HC.out w0 hw0; clear hw0; go_simp; try with_reducible rfl)); simp only [Act.put, List.getElem_toArray, List.getElem_cons_zero, List.getElem_cons_succ, List.setIfInBounds_toArray, List.set_cons_zero, List.set_cons_succ])
    (refine wpAnyH_take (i := 14) (v := ?_) rfl (by kernel_rfl) (by kernel_rfl) (by kernel_rfl) (fun _ _ _ h => h) (Or.inl ⟨by rfl, ?_⟩) HS.out ?_; rotate_left 1; (focus (intro w0 hw0; obtain ⟨p0, p1, p2, p3, p4, q0, q1, q2, q3, q4⟩ := HC.out w0 hw0; clear hw0; go_simp; try with_reducible rfl)); simp only [Act.put, List.getElem_toArray, List.getElem_cons_zero, List.getElem_cons_succ, List.setIfInBounds_toArray, List.set_cons_zero, List.set_cons_succ])
    (refine wpAnyH_one (i := 12) (vi := .bool B) rfl (by kernel_rfl) HS.out ?_ ?_; (focus (intro W K hW hK; (try simp only [Act.put, List.getElem_toArray, List.getElem_cons_zero, List.getElem_cons_succ, List.setIfInBounds_toArray, List.set_cons_zero, List.set_cons_succ]); refine wpOp_step rfl (fun K2 hK2 => ?_); go_simp; refine (HSA.out _ hW).mono ?_; rintro e w' ⟨rfl, hb⟩; exact hK2 _ _ (hK _ hb))); clear HS; intro wn hS; have HS := Lib.hid hS; clear hS; simp only [Act.put, List.getElem_toArray, List.getElem_cons_zero, List.getElem_cons_succ, List.setIfInBounds_toArray, List.set_cons_zero, List.set_cons_succ])
    (refine wpAnyH_one (i := 15) (vi := .bool B) rfl (by kernel_rfl) HS.out ?_ ?_; (focus (intro W K hW hK; (try simp only [Act.put, List.getElem_toArray, List.getElem_cons_zero, List.getElem_cons_succ, List.setIfInBounds_toArray, List.set_cons_zero, List.set_cons_succ]); refine wpOp_step rfl (fun K2 hK2 => ?_); go_simp; refine (HRS.out _ hW).mono ?_; rintro e w' ⟨rfl, hb⟩; exact hK2 _ _ (hK _ hb))); clear HS; intro wn hS; have HS := Lib.hid hS; clear hS; simp only [Act.put, List.getElem_toArray, List.getElem_cons_zero, List.getElem_cons_succ, List.setIfInBounds_toArray, List.set_cons_zero, List.set_cons_succ])
    (refine wpAnyH_take (i := 16) (v := ?_) rfl (by kernel_rfl) (by kernel_rfl) (by kernel_rfl) (fun _ _ _ h => h) (Or.inl ⟨by rfl, ?_⟩) HS.out ?_; rotate_left 1; (focus (intro w0 hw0; clear hw0; go_simp; try with_reducible rfl)); simp only [Act.put, List.getElem_toArray, List.getElem_cons_zero, List.getElem_cons_succ, List.setIfInBounds_toArray, List.set_cons_zero, List.set_cons_succ])
    try rw [hBB]
    (refine wpAnyH_take (i := 17) (v := ?_) rfl (by kernel_rfl) (by kernel_rfl) (by kernel_rfl) (fun _ _ _ h => h) (Or.inl ⟨by rfl, ?_⟩) HS.out ?_; rotate_left 1; (focus (intro w0 hw0; clear hw0; go_simp; try with_reducible rfl)); simp only [Act.put, List.getElem_toArray, List.getElem_cons_zero, List.getElem_cons_succ, List.setIfInBounds_toArray, List.set_cons_zero, List.set_cons_succ])
    (refine wpAnyH_take (i := 18) (v := ?_) rfl (by kernel_rfl) (by kernel_rfl) (by kernel_rfl) (fun _ _ _ h => h) (Or.inl ⟨by rfl, ?_⟩) HS.out ?_; rotate_left 1; (focus (intro w0 hw0; clear hw0; go_simp; try with_reducible rfl)); simp only [Act.put, List.getElem_toArray, List.getElem_cons_zero, List.getElem_cons_succ, List.setIfInBounds_toArray, List.set_cons_zero, List.set_cons_succ])
    (refine wpAnyH_take (i := 19) (v := ?_) rfl (by kernel_rfl) (by kernel_rfl) (by kernel_rfl) (fun _ _ _ h => h) (Or.inl ⟨by rfl, ?_⟩) HS.out ?_; rotate_left 1; (focus (intro w0 hw0; obtain ⟨p0, p1, p2, p3, p4, q0, q1, q2, q3, q4⟩ := HC.out w0 hw0; clear hw0; go_simp; try with_reducible rfl)); simp only [Act.put, List.getElem_toArray, List.getElem_cons_zero, List.getElem_cons_succ, List.setIfInBounds_toArray, List.set_cons_zero, List.set_cons_succ])
    (refine wpAnyH_take (i := 20) (v := ?_) rfl (by kernel_rfl) (by kernel_rfl) (by kernel_rfl) (fun _ _ _ h => h) (Or.inl ⟨by rfl, ?_⟩) HS.out ?_; rotate_left 1; (focus (intro w0 hw0; obtain ⟨p0, p1, p2, p3, p4, q0, q1, q2, q3, q4⟩ := HC.out w0 hw0; clear hw0; go_simp; try with_reducible rfl)); simp only [Act.put, List.getElem_toArray, List.getElem_cons_zero, List.getElem_cons_succ, List.setIfInBounds_toArray, List.set_cons_zero, List.set_cons_succ])
    (refine wpAnyH_one (i := 21) (vi := .bool true) rfl (by kernel_rfl) HS.out ?_ ?_; (focus (intro W K hW hK; (try simp only [Act.put, List.getElem_toArray, List.getElem_cons_zero, List.getElem_cons_succ, List.setIfInBounds_toArray, List.set_cons_zero, List.set_cons_succ]); refine wpOp_step rfl (fun K2 hK2 => ?_); go_simp; refine (HSX.out _ hW).mono ?_; rintro e w' ⟨rfl, hb⟩; exact hK2 _ _ (hK _ hb))); clear HS; intro wn hS; have HS := Lib.hid hS; clear hS; simp only [Act.put, List.getElem_toArray, List.getElem_cons_zero, List.getElem_cons_succ, List.setIfInBounds_toArray, List.set_cons_zero, List.set_cons_succ])
    (refine wpAnyH_take (i := 22) (v := ?_) rfl (by kernel_rfl) (by kernel_rfl) (by kernel_rfl) (fun _ _ _ h => h) (Or.inl ⟨by rfl, ?_⟩) HS.out ?_; rotate_left 1; (focus (intro w0 hw0; clear hw0; go_simp; try with_reducible rfl)); simp only [Act.put, List.getElem_toArray, List.getElem_cons_zero, List.getElem_cons_succ, List.setIfInBounds_toArray, List.set_cons_zero, List.set_cons_succ])
    (refine wpAnyH_take (i := 23) (v := ?_) rfl (by kernel_rfl) (by kernel_rfl) (by kernel_rfl) (fun _ _ _ h => h) (Or.inl ⟨by rfl, ?_⟩) HS.out ?_; rotate_left 1; (focus (intro w0 hw0; clear hw0; go_simp; try with_reducible rfl)); simp only [Act.put, List.getElem_toArray, List.getElem_cons_zero, List.getElem_cons_succ, List.setIfInBounds_toArray, List.set_cons_zero, List.set_cons_succ])
    refine wpAnyH_done (by kernel_rfl) ?_ _
    by_cases hf : f = 0
    · obtain ⟨t, htx, hS⟩ := HS3.out hf
      obtain ⟨hp, hl⟩ := HTX.out t hf htx
      rw [← hS] at hp hl
      have HP := Lib.hid hp
      have HL := Lib.hid hl
      have hss : (S.toList == S.toList) = true := by simp
      clear hp hl hS htx HTX HS2 HS3
      subst hf
      go_upto_region 10 with (go_at_call 6; (with_reducible refine (HP.out _ HS.out).mono ?_); rintro e w4 ⟨a4, m4, c4, rfl, hr4, hb4⟩; have HB4 := Lib.hid hb4; have HR4 := Lib.hid hr4; clear hb4 hr4)
      obtain ⟨W5, hW5⟩ : ∃ W5, W5 = w4.alloc (.cells #[.int .i64 xn, .int .i64 xr, .int .i64 xk, .int .i64 xd, .slice a4 m4 c4] 29) := ⟨_, rfl⟩
      have hb45 : Below w4.heap.size w4 W5 := by rw [hW5]; exact (Below.refl _ _).alloc (Nat.le_refl _) _
      have HG5 : Hid (W5.heap[w4.heap.size]? = some (.cells #[.int .i64 xn, .int .i64 xr, .int .i64 xk, .int .i64 xd, .slice a4 m4 c4] 29 (0, 0))) := Lib.hid (by rw [hW5]; exact heap_alloc_new w4 _)
      have HB5 := Lib.hid (HB4.out.trans (hb45.mono HB4.out.size))
      have HR5 := Lib.hid (HR4.out.keep (descRd_ok _) (Fix.of_below hb45))
      have hz5 : w4.heap.size < W5.heap.size := by rw [hW5]; simp
      rw [← hW5]
      clear hW5 hb45
      obtain ⟨p0, p1, p2, p3, p4, q0, q1, q2, q3, q4⟩ := HC.out W5 HB5.out
      have HLL : Hid (∀ W, Below W5.heap.size W5 W → Calls Tryz.prog 14 #[.agg #[.int .i64 xn, .int .i64 xr, .int .i64 xk, .int .i64 xd, .slice xa xm xc]] W fun e w' => e = .returned (.string S) ∧ Below W.heap.size W w') := Lib.hid fun W hb => HL.out W (HB5.out.trans (hb.mono HB5.out.size))
      have HGW : Hid (∀ W, Below W5.heap.size W5 W → RowOf (descRd 16384) 3 40 All W a4 m4 c4 xl ∧ W.cell? ⟨w4.heap.size, 0, none⟩ = some (.int .i64 xn) ∧ W.cell? ⟨w4.heap.size, 1, none⟩ = some (.int .i64 xr) ∧ W.cell? ⟨w4.heap.size, 2, none⟩ = some (.int .i64 xk) ∧ W.cell? ⟨w4.heap.size, 3, none⟩ = some (.int .i64 xd) ∧ W.cell? ⟨w4.heap.size, 4, none⟩ = some (.slice a4 m4 c4)) := Lib.hid fun W hb => by
        have e := (hb.block _ hz5).trans HG5.out
        exact ⟨HR5.out.keep (descRd_ok _) (Fix.of_below hb), cell_at e rfl, cell_at e rfl, cell_at e rfl, cell_at e rfl, cell_at e rfl⟩
      clear hz5
      go_wp2_with (first
        | (go_at_call 14; (with_reducible refine (HLL.out _ (Below.refl _ _)).mono ?_); rintro e w6 ⟨rfl, hb6⟩; have HB6 := Lib.hid (HB5.out.trans (hb6.mono HB5.out.size)); obtain ⟨hr6, v0, v1, v2, v3, v4⟩ := HGW.out w6 hb6; have HR6 := Lib.hid hr6; clear hr6 hb6 p0 p1 p2 p3 p4 q0 q1 q2 q3 q4; obtain ⟨p0, p1, p2, p3, p4, q0, q1, q2, q3, q4⟩ := HC.out w6 HB6.out)
        | (go_at_call 8; (with_reducible refine (HSM.out _ _ _ _ HB6.out HR6.out).mono ?_); rintro e w7 ⟨rfl, hb7⟩; have HB7 := Lib.hid hb7; clear hb7)
        | (go_at_call 5; (with_reducible refine (HLV.out _ HB7.out).mono ?_); rintro e w8 ⟨rfl, hb8⟩; have HB8 := Lib.hid hb8; clear hb8))
      go_ret
      exact ⟨rfl, HB0.out.trans (HB8.out.mono HB0.out.size)⟩
    · have hS := HS2.out hf
      subst hS
      have hfb : (f != 0) = true := by simpa using hf
      clear HTX HS2 HS3
      go_wp2_with (go_at_call 5; (with_reducible refine (HLV.out _ HS.out).mono ?_); rintro e w4 ⟨rfl, hb4⟩; have HB4 := Lib.hid hb4; clear hb4)
      go_ret
      exact ⟨rfl, HB0.out.trans (HB4.out.mono HB0.out.size)⟩
end Go.Proofs.YtdhkndoglcnllaaGreatDoor.Lex
/- EntryPrints: what came in, opened. -/
namespace Go.Proofs.YtdhkndoglcnllaaGreatDoor.Lex
open Go.RowKit Go.ChangeShapes Go.WideShapes Stab
set_option linter.unusedVariables false
theorem entryRd_mono {k m : Nat} (h : k ≤ m) {F : Foot} {w : World} {cs : List Value} {x : EntryV} (hx : entryRd k F w cs x) : entryRd m F w cs x := by
  obtain ⟨c1, c2, e, hk, hd⟩ := hx
  exact ⟨c1, c2, e, hk, descRd_mono h hd⟩
set_option maxRecDepth 100000 in
theorem entry_open {H : Type} {enc : TypeId × Value → H} {w : World} {b0 : Nat} {s0 : Nat → Bool} {e0 : Bool} {v0 : Value} {d0 : DataW H} {p0 : List MemPlace} {ww : World} {rr : Reach} {bb : Nat}
    (hv0 : Value.okWide Tryz.prog ww rr bb 29 v0) (h0 : DataW.Trod enc Tryz.prog w b0 s0 e0 29 v0 d0 p0) (q0 : ∀ q ∈ DataW.weights Tryz.prog 29 d0, q ≤ reachBytes) (hb : Rows.uptoBulk d0 ≤ 1048576) :
    ∃ k n r kd nd l a m c, v0 = .agg #[.int .i64 n, .int .i64 r, .int .i64 kd, .int .i64 nd, .slice a m c] ∧ entryRd k All w [.int .i64 n, .int .i64 r, .int .i64 kd, .int .i64 nd, .slice a m c] ((n, r), .mk kd nd l) ∧ (DescV.mk kd nd l).nodes ≤ 1048576 := by
  obtain ⟨f0, h0⟩ := h0
  obtain ⟨cs, rfl, _⟩ := Go.WideShapes.okWide_struct Tryz.underlying29 hv0
  obtain ⟨⟨⟨n, r⟩, d⟩, hx, hm⟩ := (ob_entry f0).get enc w b0 s0 e0 f0 _ _ (by omega) h0 q0
  have hx2 := hx
  obtain ⟨c1, c2, e, ⟨_, _, rfl, ⟨rfl, _⟩, rfl, _⟩, hd⟩ := hx
  obtain ⟨a, m, c, rfl, _⟩ := descRd_cells' hd
  obtain ⟨kd, nd, l⟩ := d
  have e2 : cs = #[.int .i64 n, .int .i64 r, .int .i64 kd, .int .i64 nd, .slice a m c] := Array.toList_inj.1 e
  subst e2
  exact ⟨_, n, r, kd, nd, l, a, m, c, rfl, hx2, Nat.le_trans hm hb⟩
set_option maxRecDepth 100000 in
theorem prints24_open {H : Type} {enc : TypeId × Value → H} {w : World} {b0 b1 : Nat} {s0 s1 : Nat → Bool} {e0 e1 : Bool} {v0 v1 : Value} {d0 d1 : DataW H} {p0 p1 : List MemPlace} {ww : World} {rr : Reach} {bb : Nat}
    (hv0 : Value.okWide Tryz.prog ww rr bb 29 v0) (h0 : DataW.Trod enc Tryz.prog w b0 s0 e0 29 v0 d0 p0) (q0 : ∀ q ∈ DataW.weights Tryz.prog 29 d0, q ≤ reachBytes) (hb0 : Rows.uptoBulk d0 ≤ 1048576)
    (hv1 : Value.okWide Tryz.prog ww rr bb 29 v1) (h1 : DataW.Trod enc Tryz.prog w b1 s1 e1 29 v1 d1 p1) (q1 : ∀ q ∈ DataW.weights Tryz.prog 29 d1, q ≤ reachBytes) (hb1 : Rows.uptoBulk d1 ≤ 1048576) (hx : HasMax w) (ht : HasTab w) :
    Calls Tryz.prog 4 #[v0, v1] w fun e w' => e = .returned (.bool true) ∧ Below w.heap.size w w' := by
  obtain ⟨k, xn, xr, xk, xd, xl, xa, xm, xc, rfl, r0, n0⟩ := entry_open hv0 h0 q0 hb0
  obtain ⟨j, yn, yr, yk, yd, yl, ya, ym, yc, rfl, r1, n1⟩ := entry_open hv1 h1 q1 hb1
  exact prints24 (max k j) xn xr xk xd yn yr yk yd xl yl xa ya xm xc ym yc w (entryRd_mono (Nat.le_max_left _ _) r0) (entryRd_mono (Nat.le_max_right _ _) r1) n0 n1 hx ht
end Go.Proofs.YtdhkndoglcnllaaGreatDoor.Lex
