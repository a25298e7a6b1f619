/- The contracts of package lru's methods at [int, int], in words of keys and things. -/
import Derived.Test.YtjlpafpedoancaaLru5
namespace Go.Proofs.Ytjlpafpedoancaa.Ring
open Go.RowKit
abbrev Kv := Int × Int
def peekS (K : List Kv) (k : Int) : Kv × Bool := match K.find? (fun x => x.1 = k) with
  | some x => ((k, x.2), true)
  | none => ((k, 0), false)
def without (K : List Kv) (k : Int) : List Kv := K.filter fun x => x.1 ≠ k
def getS (K : List Kv) (k : Int) : List Kv := match K.find? (fun x => x.1 = k) with
  | some x => (k, x.2) :: without K k
  | none => K
def putS (n : Nat) (K : List Kv) (k v : Int) : (Int × Bool) × List Kv := match K.find? (fun x => x.1 = k) with
  | some x => ((x.2, true), (k, v) :: without K k)
  | none => if K.length = n then (((K.getLastD (0, 0)).2, true), (k, v) :: K.dropLast) else ((0, false), (k, v) :: K)
theorem find_yes_split {L : List Nd} {k : Int} {x : Kv} (hn : (L.map (·.2.1)).Nodup) (h : (L.map (·.2)).find? (fun x => x.1 = k) = some x) :
    ∃ A C b, L = A ++ (b, k, x.2) :: C ∧ (A ++ C).map (·.2) = without (L.map (·.2)) k := by
  obtain ⟨hx, as1, bs1, hL, _⟩ := List.find?_eq_some_iff_append.1 h
  simp only [decide_eq_true_eq] at hx
  obtain ⟨A, R, rfl, hA, hR⟩ := List.map_eq_append_iff.1 hL
  obtain ⟨y, C, rfl, hy, hC⟩ := List.map_eq_cons_iff.1 hR
  have ey : y = (y.1, k, x.2) := by rw [← hx, ← hy]
  refine ⟨A, C, y.1, by rw [← ey], ?_⟩
  simp only [List.map_append, List.map_cons, List.nodup_append, List.nodup_cons] at hn
  have hyk : y.2.1 = k := by rw [ey]
  unfold without
  simp only [List.map_append, List.map_cons, List.filter_append]
  rw [List.filter_cons, if_neg (by simp [hyk]), List.filter_eq_self.2, List.filter_eq_self.2]
  · intro z hz
    obtain ⟨u, hu, rfl⟩ := List.mem_map.1 hz
    have := hn.2.1.1
    simp only [decide_eq_true_eq]
    exact fun e1 => this (by rw [hyk, ← e1]; exact List.mem_map_of_mem (f := fun x => x.2.1) hu)
  · intro z hz
    obtain ⟨u, hu, rfl⟩ := List.mem_map.1 hz
    simp only [decide_eq_true_eq]
    exact fun e1 => hn.2.2 u.2.1 (List.mem_map_of_mem (f := fun x => x.2.1) hu) y.2.1 (by simp) (by rw [hyk]; exact e1)
theorem find_no_all {L : List Nd} {k : Int} (h : (L.map (·.2)).find? (fun x => x.1 = k) = none) : ∀ x ∈ L, x.2.1 ≠ k := by
  intro x hx e1
  rw [List.find?_eq_none] at h
  exact h x.2 (List.mem_map_of_mem hx) (by simpa using e1)
section
variable (w : World) (B lb mb e : Nat) (room : Int) (L : List Nd)
theorem peek_any (h : Lst w B lb room mb e L) (k : Int) : Calls Try.prog 38 #[ptr lb, .int .i64 k] w fun y w' => y = .returned (.tuple #[.int .i64 (peekS (L.map (·.2)) k).1.2, .bool (peekS (L.map (·.2)) k).2]) ∧ w = w' := by
  cases hf : (L.map (·.2)).find? (fun x => x.1 = k) with
  | none => simp only [peekS, hf]; exact peek_no w B lb mb e room L h k (find_no_all hf)
  | some x =>
    obtain ⟨A, C, b, hL, _⟩ := find_yes_split h.keys hf
    simp only [peekS, hf]
    exact peek_yes w B lb mb e room L h (b, k, x.2) (by rw [hL]; simp)
theorem get_any (h : Lst w B lb room mb e L) (k : Int) : Calls Try.prog 36 #[ptr lb, .int .i64 k] w fun y w' => y = .returned (.tuple #[.int .i64 (peekS (L.map (·.2)) k).1.2, .bool (peekS (L.map (·.2)) k).2]) ∧
    ∃ L', Lst w' B lb room mb e L' ∧ L'.map (·.2) = getS (L.map (·.2)) k ∧ Below B w w' ∧ Keeps w w' := by
  cases hf : (L.map (·.2)).find? (fun x => x.1 = k) with
  | none =>
    simp only [peekS, getS, hf]
    exact (get_no w B lb mb e room L h k (find_no_all hf)).mono fun y w' ⟨h1, h2⟩ => ⟨h1, L, h2 ▸ h, rfl, h2 ▸ Below.refl _ _, h2 ▸ Keeps.refl _⟩
  | some x =>
    obtain ⟨A, C, b, hL, hm⟩ := find_yes_split h.keys hf
    simp only [peekS, getS, hf]
    rw [hL] at h
    exact (get_yes w B lb mb e room A C (b, k, x.2) h).mono fun y w' ⟨h1, h2, h3, h4⟩ => ⟨h1, _, h2, by simpa using hm, h3, h4⟩
theorem del_any (h : Lst w B lb room mb e L) (k : Int) : Calls Try.prog 41 #[ptr lb, .int .i64 k] w fun y w' => y = .returned (.tuple #[.int .i64 (peekS (L.map (·.2)) k).1.2, .bool (peekS (L.map (·.2)) k).2]) ∧
    ∃ L', Lst w' B lb room mb e L' ∧ L'.map (·.2) = without (L.map (·.2)) k ∧ Below B w w' ∧ Keeps w w' := by
  cases hf : (L.map (·.2)).find? (fun x => x.1 = k) with
  | none =>
    have hw : without (L.map (·.2)) k = L.map (·.2) := List.filter_eq_self.2 fun z hz => by
      obtain ⟨u, hu, rfl⟩ := List.mem_map.1 hz
      simpa using find_no_all hf u hu
    rw [hw]
    simp only [peekS, hf]
    exact (del_no w B lb mb e room L h k (find_no_all hf)).mono fun y w' ⟨h1, h2⟩ => ⟨h1, L, h2 ▸ h, rfl, h2 ▸ Below.refl _ _, h2 ▸ Keeps.refl _⟩
  | some x =>
    obtain ⟨A, C, b, hL, hm⟩ := find_yes_split h.keys hf
    simp only [peekS, hf]
    rw [hL] at h
    exact (del_yes w B lb mb e room A C (b, k, x.2) h).mono fun y w' ⟨h1, h2, h3, h4⟩ => ⟨h1, _, h2, hm, h3, h4⟩
theorem put_any (n : Nat) (hn : room = n) (hn1 : 1 ≤ n) (h : Lst w B lb room mb e L) (k v : Int) (hB : B ≤ w.heap.size) : Calls Try.prog 31 #[ptr lb, .int .i64 k, .int .i64 v] w fun y w' => y = .returned (.tuple #[.int .i64 (putS n (L.map (·.2)) k v).1.1, .bool (putS n (L.map (·.2)) k v).1.2]) ∧
    ∃ L', Lst w' B lb room mb e L' ∧ L'.map (·.2) = (putS n (L.map (·.2)) k v).2 ∧ Below B w w' ∧ Keeps w w' := by
  subst hn
  cases hf : (L.map (·.2)).find? (fun x => x.1 = k) with
  | none =>
    by_cases hl : L.length = n
    · rcases List.eq_nil_or_concat L with rfl | ⟨A, y, rfl⟩
      · simp at hl; omega
      · simp only [List.concat_eq_append] at *
        have e1 : putS n ((A ++ [y]).map (·.2)) k v = ((y.2.2, true), (k, v) :: A.map (·.2)) := by
          simp only [putS, hf]
          rw [if_pos (by simpa using hl)]
          simp
        rw [e1]
        exact (put_full w B lb mb e _ A y h k v (find_no_all hf) (by rw [hl]) hB).mono fun z w' ⟨h1, b, h2, h3, h4⟩ => ⟨h1, _, h2, by simp, h3, h4⟩
    · have e1 : putS n (L.map (·.2)) k v = ((0, false), (k, v) :: L.map (·.2)) := by
        simp only [putS, hf]
        rw [if_neg (by simpa using hl)]
      rw [e1]
      exact (put_room w B lb mb e _ L h k v (find_no_all hf) (by omega) hB).mono fun z w' ⟨h1, b, h2, h3, h4⟩ => ⟨h1, _, h2, by simp, h3, h4⟩
  | some x =>
    obtain ⟨A, C, b, hL, hm⟩ := find_yes_split h.keys hf
    simp only [putS, hf]
    rw [hL] at h
    exact (put_old w B lb mb e _ A C (b, k, x.2) h v hB).mono fun y w' ⟨h1, b', h2, h3, h4⟩ => ⟨h1, _, h2, by simpa using hm, h3, h4⟩
end
theorem put_length {n : Nat} {K : List Kv} (h : K.length ≤ n) (hn : 1 ≤ n) (k v : Int) : (putS n K k v).2.length ≤ n := by
  unfold putS
  split
  · rename_i x hx
    have hm := List.mem_of_find?_eq_some hx
    have hk : x.1 = k := by simpa using List.find?_some hx
    have : (without K k).length < K.length := by
      unfold without
      exact List.length_filter_lt_length_iff_exists.2 ⟨x, hm, by simp [hk]⟩
    simp; omega
  · split
    · simp; omega
    · simp; omega
end Go.Proofs.Ytjlpafpedoancaa.Ring
