/- The contracts of package lru's methods at [int, int]: Peek, Get, Del, Put. -/
import Derived.Test.YtjlpafpedoancaaLru2
namespace Go.Proofs.Ytjlpafpedoancaa.Ring
open Go.RowKit
theorem Lst.unlinked {w w1 : World} {B lb mb e : Nat} {room : Int} {A C : List Nd} {x : Nd} (h : Lst w B lb room mb e (A ++ x :: C)) (hl : Linked w w1 (lst e A) (hd e C)) :
    Ring w1 e (A ++ C) ∧ w1.heap[x.1]? = w.heap[x.1]? ∧ w1.heap[lb]? = w.heap[lb]? ∧ w1.heap[mb]? = w.heap[mb]? ∧ Below B w w1 ∧ Keeps w w1 := by
  obtain ⟨_, ⟨_, _, _, _, hp⟩, ⟨_, _, _, _, hn⟩⟩ := h.ring.mid
  have hu := h.ring.unlinked hl
  have b1 : B ≤ lst e A := h.base _ (by rcases lst_mem (p := e) (l := A) with h | h <;> simp [h])
  have b2 : B ≤ hd e C := h.base _ (by rcases hd_mem (t := e) (l := C) with h | h <;> simp [h])
  exact ⟨hu.1, hu.2, hl.other (h.ne_head hp) (h.ne_head hn), hl.other (fun e1 => h.ne_map hp e1.symm) (fun e1 => h.ne_map hn e1.symm), hl.below b1 b2, hl.keeps hp hn⟩
theorem Lst.front {w w1 : World} {B lb mb e b : Nat} {room k v : Int} {L L1 : List Nd} (h : Lst w B lb room mb e L1) (hr : Ring w1 e L) (h1 : w1.heap[lb]? = w.heap[lb]?) (h2 : w1.heap[mb]? = w.heap[mb]?)
    (hb : b ∉ e :: L.map (·.1)) (hbB : B ≤ b) (hp : L1.Perm ((b, k, v) :: L)) {k1 v1 : Int} {P N : Value} (hbo : w1.heap[b]? = some (.cells #[.int .i64 k1, .int .i64 v1, P, N] 115 (0, 0))) {w2 : World} (hf : Fronted w1 w2 b k v e (hd e L)) :
    Lst w2 B lb room mb e ((b, k, v) :: L) ∧ Below B w1 w2 ∧ Keeps w1 w2 := by
  obtain ⟨_, _, _, _, hne⟩ := hr.any (j := e) (.inl rfl)
  obtain ⟨_, _, _, _, hnn⟩ := hr.any (j := hd e L) hd_mem
  have hbase : ∀ j ∈ lb :: mb :: e :: ((b, k, v) :: L).map (·.1), B ≤ j := fun j hj => h.base j (by
    have hq := (hp.map (·.1)).mem_iff (a := j)
    simp only [List.mem_cons, List.map_cons] at hj hq ⊢
    rcases hj with hj | hj | hj | hj
    · exact .inl hj
    · exact .inr (.inl hj)
    · exact .inr (.inr (.inl hj))
    · exact .inr (.inr (.inr (hq.2 hj))))
  have b2 : B ≤ e := h.base e (by simp)
  have b3 : B ≤ hd e L := hbase _ (by rcases hd_mem (t := e) (l := L) with h | h <;> simp [h])
  have hhead := h1.trans h.head
  have nl : ∀ {j k v p n}, node w1 j k v p n → lb ≠ j := fun hj e1 => by subst e1; rw [show w1.heap[lb]? = _ from hj] at hhead; cases hhead
  have nm : ∀ {j c t f}, w1.heap[j]? = some (Obj.cells c t f) → mb ≠ j := fun {j c t f} hj e1 => by
    obtain ⟨m, ⟨es, clock, hm, _⟩, _⟩ := h.map
    subst e1; rw [h2, hm] at hj; cases hj
  have elb : w2.heap[lb]? = w1.heap[lb]? := by
    rw [hf.heap lb (by rintro rfl; rw [hbo] at hhead; cases hhead), if_neg (nl hnn), if_neg (nl hne)]
  have emb : w2.heap[mb]? = w1.heap[mb]? := by
    rw [hf.heap mb (nm hbo), if_neg (nm hnn), if_neg (nm hne)]
  refine ⟨⟨elb.trans hhead, ?_, (hp.map (·.2.1)).nodup_iff.1 h.keys, front_ring hr hf hb, hbase⟩, hf.below hbB b2 b3, hf.keeps hne hnn hbo⟩
  obtain ⟨m, hm, hpm⟩ := h.map
  exact ⟨m, hm.of_block (emb.trans h2), hpm.trans (hp.map _)⟩
theorem Lst.ne_mb' {w w1 : World} {B lb mb e : Nat} {room : Int} {L : List Nd} (h : Lst w B lb room mb e L) {j : Nat} {k v : Int} {p n : Nat} (hj : node w1 j k v p n) (h2 : w1.heap[mb]? = w.heap[mb]?) : some j ≠ some mb := by
  intro e1; cases e1
  obtain ⟨m, ⟨es, clock, hm, _⟩, _⟩ := h.map
  rw [show w1.heap[mb]? = _ from hj, hm] at h2; cases h2
theorem Lst.ne_mb {w w1 : World} {B lb mb e : Nat} {room : Int} {L : List Nd} (h : Lst w B lb room mb e L) {j : Nat} {k v : Int} {p n : Nat} (hj : node w j k v p n) (_ : w1.heap[mb]? = w.heap[mb]?) : some j ≠ some mb := h.ne_mb' hj rfl
section
variable (w : World) (B lb mb e : Nat) (room : Int)
theorem peek_yes (L : List Nd) (h : Lst w B lb room mb e L) (x : Nd) (hx : x ∈ L) :
    Calls Try.prog 38 #[ptr lb, .int .i64 x.2.1] w fun y w' => y = .returned (.tuple #[.int .i64 x.2.2, .bool true]) ∧ w = w' := by
  obtain ⟨p, n, hn⟩ := seg_node h.ring.seg x hx
  have H := Lib.hid h
  have HN := Lib.hid hn
  clear h hn
  go_enter Try.func38, Try.ntmps38
  go_wp2_with (first | (go_at_call 65; (with_reducible refine (find_yes _ _ _ _ _ _ _ H.out x hx).mono ?_); rintro e w' ⟨rfl, rfl⟩) | (go_at_call 67; refine (told_some _ x.1 _ _ _ _ HN.out).mono ?_; rintro e w' ⟨rfl, rfl⟩))
  go_ret2
  exact ⟨rfl, rfl⟩
theorem peek_no (L : List Nd) (h : Lst w B lb room mb e L) (k : Int) (hk : ∀ x ∈ L, x.2.1 ≠ k) :
    Calls Try.prog 38 #[ptr lb, .int .i64 k] w fun y w' => y = .returned (.tuple #[.int .i64 0, .bool false]) ∧ w = w' := by
  have H := Lib.hid h
  have HK := Lib.hid hk
  clear h hk
  go_enter Try.func38, Try.ntmps38
  go_wp2_with (first | (go_at_call 65; (with_reducible refine (find_no _ _ _ _ _ _ _ H.out k HK.out).mono ?_); rintro e w' ⟨rfl, rfl⟩) | (go_at_call 67; (with_reducible refine (told_nil _).mono ?_); rintro e w' ⟨rfl, rfl⟩))
  go_ret2
  exact ⟨rfl, rfl⟩
theorem get_no (L : List Nd) (h : Lst w B lb room mb e L) (k : Int) (hk : ∀ x ∈ L, x.2.1 ≠ k) :
    Calls Try.prog 36 #[ptr lb, .int .i64 k] w fun y w' => y = .returned (.tuple #[.int .i64 0, .bool false]) ∧ w = w' := by
  have H := Lib.hid h
  have HK := Lib.hid hk
  clear h hk
  go_enter Try.func36, Try.ntmps36
  go_wp2_with (first | (go_at_call 65; (with_reducible refine (find_no _ _ _ _ _ _ _ H.out k HK.out).mono ?_); rintro e w' ⟨rfl, rfl⟩) | (go_at_call 67; (with_reducible refine (told_nil _).mono ?_); rintro e w' ⟨rfl, rfl⟩))
  go_ret2
  exact ⟨rfl, rfl⟩
theorem del_no (L : List Nd) (h : Lst w B lb room mb e L) (k : Int) (hk : ∀ x ∈ L, x.2.1 ≠ k) :
    Calls Try.prog 41 #[ptr lb, .int .i64 k] w fun y w' => y = .returned (.tuple #[.int .i64 0, .bool false]) ∧ w = w' := by
  have H := Lib.hid h
  have HK := Lib.hid hk
  clear h hk
  go_enter Try.func41, Try.ntmps41
  go_wp2_with (first | (go_at_call 65; (with_reducible refine (find_no _ _ _ _ _ _ _ H.out k HK.out).mono ?_); rintro e w' ⟨rfl, rfl⟩) | (go_at_call 67; (with_reducible refine (told_nil _).mono ?_); rintro e w' ⟨rfl, rfl⟩))
  go_ret2
  exact ⟨rfl, rfl⟩
theorem get_yes (A C : List Nd) (x : Nd) (h : Lst w B lb room mb e (A ++ x :: C)) :
    Calls Try.prog 36 #[ptr lb, .int .i64 x.2.1] w fun y w' => y = .returned (.tuple #[.int .i64 x.2.2, .bool true]) ∧ Lst w' B lb room mb e (x :: (A ++ C)) ∧ Below B w w' ∧ Keeps w w' := by
  obtain ⟨hx, ⟨kp, vp, pp, np, hp⟩, ⟨kn, vn, pn, nn, hn⟩⟩ := h.ring.mid
  have hnd := h.ring.nodup
  have hxb : x.1 ∉ e :: (A ++ C).map (·.1) := by
    simp only [List.map_append, List.map_cons, List.nodup_cons, List.nodup_append, List.mem_cons, List.mem_append, not_or] at hnd ⊢
    exact ⟨fun e1 => hnd.1.2.1 e1.symm, fun e1 => hnd.2.2.2 _ e1 x.1 (by simp) rfl, hnd.2.2.1.1⟩
  have hxe : x.1 ≠ e := fun e1 => hxb (by simp [e1])
  have hxh : x.1 ≠ hd e (A ++ C) := by
    intro e1
    rcases hd_mem (t := e) (l := A ++ C) with h | h
    · exact hxe (e1.trans h)
    · exact hxb (by rw [e1]; exact List.mem_cons_of_mem _ h)
  have hperm : (A ++ x :: C).Perm (x :: (A ++ C)) := List.perm_middle
  have hxB : B ≤ x.1 := h.base _ (by simp)
  have H := Lib.hid h
  have HX := Lib.hid hx
  have HP := Lib.hid hp
  have HN := Lib.hid hn
  clear h hx hp hn hnd
  go_enter Try.func36, Try.ntmps36
  go_wp2_with (first | (go_at_call 65; (with_reducible refine (find_yes _ _ _ _ _ _ _ H.out x (by simp)).mono ?_); rintro e w' ⟨rfl, rfl⟩) | (go_at_call 66; (with_reducible refine (unlink _ _ _ _ _ _ HX.out HP.out HN.out).mono ?_); rintro e w' ⟨rfl, hl⟩; have HU := Lib.hid (H.out.unlinked hl); have HB := Lib.hid (HU.out.2.1.trans HX.out); clear hl) | (go_at_call 64; refine (front _ _ _ _ _ _ _ _ _ _ _ _ (HU.out.2.2.1.trans H.out.head) HB.out HU.out.1.fin (HU.out.1.any hd_mem).choose_spec.choose_spec.choose_spec.choose_spec hxe hxh).mono ?_; rintro e w' ⟨rfl, hf⟩; have HF := Lib.hid hf; clear hf) | (go_at_call 67; refine (told_some _ x.1 _ _ _ _ HF.out.new).mono ?_; rintro e w' ⟨rfl, rfl⟩))
  go_ret2
  have hr := H.out.front HU.out.1 HU.out.2.2.1 HU.out.2.2.2.1 hxb hxB hperm HB.out HF.out
  exact ⟨rfl, hr.1, HU.out.2.2.2.2.1.trans hr.2.1, HU.out.2.2.2.2.2.trans hr.2.2⟩
theorem del_yes (A C : List Nd) (x : Nd) (h : Lst w B lb room mb e (A ++ x :: C)) :
    Calls Try.prog 41 #[ptr lb, .int .i64 x.2.1] w fun y w' => y = .returned (.tuple #[.int .i64 x.2.2, .bool true]) ∧ Lst w' B lb room mb e (A ++ C) ∧ Below B w w' ∧ Keeps w w' := by
  obtain ⟨hx, ⟨kp, vp, pp, np, hp⟩, ⟨kn, vn, pn, nn, hn⟩⟩ := h.ring.mid
  obtain ⟨m, hm, hpm⟩ := h.map
  have hxm : (x.2.1, ptr x.1) ∈ m := hpm.mem_iff.2 (by simp)
  have H := Lib.hid h
  have HX := Lib.hid hx
  have HP := Lib.hid hp
  have HN := Lib.hid hn
  have HM := Lib.hid hm
  have HPM := Lib.hid hpm
  clear h hx hp hn hm hpm
  go_enter Try.func41, Try.ntmps41
  go_wp2_with (first | (go_at_call 65; (with_reducible refine (find_yes _ _ _ _ _ _ _ H.out x (by simp)).mono ?_); rintro e w' ⟨rfl, rfl⟩) | (go_at_call 66; (with_reducible refine (unlink _ _ _ _ _ _ HX.out HP.out HN.out).mono ?_); rintro e w' ⟨rfl, hl⟩; have HU := Lib.hid (H.out.unlinked hl); have HB := Lib.hid (HU.out.2.1.trans HX.out); have hxlt := Lib.hid (Array.getElem?_eq_some_iff.1 HB.out).1; have c1 := cell_at (o := 1) (HU.out.2.2.1.trans H.out.head) rfl; clear hl) | (at_delete; refine wpl_drop rfl _ _ 116 3 rfl Try.underlying116 Try.underlying3 mb m rfl _ rfl (ptr x.1) (HM.out.of_block HU.out.2.2.2.1) hxm ?_; intro w2 hm2 hg2; have HM2 := Lib.hid hm2; have HG2 := Lib.hid hg2; clear hm2 hg2) | (go_at_call 67; refine (told_some _ x.1 _ _ _ _ ((HG2.out.block _ hxlt.out (H.out.ne_mb HX.out HU.out.2.2.2.1)).trans HB.out)).mono ?_; rintro e w' ⟨rfl, rfl⟩))
  go_ret2
  have hB1 : B ≤ mb := H.out.base mb (by simp)
  have hlt : lb < w'.heap.size := (Array.getElem?_eq_some_iff.1 (HU.out.2.2.1.trans H.out.head)).1
  have hlm : lb ≠ mb := by
    intro e1
    obtain ⟨es, clock, hb, _⟩ := HM.out
    have := H.out.head
    rw [e1, hb] at this; cases this
  have hother : ∀ j k v p n, node w' j k v p n → w2.heap[j]? = w'.heap[j]? := fun j k v p n hj =>
    HG2.out.block j (Array.getElem?_eq_some_iff.1 hj).1 (H.out.ne_mb' hj HU.out.2.2.2.1)
  refine ⟨rfl, ⟨?_, ⟨_, HM2.out, ?_⟩, ?_, ?_, ?_⟩, ?_, ?_⟩
  · rw [HG2.out.block lb hlt (by simpa using hlm), HU.out.2.2.1]; exact H.out.head
  · have hk := H.out.keys
    have e1 : ((A ++ C).map fun y => (y.2.1, ptr y.1)) = ((A ++ x :: C).map fun y => (y.2.1, ptr y.1)).filter (fun y => y.1 ≠ x.2.1) := by
      simp only [List.map_append, List.map_cons, List.filter_append, List.nodup_append, List.nodup_cons, List.mem_cons] at hk ⊢
      rw [List.filter_cons, if_neg (by simp), List.filter_eq_self.2, List.filter_eq_self.2]
      · intro y hy
        obtain ⟨z, hz, rfl⟩ := List.mem_map.1 hy
        have := hk.2.1.1
        simpa using fun e2 => this (by rw [← e2]; exact List.mem_map_of_mem (f := fun x => x.2.1) hz)
      · intro y hy
        obtain ⟨z, hz, rfl⟩ := List.mem_map.1 hy
        have := hk.2.2 z.2.1 (List.mem_map_of_mem (f := fun x => x.2.1) hz) x.2.1 (.inl rfl)
        simpa using this
    rw [e1]; exact HPM.out.filter _
  · refine H.out.keys.sublist ?_
    simp only [List.map_append, List.map_cons]
    exact List.Sublist.append_left (List.sublist_cons_self _ _) _
  · have hr := HU.out.1
    refine ⟨(hother _ _ _ _ _ hr.fin).trans hr.fin, seg_same hr.seg fun y hy => ?_, hr.nodup⟩
    obtain ⟨p, n, hn⟩ := seg_node hr.seg y hy
    exact hother _ _ _ _ _ hn
  · intro j hj
    refine H.out.base j ?_
    simp only [List.map_append, List.map_cons, List.mem_cons, List.mem_append] at hj ⊢
    rcases hj with hj | hj | hj | hj | hj <;> simp [hj]
  · exact HU.out.2.2.2.2.1.trans ⟨HG2.out.os, HG2.out.tape, HG2.out.output, HG2.out.size, fun j hj => by
      by_cases hs : j < w'.heap.size
      · exact HG2.out.block j hs (by simp; omega)
      · have : mb < w'.heap.size := by
          obtain ⟨es, clock, hb, _⟩ := HM.out
          exact (Array.getElem?_eq_some_iff.1 (HU.out.2.2.2.1.trans hb)).1
        omega⟩
  · refine HU.out.2.2.2.2.2.trans fun j c t f ht hj => ?_
    rw [HG2.out.block j (Array.getElem?_eq_some_iff.1 hj).1]
    · exact hj
    · intro e1
      cases e1
      obtain ⟨es, clock, hb, _⟩ := HM.out
      rw [HU.out.2.2.2.1, hb] at hj; cases hj
end
end Go.Proofs.Ytjlpafpedoancaa.Ring
