/- The contracts of package lru's methods at [int, int]: Put. -/
import Derived.Test.YtjlpafpedoancaaLru3
namespace Go.Proofs.Ytjlpafpedoancaa.Ring
open Go.RowKit
theorem _root_.Go.Proofs.Ytjlpafpedoancaa.IMap.alloc {w : World} {b : Nat} {l : List (Int × Value)} (h : IMap w b l) (o : Obj) : IMap (w.alloc o) b l := h.kept (World.grownBy_alloc w o none) (by simp)
theorem _root_.Go.Proofs.Ytjlpafpedoancaa.IMap.drewN {w : World} {b : Nat} {l : List (Int × Value)} (h : IMap w b l) (q : Nat) : IMap (w.drewN q) b l := h
def freshO (k v : Int) : Obj := .cells #[.int .i64 k, .int .i64 v, .pointer none, .pointer none] 115 (0, 0)
/-- What stands behind the store into the map, ahead of the call of front. -/
structure Mid (w1 w3 : World) (B lb mb e : Nat) (room k v : Int) (L : List Nd) : Prop where
  head : w3.heap[lb]? = some (.cells #[.int .i64 room, .map (some mb), ptr e] 118 (0, 0))
  new : w3.heap[w1.heap.size]? = some (.cells #[.int .i64 k, .int .i64 v, .pointer none, .pointer none] 115 (0, 0))
  ring : Ring w3 e L
  map : ∃ m, IMap w3 mb m ∧ m.Perm (((w1.heap.size, k, v) :: L).map fun x => (x.2.1, ptr x.1))
  below : Below B w1 w3
  keeps : Keeps w1 w3
  notin : w1.heap.size ∉ e :: L.map (·.1)
  ne : w1.heap.size ≠ e
  nh : w1.heap.size ≠ hd e L
theorem Lst.lt {w : World} {B lb mb e : Nat} {room : Int} {L : List Nd} (h : Lst w B lb room mb e L) : ∀ j ∈ lb :: mb :: e :: L.map (·.1), j < w.heap.size := by
  intro j hj
  simp only [List.mem_cons] at hj
  rcases hj with rfl | rfl | hj
  · exact (Array.getElem?_eq_some_iff.1 h.head).1
  · obtain ⟨m, ⟨es, clock, hb, _⟩, _⟩ := h.map
    exact (Array.getElem?_eq_some_iff.1 hb).1
  · obtain ⟨_, _, _, _, hn⟩ := h.ring.any hj
    exact (Array.getElem?_eq_some_iff.1 hn).1
theorem Lst.mid {w1 w2 w3 : World} {B lb mb e : Nat} {room : Int} {L : List Nd} (h : Lst w1 B lb room mb e L) {k v : Int} {m : List (Int × Value)} (hp : m.Perm (L.map fun x => (x.2.1, ptr x.1)))
    (h2 : Below w1.heap.size w1 w2) (hb : w2.heap[w1.heap.size]? = some (freshO k v)) (h3 : IMap w3 mb (m ++ [(k, ptr w1.heap.size)])) (g3 : w2.grownBy w3 (some mb)) : Mid w1 w3 B lb mb e room k v L := by
  have hlt := h.lt
  have hlm : lb ≠ mb := by
    intro e1
    obtain ⟨m, ⟨es, clock, hb, _⟩, _⟩ := h.map
    have := h.head
    rw [e1, hb] at this; cases this
  have hsz : w1.heap.size < w2.heap.size := (Array.getElem?_eq_some_iff.1 hb).1
  have hmb := hlt mb (by simp)
  have hold : ∀ j, j < w1.heap.size → j ≠ mb → w3.heap[j]? = w1.heap[j]? := fun j hj hne => (g3.block j (by omega) (by simpa using hne)).trans (h2.block j hj)
  have hnotin : w1.heap.size ∉ e :: L.map (·.1) := fun hm => by have := hlt w1.heap.size (by simp only [List.mem_cons] at hm ⊢; exact .inr (.inr hm)); omega
  have nodes : ∀ j k v p n, node w1 j k v p n → w3.heap[j]? = w1.heap[j]? := fun j k v p n hj => hold j (Array.getElem?_eq_some_iff.1 hj).1 (h.ne_map hj)
  refine ⟨?_, ?_, ⟨(nodes _ _ _ _ _ h.ring.fin).trans h.ring.fin, seg_same h.ring.seg fun x hx => ?_, h.ring.nodup⟩, ⟨_, h3, ?_⟩, ?_, ?_, hnotin, ?_, ?_⟩
  · rw [hold lb (hlt lb (by simp)) hlm]; exact h.head
  · rw [g3.block _ hsz (by simp; omega)]; exact hb
  · obtain ⟨p, n, hn⟩ := seg_node h.ring.seg x hx
    exact nodes _ _ _ _ _ hn
  · exact (List.perm_append_comm.trans (hp.cons _))
  · have hB := h.base mb (by simp)
    refine ⟨g3.os.trans h2.os, g3.tape.trans h2.tape, g3.output.trans h2.output, Nat.le_trans h2.size g3.size, fun j hj => hold j (by omega) (by omega)⟩
  · intro j c t f ht hj
    rw [hold j (Array.getElem?_eq_some_iff.1 hj).1 (h.ne_map hj)]; exact hj
  · exact fun e1 => hnotin (by rw [e1]; simp)
  · intro e1
    rcases hd_mem (t := e) (l := L) with h1 | h1
    · exact hnotin (by rw [e1, h1]; simp)
    · exact hnotin (by rw [e1]; exact List.mem_cons_of_mem _ h1)
theorem Mid.fin {w1 w3 w4 : World} {B lb mb e : Nat} {room k v : Int} {L : List Nd} (h : Mid w1 w3 B lb mb e room k v L) (h1 : Lst w1 B lb room mb e L) (hk : ∀ x ∈ L, x.2.1 ≠ k) (hB : B ≤ w1.heap.size)
    (hf : Fronted w3 w4 w1.heap.size k v e (hd e L)) : Lst w4 B lb room mb e ((w1.heap.size, k, v) :: L) ∧ Below B w1 w4 ∧ Keeps w1 w4 := by
  have hl3 : Lst w3 B lb room mb e ((w1.heap.size, k, v) :: L) → True := fun _ => trivial
  obtain ⟨m, hm, hpm⟩ := h.map
  obtain ⟨_, _, _, _, hne⟩ := h.ring.any (j := e) (.inl rfl)
  obtain ⟨_, _, _, _, hnn⟩ := h.ring.any (j := hd e L) hd_mem
  have nl : ∀ {j k v p n}, node w3 j k v p n → lb ≠ j := fun hj e1 => by subst e1; have := h.head; rw [show w3.heap[lb]? = _ from hj] at this; cases this
  have nm : ∀ {j c t f}, w3.heap[j]? = some (Obj.cells c t f) → mb ≠ j := fun {j c t f} hj e1 => by
    obtain ⟨es, clock, hb, _⟩ := hm
    subst e1; rw [hb] at hj; cases hj
  have elb : w4.heap[lb]? = w3.heap[lb]? := by
    rw [hf.heap lb (by intro e1; have := h.head; rw [e1, h.new] at this; cases this), if_neg (nl hnn), if_neg (nl hne)]
  have emb : w4.heap[mb]? = w3.heap[mb]? := by
    rw [hf.heap mb (nm h.new), if_neg (nm hnn), if_neg (nm hne)]
  have hbase : ∀ j ∈ lb :: mb :: e :: ((w1.heap.size, k, v) :: L).map (·.1), B ≤ j := by
    intro j hj
    simp only [List.map_cons, List.mem_cons] at hj
    rcases hj with hj | hj | hj | hj | hj
    · exact h1.base j (by simp [hj])
    · exact h1.base j (by simp [hj])
    · exact h1.base j (by simp [hj])
    · omega
    · exact h1.base j (by simp only [List.mem_cons]; exact .inr (.inr (.inr hj)))
  refine ⟨⟨elb.trans h.head, ⟨m, hm.of_block emb, hpm⟩, ?_, front_ring h.ring hf h.notin, hbase⟩, h.below.trans (hf.below hB (h1.base e (by simp)) (h1.base _ (by rcases hd_mem (t := e) (l := L) with h | h <;> simp only [List.mem_cons] <;> simp [h]))), h.keeps.trans (hf.keeps hne hnn h.new)⟩
  simp only [List.map_cons, List.nodup_cons]
  refine ⟨fun hm => ?_, h1.keys⟩
  obtain ⟨x, hx, hxk⟩ := List.mem_map.1 hm
  exact hk x hx hxk
section
variable (w : World) (B lb mb e : Nat) (room : Int)
theorem put_room (L : List Nd) (h : Lst w B lb room mb e L) (k v : Int) (hk : ∀ x ∈ L, x.2.1 ≠ k) (hr : (L.length : Int) ≠ room) (hB : B ≤ w.heap.size) :
    Calls Try.prog 31 #[ptr lb, .int .i64 k, .int .i64 v] w fun y w' => y = .returned (.tuple #[.int .i64 0, .bool false]) ∧ ∃ b, Lst w' B lb room mb e ((b, k, v) :: L) ∧ Below B w w' ∧ Keeps w w' := by
  obtain ⟨m, hm, hpm⟩ := h.map
  have hml : m.length = L.length := by simpa using hpm.length_eq
  have c0 : w.cell? ⟨lb, 0, none⟩ = some (.int .i64 room) := cell_at h.head rfl
  have c1 : w.cell? ⟨lb, 1, none⟩ = some (.map (some mb)) := cell_at h.head rfl
  have hlen : ∀ n, (Builtin.len_ #[116] 3 #[.map (some mb)]).run Try.prog (w.drewN n) = .ok (.int .i64 L.length) (w.drewN n) := fun n => by
    rw [← hml]; exact (show IMap (w.drewN n) mb m from hm).len Try.underlying116 3
  have hmk : ∀ x ∈ m, x.1 ≠ k := fun x hx => by
    obtain ⟨y, hy, rfl⟩ := List.mem_map.1 (hpm.mem_iff.1 hx)
    exact hk y hy
  have hr2 : ((L.length : Int) == room) = false := beq_eq_false_iff_ne.2 hr
  have hlb := h.lt lb (by simp)
  have cA : ∀ n o, ((w.drewN n).alloc o).cell? ⟨lb, 1, none⟩ = some (.map (some mb)) := fun n o => cell_at (((MapKept.heap_alloc (w.drewN n) o).2 lb hlb).trans h.head) rfl
  have H := Lib.hid h
  have HM := Lib.hid hm
  have HPM := Lib.hid hpm
  have HK := Lib.hid hk
  have HMK := Lib.hid hmk
  clear h hm hpm hk hmk hml hr
  go_enter Try.func31, Try.ntmps31
  go_wp2_with (go_at_call 41; (with_reducible refine (del_no _ _ _ _ _ _ _ H.out k HK.out).mono ?_); rintro e w' ⟨rfl, rfl⟩)
  go_quiet (fail)
  go_wp2_with (first | (at_mapUpdate; refine wpl_store_new rfl _ _ _ 116 rfl Try.underlying116 Try.underlying3 mb m rfl _ rfl _ rfl ((HM.out.drewN _).alloc _) HMK.out ?_; intro w3 hm3 hg3; have HD := Lib.hid (H.out.mid HPM.out ((below_drewN (Below.refl _ _) _).alloc (Nat.le_refl _) _) (heap_alloc_new (w.drewN _) _) hm3 hg3); clear hm3 hg3) | (go_at_call 64; refine (front _ _ _ _ _ _ _ _ _ _ _ _ HD.out.head HD.out.new HD.out.ring.fin (HD.out.ring.any hd_mem).choose_spec.choose_spec.choose_spec.choose_spec HD.out.ne HD.out.nh).mono ?_; rintro e w' ⟨rfl, hf⟩; have HF := Lib.hid hf; clear hf))
  go_ret2
  exact ⟨rfl, _, HD.out.fin H.out HK.out hB HF.out⟩
theorem put_old (A C : List Nd) (x : Nd) (h : Lst w B lb room mb e (A ++ x :: C)) (v : Int) (hB : B ≤ w.heap.size) :
    Calls Try.prog 31 #[ptr lb, .int .i64 x.2.1, .int .i64 v] w fun y w' => y = .returned (.tuple #[.int .i64 x.2.2, .bool true]) ∧ ∃ b, Lst w' B lb room mb e ((b, x.2.1, v) :: (A ++ C)) ∧ Below B w w' ∧ Keeps w w' := by
  have hk : ∀ y ∈ A ++ C, y.2.1 ≠ x.2.1 := by
    have hk := h.keys
    simp only [List.map_append, List.map_cons, List.nodup_append, List.nodup_cons, List.mem_cons] at hk
    intro y hy
    rcases List.mem_append.1 hy with hy | hy
    · exact hk.2.2 y.2.1 (List.mem_map_of_mem (f := fun x => x.2.1) hy) x.2.1 (.inl rfl)
    · exact fun e1 => hk.2.1.1 (by rw [← e1]; exact List.mem_map_of_mem (f := fun x => x.2.1) hy)
  have H := Lib.hid h
  have HK := Lib.hid hk
  clear h hk
  go_enter Try.func31, Try.ntmps31
  go_wp2_with (go_at_call 41; (with_reducible refine (del_yes _ _ _ _ _ _ A C x H.out).mono ?_); rintro e w' ⟨rfl, hL, hb1, hk1⟩; obtain ⟨m, hm, hpm⟩ := hL.map; have HM := Lib.hid hm; have HPM := Lib.hid hpm; have HL := Lib.hid hL; have HB := Lib.hid hb1; have HK1 := Lib.hid hk1; clear hm hpm hL hb1 hk1)
  have c0 : w'.cell? ⟨lb, 0, none⟩ = some (.int .i64 room) := cell_at HL.out.head rfl
  have c1 : w'.cell? ⟨lb, 1, none⟩ = some (.map (some mb)) := cell_at HL.out.head rfl
  have hlb := HL.out.lt lb (by simp)
  have cA : ∀ n o, ((w'.drewN n).alloc o).cell? ⟨lb, 1, none⟩ = some (.map (some mb)) := fun n o => cell_at (((MapKept.heap_alloc (w'.drewN n) o).2 lb hlb).trans HL.out.head) rfl
  have HMK := Lib.hid (show ∀ y ∈ m, y.1 ≠ x.2.1 from fun y hy => by
    obtain ⟨z, hz, rfl⟩ := List.mem_map.1 (HPM.out.mem_iff.1 hy)
    exact HK.out z hz)
  go_quiet (fail)
  go_wp2_with (first | (at_mapUpdate; refine wpl_store_new rfl _ _ _ 116 rfl Try.underlying116 Try.underlying3 mb m rfl _ rfl _ rfl ((HM.out.drewN _).alloc _) HMK.out ?_; intro w3 hm3 hg3; have HD := Lib.hid (HL.out.mid HPM.out ((below_drewN (Below.refl _ _) _).alloc (Nat.le_refl _) _) (heap_alloc_new (w'.drewN _) _) hm3 hg3); clear hm3 hg3) | (go_at_call 64; refine (front _ _ _ _ _ _ _ _ _ _ _ _ HD.out.head HD.out.new HD.out.ring.fin (HD.out.ring.any hd_mem).choose_spec.choose_spec.choose_spec.choose_spec HD.out.ne HD.out.nh).mono ?_; rintro e w' ⟨rfl, hf⟩; have HF := Lib.hid hf; clear hf))
  go_ret2
  have hr := HD.out.fin HL.out HK.out (Nat.le_trans hB HB.out.size) HF.out
  exact ⟨rfl, _, hr.1, HB.out.trans hr.2.1, HK1.out.trans hr.2.2⟩
theorem Lst.drewN {w : World} {B lb mb e : Nat} {room : Int} {L : List Nd} (h : Lst w B lb room mb e L) (q : Nat) : Lst (w.drewN q) B lb room mb e L :=
  ⟨h.head, h.map, h.keys, ⟨h.ring.fin, seg_same h.ring.seg fun _ _ => rfl, h.ring.nodup⟩, h.base⟩
set_option maxRecDepth 100000 in
theorem put_full (A : List Nd) (y : Nd) (h : Lst w B lb room mb e (A ++ [y])) (k v : Int) (hk : ∀ x ∈ A ++ [y], x.2.1 ≠ k) (hr : ((A ++ [y]).length : Int) = room) (hB : B ≤ w.heap.size) :
    Calls Try.prog 31 #[ptr lb, .int .i64 k, .int .i64 v] w fun z w' => z = .returned (.tuple #[.int .i64 y.2.2, .bool true]) ∧ ∃ b, Lst w' B lb room mb e ((b, k, v) :: A) ∧ Below B w w' ∧ Keeps w w' := by
  obtain ⟨m0, hm0, hpm0⟩ := h.map
  have hml : (m0.length : Int) = room := by have := hpm0.length_eq; simp only [List.length_map] at this; omega
  have c0 : w.cell? ⟨lb, 0, none⟩ = some (.int .i64 room) := cell_at h.head rfl
  have c1 : w.cell? ⟨lb, 1, none⟩ = some (.map (some mb)) := cell_at h.head rfl
  have c2 : w.cell? ⟨lb, 2, none⟩ = some (ptr e) := cell_at h.head rfl
  have d2 : w.cell? ⟨e, 2, none⟩ = some (ptr y.1) := by
    have := h.ring.fin
    rw [lst_append] at this
    exact cell_at this rfl
  have d0 : w.cell? ⟨y.1, 0, none⟩ = some (.int .i64 y.2.1) := by
    obtain ⟨p, n, hn⟩ := seg_node h.ring.seg y (by simp)
    exact cell_at hn rfl
  have hlen : ∀ n, (Builtin.len_ #[116] 3 #[.map (some mb)]).run Try.prog (w.drewN n) = .ok (.int .i64 room) (w.drewN n) := fun n => by
    rw [← hml]; exact (show IMap (w.drewN n) mb m0 from hm0).len Try.underlying116 3
  have H := Lib.hid h
  have HK := Lib.hid (show ∀ x ∈ A ++ [], x.2.1 ≠ k from fun x hx => hk x (by simpa using Or.inl (by simpa using hx)))
  have HK0 := Lib.hid hk
  clear h hk hm0 hpm0 hml hr
  go_enter Try.func31, Try.ntmps31
  go_wp2_with (go_at_call 41; (with_reducible refine (del_no _ _ _ _ _ _ _ H.out k HK0.out).mono ?_); rintro e w' ⟨rfl, rfl⟩)
  go_quiet (fail)
  go_wp2_with (first | (go_at_call 41; (with_reducible refine (del_yes _ _ _ _ _ _ A [] y (H.out.drewN _)).mono ?_); rintro e w' ⟨rfl, hL, hb1, hk1⟩; obtain ⟨m, hm, hpm⟩ := hL.map; have HM := Lib.hid hm; have HPM := Lib.hid hpm; have HL := Lib.hid hL; have HB := Lib.hid hb1; have HK1 := Lib.hid (show Keeps w w' from hk1); have hs := Nat.le_trans hB (show w.heap.size ≤ w'.heap.size from hb1.size); have HMK := Lib.hid (show ∀ y ∈ m, y.1 ≠ k from fun y hy => by (obtain ⟨z, hz, rfl⟩ := List.mem_map.1 (hpm.mem_iff.1 hy); exact HK.out z hz)); have hlb := hL.lt lb (by simp); have g1 : w'.cell? ⟨lb, 1, none⟩ = some (.map (some mb)) := cell_at hL.head rfl; have gA : ∀ o, (w'.alloc o).cell? ⟨lb, 1, none⟩ = some (.map (some mb)) := (fun o => cell_at (((MapKept.heap_alloc w' o).2 lb hlb).trans HL.out.head) rfl); clear hm hpm hL hb1 hk1) | (at_mapUpdate; refine wpl_store_new rfl _ _ _ 116 rfl Try.underlying116 Try.underlying3 mb m rfl _ rfl _ rfl (HM.out.alloc _) HMK.out ?_; intro w3 hm3 hg3; have HD := Lib.hid (HL.out.mid HPM.out ((Below.refl _ _).alloc (Nat.le_refl _) _) (heap_alloc_new w' _) hm3 hg3); clear hm3 hg3) | (go_at_call 64; refine (front _ _ _ _ _ _ _ _ _ _ _ _ HD.out.head HD.out.new HD.out.ring.fin (HD.out.ring.any hd_mem).choose_spec.choose_spec.choose_spec.choose_spec HD.out.ne HD.out.nh).mono ?_; rintro e w' ⟨rfl, hf⟩; have HF := Lib.hid hf; clear hf))
  go_ret2
  have hr := HD.out.fin HL.out HK.out hs HF.out
  have e1 : A ++ [] = A := List.append_nil A
  rw [e1] at hr
  exact ⟨rfl, _, hr.1, ((below_drewN (Below.refl _ w) nq).trans HB.out).trans hr.2.1, HK1.out.trans hr.2.2⟩
end
end Go.Proofs.Ytjlpafpedoancaa.Ring
