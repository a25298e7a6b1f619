/- A list and the reference's beside each other; a row of calls. -/
import Derived.Test.YtjlpafpedoancaaLruH
import Derived.Test.YtjlpafpedoancaaLru7
import Derived.Deep.SlicePairs
import Derived.Deep.Strs
namespace Go.Proofs.Ytjlpafpedoancaa.Ring
set_option linter.unusedSimpArgs false
set_option linter.unusedVariables false
open Go.RowKit Go.ChangeShapes Go.WideShapes
theorem rputS_eq {n : Nat} {K : List Kv} (h : K.length ≤ n) (hn : 1 ≤ n) (hK : (K.map (·.1)).Nodup) (k v : Int) : rputS n K k v = putS n K k v := by
  cases hf : K.find? (fun x => x.1 = k) with
  | none =>
    unfold rputS putS
    rw [hf, kv_without hf]
    simp only
    by_cases hl : K.length = n
    · rw [if_pos (by omega), if_pos hl]
      rcases List.eq_nil_or_concat K with rfl | ⟨A, y, rfl⟩
      · simp at hl; omega
      · simp [List.getD, List.take_append, List.dropLast_append]
    · rw [if_neg (by omega), if_neg hl]
      simp only [peekS, hf]
  | some x =>
    obtain ⟨A, C, hL, _, hw⟩ := kv_split hK hf
    have hlen : (without K k).length + 1 = K.length := by rw [← hw, hL]; simp; omega
    unfold rputS putS
    rw [hf, if_neg (by omega)]
    simp only [peekS, hf]
/-- A row of calls in memory. -/
structure ARow (w : World) (a : Option Addr) (n cap : Nat) (L : List (Int × Int × Int)) : Prop where
  len : L.length = n
  le : n ≤ cap
  max : cap ≤ maxLen
  at_ : 0 < n → ∃ b off, a = some ⟨b, off, none⟩ ∧ b < w.heap.size ∧ ∀ i x, L[i]? = some x → w.cell? ⟨b, off + i * 3, none⟩ = some (.int .i64 x.1) ∧ w.cell? ⟨b, off + i * 3 + 1, none⟩ = some (.int .i64 x.2.1) ∧ w.cell? ⟨b, off + i * 3 + 2, none⟩ = some (.int .i64 x.2.2)
theorem ARow.below {w w' : World} {a : Option Addr} {n cap : Nat} {L : List (Int × Int × Int)} (h : ARow w a n cap L) (hb : Below w.heap.size w w') : ARow w' a n cap L :=
  ⟨h.len, h.le, h.max, fun hn => by
    obtain ⟨b, off, ha, hlt, hc⟩ := h.at_ hn
    refine ⟨b, off, ha, Nat.lt_of_lt_of_le hlt hb.size, fun i x hx => ?_⟩
    rw [hb.cell (p := ⟨b, off + i * 3, none⟩) hlt, hb.cell (p := ⟨b, off + i * 3 + 1, none⟩) hlt, hb.cell (p := ⟨b, off + i * 3 + 2, none⟩) hlt]
    exact hc i x hx⟩
theorem list3 {α : Type} {cs : List α} (h : cs.length = 3) : ∃ c0 c1 c2, cs = [c0, c1, c2] := by
  match cs, h with
  | [c0, c1, c2], _ => exact ⟨c0, c1, c2, rfl⟩
theorem act_cells : Try.prog.cellsOf 55 = 3 := by kernel_rfl
theorem int_cells : Try.prog.cellsOf 3 = 1 := by kernel_rfl
theorem open_acts {H : Type} {enc : TypeId × Value → H} {w : World} {base : Nat} {sp : Nat → Bool} {held : Bool} {a : Option Addr} {n cap : Nat} {d : DataW H} {p : List MemPlace}
    (h : DataW.Trod enc Try.prog w base sp held 51 (.slice a n cap) d p) : ∃ L, ARow w a n cap L := by
  obtain ⟨fuel, hf⟩ := h
  rcases Deep.open_slice Try.underlying51 hf with ⟨h0, _⟩ | ⟨x, len, c, m, q, D, Pl, hcs, _, hl, hm, hmm, _, hx⟩
  · simp [Value.cells] at h0
    obtain ⟨rfl, rfl, rfl⟩ := h0
    exact ⟨[], rfl, Nat.le_refl _, by simp, by simp⟩
  · simp [Value.cells] at hcs
    obtain ⟨rfl, rfl, rfl⟩ := hcs
    have hlm : n ≤ m := by rw [hmm]; split <;> omega
    have each : ∀ i, i < n → ∃ y : Int × Int × Int, w.cell? (x.add (i * 3)) = some (.int .i64 y.1) ∧ w.cell? (x.add (i * 3 + 1)) = some (.int .i64 y.2.1) ∧ w.cell? (x.add (i * 3 + 2)) = some (.int .i64 y.2.2) := by
      intro i hi
      obtain ⟨cs', h1, h2⟩ := hx i (by omega)
      rw [act_cells] at h1
      obtain ⟨_, hlen, hcell⟩ := World.cells?_some h1
      obtain ⟨y0, y1, y2, q', _, _, t0, t1, t2⟩ := Go.Deep.trod_struct3 Try.underlying55 h2
      obtain ⟨v0, v1, v2, rfl⟩ := list3 hlen
      · skip
        have e0 := hcell 0 (by omega)
        have e1 := hcell 1 (by omega)
        have e2 := hcell 2 (by omega)
        rw [Deep.add_add] at e0 e1 e2
        simp [int_cells] at t0 t1 t2 e0 e1 e2
        obtain ⟨z0, g0, _, _⟩ := DataW.trod_int Try.underlying3 t0
        obtain ⟨z1, g1, _, _⟩ := DataW.trod_int Try.underlying3 t1
        obtain ⟨z2, g2, _, _⟩ := DataW.trod_int Try.underlying3 t2
        cases g0; cases g1; cases g2
        exact ⟨(z0, z1, z2), e0, e1, e2⟩
    obtain ⟨f, hfx⟩ := Deep.choose_lt each
    refine ⟨(List.range n).map f, by simp, hl, hm, fun hn => ?_⟩
    obtain ⟨b, off, spot⟩ := x
    have h0 := (hfx 0 hn).1
    obtain rfl : spot = none := by simpa [Addr.add] using World.cell?_spot h0
    refine ⟨b, off, rfl, World.block_lt_of_cell? w _ h0, fun i y hy => ?_⟩
    have hi : i < n := by have := (List.getElem?_eq_some_iff.1 hy).1; simpa using this
    have h1 := hfx i hi
    simp only [Addr.add_lit] at h1
    obtain rfl : f i = y := by simpa [hi] using hy
    exact ⟨h1.1, by simpa [Nat.add_assoc] using h1.2.1, by simpa [Nat.add_assoc] using h1.2.2⟩
/-- The list holds Kx; the reference's, in the block S, holds Ks. -/
structure Inv (w0 w : World) (lb mb e S : Nat) (room : Int) (Kx Ks : List Kv) (a : Option Addr) (c : Nat) (b : Option Addr) (d : Nat) : Prop where
  lst : ∃ L, Lst w w0.heap.size lb room mb e L ∧ L.map (·.2) = Kx
  box : w.heap[S]? = some (.cells #[.int .i64 room, .slice a Ks.length c, .slice b Ks.length d] 53 (0, 0))
  k : IRow w a Ks.length c (Ks.map (·.1))
  v : IRow w b Ks.length d (Ks.map (·.2))
  below : Below w0.heap.size w0 w
  at_ : w0.heap.size ≤ S
section
variable {w0 w : World} {lb mb e S : Nat} {room : Int} {Kx Ks : List Kv} {a b : Option Addr} {c d : Nat}
theorem Inv.keep {w' : World} (h : Inv w0 w lb mb e S room Kx Ks a c b d) (hb : Below w.heap.size w w') : Inv w0 w' lb mb e S room Kx Ks a c b d := by
  obtain ⟨L, hl, hk⟩ := h.lst
  exact ⟨⟨L, hl.of_below hb, hk⟩, (hb.block S (Array.getElem?_eq_some_iff.1 h.box).1).trans h.box, h.k.below hb, h.v.below hb, h.below.trans (hb.mono h.below.size), h.at_⟩
theorem Inv.keeps {w' : World} {L : List Nd} (h : Inv w0 w lb mb e S room Kx Ks a c b d) (hl : Lst w' w0.heap.size lb room mb e L) (hb : Below w0.heap.size w w') (hk : Keeps w w') : Inv w0 w' lb mb e S room (L.map (·.2)) Ks a c b d :=
  ⟨⟨L, hl, rfl⟩, hk _ _ _ _ (by decide) h.box, h.k.keeps hk, h.v.keeps hk, h.below.trans hb, h.at_⟩
theorem Inv.cells (h : Inv w0 w lb mb e S room Kx Ks a c b d) :
    w.cell? ⟨S, 0, none⟩ = some (.int .i64 room) ∧ w.cell? ⟨S, 1, none⟩ = some (.slice a Ks.length c) ∧ w.cell? ⟨S, 2, none⟩ = some (.slice b Ks.length d) ∧ w.frozen? ⟨S, 0, none⟩ = false ∧ w.frozen? ⟨S, 1, none⟩ = false ∧ w.frozen? ⟨S, 2, none⟩ = false :=
  ⟨cell_at h.box rfl, cell_at h.box rfl, cell_at h.box rfl, free_at h.box, free_at h.box, free_at h.box⟩
theorem IRow.nothing (w : World) : IRow w none 0 0 [] := ⟨⟨rfl, Nat.le_refl _, by simp, by simp, by simp⟩, by simp⟩
theorem Inv.start {w' : World} (hl : Lst w w0.heap.size lb room mb e []) (h0 : Below w0.heap.size w0 w) (hb : Below w.heap.size w w') (hx : w'.heap[w.heap.size]? = some (.cells #[.int .i64 room, .slice none 0 0, .slice none 0 0] 53 (0, 0))) :
    Inv w0 w' lb mb e w.heap.size room [] [] none 0 none 0 :=
  ⟨⟨[], hl.of_below hb, rfl⟩, hx, IRow.nothing _, IRow.nothing _, h0.trans (hb.mono h0.size), h0.size⟩
theorem Inv.get (h : Inv w0 w lb mb e S room Kx Ks a c b d) (k : Int) : Calls Try.prog 36 #[ptr lb, .int .i64 k] w fun y w' => y = .returned (.tuple #[.int .i64 (peekS Kx k).1.2, .bool (peekS Kx k).2]) ∧ Inv w0 w' lb mb e S room (getS Kx k) Ks a c b d ∧ Keeps w w' ∧ w.heap.size ≤ w'.heap.size := by
  obtain ⟨L, hl, rfl⟩ := h.lst
  exact (get_any w _ lb mb e room L hl k).mono fun y w' ⟨h1, L', h2, h3, h4, h5⟩ => ⟨h1, h3 ▸ h.keeps h2 h4 h5, h5, h4.size⟩
theorem Inv.del (h : Inv w0 w lb mb e S room Kx Ks a c b d) (k : Int) : Calls Try.prog 41 #[ptr lb, .int .i64 k] w fun y w' => y = .returned (.tuple #[.int .i64 (peekS Kx k).1.2, .bool (peekS Kx k).2]) ∧ Inv w0 w' lb mb e S room (without Kx k) Ks a c b d ∧ Keeps w w' ∧ w.heap.size ≤ w'.heap.size := by
  obtain ⟨L, hl, rfl⟩ := h.lst
  exact (del_any w _ lb mb e room L hl k).mono fun y w' ⟨h1, L', h2, h3, h4, h5⟩ => ⟨h1, h3 ▸ h.keeps h2 h4 h5, h5, h4.size⟩
theorem Inv.put {n : Nat} (h : Inv w0 w lb mb e S n Kx Ks a c b d) (hn : 1 ≤ n) (k v : Int) : Calls Try.prog 31 #[ptr lb, .int .i64 k, .int .i64 v] w fun y w' => y = .returned (.tuple #[.int .i64 (putS n Kx k v).1.1, .bool (putS n Kx k v).1.2]) ∧ Inv w0 w' lb mb e S n (putS n Kx k v).2 Ks a c b d ∧ Keeps w w' ∧ w.heap.size ≤ w'.heap.size := by
  obtain ⟨L, hl, rfl⟩ := h.lst
  exact (put_any w _ lb mb e _ L n rfl hn hl k v h.below.size).mono fun y w' ⟨h1, L', h2, h3, h4, h5⟩ => ⟨h1, h3 ▸ h.keeps h2 h4 h5, h5, h4.size⟩
theorem Inv.peek (h : Inv w0 w lb mb e S room Kx Ks a c b d) (k : Int) : Calls Try.prog 38 #[ptr lb, .int .i64 k] w fun y w' => y = .returned (.tuple #[.int .i64 (peekS Kx k).1.2, .bool (peekS Kx k).2]) ∧ w = w' := by
  obtain ⟨L, hl, rfl⟩ := h.lst
  exact peek_any w _ lb mb e room L hl k
theorem Inv.nodup (h : Inv w0 w lb mb e S room Kx Ks a c b d) : (Kx.map (·.1)).Nodup := by
  obtain ⟨L, hl, rfl⟩ := h.lst
  have := hl.keys
  simpa [List.map_map, Function.comp_def] using this
theorem Inv.keys (h : Inv w0 w lb mb e S room Kx Ks a c b d) (hk : Kx.length ≤ 1000000) : Calls Try.prog 32 #[ptr lb] w fun x w' => ∃ a' c', x = .returned (.slice a' Kx.length c') ∧ Row w' a' Kx.length c' ((Kx.map (·.1)).map (Value.int .i64)) ∧ Below w.heap.size w w' := by
  obtain ⟨L, hl, rfl⟩ := h.lst
  refine (keys_some w _ lb mb e room L hl (by simpa using hk)).mono fun x w' ⟨v, h1, h2, h3⟩ => ?_
  obtain ⟨a', c', rfl, hr⟩ := Row.of_owns h2
  rw [keys_map] at hr
  exact ⟨a', c', by simpa using h1, by simpa using hr, h3⟩
theorem Inv.len (h : Inv w0 w lb mb e S room Kx Ks a c b d) (hk : Kx.length ≤ 1000000) : Calls Try.prog 43 #[ptr lb] w fun x w' => x = .returned (.int .i64 Kx.length) ∧ Below w.heap.size w w' := by
  obtain ⟨L, hl, rfl⟩ := h.lst
  simpa using len_some w _ lb mb e room L hl (by simpa using hk)
/-- The reference's struct, stored. -/
theorem Inv.store {a' b' : Option Addr} {c' d' : Nat} {Ks' : List Kv} (h : Inv w0 w lb mb e S room Kx Ks a c b d) (hk : IRow w a' Ks'.length c' (Ks'.map (·.1))) (hv : IRow w b' Ks'.length d' (Ks'.map (·.2))) :
    Inv w0 (((w.setCell ⟨S, 0, none⟩ (.int .i64 room)).setCell ⟨S, 1, none⟩ (.slice a' Ks'.length c')).setCell ⟨S, 2, none⟩ (.slice b' Ks'.length d')) lb mb e S room Kx Ks' a' c' b' d' := by
  obtain ⟨L, hl, rfl⟩ := h.lst
  have hne : ∀ j ∈ lb :: mb :: e :: L.map (·.1), j ≠ S := by
    intro j hj e1
    subst e1
    simp only [List.mem_cons] at hj
    rcases hj with rfl | rfl | hj | hj
    · have := hl.head; rw [h.box] at this; simp at this
    · exact hl.ne_map h.box rfl
    · obtain ⟨k1, v1, p1, n1, hn⟩ := hl.ring.any (Or.inl hj)
      have := h.box
      rw [show w.heap[j]? = _ from hn] at this
      simp [nodeO] at this
    · obtain ⟨k1, v1, p1, n1, hn⟩ := hl.ring.any (Or.inr hj)
      have := h.box
      rw [show w.heap[j]? = _ from hn] at this
      simp [nodeO] at this
  have hx : ∀ W : World, W = ((w.setCell ⟨S, 0, none⟩ (.int .i64 room)).setCell ⟨S, 1, none⟩ (.slice a' Ks'.length c')).setCell ⟨S, 2, none⟩ (.slice b' Ks'.length d') → ∀ j, j ≠ S → W.heap[j]? = w.heap[j]? := by
    rintro W rfl j hj
    rw [heap_set_ne _ hj, heap_set_ne _ hj, heap_set_ne _ hj]
  have hs := hx _ rfl
  obtain ⟨m, hm, hp⟩ := hl.map
  refine ⟨⟨L, ⟨(hs lb (hne lb (by simp))).trans hl.head, ⟨m, hm.of_block (hs mb (hne mb (by simp))), hp⟩, hl.keys, ⟨(hs e (hne e (by simp))).trans hl.ring.fin, seg_same hl.ring.seg fun x hx' => hs x.1 (hne x.1 (by simp only [List.mem_cons]; exact .inr (.inr (.inr (List.mem_map_of_mem hx'))))), hl.ring.nodup⟩, hl.base⟩, rfl⟩, ?_, hk.set3 h.box (by decide) _ _ _ _ _ _, hv.set3 h.box (by decide) _ _ _ _ _ _, ((h.below.setCell (p := ⟨S, 0, none⟩) h.at_ _).setCell (p := ⟨S, 1, none⟩) h.at_ _).setCell (p := ⟨S, 2, none⟩) h.at_ _, h.at_⟩
  exact (heap_set_at _ (heap_set_at _ (heap_set_at _ h.box))).trans rfl
theorem Inv.rget (h : Inv w0 w lb mb e S room Kx Ks a c b d) (hn : (Ks.map (·.1)).Nodup) (hk : Ks.length ≤ 1000000) (k : Int) :
    Calls Try.prog 37 #[.agg #[.int .i64 room, .slice a Ks.length c, .slice b Ks.length d], .int .i64 k] w fun y w' => ∃ a' c' b' d', y = .returned (.tuple #[.agg #[.int .i64 room, .slice a' (getS Ks k).length c', .slice b' (getS Ks k).length d'], .int .i64 (peekS Ks k).1.2, .bool (peekS Ks k).2]) ∧
      Inv w0 (((w'.setCell ⟨S, 0, none⟩ (.int .i64 room)).setCell ⟨S, 1, none⟩ (.slice a' (getS Ks k).length c')).setCell ⟨S, 2, none⟩ (.slice b' (getS Ks k).length d')) lb mb e S room Kx (getS Ks k) a' c' b' d' ∧ Inv w0 w' lb mb e S room Kx Ks a c b d ∧ Below w.heap.size w w' :=
  (rget_any w room a b _ c _ d Ks k h.k h.v hn hk).mono fun y w' ⟨a', c', b', d', h1, h2, h3, h4⟩ => ⟨a', c', b', d', h1, (h.keep h4).store h2 h3, h.keep h4, h4⟩
theorem Inv.rput {n : Nat} (h : Inv w0 w lb mb e S n Kx Ks a c b d) (hn : (Ks.map (·.1)).Nodup) (hk : Ks.length ≤ n) (hn1 : 1 ≤ n) (hn2 : n ≤ 1000000) (k v : Int) :
    Calls Try.prog 40 #[.agg #[.int .i64 n, .slice a Ks.length c, .slice b Ks.length d], .int .i64 k, .int .i64 v] w fun y w' => ∃ a' c' b' d', y = .returned (.tuple #[.agg #[.int .i64 n, .slice a' (putS n Ks k v).2.length c', .slice b' (putS n Ks k v).2.length d'], .int .i64 (putS n Ks k v).1.1, .bool (putS n Ks k v).1.2]) ∧
      Inv w0 (((w'.setCell ⟨S, 0, none⟩ (.int .i64 n)).setCell ⟨S, 1, none⟩ (.slice a' (putS n Ks k v).2.length c')).setCell ⟨S, 2, none⟩ (.slice b' (putS n Ks k v).2.length d')) lb mb e S n Kx (putS n Ks k v).2 a' c' b' d' ∧ Inv w0 w' lb mb e S n Kx Ks a c b d ∧ Below w.heap.size w w' := by
  have h9 := rput_any w n a b _ c _ d Ks k v h.k h.v hn (by omega)
  rw [rputS_eq hk hn1 hn] at h9
  exact h9.mono fun y w' ⟨a', c', b', d', h1, h2, h3, h4⟩ => ⟨a', c', b', d', h1, (h.keep h4).store h2 h3, h.keep h4, h4⟩
theorem Inv.rdel (h : Inv w0 w lb mb e S room Kx Ks a c b d) (hn : (Ks.map (·.1)).Nodup) (hk : Ks.length ≤ 1000000) (k : Int) :
    Calls Try.prog 42 #[.agg #[.int .i64 room, .slice a Ks.length c, .slice b Ks.length d], .int .i64 k] w fun y w' => ∃ a' c' b' d', y = .returned (.agg #[.int .i64 room, .slice a' (without Ks k).length c', .slice b' (without Ks k).length d']) ∧
      Inv w0 (((w'.setCell ⟨S, 0, none⟩ (.int .i64 room)).setCell ⟨S, 1, none⟩ (.slice a' (without Ks k).length c')).setCell ⟨S, 2, none⟩ (.slice b' (without Ks k).length d')) lb mb e S room Kx (without Ks k) a' c' b' d' ∧ Inv w0 w' lb mb e S room Kx Ks a c b d ∧ Below w.heap.size w w' :=
  (rdel_any w room a b _ c _ d Ks k h.k h.v hn hk).mono fun y w' ⟨a', c', b', d', h1, h2, h3, h4⟩ => ⟨a', c', b', d', h1, (h.keep h4).store h2 h3, h.keep h4, h4⟩
theorem Inv.rpeek (h : Inv w0 w lb mb e S room Kx Ks a c b d) (hn : (Ks.map (·.1)).Nodup) (k : Int) :
    Calls Try.prog 39 #[.agg #[.int .i64 room, .slice a Ks.length c, .slice b Ks.length d], .int .i64 k] w fun y w' => y = .returned (.tuple #[.int .i64 (peekS Ks k).1.2, .bool (peekS Ks k).2]) ∧ Inv w0 w' lb mb e S room Kx Ks a c b d ∧ Below w.heap.size w w' :=
  (rpeek_any w room a b _ c _ d Ks k h.k h.v hn).mono fun y w' ⟨h1, h4⟩ => ⟨h1, h.keep h4, h4⟩
theorem without_length (K : List Kv) (k : Int) : (without K k).length ≤ K.length := List.length_filter_le _ _
theorem getS_length {K : List Kv} (hK : (K.map (·.1)).Nodup) (k : Int) : (getS K k).length ≤ K.length := by
  cases hf : K.find? (fun x => x.1 = k) with
  | none => simp only [getS, hf]; exact Nat.le_refl _
  | some x =>
    obtain ⟨A, C, hL, _, hw⟩ := kv_split hK hf
    simp only [getS, hf]
    rw [← hw, hL]
    simp
    omega
end
end Go.Proofs.Ytjlpafpedoancaa.Ring
