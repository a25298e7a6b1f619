/- A tree off bytes: the reference's node. -/
import Derived.Test.YtephllgddhncgaaGreatDoorGTok
import Derived.Test.YtephllgddhncgaaGreatDoorParse23
namespace Go.Proofs.YtephllgddhncgaaGreatDoor.Lex
open Go.RowKit
set_option linter.unusedSimpArgs false
set_option linter.unusedVariables false
/-! ### Bytes, plain -/
theorem while_at {r : List UInt8} {i : Nat} (h : i < (r.takeWhile isDig).length) : ∃ b, r[i]? = some b ∧ isDig b = true := by
  have e := List.takeWhile_append_dropWhile (p := isDig) (l := r)
  refine ⟨(r.takeWhile isDig)[i]'h, ?_, ?_⟩
  · conv => lhs; rw [← e]
    rw [List.getElem?_append_left h, List.getElem?_eq_getElem h]
  · exact List.all_eq_true.1 List.all_takeWhile _ (List.getElem_mem h)
theorem while_take (r : List UInt8) : r.takeWhile isDig = r.take (r.takeWhile isDig).length ∧ r.dropWhile isDig = r.drop (r.takeWhile isDig).length := by
  have e := List.takeWhile_append_dropWhile (p := isDig) (l := r)
  constructor
  · exact (List.take_left' (l₂ := r.dropWhile isDig) rfl).symm.trans (by rw [e])
  · exact (List.drop_left' (l₁ := r.takeWhile isDig) rfl).symm.trans (by rw [e])
theorem while_end {r : List UInt8} {b : UInt8} (h : r[(r.takeWhile isDig).length]? = some b) : isDig b = false := by
  have := List.head?_dropWhile_not isDig r
  rw [(while_take r).2, List.head?_drop, h] at this
  simpa using this
theorem at_list {s : ByteArray} {p : Nat} (h : p < s.size) : s.data.toList[p]? = some (s[p]'h) := by rw [some_at h, byteAt_eq h]
theorem nodeB_kw0 {f : Nat} {l : List UInt8} (h : kwB l = 0) : nodeB f l = none := by
  cases f with
  | zero => rfl
  | succ f => rw [nodeB, if_pos h]
theorem nodeB_num {f : Nat} {l : List UInt8} (h : numOf ((l.drop (wordD (kwB l)).length).takeWhile isDig) = none) : nodeB f l = none := by
  cases f with
  | zero => rfl
  | succ f =>
    rw [nodeB]
    split
    · rfl
    · rw [h]
theorem nodeB_leaf {f n : Nat} {l r : List UInt8} (h : kwB l ≠ 0) (hn : numOf ((l.drop (wordD (kwB l)).length).takeWhile isDig) = some n) (hr : (l.drop (wordD (kwB l)).length).dropWhile isDig = r) (h40 : r.head? ≠ some 40) : nodeB (f + 1) l = some (.mk (kwB l) n [], r) := by
  rw [nodeB, if_neg h, hn, hr]
  dsimp only
  split
  · exact absurd rfl h40
  · rfl
theorem nodeB_kids {f n : Nat} {l r : List UInt8} (h : kwB l ≠ 0) (hn : numOf ((l.drop (wordD (kwB l)).length).takeWhile isDig) = some n) (hr : (l.drop (wordD (kwB l)).length).dropWhile isDig = 40 :: r) : nodeB (f + 1) l = (kidsB f r).map fun q => (.mk (kwB l) n q.1, q.2) := by
  rw [nodeB, if_neg h, hn, hr]
  rfl
/-- What stands behind a kid. -/
def tailB (g : Nat) : List UInt8 → Option (List DescV × List UInt8)
  | 44 :: r => kidsB g r
  | 41 :: r => some ([], r)
  | _ => none
theorem kidsB_tail (g : Nat) (l : List UInt8) : kidsB (g + 1) l = match nodeB g l with | none => none | some (d, r) => (tailB g r).map fun q => (d :: q.1, q.2) := by
  rw [kidsB]
  split
  · rename_i h; rw [h]
  · rename_i d r h
    rw [h]
    dsimp only
    split
    · rfl
    · rfl
    · rename_i h1 h2
      unfold tailB
      split
      · rename_i r' ; exact absurd rfl (h1 r')
      · rename_i r' ; exact absurd rfl (h2 r')
      · rfl
theorem drop_byte {s : ByteArray} {p : Nat} (h : p < s.size) : s.data.toList.drop p = (s[p]'h) :: s.data.toList.drop (p + 1) := by
  have hl : s.data.toList.length = s.size := by simp
  rw [List.drop_eq_getElem_cons (by omega)]
  congr 1
theorem tailB_end {g p : Nat} {s : ByteArray} (h : s.size ≤ p) : tailB g (s.data.toList.drop p) = none := by rw [List.drop_of_length_le (by simp; exact h)]; rfl
theorem tailB_more {g p : Nat} {s : ByteArray} (h : p < s.size) (hb : s[p]'h = 44) : tailB g (s.data.toList.drop p) = kidsB g (s.data.toList.drop (p + 1)) := by rw [drop_byte h, hb]; rfl
theorem tailB_last {g p : Nat} {s : ByteArray} (h : p < s.size) (hb : s[p]'h = 41) : tailB g (s.data.toList.drop p) = some ([], s.data.toList.drop (p + 1)) := by rw [drop_byte h, hb]; rfl
theorem tailB_other {g p : Nat} {s : ByteArray} (h : p < s.size) (h1 : s[p]'h ≠ 44) (h2 : s[p]'h ≠ 41) : tailB g (s.data.toList.drop p) = none := by
  rw [drop_byte h]
  unfold tailB
  split
  · rename_i r e; exact absurd (List.cons.inj e).1 h1
  · rename_i r e; exact absurd (List.cons.inj e).1 h2
  · rfl
theorem nodeB_len {f a b : Nat} {l : List UInt8} {d : DescV} (h : nodeB f (l.drop a) = some (d, l.drop b)) : (l.drop b).length + 1 ≤ (l.drop a).length := by
  obtain ⟨e, ho⟩ := (soundB f).1 _ _ _ h
  obtain ⟨k, n, ks⟩ := d
  rw [DescV.heads, List.all_cons, Bool.and_eq_true] at ho
  have hk := okH_iff.1 ho.1
  have := List.length_pos_iff.2 (wordD_ne ⟨hk.1, hk.2.1⟩)
  rw [e, tokD]
  simp only [List.flatten_cons, List.length_append]
  omega
/-- The kind found so far. -/
def cur (L : List UInt8) (k : Nat) : Nat := if kwB L < k then kwB L else 0
theorem cur_hit {L : List UInt8} {k : Nat} (h : kwB L = k) : cur L (k + 1) = k := by unfold cur; rw [if_pos (by omega), h]
theorem cur_no {L : List UInt8} {k : Nat} (h : kwB L ≠ k) : cur L (k + 1) = cur L k := by
  unfold cur
  by_cases hlt : kwB L < k
  · rw [if_pos hlt, if_pos (by omega)]
  · rw [if_neg hlt, if_neg (by omega)]
theorem cur_end (L : List UInt8) : cur L 8 = kwB L := by have := kwB_le L; unfold cur; rw [if_pos (by omega)]
theorem cur_one (L : List UInt8) : cur L 1 = 0 := by
  unfold cur
  split
  · omega
  · rfl
theorem kwB_iff {L : List UInt8} {k : Nat} (h1 : 1 ≤ k) (h7 : k ≤ 7) : kwB L = k ↔ L.take (wordD k).length = wordD k ∧ (wordD k).length ≤ L.length := by
  have hi : k - 1 < 7 := by omega
  have e : wordD k = names23[k - 1]'hi := by
    have := wordD_succ (i := k - 1) hi
    rwa [show ((k - 1 + 1 : Nat) : Int) = (k : Int) by omega] at this
  constructor
  · intro h
    have := kwB_pre (l := L) (by omega)
    rw [h] at this
    constructor
    · exact (congrArg (List.take (wordD k).length) this).symm.trans (List.take_left' rfl)
    · have := congrArg List.length this
      rw [List.length_append] at this
      omega
  · rintro ⟨h, _⟩
    rw [kwB_at hi (by rw [← e, List.isPrefixOf_iff_prefix, ← h]; exact List.take_prefix _ _)]
    omega
theorem ext_eq (s : ByteArray) (a : Nat) (x : List UInt8) : ((s.extract a (a + x.length)).toList == (bs x).toList) = ((s.data.toList.drop a).take x.length == x) := by
  rw [ext_bs, bs_toList, bs_toList, show a + x.length - a = x.length by omega]
def RNodePost (f : Nat) (l : List UInt8) (at' : Nat) (w : World) (e : Ending) (w' : World) : Prop :=
  Below w.heap.size w w' ∧ ∃ (k n : Int) (a : Option Addr) (m c : Nat) (z : Int), e = .returned (.tuple #[.agg #[.int .i64 k, .int .i64 n, .slice a m c], .int .i64 z]) ∧
    match nodeB f (l.drop at') with
    | none => z = -1
    | some (d, r) => ∃ p : Nat, z = p ∧ p ≤ l.length ∧ r = l.drop p ∧ d.kind = k ∧ d.n = n ∧ RowOf (descRd f) 3 40 (From w.heap.size) w' a m c d.kids
def RNodeAt (f : Nat) : Prop := ∀ (s : ByteArray) (at' : Nat) (w : World), s.size ≤ 8192 → at' ≤ s.size → f ≤ 16384 → s.size - at' < f → Calls Tryz.prog 77 #[.string s, .int .i64 (at' : Int)] w (RNodePost f s.data.toList at' w)
theorem rpost_none {f at' m c : Nat} {l : List UInt8} {a : Option Addr} {w w' : World} {k n : Int} (h : nodeB f (l.drop at') = none) (hb : Below w.heap.size w w') : RNodePost f l at' w (.returned (.tuple #[.agg #[.int .i64 k, .int .i64 n, .slice a m c], .int .i64 (-1)])) w' :=
  ⟨hb, k, n, a, m, c, -1, rfl, by rw [h]⟩
theorem rpost_some {f at' p m c : Nat} {l : List UInt8} {a : Option Addr} {w w' : World} {k n : Int} {ds : List DescV} (h : nodeB f (l.drop at') = some (.mk k n ds, l.drop p)) (hb : Below w.heap.size w w') (hp : p ≤ l.length) (hr : RowOf (descRd f) 3 40 (From w.heap.size) w' a m c ds) :
    RNodePost f l at' w (.returned (.tuple #[.agg #[.int .i64 k, .int .i64 n, .slice a m c], .int .i64 (p : Int)])) w' :=
  ⟨hb, k, n, a, m, c, p, rfl, by rw [h]; exact ⟨p, rfl, hp, rfl, rfl, rfl, hr⟩⟩
/-- Two boxes of the call's own. -/
structure Two (w : World) (k n : Int) (v : Value) (wr : World) : Prop where
  res : wr.heap[w.heap.size]? = some (.cells #[.int .i64 0, .int .i64 0, .slice none 0 0] 42 (0, 0))
  box : wr.heap[w.heap.size + 1]? = some (.cells #[.int .i64 k, .int .i64 n, v] 42 (0, 0))
  below : Below w.heap.size w wr
theorem Two.keep {w : World} {k n : Int} {v : Value} {wr w' : World} (h : Two w k n v wr) (hb : Below wr.heap.size wr w') : Two w k n v w' :=
  ⟨(hb.block _ (Array.getElem?_eq_some_iff.1 h.res).1).trans h.res, (hb.block _ (Array.getElem?_eq_some_iff.1 h.box).1).trans h.box, h.below.trans (hb.mono h.below.size)⟩
theorem Two.set0 {w : World} {k n : Int} {v : Value} {wr : World} (h : Two w k n v wr) (j : Int) : Two w j n v (wr.setCell ⟨w.heap.size + 1, 0, none⟩ (.int .i64 j)) :=
  ⟨(Below.heap_setCell _ _ _ _ (by show w.heap.size ≠ w.heap.size + 1; omega)).trans h.res, heap_set_at (o := 0) _ h.box, h.below.setCell (by show w.heap.size ≤ w.heap.size + 1; omega) _⟩
theorem Two.set1 {w : World} {k n : Int} {v : Value} {wr : World} (h : Two w k n v wr) (j : Int) : Two w k j v (wr.setCell ⟨w.heap.size + 1, 1, none⟩ (.int .i64 j)) :=
  ⟨(Below.heap_setCell _ _ _ _ (by show w.heap.size ≠ w.heap.size + 1; omega)).trans h.res, heap_set_at (o := 1) _ h.box, h.below.setCell (by show w.heap.size ≤ w.heap.size + 1; omega) _⟩
theorem Two.setV {w : World} {k n : Int} {v : Value} {wr : World} (h : Two w k n v wr) (u : Value) : Two w k n u (wr.setCell ⟨w.heap.size + 1, 2, none⟩ u) :=
  ⟨(Below.heap_setCell _ _ _ _ (by show w.heap.size ≠ w.heap.size + 1; omega)).trans h.res, heap_set_at (o := 2) _ h.box, h.below.setCell (by show w.heap.size ≤ w.heap.size + 1; omega) _⟩
theorem Two.cells {w : World} {k n : Int} {v : Value} {wr : World} (h : Two w k n v wr) : wr.cell? ⟨w.heap.size + 1, 0, none⟩ = some (.int .i64 k) ∧ wr.cell? ⟨w.heap.size + 1, 1, none⟩ = some (.int .i64 n) ∧ wr.cell? ⟨w.heap.size + 1, 2, none⟩ = some v ∧
    wr.frozen? ⟨w.heap.size + 1, 0, none⟩ = false ∧ wr.frozen? ⟨w.heap.size + 1, 1, none⟩ = false ∧ wr.frozen? ⟨w.heap.size + 1, 2, none⟩ = false ∧
    wr.cell? ⟨w.heap.size, 0, none⟩ = some (.int .i64 0) ∧ wr.cell? ⟨w.heap.size, 1, none⟩ = some (.int .i64 0) ∧ wr.cell? ⟨w.heap.size, 2, none⟩ = some (.slice none 0 0) ∧
    wr.frozen? ⟨w.heap.size, 0, none⟩ = false ∧ wr.frozen? ⟨w.heap.size, 1, none⟩ = false ∧ wr.frozen? ⟨w.heap.size, 2, none⟩ = false :=
  ⟨cell_at h.box rfl, cell_at h.box rfl, cell_at h.box rfl, free_at h.box, free_at h.box, free_at h.box, cell_at h.res rfl, cell_at h.res rfl, cell_at h.res rfl, free_at h.res, free_at h.res, free_at h.res⟩
theorem Two.grown {w : World} {k n : Int} {v : Value} {wr w' : World} {r : Option Nat} (h : Two w k n v wr) (hg : wr.grownBy w' r) (hr : ∀ q, r = some q → w.heap.size + 2 ≤ q) : Two w k n v w' :=
  ⟨(hg.block _ (Array.getElem?_eq_some_iff.1 h.res).1 (fun e => by have := hr _ e.symm; omega)).trans h.res, (hg.block _ (Array.getElem?_eq_some_iff.1 h.box).1 (fun e => by have := hr _ e.symm; omega)).trans h.box,
    h.below.grown hg h.below.size (fun q hq => by have := hr q hq; omega)⟩
/-- Between two kids: what is read so far. -/
structure KdS (F f0 : Nat) (tot : Option (List DescV × List UInt8)) (s : ByteArray) (w : World) (k n : Int) (q : Nat) (ds : List DescV) (v : Value) (xs : List Value) (p : Nat) (wr : World) : Prop where
  two : Two w k n v wr
  le : p ≤ s.size
  sz : w.heap.size + 2 ≤ wr.heap.size
  fuel : q + ds.length = f0 ∧ s.size - p < q
  row : Trees F (w.heap.size + 2) wr v ds xs
  eqn : (ds = [] ∧ ∃ h : p < s.size, s[p]'h = 40 ∧ tot = kidsB q (s.data.toList.drop (p + 1))) ∨ (ds ≠ [] ∧ tot = (tailB q (s.data.toList.drop p)).map fun r => (ds ++ r.1, r.2))
set_option maxRecDepth 100000 in
set_option maxHeartbeats 4000000 in
theorem rnode_step (f : Nat) (ih : ∀ g, g < f → RNodeAt g) : RNodeAt f := by
  intro s at' w hs ha hf hd
  have hl : s.data.toList.length = s.size := by simp
  have HIH := Lib.hid ih
  have H0 : Hid (Two w 0 0 (.slice none 0 0) ((w.alloc (.cells #[.int .i64 0, .int .i64 0, .slice none 0 0] 42)).alloc (.cells #[.int .i64 0, .int .i64 0, .slice none 0 0] 42))) := Lib.hid (by
    refine ⟨?_, ?_, ((Below.refl _ _).alloc (Nat.le_refl _) _).alloc (by simp) _⟩
    · rw [Lib.alloc_old _ _ _ (by simp)]
      exact heap_alloc_new w _
    · have h2 := heap_alloc_new (w.alloc (.cells #[.int .i64 0, .int .i64 0, .slice none 0 0] 42)) (.cells #[.int .i64 0, .int .i64 0, .slice none 0 0] 42)
      rw [show (w.alloc (.cells #[.int .i64 0, .int .i64 0, .slice none 0 0] 42)).heap.size = w.heap.size + 1 by simp] at h2
      exact h2)
  obtain ⟨L, hL⟩ : ∃ L, L = s.data.toList.drop at' := ⟨_, rfl⟩
  have hLl : L.length = s.size - at' := by rw [hL, List.length_drop, hl]
  have HL := Lib.hid hL
  have HLL := Lib.hid hLl
  clear ih hL hLl hl
  go_enter Tryz.func77, Tryz.ntmps77
  go_upto_block 0 with fail
  go_cut [] (fun wx => Two w (kwB L) 0 (.slice none 0 0) wx)
  case first =>
    go_wp2_with fail
    go_loopg [7] 7 (fun g iv wr => ∃ k : Nat, 1 ≤ k ∧ k ≤ 8 ∧ g = 8 - k ∧ iv = .int .i64 (k : Int) ∧ Two w (cur L k) 0 (.slice none 0 0) wr)
    case atStart => exact ⟨1, by omega, by omega, by omega, rfl, by rw [cur_one]; exact H0.out⟩
    case round =>
      obtain ⟨k, hk1, hk8, rfl, rfl, htw⟩ := hrel
      obtain ⟨wo, rfl⟩ : ∃ wo : World, wo = wr := ⟨_, rfl⟩
      have HTW := Lib.hid htw
      clear htw
      by_cases hlt : k ≤ 7
      · have hlt' : (k : Int) ≤ 7 := by omega
        obtain ⟨x, hx⟩ : ∃ x, wordD k = x := ⟨_, rfl⟩
        have hxl : x.length ≤ 5 := by rw [← hx]; exact wordD_len k
        have hw := rword23 (k : Int) wo (by omega) (by omega)
        rw [hx] at hw
        have HW := Lib.hid hw
        have hsz : (bs x).size = x.length := size_bs x
        obtain ⟨sw, hsw⟩ : ∃ sw, bs x = sw := ⟨_, rfl⟩
        rw [hsw] at hw HW hsz
        have HSZ := Lib.hid hsz
        have hsz5 : sw.size ≤ 5 := by omega
        have hLL := HLL.out
        have h64 : ((at' : Int) + (sw.size : Int)).toNat = at' + sw.size := by omega
        by_cases hlen : x.length ≤ L.length
        · have hge : (sw.size : Int) ≤ (s.size : Int) - (at' : Int) := by omega
          have hle : at' + sw.size ≤ s.size := by omega
          have hee := ext_eq s at' x
          rw [← HL.out, hsw, ← hsz] at hee
          by_cases hkw : kwB L = k
          · have hq : ((s.extract at' (at' + sw.size)).toList == sw.toList) = true := by
              have := ((kwB_iff hk1 hlt).1 hkw).1
              rw [hx] at this
              rw [hee, hsz, this]
              simp
            have HC := Lib.hid (cur_hit hkw)
            clear hw hkw hlen hsz hx hsw hee hLL
            go_wp2_with (go_at_call 75; (with_reducible refine HW.out.mono ?_); rintro e w2 ⟨rfl, hb2⟩; have HT2 := Lib.hid (HTW.out.keep hb2); have c0 := HT2.out.cells.1; have f0 := HT2.out.cells.2.2.2.1; clear hb2)
            go_roundg (8 - (k + 1))
            case measure => omega
            case rel => exact ⟨k + 1, by omega, by omega, rfl, by go_num, by rw [HC.out]; exact HT2.out.set0 _⟩
          · have hq : ((s.extract at' (at' + sw.size)).toList == sw.toList) = false := by
              rw [hee, hsz, beq_eq_false_iff_ne]
              exact fun e => hkw ((kwB_iff hk1 hlt).2 ⟨by rw [hx]; exact e, by rw [hx]; exact hlen⟩)
            have HC := Lib.hid (cur_no hkw)
            clear hw hkw hlen hsz hx hsw hee hLL
            go_wp2_with (go_at_call 75; (with_reducible refine HW.out.mono ?_); rintro e w2 ⟨rfl, hb2⟩; have HT2 := Lib.hid (HTW.out.keep hb2); clear hb2)
            go_roundg (8 - (k + 1))
            case measure => omega
            case rel => exact ⟨k + 1, by omega, by omega, rfl, by go_num, by rw [HC.out]; exact HT2.out⟩
        · have hge : ¬ (sw.size : Int) ≤ (s.size : Int) - (at' : Int) := by omega
          have HC : Hid (cur L (k + 1) = cur L k) := Lib.hid (cur_no fun e => hlen (by have := ((kwB_iff hk1 hlt).1 e).2; rwa [hx] at this))
          clear hw hlen hsz hx hsw hLL
          go_wp2_with (go_at_call 75; (with_reducible refine HW.out.mono ?_); rintro e w2 ⟨rfl, hb2⟩; have HT2 := Lib.hid (HTW.out.keep hb2); clear hb2)
          go_roundg (8 - (k + 1))
          case measure => omega
          case rel => exact ⟨k + 1, by omega, by omega, rfl, by go_num, by rw [HC.out]; exact HT2.out⟩
      · obtain rfl : k = 8 := by omega
        have hge : ¬ ((8 : Nat) : Int) ≤ 7 := by omega
        rw [cur_end] at HTW
        go_wp2_with fail
        go_meet
        exact HTW.out
  case rest =>
    obtain ⟨wx, rfl⟩ : ∃ wx : World, wx = wc := ⟨_, rfl⟩
    have HTW := Lib.hid hcut
    clear hcut
    by_cases hk0 : kwB L = 0
    · have HNO : Hid (nodeB f (s.data.toList.drop at') = none) := Lib.hid (by rw [← HL.out]; exact nodeB_kw0 hk0)
      have htw : Two w 0 0 (.slice none 0 0) wx := by have := HTW.out; rw [hk0] at this; exact this
      have HTZ := Lib.hid htw
      obtain ⟨v0, v1, v2, e0, e1, e2, c0, c1, c2, f0, f1, f2⟩ := htw.cells
      clear htw hk0
      go_wp2_with fail
      refine bodyPost_ret (v := .tuple #[.agg #[.int .i64 0, .int .i64 0, .slice none 0 0], .int .i64 (-1)]) (by simp [results, Tryz.results77, go_sem, *]) rfl ?_
      exact rpost_none HNO.out (((HTZ.out.below.setCell (Nat.le_refl _) _).setCell (Nat.le_refl _) _).setCell (Nat.le_refl _) _)
    · obtain ⟨K, hK⟩ : ∃ K, K = kwB L := ⟨_, rfl⟩
      rw [← hK] at HTW hk0
      have hK7 : K ≤ 7 := by rw [hK]; exact kwB_le L
      have hkb : ((K : Int) == 0) = false := beq_eq_false_iff_ne.2 (by omega)
      have hpre := (kwB_iff (by omega) hK7).1 hK.symm
      obtain ⟨x, hx⟩ : ∃ x, wordD K = x := ⟨_, rfl⟩
      rw [hx] at hpre
      have hxl : x.length ≤ 5 := by rw [← hx]; exact wordD_len K
      have hw := rword23 (K : Int) wx (by omega) (by omega)
      rw [hx] at hw
      have hsz : (bs x).size = x.length := size_bs x
      obtain ⟨sw, hsw⟩ : ∃ sw, bs x = sw := ⟨_, rfl⟩
      rw [hsw] at hw hsz
      have HW := Lib.hid hw
      obtain ⟨F, hF⟩ : ∃ F, F = at' + sw.size := ⟨_, rfl⟩
      have hFgt : at' < F := by have := List.length_pos_iff.2 (wordD_ne (k := (K : Int)) (by omega)); rw [hx] at this; omega
      have hFl : F ≤ s.size := by have := hpre.2; have := HLL.out; omega
      have hFI : (at' : Int) + (sw.size : Int) = (F : Int) := by omega
      have hr0 : L.drop (wordD (kwB L)).length = s.data.toList.drop F := by rw [← hK, hx, HL.out, List.drop_drop, hF, hsz]
      obtain ⟨D, hD⟩ : ∃ D, D = ((s.data.toList.drop F).takeWhile isDig).length := ⟨_, rfl⟩
      have hDl : F + D ≤ s.size := by
        have := (List.takeWhile_prefix isDig (l := s.data.toList.drop F)).length_le
        have h2 : s.data.toList.length = s.size := by simp
        rw [List.length_drop, ← hD] at this
        omega
      have hin : ∀ p (h : p < s.size), F ≤ p → p < F + D → 48 ≤ (s[p]'h).toNat ∧ (s[p]'h).toNat ≤ 57 := fun p h h1 h2 => by
        obtain ⟨b, hb, hd⟩ := while_at (r := s.data.toList.drop F) (i := p - F) (by rw [← hD]; omega)
        rw [List.getElem?_drop, show F + (p - F) = p by omega, at_list h] at hb
        cases hb
        unfold isDig at hd
        simpa using hd
      have hend : ∀ h : F + D < s.size, ¬ (48 ≤ (s[F + D]'h).toNat ∧ (s[F + D]'h).toNat ≤ 57) := fun h hd => by
        have := while_end (r := s.data.toList.drop F) (b := s[F + D]'h) (by rw [List.getElem?_drop, ← hD, at_list h])
        unfold isDig at this
        simp at this
        omega
      have hdw := (while_take (s.data.toList.drop F))
      rw [← hD, List.drop_drop] at hdw
      obtain ⟨P, hP⟩ : ∃ P, P = F + D := ⟨_, rfl⟩
      rw [← hP] at hin hend hDl hdw
      have HR0 := Lib.hid hr0
      have HDW := Lib.hid hdw
      have HIN := Lib.hid hin
      have HEND := Lib.hid hend
      have HFS := Lib.hid hF
      have HPS := Lib.hid hP
      have HKE := Lib.hid hK
      have hFP : F ≤ P := by omega
      obtain ⟨v0, v1, v2, e0, e1, e2, c0, c1, c2, f0, f1, f2⟩ := HTW.out.cells
      clear hpre hw hsz hx hsw hr0 hin hend hdw hF hP hD hK
      go_upto_block 2 with (go_at_call 75; (with_reducible refine HW.out.mono ?_); rintro e w2 ⟨rfl, hb2⟩; have HT2 := Lib.hid (HTW.out.keep hb2); clear hb2)
      clear v0 v1 v2 e0 e1 e2 c0 c1 c2 f0 f1 f2
      go_cut [10] (fun v wx => v = .int .i64 (P : Int) ∧ wx = w2)
      case first =>
        go_wp2_with fail
        go_loopg [10] D (fun g iv wr => ∃ p : Nat, F ≤ p ∧ p ≤ P ∧ g = P - p ∧ iv = .int .i64 (p : Int) ∧ wr = w2)
        case atStart => exact ⟨F, by omega, by omega, by have := HPS.out; omega, rfl, rfl⟩
        case round =>
          obtain ⟨p, hp1, hp2, rfl, rfl, rfl⟩ := hrel
          by_cases hlt : p < P
          · have hps : p < s.size := by omega
            obtain ⟨h48, h57⟩ := HIN.out p hps hp1 hlt
            go_wp2_with fail
            go_roundg (P - (p + 1))
            case measure => omega
            case rel => exact ⟨p + 1, by omega, by omega, rfl, by go_num, rfl⟩
          · obtain rfl : p = P := by omega
            by_cases hps : p < s.size
            · have hne := HEND.out hps
              by_cases h48 : 48 ≤ (s[p]'hps).toNat
              · have h57 : ¬ (s[p]'hps).toNat ≤ 57 := fun h => hne ⟨h48, h⟩
                clear hne
                go_wp2_with fail
                go_meet
                exact ⟨rfl, rfl⟩
              · clear hne
                go_wp2_with fail
                go_meet
                exact ⟨rfl, rfl⟩
            · go_wp2_with fail
              go_meet
              exact ⟨rfl, rfl⟩
      case rest =>
        obtain ⟨rfl, rfl⟩ := hcut
        have hext : (s.extract F P).data.toList = (s.data.toList.drop F).takeWhile isDig := by
          rw [ext_bs, HDW.out.1]
          have := HPS.out
          rw [show P - F = D by omega]
          simp [bs]
        have hnm := rnum (s.extract F P) wc (by rw [ByteArray.size_extract]; omega)
        rw [hext] at hnm
        have hr0 := HR0.out
        have hdw := HDW.out.2
        have HT2' := HT2
        cases hnn : numOf ((s.data.toList.drop F).takeWhile isDig) with
        | none =>
          rw [rn_no hnn] at hnm
          have HNM := Lib.hid hnm
          have HNO : Hid (nodeB f (s.data.toList.drop at') = none) := Lib.hid (by rw [← HL.out]; exact nodeB_num (by rw [hr0]; exact hnn))
          clear hext hnm hr0 hdw hnn
          obtain ⟨v0, v1, v2, e0, e1, e2, c0, c1, c2, f0, f1, f2⟩ := HT2.out.cells
          go_wp2_with (go_at_call 53; (with_reducible refine HNM.out.mono ?_); rintro e w3 ⟨rfl, rfl⟩)
          refine bodyPost_ret (v := .tuple #[.agg #[.int .i64 (K : Int), .int .i64 (-1), .slice none 0 0], .int .i64 (-1)]) (by simp [results, Tryz.results77, go_sem, *]) rfl ?_
          exact rpost_none HNO.out ((((HT2.out.set1 _).below.setCell (Nat.le_refl _) _).setCell (Nat.le_refl _) _).setCell (Nat.le_refl _) _)
        | some n =>
          rw [rn_yes hnn] at hnm
          have HNM := Lib.hid hnm
          obtain ⟨f, rfl⟩ : ∃ q, f = q + 1 := ⟨f - 1, by omega⟩
          have hn9 : n < 1000000000 := (numOf_lt hnn).1
          have hn0 : ¬ (n : Int) < 0 := by omega
          have hkk : kwB L ≠ 0 := by rw [← HKE.out]; exact hk0
          obtain ⟨W3, hW3⟩ : ∃ W3, W3 = wc.setCell ⟨w.heap.size + 1, 1, none⟩ (.int .i64 (n : Int)) := ⟨_, rfl⟩
          have HT3 : Hid (Two w K n (.slice none 0 0) W3) := Lib.hid (by rw [hW3]; exact HT2.out.set1 _)
          by_cases hps : P < s.size
          · by_cases h40 : s[P]'hps = 40
            · have HKD : Hid (nodeB (f + 1) (s.data.toList.drop at') = (kidsB f (s.data.toList.drop (P + 1))).map fun q => (.mk K n q.1, q.2)) := Lib.hid (by
                rw [← HL.out, nodeB_kids hkk (by rw [hr0]; exact hnn) (by rw [hr0, hdw, drop_byte hps, h40]), HKE.out])
              have hb : (((s[P]'hps).toNat : Int) != 40) = false := by rw [h40]; rfl
              have hPn : ((P : Int) == (s.size : Int)) = false := beq_eq_false_iff_ne.2 (by omega)
              have hPm : (P == s.size) = false := beq_eq_false_iff_ne.2 (by omega)
              obtain ⟨tot, htot⟩ : ∃ tot, tot = kidsB f (s.data.toList.drop (P + 1)) := ⟨_, rfl⟩
              rw [← htot] at HKD
              have hz2 : w.heap.size + 2 ≤ W3.heap.size := by have := (Array.getElem?_eq_some_iff.1 HT3.out.box).1; omega
              have HS0 : Hid (KdS (f + 1) f tot s w K n f [] (.slice none 0 0) [] P W3) := Lib.hid ⟨HT3.out, hDl, hz2, ⟨rfl, by omega⟩, Trees.nil _ _ _, .inl ⟨rfl, hps, h40, htot⟩⟩
              obtain ⟨v0, v1, v2, e0, e1, e2, c0, c1, c2, f0, f1, f2⟩ := HT2.out.cells
              clear hext hnm hr0 hdw hnn h40 htot hz2
              go_upto_block 4 with (go_at_call 53; (with_reducible refine HNM.out.mono ?_); rintro e w3 ⟨rfl, rfl⟩)
              rw [← hW3]
              clear hW3 v0 v1 v2 e0 e1 e2 c0 c1 c2 f0 f1 f2 hb hPn hPm
              go_wp2_with fail
              go_loopg [10] f (fun g iv wr => ∃ q ds v xs p, q = g ∧ iv = .int .i64 ((p : Nat) : Int) ∧ KdS (f + 1) f tot s w K n q ds v xs p wr)
              case atStart => exact ⟨_, _, _, _, _, rfl, rfl, HS0.out⟩
              case round =>
                obtain ⟨q, ds, v, xs, p, rfl, rfl, hst⟩ := hrel
                obtain ⟨wo, rfl⟩ : ∃ wo : World, wo = wr := ⟨_, rfl⟩
                have HST := Lib.hid hst
                obtain ⟨va, vc, rfl⟩ := hst.row.slice
                have hpl := hst.le
                have hzo := hst.sz
                obtain ⟨hfu, hfl⟩ := hst.fuel
                have hdl : ds.length ≤ 16384 := by omega
                obtain ⟨v0, v1, v2, e0, e1, e2, c0, c1, c2, f0, f1, f2⟩ := hst.two.cells
                by_cases hpz : p < s.size
                · have hPn : ((p : Int) == (s.size : Int)) = false := beq_eq_false_iff_ne.2 (by omega)
                  have hPm : (p == s.size) = false := beq_eq_false_iff_ne.2 (by omega)
                  by_cases hcont : (ds = [] ∧ s[p]'hpz = 40) ∨ (ds ≠ [] ∧ s[p]'hpz = 44)
                  · obtain ⟨q, rfl⟩ : ∃ j, q = j + 1 := ⟨q - 1, by omega⟩
                    have HTOT : Hid (tot = (kidsB (q + 1) (s.data.toList.drop (p + 1))).map fun r => (ds ++ r.1, r.2)) := Lib.hid (by
                      rcases hst.eqn with ⟨rfl, h, h40, e⟩ | ⟨hne, e⟩
                      · rw [e]
                        cases kidsB (q + 1) (s.data.toList.drop (p + 1)) <;> rfl
                      · have h44 := (hcont.resolve_left (fun h => hne h.1)).2
                        rw [e, tailB_more hpz h44])
                    have hq := HIH.out q (by omega) s (p + 1) wo hs (by omega) (by omega) (by omega)
                    have HC0 : Hid (Calls Tryz.prog 77 #[.string s, .int .i64 ((p : Int) + 1)] wo (RNodePost q s.data.toList (p + 1) wo)) := Lib.hid hq
                    have HROW := Lib.hid hst.row
                    have HLT : Hid (∀ g, (Value.slice va ds.length vc).ownBlock = some g → w.heap.size + 2 ≤ g ∧ g < wo.heap.size) := Lib.hid fun g hg => hst.row.row.lt g hg
                    have HF := Lib.hid hfu
                    clear hst hq
                    have HWAY : Hid ((((s[p]'hpz).toNat : Int) == 40) = true ∧ ((ds.length : Int) == 0) = true ∨ (((s[p]'hpz).toNat : Int) == 40) = false ∧ (((s[p]'hpz).toNat : Int) == 44) = true) := Lib.hid (by
                      rcases hcont with ⟨rfl, hb⟩ | ⟨_, hb⟩
                      · exact .inl ⟨by rw [hb]; rfl, rfl⟩
                      · exact .inr ⟨by rw [hb]; rfl, by rw [hb]; rfl⟩)
                    clear hcont
                    cases hnt : nodeB q (s.data.toList.drop (p + 1)) with
                    | none =>
                      have HNO : Hid (nodeB (f + 1) (s.data.toList.drop at') = none) := Lib.hid (by rw [HKD.out, HTOT.out, kidsB_tail, hnt]; rfl)
                      have HC : Hid (Calls Tryz.prog 77 #[.string s, .int .i64 ((p : Int) + 1)] wo fun e w' => Below wo.heap.size wo w' ∧ ∃ k5 n5 a5 m5 c5, e = .returned (.tuple #[.agg #[.int .i64 k5, .int .i64 n5, .slice a5 m5 c5], .int .i64 (-1)])) := Lib.hid (HC0.out.mono fun e w' h => by
                        obtain ⟨hb, k5, n5, a5, m5, c5, z5, he, hm⟩ := h
                        rw [hnt] at hm
                        obtain rfl : z5 = -1 := hm
                        exact ⟨hb, k5, n5, a5, m5, c5, he⟩)
                      clear hnt v0 v1 e0 e1 e2 c0 c1 c2 f0 f1 f2
                      rcases HWAY.out with ⟨w40, wl⟩ | ⟨w40, w44⟩
                      all_goals
                        go_wp2_with (go_at_call 77; (with_reducible refine HC.out.mono ?_); rintro e w5 ⟨hb5, k5, n5, a5, m5, c5, rfl⟩; have HT5 := Lib.hid ((HST.out.two.keep hb5).keep ((Below.refl _ _).alloc (Nat.le_refl _) (.cells #[.int .i64 k5, .int .i64 n5, .slice a5 m5 c5] 42))); clear hb5 v2; obtain ⟨v0, v1, v2, e0, e1, e2, c0, c1, c2, f0, f1, f2⟩ := HT5.out.cells)
                        refine bodyPost_ret (v := .tuple #[.agg #[.int .i64 (K : Int), .int .i64 (n : Int), .slice va ds.length vc], .int .i64 (-1)]) (by simp [results, Tryz.results77, go_sem, *]) rfl ?_
                        exact rpost_none HNO.out (((HT5.out.below.setCell (Nat.le_refl _) _).setCell (Nat.le_refl _) _).setCell (Nat.le_refl _) _)
                    | some y =>
                      obtain ⟨d, r⟩ := y
                      have HTO2 : Hid (tot = ((tailB q r).map fun z => (d :: z.1, z.2)).map fun z => (ds ++ z.1, z.2)) := Lib.hid (by rw [HTOT.out, kidsB_tail, hnt])
                      have HNT := Lib.hid hnt
                      have HC : Hid (Calls Tryz.prog 77 #[.string s, .int .i64 ((p : Int) + 1)] wo fun e w' => Below wo.heap.size wo w' ∧ ∃ a5 m5 c5 p5, e = .returned (.tuple #[.agg #[.int .i64 d.kind, .int .i64 d.n, .slice a5 m5 c5], .int .i64 ((p5 : Nat) : Int)]) ∧ p5 ≤ s.size ∧ r = s.data.toList.drop p5 ∧ RowOf (descRd q) 3 40 (From wo.heap.size) w' a5 m5 c5 d.kids) := Lib.hid (HC0.out.mono fun e w' h => by
                        obtain ⟨hb, k5, n5, a5, m5, c5, z5, he, hm⟩ := h
                        rw [hnt] at hm
                        obtain ⟨p5, rfl, h5, h6, rfl, rfl, h7⟩ := hm
                        exact ⟨hb, a5, m5, c5, p5, he, by simpa using h5, h6, h7⟩)
                      have HWF : Hid ((Lit.int .i64 d.kind).wf = true ∧ (Lit.int .i64 d.n).wf = true) := Lib.hid (by
                        obtain ⟨_, hdo⟩ := (soundB q).1 _ _ _ hnt
                        rw [DescV.eta d, DescV.heads, List.all_cons, Bool.and_eq_true] at hdo
                        have := okH_iff.1 hdo.1
                        simp only [Lit.wf, Bool.and_eq_true, decide_eq_true_eq]
                        exact ⟨⟨by show (-9223372036854775808 : Int) ≤ _; omega, by show _ ≤ (9223372036854775807 : Int); omega⟩, by show (-9223372036854775808 : Int) ≤ _; omega, by show _ ≤ (9223372036854775807 : Int); omega⟩)
                      clear hnt v0 v1 e0 e1 e2 c0 c1 c2 f0 f1 f2
                      generalize hdk : d.kind = dk at *
                      generalize hdn : d.n = dn at *
                      have HDK := Lib.hid hdk
                      have HDN := Lib.hid hdn
                      clear hdk hdn
                      rcases HWAY.out with ⟨w40, wl⟩ | ⟨w40, w44⟩
                      all_goals
                        go_upto_region 23 with (go_at_call 77; (with_reducible refine HC.out.mono ?_); rintro e w5 ⟨hb5, a5, m5, c5, p5, rfl, hp5, hr5, hrow5⟩; have HB5 := Lib.hid hb5; have HR5 := Lib.hid hr5; have HROW5 := Lib.hid hrow5; clear hb5 hr5 hrow5 v2)
                        obtain ⟨W6, hW6⟩ : ∃ W6, W6 = w5.alloc (.cells #[.int .i64 dk, .int .i64 dn, .slice a5 m5 c5] 42) := ⟨_, rfl⟩
                        have hb56 : Below w5.heap.size w5 W6 := by rw [hW6]; exact (Below.refl _ _).alloc (Nat.le_refl _) _
                        have g6 : W6.heap[w5.heap.size]? = some (.cells #[.int .i64 dk, .int .i64 dn, .slice a5 m5 c5] 42 (0, 0)) := by rw [hW6]; exact heap_alloc_new w5 _
                        have HB6 := Lib.hid (HB5.out.trans (hb56.mono HB5.out.size))
                        have HT6 := Lib.hid (HST.out.two.keep HB6.out)
                        have HROW6 := Lib.hid (HROW5.out.keep (descRd_ok _) (Fix.of_below hb56))
                        have v2 := HT6.out.cells.2.2.1
                        have b0 := cell_at (o := 0) g6 rfl
                        have b1 := cell_at (o := 1) g6 rfl
                        have b2 := cell_at (o := 2) g6 rfl
                        have hz6 := HB6.out.size
                        rw [← hW6]
                        clear hW6 hb56 g6
                        go_wp2_with (at_builtin; refine wpl_append_at rfl _ _ 40 rfl descElemG (.slice va ds.length vc) _ xs rfl _ _ _ _ rfl (own_below HROW.out.row (HB6.out.alloc hz6 _)) (src_new3 [.int .i64 dk, .int .i64 dn, .slice a5 m5 c5] 42 3 rfl one3) (by unfold maxLen; omega) (by omega) (by simp; omega) ?_; intro v' w8 ho8 hg8 hat8; have HO8 := Lib.hid ho8; have HG8 := Lib.hid hg8; have HA8 := Lib.hid hat8; obtain ⟨a8, c8, hv8⟩ := own_val ho8; subst hv8; have HT8 := Lib.hid ((HT6.out.keep ((Below.refl _ _).alloc (Nat.le_refl _) _)).grown hg8 (fun g hg => (HLT.out g hg).1)); clear ho8 hg8 hat8 v2 b0 b1 b2; have v2 := HT8.out.cells.2.2.1; have e2 := HT8.out.cells.2.2.2.2.2.1)
                        go_roundg q
                        case measure => omega
                        case rel =>
                          have hd : descRd (f + 1) (From wo.heap.size) (W6.alloc (.cells #[.int .i64 dk, .int .i64 dn, .slice a5 m5 c5] 42)) [.int .i64 dk, .int .i64 dn, .slice a5 m5 c5] d := by
                            have hx : descRd (q + 1) (From wo.heap.size) (W6.alloc (.cells #[.int .i64 dk, .int .i64 dn, .slice a5 m5 c5] 42)) [.int .i64 dk, .int .i64 dn, .slice a5 m5 c5] d :=
                              ⟨a5, m5, c5, by rw [HDK.out, HDN.out], by rw [HDK.out]; exact HWF.out.1, by rw [HDN.out]; exact HWF.out.2, HROW6.out.keep (descRd_ok _) (Fix.alloc _ _ _)⟩
                            exact descRd_mono (by have := HF.out; omega) hx
                          have htr := HROW.out.add (by omega) (HB6.out.alloc hz6 _) hd HO8.out HG8.out HA8.out
                          have hnl := nodeB_len (f := q) (a := p + 1) (b := p5) (l := s.data.toList) (d := d) (by rw [← HR5.out]; exact HNT.out)
                          rw [List.length_drop, List.length_drop, show s.data.toList.length = s.size by simp] at hnl
                          refine ⟨q, ds ++ [d], _, xs ++ [.int .i64 dk, .int .i64 dn, .slice a5 m5 c5], p5, rfl, rfl, HT8.out.setV _, hp5, ?_, ⟨?_, by omega⟩, htr.setCell (by show w.heap.size + 1 < w.heap.size + 2; omega) _, .inr ⟨by simp, ?_⟩⟩
                          · have := HG8.out.size
                            simp [World.setCell] at this ⊢
                            omega
                          · have := HF.out
                            rw [List.length_append, List.length_singleton]
                            omega
                          · rw [HTO2.out, HR5.out, Option.map_map]
                            congr 1
                            funext z
                            simp
                  · by_cases h41 : s[p]'hpz = 41
                    · have e41 : (((s[p]'hpz).toNat : Int) != 41) = false := by rw [h41]; rfl
                      have e40 : (((s[p]'hpz).toNat : Int) == 40) = false := by rw [h41]; rfl
                      have e44 : (((s[p]'hpz).toNat : Int) == 44) = false := by rw [h41]; rfl
                      have HNO : Hid (nodeB (f + 1) (s.data.toList.drop at') = some (.mk K n ds, s.data.toList.drop (p + 1))) := Lib.hid (by
                        rw [HKD.out]
                        rcases hst.eqn with ⟨_, _, h40, _⟩ | ⟨_, e⟩
                        · rw [h40] at h41; exact absurd h41 (by decide)
                        · rw [e, tailB_last hpz h41]; simp)
                      have HRW := Lib.hid (hst.row.rowOf (by omega))
                      clear hst hcont h41
                      go_wp2_with fail
                      refine bodyPost_ret (v := .tuple #[.agg #[.int .i64 (K : Int), .int .i64 (n : Int), .slice va ds.length vc], .int .i64 ((p : Int) + 1)]) (by simp [results, Tryz.results77, go_sem, *]) rfl ?_
                      obtain ⟨a', c', hv', hrow'⟩ := HRW.out
                      cases hv'
                      have fxs : ∀ (o : Nat) (u : Value) (W : World), Fix (From (w.heap.size + 2)) W (W.setCell ⟨w.heap.size, o, none⟩ u) := fun o u W => Fix.setCell W _ u fun hf => by have : w.heap.size + 2 ≤ w.heap.size := hf; omega
                      exact rpost_some (p := p + 1) HNO.out (((HST.out.two.below.setCell (Nat.le_refl _) _).setCell (Nat.le_refl _) _).setCell (Nat.le_refl _) _) (by simp; omega) ((hrow'.keep (descRd_ok _) (((fxs _ _ _).trans (fxs _ _ _)).trans (fxs _ _ _))).mono (descRd_ok _) (fun q _ hq => by have hq' : w.heap.size + 2 ≤ q := hq; show w.heap.size ≤ q; omega))
                    · have e41 : (((s[p]'hpz).toNat : Int) != 41) = true := by
                        have : (s[p]'hpz).toNat ≠ 41 := fun e => h41 (UInt8.toNat_inj.1 e)
                        simp only [bne_iff_ne, ne_eq]
                        omega
                      have HNO : Hid (nodeB (f + 1) (s.data.toList.drop at') = none) := Lib.hid (by
                        rw [HKD.out]
                        rcases hst.eqn with ⟨h1, _, h40, _⟩ | ⟨hne, e⟩
                        · exact absurd (.inl ⟨h1, h40⟩) hcont
                        · rw [e, tailB_other hpz (fun h => hcont (.inr ⟨hne, h⟩)) h41]; rfl)
                      have hne : ds ≠ [] := by
                        rcases hst.eqn with ⟨h1, _, h40, _⟩ | ⟨hne, _⟩
                        · exact absurd (.inl ⟨h1, h40⟩) hcont
                        · exact hne
                      have el : ((ds.length : Int) == 0) = false := by
                        have := List.length_pos_iff.2 hne
                        rw [beq_eq_false_iff_ne]; omega
                      have e44 : (((s[p]'hpz).toNat : Int) == 44) = false := by
                        have : (s[p]'hpz).toNat ≠ 44 := fun e => hcont (.inr ⟨hne, UInt8.toNat_inj.1 e⟩)
                        rw [beq_eq_false_iff_ne]; omega
                      by_cases h40 : s[p]'hpz = 40
                      · have e40 : (((s[p]'hpz).toNat : Int) == 40) = true := by rw [h40]; rfl
                        clear hst hcont h41 hne h40
                        go_wp2_with fail
                        refine bodyPost_ret (v := .tuple #[.agg #[.int .i64 (K : Int), .int .i64 (n : Int), .slice va ds.length vc], .int .i64 (-1)]) (by simp [results, Tryz.results77, go_sem, *]) rfl ?_
                        exact rpost_none HNO.out (((HST.out.two.below.setCell (Nat.le_refl _) _).setCell (Nat.le_refl _) _).setCell (Nat.le_refl _) _)
                      · have e40 : (((s[p]'hpz).toNat : Int) == 40) = false := by
                          have : (s[p]'hpz).toNat ≠ 40 := fun e => h40 (UInt8.toNat_inj.1 e)
                          rw [beq_eq_false_iff_ne]; omega
                        clear hst hcont h41 hne h40
                        go_wp2_with fail
                        refine bodyPost_ret (v := .tuple #[.agg #[.int .i64 (K : Int), .int .i64 (n : Int), .slice va ds.length vc], .int .i64 (-1)]) (by simp [results, Tryz.results77, go_sem, *]) rfl ?_
                        exact rpost_none HNO.out (((HST.out.two.below.setCell (Nat.le_refl _) _).setCell (Nat.le_refl _) _).setCell (Nat.le_refl _) _)
                · have hPn : ((p : Int) == (s.size : Int)) = true := beq_iff_eq.2 (by omega)
                  have hPm : (p == s.size) = true := beq_iff_eq.2 (by omega)
                  have HNO : Hid (nodeB (f + 1) (s.data.toList.drop at') = none) := Lib.hid (by
                    rw [HKD.out]
                    rcases hst.eqn with ⟨_, h, _⟩ | ⟨_, e⟩
                    · omega
                    · rw [e, tailB_end (by omega)]; rfl)
                  clear hst
                  go_wp2_with fail
                  refine bodyPost_ret (v := .tuple #[.agg #[.int .i64 (K : Int), .int .i64 (n : Int), .slice va ds.length vc], .int .i64 (-1)]) (by simp [results, Tryz.results77, go_sem, *]) rfl ?_
                  exact rpost_none HNO.out (((HST.out.two.below.setCell (Nat.le_refl _) _).setCell (Nat.le_refl _) _).setCell (Nat.le_refl _) _)
            · have HNO : Hid (nodeB (f + 1) (s.data.toList.drop at') = some (.mk K n [], s.data.toList.drop P)) := Lib.hid (by
                rw [← HL.out, nodeB_leaf hkk (by rw [hr0]; exact hnn) (by rw [hr0, hdw]) (by rw [drop_byte hps]; simpa using h40), HKE.out])
              have hb : (((s[P]'hps).toNat : Int) != 40) = true := by
                have : (s[P]'hps).toNat ≠ 40 := fun e => h40 (UInt8.toNat_inj.1 e)
                simp only [bne_iff_ne, ne_eq]
                omega
              have hPn : ((P : Int) == (s.size : Int)) = false := beq_eq_false_iff_ne.2 (by omega)
              have hPm : (P == s.size) = false := beq_eq_false_iff_ne.2 (by omega)
              clear hext hnm hr0 hdw hnn h40
              obtain ⟨v0, v1, v2, e0, e1, e2, c0, c1, c2, f0, f1, f2⟩ := HT2.out.cells
              go_wp2_with (go_at_call 53; (with_reducible refine HNM.out.mono ?_); rintro e w3 ⟨rfl, rfl⟩)
              refine bodyPost_ret (v := .tuple #[.agg #[.int .i64 (K : Int), .int .i64 (n : Int), .slice none 0 0], .int .i64 (P : Int)]) (by simp [results, Tryz.results77, go_sem, *]) rfl ?_
              exact rpost_some HNO.out ((((HT2.out.set1 _).below.setCell (Nat.le_refl _) _).setCell (Nat.le_refl _) _).setCell (Nat.le_refl _) _) (by simp; omega) (RowOf.empty _ _ _ _ _)
          · have HNO : Hid (nodeB (f + 1) (s.data.toList.drop at') = some (.mk K n [], s.data.toList.drop P)) := Lib.hid (by
              rw [← HL.out, nodeB_leaf hkk (by rw [hr0]; exact hnn) (by rw [hr0, hdw]) (by rw [List.drop_of_length_le (by simp; omega)]; simp), HKE.out])
            have hPn : ((P : Int) == (s.size : Int)) = true := beq_iff_eq.2 (by omega)
            have hPm : (P == s.size) = true := beq_iff_eq.2 (by omega)
            clear hext hnm hr0 hdw hnn
            obtain ⟨v0, v1, v2, e0, e1, e2, c0, c1, c2, f0, f1, f2⟩ := HT2.out.cells
            go_wp2_with (go_at_call 53; (with_reducible refine HNM.out.mono ?_); rintro e w3 ⟨rfl, rfl⟩)
            refine bodyPost_ret (v := .tuple #[.agg #[.int .i64 (K : Int), .int .i64 (n : Int), .slice none 0 0], .int .i64 (P : Int)]) (by simp [results, Tryz.results77, go_sem, *]) rfl ?_
            exact rpost_some HNO.out ((((HT2.out.set1 _).below.setCell (Nat.le_refl _) _).setCell (Nat.le_refl _) _).setCell (Nat.le_refl _) _) (by simp; omega) (RowOf.empty _ _ _ _ _)
theorem rnode_all (f : Nat) : RNodeAt f := by
  induction f using Nat.strongRecOn with
  | _ f ih => exact rnode_step f ih
end Go.Proofs.YtephllgddhncgaaGreatDoor.Lex
