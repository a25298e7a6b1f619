/- A tree off tokens: the reader's node. -/
import Derived.Test.YtephllgddhncgaaGreatDoorGTok
import Derived.Test.YtephllgddhncgaaGreatDoorNum
namespace Go.Proofs.YtephllgddhncgaaGreatDoor.Lex
open Go.RowKit
set_option linter.unusedSimpArgs false
set_option linter.unusedVariables false
theorem Bt.new {r : Nat} {w W : World} (h : Bt r w W) (hr : r ≤ w.heap.size) {b o : Nat} (hb : w.heap.size ≤ b) (v : Value) : Bt r w (W.setCell ⟨b, o, none⟩ v) :=
  ⟨h.below.setCell (p := ⟨b, o, none⟩) (Nat.le_trans hr hb) v, ⟨by have := h.fix.size; simpa [World.setCell] using this, fun c hc hf => (Below.heap_setCell _ _ _ _ (by show c ≠ b; omega)).trans (h.fix.same c hc hf)⟩⟩
theorem Bt.over {r : Nat} {w W W' : World} (h : Bt r w W) (hr : r ≤ w.heap.size) (hb : Below W.heap.size W W') : Bt r w W' := h.trans (Bt.of_below hb (Nat.le_trans hr h.fix.size))
theorem Bt.alloc {r : Nat} {w W : World} (h : Bt r w W) (hr : r ≤ w.heap.size) (o : Obj) : Bt r w (W.alloc o) := h.over hr ((Below.refl _ _).alloc (Nat.le_refl _) _)
theorem Bt.drew {r : Nat} {w W : World} (h : Bt r w W) : Bt r w W.drew := h.trans ⟨(Below.refl _ _).drew, Fix.drew _ _⟩
theorem HasMax.bt {r : Nat} {w W : World} (h : HasMax w) (hb : Bt r w W) (hr : 0 ≠ r) : HasMax W := by
  obtain ⟨m, hm⟩ := h
  exact ⟨m, (hb.fix.cell (World.block_lt_of_cell? w _ hm) hr).trans hm⟩
theorem RdC.below {w w' : World} {r : Nat} {la : Option Addr} {n lc at' : Nat} {ok : Bool} (h : RdC w r la n lc at' ok) (hb : Below w.heap.size w w') : RdC w' r la n lc at' ok := (hb.block _ (Array.getElem?_eq_some_iff.1 h).1).trans h
theorem RdC.set {w : World} {r : Nat} {la : Option Addr} {n lc at' : Nat} {ok : Bool} (h : RdC w r la n lc at' ok) {b o : Nat} (hb : r ≠ b) (v : Value) : RdC (w.setCell ⟨b, o, none⟩ v) r la n lc at' ok := (Below.heap_setCell _ _ _ _ hb).trans h
/-- The text there; behind the end: none. -/
def txtAt (T : List (List UInt8)) (i : Nat) : List UInt8 := T.getD i []
theorem next_u (r : Nat) (la : Option Addr) (lc : Nat) (T : List (List UInt8)) (at' : Nat) (ok : Bool) (w : World) (hr : RdC w r la T.length lc at' ok) (ht : Toks w r la T) (hT : T.length ≤ 1048576) (ha : at' ≤ T.length) :
    Calls Tryz.prog 95 #[.pointer (some ⟨r, 0, none⟩)] w fun e w' => ∃ (kk pp : Int) (at1 : Nat) (ok1 : Bool), e = .returned (.agg #[.int .i64 kk, .string (bs (txtAt T at')), .int .i64 pp]) ∧ Bt r w w' ∧ RdC w' r la T.length lc at1 ok1 ∧ at1 ≤ T.length ∧
      (at' < T.length → at1 = at' + 1 ∧ ok1 = ok) ∧ (T.length ≤ at' → at1 = at' ∧ ok1 = false) :=
  (next_any r la lc T at' ok w hr ht hT (by omega)).mono fun e w' h => by
    obtain ⟨hb, kk, x, pp, he, h⟩ := h
    rcases h with ⟨hx, hc⟩ | ⟨hx, rfl, hc⟩
    · have hlt := (List.getElem?_eq_some_iff.1 hx).1
      have e2 : txtAt T at' = x := by unfold txtAt; rw [List.getD_eq_getElem?_getD, hx]; rfl
      rw [e2]
      exact ⟨kk, pp, at' + 1, ok, he, hb, hc, by omega, fun _ => ⟨rfl, rfl⟩, fun h => by omega⟩
    · have e2 : txtAt T at' = [] := by unfold txtAt; rw [List.getD_eq_getElem?_getD, List.getElem?_eq_none hx]; rfl
      rw [e2]
      exact ⟨kk, pp, at', false, he, hb, hc, ha, fun h => by omega, fun _ => ⟨rfl, rfl⟩⟩
theorem num_u (y : List UInt8) (w : World) (hs : y.length ≤ 9223372036854775807) : Calls Tryz.prog 47 #[.string (bs y)] w fun e w' => ∃ m e0 : Int, e = .returned (.tuple #[.int .i64 m, .int .i64 e0]) ∧ Below w.heap.size w w' ∧ (numOf y = none → e0 = 10) ∧ (∀ n, numOf y = some n → e0 = 0 ∧ m = n) := by
  have ed : (bs y).data.toList = y := by simp [bs]
  refine (num (bs y) w (by rw [size_bs]; exact hs)).mono fun e w' k => ?_
  obtain ⟨hb, k⟩ := k
  rw [ed] at k
  cases h : numOf y with
  | none => rw [h] at k; exact ⟨0, 10, k, hb, fun _ => rfl, fun n hn => by cases hn⟩
  | some m => rw [h] at k; exact ⟨m, 0, k, hb, fun hn => (by cases hn), fun n hn => by cases hn; exact ⟨rfl, rfl⟩⟩
/-- What node makes of the tokens from a place on. -/
def NodePost (f : Nat) (r : Nat) (la : Option Addr) (lc : Nat) (T : List (List UInt8)) (at' : Nat) (w : World) (e : Ending) (w' : World) : Prop :=
  Bt r w w' ∧ ∃ (k n : Int) (a : Option Addr) (m c at2 : Nat) (ok : Bool), e = .returned (.agg #[.int .i64 k, .int .i64 n, .slice a m c]) ∧ at2 ≤ T.length ∧ RdC w' r la T.length lc at2 ok ∧
    match nodeT f (T.drop at') with
    | none => ok = false
    | some (d, R) => ok = true ∧ R = T.drop at2 ∧ d.kind = k ∧ d.n = n ∧ RowOf (descRd f) 3 40 (From w.heap.size) w' a m c d.kids
def NodeAt (f : Nat) : Prop := ∀ (r : Nat) (la : Option Addr) (lc : Nat) (T : List (List UInt8)) (at' : Nat) (ok : Bool) (w : World), RdC w r la T.length lc at' ok → Toks w r la T → T.length ≤ 8192 → (∀ x ∈ T, x.length ≤ 8192) → at' ≤ T.length → f ≤ 16384 → (T.drop at').length < f → (ok = false → T.length ≤ at') → HasMax w → 0 ≠ r →
    Calls Tryz.prog 74 #[.pointer (some ⟨r, 0, none⟩)] w (NodePost f r la lc T at' w)
theorem txt_len {T : List (List UInt8)} (h : ∀ x ∈ T, x.length ≤ 8192) (i : Nat) : (txtAt T i).length ≤ 8192 := by
  unfold txtAt
  rw [List.getD_eq_getElem?_getD]
  cases hx : T[i]? with
  | none => simp
  | some x => exact h x (List.mem_of_getElem? hx)
theorem drop_two {T : List (List UInt8)} {i : Nat} (h : i + 1 < T.length) : T.drop i = txtAt T i :: txtAt T (i + 1) :: T.drop (i + 2) := by
  unfold txtAt
  rw [List.drop_eq_getElem_cons (by omega : i < T.length), List.drop_eq_getElem_cons h, List.getD_eq_getElem?_getD, List.getD_eq_getElem?_getD, List.getElem?_eq_getElem h, List.getElem?_eq_getElem (by omega : i < T.length)]
  rfl
theorem txt_out {T : List (List UInt8)} {i : Nat} (h : T.length ≤ i) : txtAt T i = [] := by unfold txtAt; rw [List.getD_eq_getElem?_getD, List.getElem?_eq_none h]; rfl
theorem numOf_nil : numOf [] = none := rfl
theorem kindD_nil : kindD [] = 0 := by decide
theorem node_bad {f : Nat} {T : List (List UInt8)} {i : Nat} (h : kindD (txtAt T i) = 0 ∨ numOf (txtAt T (i + 1)) = none) : nodeT f (T.drop i) = none := by
  cases f with
  | zero => rfl
  | succ f =>
    by_cases hl : i + 1 < T.length
    · rw [drop_two hl, nodeT]
      rcases h with h | h
      · rw [if_pos h]
      · split
        · rfl
        · rw [h]
    · match h1 : T.drop i with
      | [] => rfl
      | [x] => rfl
      | x :: y :: l => have := congrArg List.length h1; simp at this; omega
theorem fld_tok (kk pp : Int) (s : ByteArray) (w : World) : (Instr.field 133 (.agg #[.int .i64 kk, .string s, .int .i64 pp]) 1).run Tryz.prog w = .ok (.string s) w := by kernel_rfl
theorem node_good {f : Nat} {T : List (List UInt8)} {i n : Nat} (hl : i + 1 < T.length) (hk : kindD (txtAt T i) ≠ 0) (hn : numOf (txtAt T (i + 1)) = some n) (h40 : T[i + 2]? ≠ some [40]) : nodeT (f + 1) (T.drop i) = some (.mk (kindD (txtAt T i)) n [], T.drop (i + 2)) := by
  rw [drop_two hl, nodeT, if_neg hk, hn]
  dsimp only
  split
  · rename_i T' e
    exact absurd (by have := congrArg List.head? e; rwa [List.head?_drop] at this) h40
  · rfl
theorem drop_one {T : List (List UInt8)} {i : Nat} {x : List UInt8} (h : T[i]? = some x) : T.drop i = x :: T.drop (i + 1) := by
  obtain ⟨hl, rfl⟩ := List.getElem?_eq_some_iff.1 h
  exact List.drop_eq_getElem_cons hl
theorem node_kids {f : Nat} {T : List (List UInt8)} {i n : Nat} (hl : i + 1 < T.length) (hk : kindD (txtAt T i) ≠ 0) (hn : numOf (txtAt T (i + 1)) = some n) (h40 : T[i + 2]? = some [40]) :
    nodeT (f + 1) (T.drop i) = (kidsT f (T.drop (i + 3))).map fun q => (.mk (kindD (txtAt T i)) n q.1, q.2) := by
  rw [drop_two hl, nodeT, if_neg hk, hn, drop_one h40]
  rfl
theorem post_none {f r lc at' at2 m c : Nat} {la a : Option Addr} {T : List (List UInt8)} {w w' : World} {e : Ending} {k n : Int} (h : nodeT f (T.drop at') = none) (hb : Bt r w w') (he : e = .returned (.agg #[.int .i64 k, .int .i64 n, .slice a m c])) (ha : at2 ≤ T.length) (hr : RdC w' r la T.length lc at2 false) : NodePost f r la lc T at' w e w' :=
  ⟨hb, k, n, a, m, c, at2, false, he, ha, hr, by rw [h]⟩
theorem post_some {f r lc at' at2 m c : Nat} {la a : Option Addr} {T : List (List UInt8)} {w w' : World} {e : Ending} {k n : Int} {l : List DescV} (h : nodeT f (T.drop at') = some (.mk k n l, T.drop at2)) (hb : Bt r w w') (he : e = .returned (.agg #[.int .i64 k, .int .i64 n, .slice a m c])) (ha : at2 ≤ T.length) (hr : RdC w' r la T.length lc at2 true) (hl : RowOf (descRd f) 3 40 (From w.heap.size) w' a m c l) : NodePost f r la lc T at' w e w' :=
  ⟨hb, k, n, a, m, c, at2, true, he, ha, hr, by rw [h]; exact ⟨rfl, rfl, rfl, rfl, hl⟩⟩
/-- A row of trees stays where only block r, and blocks of others, change. -/
theorem own_fix {w w' : World} {base : Nat} {e : TypeId} {size : Nat} {v : Value} {n : Nat} {xs : List Value} (h : w.ownsRow base e size v n xs) (hb : Fix (From base) w w') : w'.ownsRow base e size v n xs := by
  refine ⟨h.1, ?_⟩
  rcases h.2 with hn | ⟨g, cap, cur, rfl, hbg, hg, rest⟩
  · exact .inl hn
  · exact .inr ⟨g, cap, cur, rfl, hbg, by rw [hb.same g (Array.getElem?_eq_some_iff.1 hg).1 hbg]; exact hg, rest⟩
theorem Trees.addF {k B : Nat} {w wm w3 : World} {v v' : Value} {l : List DescV} {xs cs : List Value} {d : DescV} (h : Trees k B w v l xs) (hB : B ≤ w.heap.size) (hb : Fix (From B) w wm) (hd : descRd k (From w.heap.size) wm cs d)
    (ho : w3.ownsRow B 42 3 v' (l.length + 1) (xs ++ cs)) (hg : wm.grownBy w3 v.ownBlock) (hat : v'.ownBlock = v.ownBlock ∨ v'.ownBlock = some wm.heap.size) : Trees k B w3 v' (l ++ [d]) (xs ++ cs) := by
  have hl := h.row.1
  have hc := (descRd_ok k).len hd
  have hv : ∀ b, v.ownBlock = some b → b < w.heap.size := fun b hb => (h.row.lt b hb).2
  have hsz := hb.size
  have fx : Fix (fun b => some b ≠ v.ownBlock) wm w3 := .of_grown hg fun b _ hf => hf
  have nv : ∀ b, b < wm.heap.size → some b ≠ v.ownBlock → some b ≠ v'.ownBlock := fun b hb hn e => by
    rcases hat with h | h
    · exact hn (e.trans h)
    · rw [h] at e; cases e; omega
  refine ⟨by rw [List.length_append]; exact ho, fun i x hi => ?_⟩
  by_cases hlt : i < l.length
  · rw [List.getElem?_append_left hlt] at hi
    have g := (descRd_ok k).mono (G := fun b => (B ≤ b ∧ some b ≠ v.ownBlock) ∧ b < w.heap.size) (h.at_ i x hi) fun b hb hf => ⟨hf, hb⟩
    have g2 := (descRd_ok k).keep ((descRd_ok k).keep g (hb.mono fun b _ hf => hf.1.1)) (fx.mono fun b _ hf => hf.1.2)
    have g3 := (descRd_ok k).mono (G := fun b => B ≤ b ∧ some b ≠ v'.ownBlock) g2 fun b _ hf => ⟨hf.1.1, nv b (by omega) hf.1.2⟩
    have e : ((xs ++ cs).drop (i * 3)).take 3 = (xs.drop (i * 3)).take 3 := by
      rw [List.drop_append_of_le_length (by omega), List.take_append_of_le_length (by rw [List.length_drop]; omega)]
    rw [e]
    exact g3
  · rw [List.getElem?_append_right (by omega)] at hi
    have hi0 : i - l.length = 0 := by have := (List.getElem?_eq_some_iff.1 hi).1; simp at this; omega
    rw [hi0] at hi
    obtain rfl : d = x := by simpa using hi
    obtain rfl : i = l.length := by omega
    have hd' := (descRd_ok k).mono (G := fun b => w.heap.size ≤ b ∧ b < wm.heap.size) hd fun b hb hf => ⟨hf, hb⟩
    have g2 := (descRd_ok k).keep hd' (fx.mono fun b _ hf e => by have := hv b e.symm; omega)
    have g3 := (descRd_ok k).mono (G := fun b => B ≤ b ∧ some b ≠ v'.ownBlock) g2 fun b _ hf => ⟨by omega, nv b hf.2 fun e => by have := hv b e.symm; omega⟩
    have e : ((xs ++ cs).drop (l.length * 3)).take 3 = cs := by
      rw [List.drop_append, List.drop_of_length_le (by omega), List.nil_append, hl, Nat.sub_self, List.drop_zero, List.take_of_length_le (by omega)]
    rw [e]
    exact g3
theorem Trees.fix {k B : Nat} {w w' : World} {v : Value} {l : List DescV} {xs : List Value} (h : Trees k B w v l xs) (hb : Fix (From B) w w') : Trees k B w' v l xs :=
  ⟨own_fix h.row hb, fun i d hi => (descRd_ok k).keep (h.at_ i d hi) (hb.mono fun b _ hf => hf.1)⟩
/-- Between two kids. -/
structure NdS (F f0 : Nat) (T0 : List (List UInt8)) (r : Nat) (la : Option Addr) (lc : Nat) (T : List (List UInt8)) (w : World) (B0 B1 B : Nat) (k n : Int) (g : Nat) (ds : List DescV) (v : Value) (xs : List Value) (at2 : Nat) (ok : Bool) (wr : World) : Prop where
  bt : Bt r w wr
  res : wr.heap[B0]? = some (.cells #[.int .i64 0, .int .i64 0, .slice none 0 0] 42 (0, 0))
  box : wr.heap[B1]? = some (.cells #[.int .i64 k, .int .i64 n, v] 42 (0, 0))
  rd : RdC wr r la T.length lc at2 ok
  le : at2 ≤ T.length
  sz : B ≤ wr.heap.size
  sl : ∃ a m c, v = .slice a m c
  bad : ok = false → kidsT f0 T0 = none
  fuel : ok = true → g + ds.length = f0 ∧ (T.drop at2).length + 1 < g
  eqn : ok = true → kidsT f0 T0 = (kidsT g (T.drop at2)).map fun q => (ds ++ q.1, q.2)
  row : ok = true → Trees F B wr v ds xs
theorem kids_none {g : Nat} {T : List (List UInt8)} (h : nodeT g T = none) : kidsT (g + 1) T = none := by rw [kidsT, h]
theorem kids_more {g a b : Nat} {T : List (List UInt8)} {d : DescV} (h : nodeT g (T.drop a) = some (d, T.drop b)) (hz : T[b]? = some [44]) : kidsT (g + 1) (T.drop a) = (kidsT g (T.drop (b + 1))).map fun q => (d :: q.1, q.2) := by
  rw [kidsT, h, drop_one hz]
  rfl
theorem kids_last {g a b : Nat} {T : List (List UInt8)} {d : DescV} (h : nodeT g (T.drop a) = some (d, T.drop b)) (hz : T[b]? = some [41]) : kidsT (g + 1) (T.drop a) = some ([d], T.drop (b + 1)) := by
  rw [kidsT, h, drop_one hz]
  rfl
theorem kids_other {g a b : Nat} {T : List (List UInt8)} {d : DescV} (h : nodeT g (T.drop a) = some (d, T.drop b)) (h1 : T[b]? ≠ some [44]) (h2 : T[b]? ≠ some [41]) : kidsT (g + 1) (T.drop a) = none := by
  rw [kidsT, h]
  dsimp only
  split
  · rename_i T2 e
    exact absurd (by have := congrArg List.head? e; rwa [List.head?_drop] at this) h1
  · rename_i T2 e
    exact absurd (by have := congrArg List.head? e; rwa [List.head?_drop] at this) h2
  · rfl
theorem node_len {f a b : Nat} {T : List (List UInt8)} {d : DescV} (h : nodeT f (T.drop a) = some (d, T.drop b)) : (T.drop b).length + 2 ≤ (T.drop a).length := by
  obtain ⟨e, _⟩ := (sound f).1 _ _ _ h
  obtain ⟨k, n, l⟩ := d
  rw [e, tokD]
  simp
set_option maxRecDepth 100000 in
set_option maxHeartbeats 4000000 in
theorem node_step (f : Nat) (ih : ∀ g, g < f → NodeAt g) : NodeAt f := by
  intro r la lc T at' ok w hr ht hT hx ha hf hd hok hm hrm
  have hrl : r < w.heap.size := (Array.getElem?_eq_some_iff.1 hr).1
  have hrw : r ≤ w.heap.size := Nat.le_of_lt hrl
  have hTl : T.length ≤ 1048576 := by omega
  obtain ⟨W0, hW0⟩ : ∃ W0, W0 = w.alloc (.cells #[.int .i64 0, .int .i64 0, .slice none 0 0] 42) := ⟨_, rfl⟩
  have hb0 : Bt r w W0 := by rw [hW0]; exact (Bt.refl r w).alloc hrw _
  have g0 : W0.heap[w.heap.size]? = some (.cells #[.int .i64 0, .int .i64 0, .slice none 0 0] 42 (0, 0)) := by rw [hW0]; exact heap_alloc_new w _
  have hr0 : RdC W0 r la T.length lc at' ok := by rw [hW0]; exact hr.below ((Below.refl _ _).alloc (Nat.le_refl _) _)
  have HB0 := Lib.hid hb0
  have HG0 := Lib.hid g0
  have HT := Lib.hid ht
  have HM := Lib.hid hm
  have HX := Lib.hid hx
  have HIH := Lib.hid ih
  have HOK0 := Lib.hid hok
  have HD := Lib.hid hd
  have ht0 := ht.keep hb0
  have HN1 := Lib.hid (next_u r la lc T at' ok W0 hr0 ht0 hTl ha)
  obtain ⟨kx, hkx⟩ : ∃ kx : Int, kx = kindD (txtAt T at') := ⟨_, rfl⟩
  have HK : Hid (∀ W, Bt r w W → Calls Tryz.prog 94 #[.string (bs (txtAt T at'))] W fun e w' => e = .returned (.int .i64 kx) ∧ Below W.heap.size W w') := Lib.hid fun W hb => by rw [hkx]; exact kind_any _ W (hm.bt hb hrm)
  have HKX := Lib.hid hkx
  obtain ⟨sx, hsx⟩ : ∃ sx, sx = bs (txtAt T at') := ⟨_, rfl⟩
  rw [← hsx] at HK HN1
  clear hok hd hb0 g0 hr0 hr ht hm hx ih ht0 hkx hsx
  have hfd := fld_tok
  go_enter Tryz.func74, Tryz.ntmps74
  go_upto_region 1 with fail
  rw [← hW0]
  clear hW0
  go_upto_region 2 with (first
    | (go_at_call 95; (with_reducible refine HN1.out.mono ?_); rintro e w1 ⟨kk, pp, at1, ok1, rfl, hb1, hr1, ha1, hy1, hn1⟩; have HB1 := Lib.hid (HB0.out.trans hb1); have HR1 := Lib.hid hr1; have HA1 := Lib.hid ha1; have HY1 := Lib.hid hy1; have HE1 := Lib.hid hn1; have HG1 := Lib.hid ((hb1.fix.same _ (Array.getElem?_eq_some_iff.1 HG0.out).1 (by show w.heap.size ≠ r; omega)).trans HG0.out); clear hb1 hr1 ha1 hy1 hn1)
    | (go_at_call 94; (with_reducible refine (HK.out _ HB1.out).mono ?_); rintro e w2 ⟨rfl, hb2⟩; have HB2 := Lib.hid (HB1.out.over hrw hb2); have HR2 := Lib.hid (HR1.out.below hb2); have HG2 := Lib.hid ((hb2.block _ (Array.getElem?_eq_some_iff.1 HG1.out).1).trans HG1.out); clear hb2))
  have hz2 : w.heap.size < w2.heap.size := (Array.getElem?_eq_some_iff.1 HG2.out).1
  obtain ⟨W3, hW3⟩ : ∃ W3, W3 = w2.alloc (.cells #[.int .i64 kx, .int .i64 0, .slice none 0 0] 42) := ⟨_, rfl⟩
  have hb23 : Below w2.heap.size w2 W3 := by rw [hW3]; exact (Below.refl _ _).alloc (Nat.le_refl _) _
  have g3 : W3.heap[w2.heap.size]? = some (.cells #[.int .i64 kx, .int .i64 0, .slice none 0 0] 42 (0, 0)) := by rw [hW3]; exact heap_alloc_new w2 _
  have HB3 := Lib.hid (HB2.out.over hrw hb23)
  have HR3 := Lib.hid (HR2.out.below hb23)
  have HG3 := Lib.hid ((hb23.block _ hz2).trans HG2.out)
  have HV3 := Lib.hid g3
  have HN2 := Lib.hid (next_u r la lc T at1 ok1 W3 HR3.out (HT.out.keep HB3.out) hTl HA1.out)
  rw [← hW3]
  clear hW3 hb23 g3
  obtain ⟨B1, hB1⟩ : ∃ B1, B1 = w2.heap.size := ⟨_, rfl⟩
  rw [← hB1] at HV3 hz2 ⊢
  have HBE := Lib.hid hB1
  clear hB1
  have n1 : ¬ B1 = r := by omega
  have n2 : ¬ B1 = w.heap.size := by omega
  have n3 : ¬ w.heap.size = r := by omega
  have n4 : ¬ r = B1 := by omega
  have n5 : ¬ w.heap.size = B1 := by omega
  have n6 : ¬ r = w.heap.size := by omega
  have HNM : Hid (∀ W, Calls Tryz.prog 47 #[.string (bs (txtAt T at1))] W fun e w' => ∃ m e0 : Int, e = .returned (.tuple #[.int .i64 m, .int .i64 e0]) ∧ Below W.heap.size W w' ∧ (numOf (txtAt T at1) = none → e0 = 10) ∧ (∀ n, numOf (txtAt T at1) = some n → e0 = 0 ∧ m = n)) := Lib.hid fun W => num_u (txtAt T at1) W (by have := txt_len HX.out at1; omega)
  generalize bs (txtAt T at1) = sy at *
  go_upto_region 4 with (first
    | (go_at_call 95; (with_reducible refine HN2.out.mono ?_); rintro e w4 ⟨kk2, pp2, at2, ok2, rfl, hb4, hr4, ha2, hy2, hn2⟩; have HB4 := Lib.hid (HB3.out.trans hb4); have HR4 := Lib.hid hr4; have HA2 := Lib.hid ha2; have HY2 := Lib.hid hy2; have HE2 := Lib.hid hn2; have HG4 := Lib.hid ((hb4.fix.same _ (Array.getElem?_eq_some_iff.1 HG3.out).1 n3).trans HG3.out); have HV4 := Lib.hid ((hb4.fix.same _ (Array.getElem?_eq_some_iff.1 HV3.out).1 n1).trans HV3.out); clear hb4 hr4 ha2 hy2 hn2)
    | (go_at_call 47; (with_reducible refine (HNM.out _).mono ?_); rintro e w5 ⟨m, e0, rfl, hb5, he0, he1⟩; have HB5 := Lib.hid (HB4.out.over hrw hb5); have HR5 := Lib.hid (HR4.out.below hb5); have HG5 := Lib.hid ((hb5.block _ (Array.getElem?_eq_some_iff.1 HG4.out).1).trans HG4.out); have HV5 := Lib.hid ((hb5.block _ (Array.getElem?_eq_some_iff.1 HV4.out).1).trans HV4.out); have HE0 := Lib.hid he0; have HE3 := Lib.hid he1; clear hb5 he0 he1; have v1 := cell_at (o := 1) HV5.out rfl; have fv1 := free_at (o := 1) HV5.out))
  obtain ⟨W6, hW6⟩ : ∃ W6, W6 = w5.setCell ⟨B1, 1, none⟩ (.int .i64 m) := ⟨_, rfl⟩
  have HB6 : Hid (Bt r w W6) := Lib.hid (by rw [hW6]; exact HB5.out.new hrw (Nat.le_of_lt hz2) _)
  have HR6 : Hid (RdC W6 r la T.length lc at2 ok2) := Lib.hid (by rw [hW6]; exact HR5.out.set n4 _)
  have HG6 : Hid (W6.heap[w.heap.size]? = some (.cells #[.int .i64 0, .int .i64 0, .slice none 0 0] 42 (0, 0))) := Lib.hid (by rw [hW6, Below.heap_setCell _ _ _ _ n5]; exact HG5.out)
  have HV6 : Hid (W6.heap[B1]? = some (.cells #[.int .i64 kx, .int .i64 m, .slice none 0 0] 42 (0, 0))) := Lib.hid (by rw [hW6]; exact heap_set_at (o := 1) _ HV5.out)
  rw [← hW6]
  clear hW6 v1 fv1
  have c0 := cell_at (o := 0) HG6.out rfl
  have c1 := cell_at (o := 1) HG6.out rfl
  have c2 := cell_at (o := 2) HG6.out rfl
  have f0 := free_at (o := 0) HG6.out
  have f1 := free_at (o := 1) HG6.out
  have f2 := free_at (o := 2) HG6.out
  have v0 : W6.cell? ⟨B1, 0, none⟩ = some (.int .i64 kx) := cell_at (o := 0) HV6.out rfl
  have v1 : W6.cell? ⟨B1, 1, none⟩ = some (.int .i64 m) := cell_at (o := 1) HV6.out rfl
  have v2 : W6.cell? ⟨B1, 2, none⟩ = some (.slice none 0 0) := cell_at (o := 2) HV6.out rfl
  have r2 : W6.cell? ⟨r, 2, none⟩ = some (.bool ok2) := cell_at (o := 2) HR6.out rfl
  have fr2 := free_at (o := 2) HR6.out
  by_cases hbad : kindD (txtAt T at') = 0 ∨ numOf (txtAt T (at' + 1)) = none
  · have HBAD : Hid (nodeT f (T.drop at') = none) := Lib.hid (node_bad hbad)
    by_cases hk0 : kx = 0
    · subst hk0
      clear hbad
      go_wp2_with fail
      refine bodyPost_ret (v := .agg #[.int .i64 0, .int .i64 m, .slice none 0 0]) (by simp [results, Tryz.results74, go_sem, *]) rfl ?_
      refine post_none HBAD.out ((((HB6.out.trans (Bt.set _ _ _)).new hrw (Nat.le_refl _) _).new hrw (Nat.le_refl _) _).new hrw (Nat.le_refl _) _) rfl HA2.out ?_
      exact ((RdC.set (heap_set_at (o := 2) (.bool false) HR6.out) n6 _).set n6 _).set n6 _
    · have hkb : (kx == 0) = false := by simpa using hk0
      have he : e0 = 10 := by
        have h0 : kindD (txtAt T at') ≠ 0 := fun e => hk0 (by rw [HKX.out, e]; rfl)
        have hl : at' < T.length := Nat.lt_of_not_le fun h => h0 (by rw [txt_out h]; exact kindD_nil)
        refine HE0.out ?_
        rw [(HY1.out hl).1]
        exact hbad.resolve_left h0
      subst he
      clear hbad
      go_wp2_with fail
      refine bodyPost_ret (v := .agg #[.int .i64 kx, .int .i64 m, .slice none 0 0]) (by simp [results, Tryz.results74, go_sem, *]) rfl ?_
      refine post_none HBAD.out ((((HB6.out.trans (Bt.set _ _ _)).new hrw (Nat.le_refl _) _).new hrw (Nat.le_refl _) _).new hrw (Nat.le_refl _) _) rfl HA2.out ?_
      exact ((RdC.set (heap_set_at (o := 2) (.bool false) HR6.out) n6 _).set n6 _).set n6 _
  · obtain ⟨h0, hnn⟩ : kindD (txtAt T at') ≠ 0 ∧ numOf (txtAt T (at' + 1)) ≠ none := ⟨fun h => hbad (.inl h), fun h => hbad (.inr h)⟩
    have hl : at' < T.length := Nat.lt_of_not_le fun h => h0 (by rw [txt_out h]; exact kindD_nil)
    have hl2 : at' + 1 < T.length := Nat.lt_of_not_le fun h => hnn (by rw [txt_out h]; rfl)
    obtain ⟨n, hn⟩ : ∃ n, numOf (txtAt T (at' + 1)) = some n := by
      cases h : numOf (txtAt T (at' + 1)) with
      | none => exact absurd h hnn
      | some n => exact ⟨n, rfl⟩
    have hok : ok = true := by
      cases ok with
      | true => rfl
      | false => have := HOK0.out rfl; omega
    obtain ⟨e1, e2⟩ := HY1.out hl
    obtain ⟨e3, e4⟩ := HY2.out (by omega)
    obtain rfl : ok2 = true := by rw [e4, e2, hok]
    obtain rfl : at2 = at' + 2 := by omega
    obtain ⟨rfl, rfl⟩ := HE3.out n (by rw [e1]; exact hn)
    have hk0 : kx ≠ 0 := by rw [HKX.out]; omega
    have hkb : (kx == 0) = false := by simpa using hk0
    have hk7 : 0 ≤ kx ∧ kx ≤ 7 := by have := kindD_le (txtAt T at'); rw [HKX.out]; omega
    have hn9 : n < 1000000000 := (numOf_lt hn).1
    obtain ⟨f, rfl⟩ : ∃ q, f = q + 1 := ⟨f - 1, by have := HD.out; omega⟩
    have HSG : Hid (Calls Tryz.prog 96 #[.pointer (some ⟨r, 0, none⟩), .string ⟨#[40]⟩] W6 (SignPost r la lc T (at' + 2) true 40 W6)) := Lib.hid (sign_any r la lc T (at' + 2) true 40 W6 HR6.out (HT.out.keep HB6.out) hTl (by omega))
    by_cases h40 : T[at' + 2]? = some [40]
    · have HKD := Lib.hid (node_kids (f := f) hl2 h0 hn h40)
      rw [← HKX.out] at HKD
      have H40 := Lib.hid h40
      have hlt2 : at' + 2 < T.length := (List.getElem?_eq_some_iff.1 h40).1
      clear hbad h0 hnn hok e1 e2 e3 e4 h40 hk0 hn
      go_wp2_with (go_at_call 96; (with_reducible refine HSG.out.mono ?_); rintro e w7 ⟨hb7, h7⟩; obtain ⟨_, rfl, hr7⟩ := h7.resolve_right (fun h => h.1 H40.out); have HB7 := Lib.hid (HB6.out.trans hb7); have HR7 := Lib.hid hr7; have HG7 := Lib.hid ((hb7.fix.same _ (Array.getElem?_eq_some_iff.1 HG6.out).1 n3).trans HG6.out); have HV7 := Lib.hid ((hb7.fix.same _ (Array.getElem?_eq_some_iff.1 HV6.out).1 n1).trans HV6.out); clear hb7 h7 hr7 c0 c1 c2 f0 f1 f2 v0 v1 v2 r2 fr2)
      have hS0 : NdS (f + 1) f (T.drop (at' + 3)) r la lc T w w.heap.size B1 w7.heap.size kx n f [] (.slice none 0 0) [] (at' + 3) true w7 := by
        refine ⟨HB7.out, HG7.out, HV7.out, HR7.out, by omega, Nat.le_refl _, ⟨_, _, _, rfl⟩, (fun h => by cases h), fun _ => ⟨rfl, ?_⟩, fun _ => ?_, fun _ => Trees.nil _ _ _⟩
        · have := HD.out
          rw [List.length_drop] at this ⊢
          omega
        · rw [show (fun q : List DescV × List (List UInt8) => (([] : List DescV) ++ q.1, q.2)) = id from rfl, Option.map_id]
          rfl
      have HS0 := Lib.hid hS0
      clear hS0
      go_loopg [] f (fun g wr => ∃ q ds v xs at2 ok, q = g ∧ NdS (f + 1) f (T.drop (at' + 3)) r la lc T w w.heap.size B1 w7.heap.size kx n q ds v xs at2 ok wr)
      case atStart => exact ⟨_, _, _, _, _, _, rfl, HS0.out⟩
      case round =>
        obtain ⟨g, ds, v, xs, at3, ok3, rfl, hst⟩ := hrel
        obtain ⟨wo, rfl⟩ : ∃ wo : World, wo = wr := ⟨_, rfl⟩
        have HST := Lib.hid hst
        have hz7 : B1 < w7.heap.size := (Array.getElem?_eq_some_iff.1 HV7.out).1
        have hzw : w.heap.size ≤ w7.heap.size := HB7.out.fix.size
        have hzo := hst.sz
        have q2 : wo.cell? ⟨r, 2, none⟩ = some (.bool ok3) := cell_at (o := 2) hst.rd rfl
        have ha3 := hst.le
        obtain ⟨va, vm, vc, rfl⟩ := hst.sl
        cases ok3 with
        | false =>
          have HNO : Hid (nodeT (f + 1) (T.drop at') = none) := Lib.hid (by rw [HKD.out, hst.bad rfl]; rfl)
          have qf2 := free_at (o := 2) hst.rd
          have c0 := cell_at (o := 0) hst.res rfl
          have c1 := cell_at (o := 1) hst.res rfl
          have c2 := cell_at (o := 2) hst.res rfl
          have f0 := free_at (o := 0) hst.res
          have f1 := free_at (o := 1) hst.res
          have f2 := free_at (o := 2) hst.res
          have v0 := cell_at (o := 0) hst.box rfl
          have v1 := cell_at (o := 1) hst.box rfl
          have v2 := cell_at (o := 2) hst.box rfl
          clear hst
          go_wp2_with fail
          refine bodyPost_ret (v := .agg #[.int .i64 kx, .int .i64 n, .slice va vm vc]) (by simp [results, Tryz.results74, go_sem, *]) rfl ?_
          refine post_none HNO.out ((((HST.out.bt.trans (Bt.set _ _ _)).new hrw (Nat.le_refl _) _).new hrw (Nat.le_refl _) _).new hrw (Nat.le_refl _) _) rfl HST.out.le ?_
          exact ((RdC.set (heap_set_at (o := 2) (.bool false) HST.out.rd) n6 _).set n6 _).set n6 _
        | true =>
          obtain ⟨hfu, hfl⟩ := hst.fuel rfl
          obtain ⟨g, rfl⟩ : ∃ q, g = q + 1 := ⟨g - 1, by omega⟩
          have hds : ds.length ≤ 16384 := by omega
          have HC : Hid (Calls Tryz.prog 74 #[.pointer (some ⟨r, 0, none⟩)] wo.drew (NodePost g r la lc T at3 wo.drew)) := Lib.hid (HIH.out g (by omega) r la lc T at3 true wo.drew hst.rd (HT.out.keep hst.bt.drew) hT HX.out ha3 (by omega) (by omega) (fun h => by cases h) (HM.out.bt hst.bt.drew hrm) hrm)
          have HROW := Lib.hid (hst.row rfl)
          have HEQ := Lib.hid (hst.eqn rfl)
          have HFU := Lib.hid hfu
          have HFL := Lib.hid hfl
          have HLT : Hid (∀ q, (Value.slice va vm vc).ownBlock = some q → w7.heap.size ≤ q ∧ q < wo.heap.size) := Lib.hid fun q hq => (hst.row rfl).row.lt q hq
          have v2 : wo.cell? ⟨B1, 2, none⟩ = some (.slice va vm vc) := cell_at (o := 2) hst.box rfl
          have HT0 : Hid (wo.drew.cell? ⟨B1, 2, none⟩ = some (.slice va vm vc)) := Lib.hid v2
          clear hst v2
          go_wp2_with fail
          refine wp_region_z (fun W => W.cell? ⟨B1, 2, none⟩ = some (.slice va vm vc)) 7 (by kernel_rfl) ?_
          change wpZ _ _ _ _ _ _ 8 #[false, false, false, false, false, false, false, false] _ wo.drew
          (refine wpZ_take (i := 0) (v := ?_) rfl (by kernel_rfl) (by kernel_rfl) (by kernel_rfl) (by kernel_rfl) (fun _ _ _ h => h) HT0.out (Or.inl ⟨by rfl, ?_⟩) ?_; rotate_left 1; (focus (intro w0 hw0; (try dsimp only at hw0); first | with_reducible rfl | (go_simp; try with_reducible rfl))); (try simp only [Act.put, List.getElem_toArray, List.getElem_cons_zero, List.getElem_cons_succ, List.setIfInBounds_toArray, List.set_cons_zero, List.set_cons_succ]))
          (refine wpZ_take (i := 1) (v := ?_) rfl (by kernel_rfl) (by kernel_rfl) (by kernel_rfl) (by kernel_rfl) (fun _ _ _ h => h) HT0.out (Or.inl ⟨by rfl, ?_⟩) ?_; rotate_left 1; (focus (intro w0 hw0; (try dsimp only at hw0); first | with_reducible rfl | (go_simp; try with_reducible rfl))); (try simp only [Act.put, List.getElem_toArray, List.getElem_cons_zero, List.getElem_cons_succ, List.setIfInBounds_toArray, List.set_cons_zero, List.set_cons_succ]))
          (refine wpZ_take (i := 2) (v := ?_) rfl (by kernel_rfl) (by kernel_rfl) (by kernel_rfl) (by kernel_rfl) (fun _ _ _ h => h) HT0.out (Or.inl ⟨by rfl, ?_⟩) ?_; rotate_left 1; (focus (intro w0 hw0; (try dsimp only at hw0); first | with_reducible rfl | (go_simp; try with_reducible rfl))); (try simp only [Act.put, List.getElem_toArray, List.getElem_cons_zero, List.getElem_cons_succ, List.setIfInBounds_toArray, List.set_cons_zero, List.set_cons_succ]))
          refine wpZ_ready (rs := [3]) (by kernel_rfl) (by simp) ?_
          refine ReadyZ.cons rfl (fun K hK => ?_) ReadyZ.nil
          go_simp
          refine HC.out.mono ?_
          rintro e w8 ⟨hb8, kq, nq, a5, m5, c5, at5, ok5, rfl, ha5, hr5, hm5⟩
          have hb8' : Bt r wo w8 := (Bt.refl r wo).drew.trans hb8
          have HB8 := Lib.hid hb8'
          have HR8 := Lib.hid hr5
          have HM5 := Lib.hid hm5
          have hz8 : wo.heap.size ≤ w8.heap.size := hb8'.fix.size
          have fx : ∀ b, b < wo.heap.size → b ≠ r → w8.heap[b]? = wo.heap[b]? := fun b h1 h2 => hb8'.fix.same b h1 h2
          have hT8 : w8.cell? ⟨B1, 2, none⟩ = some (.slice va vm vc) := cell_at (o := 2) ((fx B1 (by omega) n1).trans HST.out.box) rfl
          have HV8 := Lib.hid ((fx B1 (by omega) n1).trans HST.out.box)
          have HG8 := Lib.hid ((fx w.heap.size (by omega) n3).trans HST.out.res)
          have HT8 := Lib.hid hT8
          refine hK.out _ _ (.inr HT8.out) ?_
          clear hK K hb8 hb8' hr5 hm5 fx hT8
          try simp only [Act.put, List.getElem_toArray, List.getElem_cons_zero, List.getElem_cons_succ, List.setIfInBounds_toArray, List.set_cons_zero, List.set_cons_succ]
          refine wpZ_ready (rs := [4]) (by kernel_rfl) (by simp) ?_
          refine ReadyZ.cons rfl (fun K hK => ?_) ReadyZ.nil
          go_simp
          obtain ⟨w9, hw9⟩ : ∃ w9, w9 = w8.alloc (.cells #[.int .i64 kq, .int .i64 nq, .slice a5 m5 c5] 42) := ⟨_, rfl⟩
          have hb9 : Below w8.heap.size w8 w9 := by rw [hw9]; exact (Below.refl _ _).alloc (Nat.le_refl _) _
          have hsrc : Src w9 (some ⟨w8.heap.size, 0, none⟩) 1 1 3 [.int .i64 kq, .int .i64 nq, .slice a5 m5 c5] := by rw [hw9]; exact src_new3 _ 42 3 rfl one3
          have HSRC := Lib.hid hsrc
          have HB9 := Lib.hid hb9
          have hz9 : w8.heap.size ≤ w9.heap.size := hb9.size
          have HT9 : Hid (w9.cell? ⟨B1, 2, none⟩ = some (.slice va vm vc)) := Lib.hid (cell_at (o := 2) ((hb9.block _ (Array.getElem?_eq_some_iff.1 HV8.out).1).trans HV8.out) rfl)
          have hbo9 : Bt r wo w9 := HB8.out.over (by omega) hb9
          have HBO9 := Lib.hid hbo9
          have hfx9 : Fix (From w7.heap.size) wo w9 := hbo9.fix.mono fun b _ hf => by have : w7.heap.size ≤ b := hf; omega
          have HFX9 := Lib.hid hfx9
          have HRW := Lib.hid (own_fix HROW.out.row hfx9)
          rw [← hw9]
          refine hK.out _ _ (.inr HT9.out) ?_
          clear hK K hw9 hb9 hsrc hbo9 hfx9
          try simp only [Act.put, List.getElem_toArray, List.getElem_cons_zero, List.getElem_cons_succ, List.setIfInBounds_toArray, List.set_cons_zero, List.set_cons_succ]
          refine wpZ_ready (rs := [5]) (by kernel_rfl) (by simp) ?_
          refine ReadyZ.cons rfl (fun K hK => ?_) ReadyZ.nil
          refine step_appT rfl _ _ 40 rfl descElemG (.slice va vm vc) _ _ rfl _ _ _ _ rfl HRW.out HSRC.out (by unfold maxLen; omega) (by omega) (by omega) ?_
          intro v' w10 ho10 hg10 hat10
          obtain ⟨a7, c7, hv7⟩ := own_val ho10
          subst hv7
          have HO10 := Lib.hid ho10
          have HG10 := Lib.hid hg10
          have HAT := Lib.hid hat10
          have hz10 : w9.heap.size ≤ w10.heap.size := hg10.size
          have fx : ∀ b, b < w7.heap.size → w10.heap[b]? = w9.heap[b]? := fun b h1 => hg10.block b (by omega) (fun e => by have := (HLT.out _ e.symm).1; omega)
          have HV10 : Hid (w10.heap[B1]? = some (.cells #[.int .i64 kx, .int .i64 n, .slice va vm vc] 42 (0, 0))) := Lib.hid ((fx B1 (by omega)).trans ((HB9.out.block _ (by omega)).trans HV8.out))
          have HGG10 : Hid (w10.heap[w.heap.size]? = some (.cells #[.int .i64 0, .int .i64 0, .slice none 0 0] 42 (0, 0))) := Lib.hid ((fx w.heap.size (by omega)).trans ((HB9.out.block _ (by omega)).trans HG8.out))
          have HR10 : Hid (RdC w10 r la T.length lc at5 ok5) := Lib.hid ((fx r (by omega)).trans ((HB9.out.block _ (by omega)).trans HR8.out))
          have HBT10 : Hid (Bt r w w10) := Lib.hid ⟨((HST.out.bt.trans HBO9.out).below).grown hg10 (by omega) (fun q hq => by have := (HLT.out q hq).1; omega), ⟨by omega, fun b hb hf => (fx b (by omega)).trans ((HST.out.bt.trans HBO9.out).fix.same b hb hf)⟩⟩
          have HT10 : Hid (w10.cell? ⟨B1, 2, none⟩ = some (.slice va vm vc)) := Lib.hid (cell_at (o := 2) HV10.out rfl)
          refine hK.out _ _ (.inr HT10.out) ?_
          clear hK K ho10 hg10 hat10 fx
          try simp only [Act.put, List.getElem_toArray, List.getElem_cons_zero, List.getElem_cons_succ, List.setIfInBounds_toArray, List.set_cons_zero, List.set_cons_succ]
          (refine wpZ_take (i := 6) (v := ?_) rfl (by kernel_rfl) (by kernel_rfl) (by kernel_rfl) (by kernel_rfl) (fun _ _ _ h => h) HT10.out (Or.inl ⟨by rfl, ?_⟩) ?_; rotate_left 1; (focus (intro w0 hw0; (try dsimp only at hw0); first | with_reducible rfl | (go_simp; try with_reducible rfl))); (try simp only [Act.put, List.getElem_toArray, List.getElem_cons_zero, List.getElem_cons_succ, List.setIfInBounds_toArray, List.set_cons_zero, List.set_cons_succ]))
          refine wpZ_ready (rs := [7]) (by kernel_rfl) (by simp) ?_
          refine ReadyZ.cons rfl (fun K hK => ?_) ReadyZ.nil
          have f2 := free_at (o := 2) HV10.out
          have t2 := cell_at (o := 2) HV10.out rfl
          go_simp
          refine hK.out _ _ (.inl rfl) ?_
          clear hK K f2 t2
          try simp only [Act.put, List.getElem_toArray, List.getElem_cons_zero, List.getElem_cons_succ, List.setIfInBounds_toArray, List.set_cons_zero, List.set_cons_succ]
          refine wpZ_done (by kernel_rfl) ?_ _
          obtain ⟨W9, hW9⟩ : ∃ W9, W9 = w10.setCell ⟨B1, 2, none⟩ (.slice a7 (ds.length + 1) c7) := ⟨_, rfl⟩
          have HBT := Lib.hid (show Bt r w W9 by rw [hW9]; exact HBT10.out.new hrw (Nat.le_of_lt hz2) _)
          have HRZ := Lib.hid (show RdC W9 r la T.length lc at5 ok5 by rw [hW9]; exact HR10.out.set n4 _)
          have HGZ := Lib.hid (show W9.heap[w.heap.size]? = some (.cells #[.int .i64 0, .int .i64 0, .slice none 0 0] 42 (0, 0)) by rw [hW9, Below.heap_setCell _ _ _ _ n5]; exact HGG10.out)
          have HVZ := Lib.hid (show W9.heap[B1]? = some (.cells #[.int .i64 kx, .int .i64 n, .slice a7 (ds.length + 1) c7] 42 (0, 0)) by rw [hW9]; exact heap_set_at (o := 2) _ HV10.out)
          have hsz9 : w10.heap.size ≤ W9.heap.size := by rw [hW9]; simp [World.setCell]
          have HTR : Hid (∀ d, d.kind = kq → d.n = nq → RowOf (descRd g) 3 40 (From wo.drew.heap.size) w8 a5 m5 c5 d.kids → (Lit.int .i64 kq).wf = true → (Lit.int .i64 nq).wf = true → Trees (f + 1) w7.heap.size W9 (.slice a7 (ds.length + 1) c7) (ds ++ [d]) (xs ++ [.int .i64 kq, .int .i64 nq, .slice a5 m5 c5])) := Lib.hid fun d h1 h2 h3 h4 h5 => by
            have hd : descRd (f + 1) (From wo.heap.size) w9 [.int .i64 kq, .int .i64 nq, .slice a5 m5 c5] d := by
              have hx : descRd (g + 1) (From wo.heap.size) w9 [.int .i64 kq, .int .i64 nq, .slice a5 m5 c5] d := by
                refine ⟨a5, m5, c5, by rw [h1, h2], by rw [h1]; exact h4, by rw [h2]; exact h5, ?_⟩
                exact h3.keep (descRd_ok _) (Fix.of_below HB9.out)
              exact descRd_mono (by have := HFU.out; omega) hx
            have := Trees.addF HROW.out (by omega) HFX9.out hd HO10.out HG10.out HAT.out
            rw [hW9]
            exact this.setCell (by show B1 < w7.heap.size; omega) _
          rw [← hW9]
          clear hW9
          have HSG9 : Hid (Calls Tryz.prog 96 #[.pointer (some ⟨r, 0, none⟩), .string ⟨#[44]⟩] W9 (SignPost r la lc T at5 ok5 44 W9)) := Lib.hid (sign_any r la lc T at5 ok5 44 W9 HRZ.out (HT.out.keep HBT.out) hTl (by omega))
          have HRLE := Lib.hid ha5
          clear q2
          cases hnt : nodeT g (T.drop at3) with
          | none =>
            have hm := HM5.out
            rw [hnt] at hm
            obtain rfl : ok5 = false := hm
            have HNK : Hid (kidsT f (T.drop (at' + 3)) = none) := Lib.hid (by rw [HEQ.out, kids_none hnt]; rfl)
            have HNO : Hid (nodeT (f + 1) (T.drop at') = none) := Lib.hid (by rw [HKD.out, HNK.out]; rfl)
            clear hnt
            by_cases h44 : T[at5]? = some [44]
            · have H44 := Lib.hid h44
              have hl5 : at5 < T.length := (List.getElem?_eq_some_iff.1 h44).1
              clear h44
              go_wp2_with (go_at_call 96; (with_reducible refine HSG9.out.mono ?_); rintro e wy ⟨hby, hy⟩; obtain ⟨_, rfl, hry⟩ := hy.resolve_right (fun h => h.1 H44.out); have HBY := Lib.hid (HBT.out.trans hby); have HBYY := Lib.hid hby; have HRY := Lib.hid hry; have HGY := Lib.hid ((hby.fix.same _ (Array.getElem?_eq_some_iff.1 HGZ.out).1 n3).trans HGZ.out); have HVY := Lib.hid ((hby.fix.same _ (Array.getElem?_eq_some_iff.1 HVZ.out).1 n1).trans HVZ.out); clear hby hy hry)
              go_roundg g
              case measure => omega
              case rel =>
                refine ⟨g, ds ++ [.mk 0 0 []], _, xs, at5 + 1, false, rfl, HBY.out, HGY.out, HVY.out, HRY.out, by omega, ?_, ⟨_, _, _, rfl⟩, fun _ => HNK.out, fun h => (by cases h), fun h => (by cases h), fun h => (by cases h)⟩
                have := HBYY.out.fix.size
                omega
            · have H44 := Lib.hid h44
              clear h44
              go_wp2_with (go_at_call 96; (with_reducible refine HSG9.out.mono ?_); rintro e wy ⟨hby, hy⟩; obtain ⟨_, rfl, hry⟩ := hy.resolve_left (fun h => H44.out h.1); have HBY := Lib.hid (HBT.out.trans hby); have HBYY := Lib.hid hby; have HRY := Lib.hid hry; have HGY := Lib.hid ((hby.fix.same _ (Array.getElem?_eq_some_iff.1 HGZ.out).1 n3).trans HGZ.out); have HVY := Lib.hid ((hby.fix.same _ (Array.getElem?_eq_some_iff.1 HVZ.out).1 n1).trans HVZ.out); clear hby hy hry; have v0 := cell_at (o := 0) HVY.out rfl; have v1 := cell_at (o := 1) HVY.out rfl; have v2 := cell_at (o := 2) HVY.out rfl; have c0 := cell_at (o := 0) HGY.out rfl; have c1 := cell_at (o := 1) HGY.out rfl; have c2 := cell_at (o := 2) HGY.out rfl; have f0 := free_at (o := 0) HGY.out; have f1 := free_at (o := 1) HGY.out; have f2 := free_at (o := 2) HGY.out; have q2 := cell_at (o := 2) HRY.out rfl; have qf2 := free_at (o := 2) HRY.out)
              refine bodyPost_ret (v := .agg #[.int .i64 kx, .int .i64 n, .slice a7 (ds.length + 1) c7]) (by simp [results, Tryz.results74, go_sem, *]) rfl ?_
              refine post_none HNO.out ((((HBY.out.trans (Bt.set _ _ _)).new hrw (Nat.le_refl _) _).new hrw (Nat.le_refl _) _).new hrw (Nat.le_refl _) _) rfl HRLE.out ?_
              exact ((RdC.set (heap_set_at (o := 2) (.bool false) HRY.out) n6 _).set n6 _).set n6 _
          | some q =>
            obtain ⟨d, R⟩ := q
            have hm := HM5.out
            rw [hnt] at hm
            obtain ⟨rfl, rfl, hdk, hdn, hrow⟩ := hm
            obtain ⟨_, hdo⟩ := (sound g).1 _ _ _ hnt
            have hwf : (Lit.int .i64 kq).wf = true ∧ (Lit.int .i64 nq).wf = true := by
              rw [DescV.eta d, DescV.heads, List.all_cons, Bool.and_eq_true] at hdo
              have := okH_iff.1 hdo.1
              rw [← hdk, ← hdn]
              simp only [Lit.wf, Bool.and_eq_true, decide_eq_true_eq]
              exact ⟨⟨by show (-9223372036854775808 : Int) ≤ _; omega, by show _ ≤ (9223372036854775807 : Int); omega⟩, by show (-9223372036854775808 : Int) ≤ _; omega, by show _ ≤ (9223372036854775807 : Int); omega⟩
            have HTT := Lib.hid (HTR.out d hdk hdn hrow hwf.1 hwf.2)
            have HNL := Lib.hid (node_len hnt)
            have HNT := Lib.hid hnt
            clear hdk hdn hrow hdo hwf hnt
            by_cases h44 : T[at5]? = some [44]
            · have H44 := Lib.hid h44
              have hl5 : at5 < T.length := (List.getElem?_eq_some_iff.1 h44).1
              clear h44
              go_wp2_with (go_at_call 96; (with_reducible refine HSG9.out.mono ?_); rintro e wy ⟨hby, hy⟩; obtain ⟨_, rfl, hry⟩ := hy.resolve_right (fun h => h.1 H44.out); have HBY := Lib.hid (HBT.out.trans hby); have HBYY := Lib.hid hby; have HRY := Lib.hid hry; have HGY := Lib.hid ((hby.fix.same _ (Array.getElem?_eq_some_iff.1 HGZ.out).1 n3).trans HGZ.out); have HVY := Lib.hid ((hby.fix.same _ (Array.getElem?_eq_some_iff.1 HVZ.out).1 n1).trans HVZ.out); clear hby hy hry)
              go_roundg g
              case measure => omega
              case rel =>
                have hszy := HBYY.out.fix.size
                refine ⟨g, ds ++ [d], _, xs ++ [.int .i64 kq, .int .i64 nq, .slice a5 m5 c5], at5 + 1, true, rfl, HBY.out, HGY.out, HVY.out, HRY.out, by omega, by omega, ⟨_, _, _, rfl⟩, fun h => (by cases h), fun _ => ⟨?_, ?_⟩, fun _ => ?_, fun _ => ?_⟩
                · have := HFU.out
                  rw [List.length_append, List.length_singleton]
                  omega
                · have h1 := HFL.out
                  have h2 := HNL.out
                  rw [List.length_drop, List.length_drop] at h2
                  rw [List.length_drop] at h1 ⊢
                  omega
                · rw [HEQ.out, kids_more HNT.out H44.out, Option.map_map]
                  congr 1
                  funext q
                  simp
                · exact Trees.fix HTT.out (HBYY.out.fix.mono fun b _ hf => by have : w7.heap.size ≤ b := hf; omega)
            · by_cases h41 : T[at5]? = some [41]
              · have HNK : Hid (kidsT f (T.drop (at' + 3)) = some (ds ++ [d], T.drop (at5 + 1))) := Lib.hid (by rw [HEQ.out, kids_last HNT.out h41]; rfl)
                have HNO : Hid (nodeT (f + 1) (T.drop at') = some (.mk kx n (ds ++ [d]), T.drop (at5 + 1))) := Lib.hid (by rw [HKD.out, HNK.out]; rfl)
                have H44 := Lib.hid h44
                have H41 := Lib.hid h41
                have hl5 : at5 < T.length := (List.getElem?_eq_some_iff.1 h41).1
                clear h44 h41
                go_wp2_with (first
                  | (go_at_call 96; (with_reducible refine HSG9.out.mono ?_); rintro e wx ⟨hbx, hx⟩; obtain ⟨_, rfl, hrx⟩ := hx.resolve_left (fun h => H44.out h.1); have HBX := Lib.hid (HBT.out.trans hbx); have HBXX := Lib.hid hbx; have HRX := Lib.hid hrx; have HGX := Lib.hid ((hbx.fix.same _ (Array.getElem?_eq_some_iff.1 HGZ.out).1 n3).trans HGZ.out); have HVX := Lib.hid ((hbx.fix.same _ (Array.getElem?_eq_some_iff.1 HVZ.out).1 n1).trans HVZ.out); have HSX : Hid (Calls Tryz.prog 96 #[.pointer (some ⟨r, 0, none⟩), .string ⟨#[41]⟩] wx (SignPost r la lc T at5 true 41 wx)) := Lib.hid (sign_any r la lc T at5 true 41 wx hrx (HT.out.keep HBX.out) hTl (by omega)); clear hbx hx hrx; have q2 := cell_at (o := 2) HRX.out rfl)
                  | (go_at_call 96; (with_reducible refine HSX.out.mono ?_); rintro e wy ⟨hby, hy⟩; obtain ⟨_, rfl, hry⟩ := hy.resolve_right (fun h => h.1 H41.out); have HBY := Lib.hid (HBX.out.trans hby); have HBYY := Lib.hid (HBXX.out.trans hby); have HRY := Lib.hid hry; have HGY := Lib.hid ((hby.fix.same _ (Array.getElem?_eq_some_iff.1 HGX.out).1 n3).trans HGX.out); have HVY := Lib.hid ((hby.fix.same _ (Array.getElem?_eq_some_iff.1 HVX.out).1 n1).trans HVX.out); clear hby hy hry q2; have v0 := cell_at (o := 0) HVY.out rfl; have v1 := cell_at (o := 1) HVY.out rfl; have v2 := cell_at (o := 2) HVY.out rfl; have c0 := cell_at (o := 0) HGY.out rfl; have c1 := cell_at (o := 1) HGY.out rfl; have c2 := cell_at (o := 2) HGY.out rfl; have f0 := free_at (o := 0) HGY.out; have f1 := free_at (o := 1) HGY.out; have f2 := free_at (o := 2) HGY.out; have q2 := cell_at (o := 2) HRY.out rfl; have qf2 := free_at (o := 2) HRY.out))
                refine bodyPost_ret (v := .agg #[.int .i64 kx, .int .i64 n, .slice a7 (ds.length + 1) c7]) (by simp [results, Tryz.results74, go_sem, *]) rfl ?_
                have htr := Trees.fix HTT.out (HBYY.out.fix.mono fun b _ hf => by have : w7.heap.size ≤ b := hf; omega)
                obtain ⟨a', c', hv', hrow'⟩ := htr.rowOf (by rw [List.length_append, List.length_singleton]; omega)
                rw [List.length_append, List.length_singleton] at hv' hrow'
                cases hv'
                refine post_some HNO.out ((((HBY.out.trans (Bt.set _ _ _)).new hrw (Nat.le_refl _) _).new hrw (Nat.le_refl _) _).new hrw (Nat.le_refl _) _) rfl (by omega) ?_ ?_
                · exact ((RdC.set (heap_set_at (o := 2) (.bool true) HRY.out) n6 _).set n6 _).set n6 _
                · have fxs : ∀ (b o : Nat) (u : Value) (W : World), b < w7.heap.size → Fix (From w7.heap.size) W (W.setCell ⟨b, o, none⟩ u) := fun b o u W hb => Fix.setCell W _ u fun hf => by have : w7.heap.size ≤ b := hf; omega
                  exact (hrow'.keep (descRd_ok _) ((((fxs _ _ _ _ (by omega)).trans (fxs _ _ _ _ (by omega))).trans (fxs _ _ _ _ (by omega))).trans (fxs _ _ _ _ (by omega)))).mono (descRd_ok _) (fun q _ hq => by have hq' : w7.heap.size ≤ q := hq; show w.heap.size ≤ q; omega)
              · have HNK : Hid (kidsT f (T.drop (at' + 3)) = none) := Lib.hid (by rw [HEQ.out, kids_other HNT.out h44 h41]; rfl)
                have HNO : Hid (nodeT (f + 1) (T.drop at') = none) := Lib.hid (by rw [HKD.out, HNK.out]; rfl)
                have H44 := Lib.hid h44
                have H41 := Lib.hid h41
                clear h44 h41
                go_wp2_with (first
                  | (go_at_call 96; (with_reducible refine HSG9.out.mono ?_); rintro e wx ⟨hbx, hx⟩; obtain ⟨_, rfl, hrx⟩ := hx.resolve_left (fun h => H44.out h.1); have HBX := Lib.hid (HBT.out.trans hbx); have HBXX := Lib.hid hbx; have HRX := Lib.hid hrx; have HGX := Lib.hid ((hbx.fix.same _ (Array.getElem?_eq_some_iff.1 HGZ.out).1 n3).trans HGZ.out); have HVX := Lib.hid ((hbx.fix.same _ (Array.getElem?_eq_some_iff.1 HVZ.out).1 n1).trans HVZ.out); have HSX : Hid (Calls Tryz.prog 96 #[.pointer (some ⟨r, 0, none⟩), .string ⟨#[41]⟩] wx (SignPost r la lc T at5 true 41 wx)) := Lib.hid (sign_any r la lc T at5 true 41 wx hrx (HT.out.keep HBX.out) hTl (by omega)); clear hbx hx hrx; have q2 := cell_at (o := 2) HRX.out rfl)
                  | (go_at_call 96; (with_reducible refine HSX.out.mono ?_); rintro e wy ⟨hby, hy⟩; obtain ⟨_, rfl, hry⟩ := hy.resolve_left (fun h => H41.out h.1); have HBY := Lib.hid (HBX.out.trans hby); have HBYY := Lib.hid (HBXX.out.trans hby); have HRY := Lib.hid hry; have HGY := Lib.hid ((hby.fix.same _ (Array.getElem?_eq_some_iff.1 HGX.out).1 n3).trans HGX.out); have HVY := Lib.hid ((hby.fix.same _ (Array.getElem?_eq_some_iff.1 HVX.out).1 n1).trans HVX.out); clear hby hy hry q2; have v0 := cell_at (o := 0) HVY.out rfl; have v1 := cell_at (o := 1) HVY.out rfl; have v2 := cell_at (o := 2) HVY.out rfl; have c0 := cell_at (o := 0) HGY.out rfl; have c1 := cell_at (o := 1) HGY.out rfl; have c2 := cell_at (o := 2) HGY.out rfl; have f0 := free_at (o := 0) HGY.out; have f1 := free_at (o := 1) HGY.out; have f2 := free_at (o := 2) HGY.out; have q2 := cell_at (o := 2) HRY.out rfl; have qf2 := free_at (o := 2) HRY.out))
                refine bodyPost_ret (v := .agg #[.int .i64 kx, .int .i64 n, .slice a7 (ds.length + 1) c7]) (by simp [results, Tryz.results74, go_sem, *]) rfl ?_
                refine post_none HNO.out ((((HBY.out.trans (Bt.set _ _ _)).new hrw (Nat.le_refl _) _).new hrw (Nat.le_refl _) _).new hrw (Nat.le_refl _) _) rfl HRLE.out ?_
                exact ((RdC.set (heap_set_at (o := 2) (.bool false) HRY.out) n6 _).set n6 _).set n6 _
    · have HGD := Lib.hid (node_good (f := f) hl2 h0 hn h40)
      rw [← HKX.out] at HGD
      have H40 := Lib.hid h40
      clear hbad h0 hnn hok e1 e2 e3 e4 h40 hk0 hk7 hn
      go_wp2_with (go_at_call 96; (with_reducible refine HSG.out.mono ?_); rintro e w7 ⟨hb7, h7⟩; obtain ⟨_, rfl, hr7⟩ := h7.resolve_left (fun h => H40.out h.1); have HB7 := Lib.hid (HB6.out.trans hb7); have HR7 := Lib.hid hr7; have HG7 := Lib.hid ((hb7.fix.same _ (Array.getElem?_eq_some_iff.1 HG6.out).1 n3).trans HG6.out); have HV7 := Lib.hid ((hb7.fix.same _ (Array.getElem?_eq_some_iff.1 HV6.out).1 n1).trans HV6.out); clear hb7 h7 hr7 c0 c1 c2 f0 f1 f2 v0 v1 v2 r2 fr2; have c0 := cell_at (o := 0) HG7.out rfl; have c1 := cell_at (o := 1) HG7.out rfl; have c2 := cell_at (o := 2) HG7.out rfl; have f0 := free_at (o := 0) HG7.out; have f1 := free_at (o := 1) HG7.out; have f2 := free_at (o := 2) HG7.out; have v0 := cell_at (o := 0) HV7.out rfl; have v1 := cell_at (o := 1) HV7.out rfl; have v2 := cell_at (o := 2) HV7.out rfl)
      refine bodyPost_ret (v := .agg #[.int .i64 kx, .int .i64 n, .slice none 0 0]) (by simp [results, Tryz.results74, go_sem, *]) rfl ?_
      refine post_some HGD.out (((HB7.out.new hrw (Nat.le_refl _) _).new hrw (Nat.le_refl _) _).new hrw (Nat.le_refl _) _) rfl HA2.out ?_ (RowOf.empty _ _ _ _ _)
      exact ((HR7.out.set n6 _).set n6 _).set n6 _
theorem node_all (f : Nat) : NodeAt f := by
  induction f using Nat.strongRecOn with
  | _ f ih => exact node_step f ih
end Go.Proofs.YtephllgddhncgaaGreatDoor.Lex
