/- A reader of tokens: next, sign. -/
import Derived.Test.YtdhkndoglcnllaaGreatDoorKind23
import Derived.Test.YtdhkndoglcnllaaGreatDoorHeldZ
import Derived.BigQuiet
namespace Go.Proofs.YtdhkndoglcnllaaGreatDoor.Lex
open Go.RowKit
set_option linter.unusedSimpArgs false
set_option linter.unusedVariables false
/-- Tokens in memory, by their texts; none in block r. -/
def Toks (w : World) (r : Nat) (la : Option Addr) (T : List (List UInt8)) : Prop := ∀ i x, T[i]? = some x → ∃ g kk pp, la = some ⟨g, 0, none⟩ ∧ g ≠ r ∧ g < w.heap.size ∧
  w.cell? ⟨g, i * 3, none⟩ = some (.int .i64 kk) ∧ w.cell? ⟨g, i * 3 + 1, none⟩ = some (.string (bs x)) ∧ w.cell? ⟨g, i * 3 + 2, none⟩ = some (.int .i64 pp)
/-- All but block r reads as it did. -/
structure Bt (r : Nat) (w w' : World) : Prop where
  below : Below r w w'
  fix : Fix (fun b => b ≠ r) w w'
theorem Bt.refl (r : Nat) (w : World) : Bt r w w := ⟨Below.refl _ _, Fix.refl _ _⟩
theorem Bt.trans {r : Nat} {a b c : World} (h : Bt r a b) (k : Bt r b c) : Bt r a c := ⟨h.below.trans k.below, h.fix.trans k.fix⟩
theorem Bt.of_below {r : Nat} {w w' : World} (h : Below w.heap.size w w') (hr : r ≤ w.heap.size) : Bt r w w' := ⟨Below.mono h hr, Fix.of_below h⟩
theorem Bt.set {r : Nat} (w : World) (o : Nat) (v : Value) : Bt r w (w.setCell ⟨r, o, none⟩ v) := ⟨(Below.refl r w).setCell (p := ⟨r, o, none⟩) (Nat.le_refl r) v, Fix.setCell w ⟨r, o, none⟩ v (fun h => h rfl)⟩
theorem Toks.keep {w w' : World} {r : Nat} {la : Option Addr} {T : List (List UInt8)} (h : Toks w r la T) (hb : Bt r w w') : Toks w' r la T := fun i x hx => by
  obtain ⟨g, kk, pp, h1, h2, h3, h4, h5, h6⟩ := h i x hx
  exact ⟨g, kk, pp, h1, h2, Nat.lt_of_lt_of_le h3 hb.fix.size, (hb.fix.cell h3 h2).trans h4, (hb.fix.cell h3 h2).trans h5, (hb.fix.cell h3 h2).trans h6⟩
/-- The reader's own cells. -/
def RdC (w : World) (r : Nat) (la : Option Addr) (n lc at' : Nat) (ok : Bool) : Prop := w.heap[r]? = some (.cells #[.slice la n lc, .int .i64 (at' : Int), .bool ok] 77 (0, 0))
def NextPost (r : Nat) (la : Option Addr) (lc : Nat) (T : List (List UInt8)) (at' : Nat) (ok : Bool) (w : World) (e : Ending) (w' : World) : Prop :=
  Bt r w w' ∧ ∃ (kk : Int) (x : List UInt8) (pp : Int), e = .returned (.agg #[.int .i64 kk, .string (bs x), .int .i64 pp]) ∧
    ((T[at']? = some x ∧ RdC w' r la T.length lc (at' + 1) ok) ∨ (T.length ≤ at' ∧ x = [] ∧ RdC w' r la T.length lc at' false))
set_option maxRecDepth 100000 in
set_option maxHeartbeats 2000000 in
theorem next_any (r : Nat) (la : Option Addr) (lc : Nat) (T : List (List UInt8)) (at' : Nat) (ok : Bool) (w : World) (hr : RdC w r la T.length lc at' ok) (ht : Toks w r la T) (hT : T.length ≤ 1048576) (ha : at' ≤ 1048576) :
    Calls Tryz.prog 56 #[.pointer (some ⟨r, 0, none⟩)] w (NextPost r la lc T at' ok w) := by
  have hrl : r < w.heap.size := (Array.getElem?_eq_some_iff.1 hr).1
  have HR := Lib.hid hr
  have HT := Lib.hid ht
  obtain ⟨W0, hW0⟩ : ∃ W0, W0 = w.alloc (.cells #[.int .i64 0, .string ⟨#[]⟩, .int .i64 0] 95) := ⟨_, rfl⟩
  have hb0 : Below w.heap.size w W0 := by rw [hW0]; exact (Below.refl _ _).alloc (Nat.le_refl _) _
  have g0 : W0.heap[w.heap.size]? = some (.cells #[.int .i64 0, .string ⟨#[]⟩, .int .i64 0] 95 (0, 0)) := by rw [hW0]; exact heap_alloc_new w _
  have hr0 : W0.heap[r]? = some (.cells #[.slice la T.length lc, .int .i64 (at' : Int), .bool ok] 77 (0, 0)) := (hb0.block _ hrl).trans hr
  have c0 := cell_at (o := 0) hr0 rfl
  have c1 := cell_at (o := 1) hr0 rfl
  have c2 := cell_at (o := 2) hr0 rfl
  have f0 := fun o => free_at (o := o) hr0
  have HR0 := Lib.hid hr0
  have HG0 := Lib.hid g0
  have HB0 := Lib.hid hb0
  have hne : ¬ w.heap.size = r := by omega
  clear hr ht g0 hr0 hb0
  by_cases hlt : at' < T.length
  · have hlt' : ¬ ((T.length : Int) ≤ (at' : Int)) := by omega
    have f1 := f0 1
    clear f0
    obtain ⟨x, hx⟩ : ∃ x, T[at']? = some x := ⟨_, List.getElem?_eq_getElem hlt⟩
    obtain ⟨g, kk, pp, rfl, hgr, hgl, p0, p1, p2⟩ := HT.out at' x hx
    have hi1 : (at' : Int) < (T.length : Int) := by omega
    have hwr : IntKind.i64.wrap (at' : Int) = (at' : Int) := IntWalk.i64_in _ (by omega)
    have HX := Lib.hid hx
    go_enter Tryz.func56, Tryz.ntmps56
    go_upto_region 1 with fail
    rw [← hW0]
    clear hW0
    go_quiet (fail)
    go_wp2_with fail
    obtain ⟨W1, hW1⟩ : ∃ W1, W1 = (W0.drewN nq).setCell ⟨r, 1, none⟩ (.int .i64 ((at' : Int) + 1)) := ⟨_, rfl⟩
    have hbt : Bt r W0 W1 := by rw [hW1]; exact (⟨below_drewN (Below.refl _ _) nq, Fix.drewN _ _ _⟩ : Bt r W0 (W0.drewN nq)).trans (Bt.set _ _ _)
    have hr1 : W1.heap[r]? = some (.cells #[.slice (some ⟨g, 0, none⟩) T.length lc, .int .i64 ((at' : Int) + 1), .bool ok] 77 (0, 0)) := by rw [hW1]; exact heap_set_at (o := 1) _ HR0.out
    have hgw : W1.heap[w.heap.size]? = some (.cells #[.int .i64 0, .string ⟨#[]⟩, .int .i64 0] 95 (0, 0)) := (hbt.fix.same _ (Array.getElem?_eq_some_iff.1 HG0.out).1 hne).trans HG0.out
    have HBT := Lib.hid (Bt.trans (Bt.of_below HB0.out (by omega)) hbt)
    have HGW := Lib.hid hgw
    have HR1 := Lib.hid hr1
    have hT0 : W1.drew.cell? ⟨r, 0, none⟩ = some (.slice (some ⟨g, 0, none⟩) T.length lc) ∧ W1.drew.cell? ⟨r, 1, none⟩ = some (.int .i64 ((at' : Int) + 1)) ∧ W1.drew.cell? ⟨g, at' * 3, none⟩ = some (.int .i64 kk) ∧ W1.drew.cell? ⟨g, at' * 3 + 1, none⟩ = some (.string (bs x)) ∧ W1.drew.cell? ⟨g, at' * 3 + 2, none⟩ = some (.int .i64 pp) := by
      have e : ∀ o, W1.drew.cell? ⟨g, o, none⟩ = w.cell? ⟨g, o, none⟩ := fun o => HBT.out.fix.cell hgl hgr
      rw [e, e, e]
      exact ⟨cell_at (w := W1.drew) hr1 rfl, cell_at (w := W1.drew) hr1 rfl, p0, p1, p2⟩
    have HT0 := Lib.hid hT0
    rw [← hW1]
    clear hW1 hbt hr1 hgw hT0 p0 p1 p2 c0 c1 c2 f1 hx
    refine wp_region_z (fun W => W.cell? ⟨r, 0, none⟩ = some (.slice (some ⟨g, 0, none⟩) T.length lc) ∧ W.cell? ⟨r, 1, none⟩ = some (.int .i64 ((at' : Int) + 1)) ∧ W.cell? ⟨g, at' * 3, none⟩ = some (.int .i64 kk) ∧ W.cell? ⟨g, at' * 3 + 1, none⟩ = some (.string (bs x)) ∧ W.cell? ⟨g, at' * 3 + 2, none⟩ = some (.int .i64 pp)) 11 (by kernel_rfl) ?_
    change wpZ _ _ _ _ _ _ 12 #[false, false, false, false, false, false, false, false, false, false, false, false] _ W1.drew
    (refine wpZ_take (i := 0) (v := ?_) rfl (by kernel_rfl) (by kernel_rfl) (by kernel_rfl) (by kernel_rfl) (fun _ _ _ h => h) HT0.out (Or.inl ⟨by rfl, ?_⟩) ?_; rotate_left 1; (focus (intro w0 hw0; (try dsimp only at hw0); obtain ⟨s0, s1, s2, s3, s4⟩ := hw0; first | with_reducible rfl | (go_simp; try with_reducible rfl))); (try simp only [Act.put, List.getElem_toArray, List.getElem_cons_zero, List.getElem_cons_succ, List.setIfInBounds_toArray, List.set_cons_zero, List.set_cons_succ]))
    (refine wpZ_take (i := 1) (v := ?_) rfl (by kernel_rfl) (by kernel_rfl) (by kernel_rfl) (by kernel_rfl) (fun _ _ _ h => h) HT0.out (Or.inl ⟨by rfl, ?_⟩) ?_; rotate_left 1; (focus (intro w0 hw0; (try dsimp only at hw0); obtain ⟨s0, s1, s2, s3, s4⟩ := hw0; first | with_reducible rfl | (go_simp; try with_reducible rfl))); (try simp only [Act.put, List.getElem_toArray, List.getElem_cons_zero, List.getElem_cons_succ, List.setIfInBounds_toArray, List.set_cons_zero, List.set_cons_succ]))
    (refine wpZ_take (i := 2) (v := ?_) rfl (by kernel_rfl) (by kernel_rfl) (by kernel_rfl) (by kernel_rfl) (fun _ _ _ h => h) HT0.out (Or.inl ⟨by rfl, ?_⟩) ?_; rotate_left 1; (focus (intro w0 hw0; (try dsimp only at hw0); obtain ⟨s0, s1, s2, s3, s4⟩ := hw0; first | with_reducible rfl | (go_simp; try with_reducible rfl))); (try simp only [Act.put, List.getElem_toArray, List.getElem_cons_zero, List.getElem_cons_succ, List.setIfInBounds_toArray, List.set_cons_zero, List.set_cons_succ]))
    (refine wpZ_take (i := 3) (v := ?_) rfl (by kernel_rfl) (by kernel_rfl) (by kernel_rfl) (by kernel_rfl) (fun _ _ _ h => h) HT0.out (Or.inl ⟨by rfl, ?_⟩) ?_; rotate_left 1; (focus (intro w0 hw0; (try dsimp only at hw0); obtain ⟨s0, s1, s2, s3, s4⟩ := hw0; first | with_reducible rfl | (go_simp; try with_reducible rfl))); (try simp only [Act.put, List.getElem_toArray, List.getElem_cons_zero, List.getElem_cons_succ, List.setIfInBounds_toArray, List.set_cons_zero, List.set_cons_succ]))
    (refine wpZ_take (i := 4) (v := ?_) rfl (by kernel_rfl) (by kernel_rfl) (by kernel_rfl) (by kernel_rfl) (fun _ _ _ h => h) HT0.out (Or.inl ⟨by rfl, ?_⟩) ?_; rotate_left 1; (focus (intro w0 hw0; (try dsimp only at hw0); obtain ⟨s0, s1, s2, s3, s4⟩ := hw0; first | with_reducible rfl | (go_simp; try with_reducible rfl))); (try simp only [Act.put, List.getElem_toArray, List.getElem_cons_zero, List.getElem_cons_succ, List.setIfInBounds_toArray, List.set_cons_zero, List.set_cons_succ]))
    (refine wpZ_take (i := 5) (v := ?_) rfl (by kernel_rfl) (by kernel_rfl) (by kernel_rfl) (by kernel_rfl) (fun _ _ _ h => h) HT0.out (Or.inl ⟨by rfl, ?_⟩) ?_; rotate_left 1; (focus (intro w0 hw0; (try dsimp only at hw0); obtain ⟨s0, s1, s2, s3, s4⟩ := hw0; first | with_reducible rfl | (go_simp; try with_reducible rfl))); (try simp only [Act.put, List.getElem_toArray, List.getElem_cons_zero, List.getElem_cons_succ, List.setIfInBounds_toArray, List.set_cons_zero, List.set_cons_succ]))
    (refine wpZ_take (i := 6) (v := ?_) rfl (by kernel_rfl) (by kernel_rfl) (by kernel_rfl) (by kernel_rfl) (fun _ _ _ h => h) HT0.out (Or.inl ⟨by rfl, ?_⟩) ?_; rotate_left 1; (focus (intro w0 hw0; (try dsimp only at hw0); obtain ⟨s0, s1, s2, s3, s4⟩ := hw0; first | with_reducible rfl | (go_simp; try with_reducible rfl))); (try simp only [Act.put, List.getElem_toArray, List.getElem_cons_zero, List.getElem_cons_succ, List.setIfInBounds_toArray, List.set_cons_zero, List.set_cons_succ]))
    (refine wpZ_take (i := 7) (v := ?_) rfl (by kernel_rfl) (by kernel_rfl) (by kernel_rfl) (by kernel_rfl) (fun _ _ _ h => h) HT0.out (Or.inl ⟨by rfl, ?_⟩) ?_; rotate_left 1; (focus (intro w0 hw0; (try dsimp only at hw0); obtain ⟨s0, s1, s2, s3, s4⟩ := hw0; first | with_reducible rfl | (go_simp; try with_reducible rfl))); (try simp only [Act.put, List.getElem_toArray, List.getElem_cons_zero, List.getElem_cons_succ, List.setIfInBounds_toArray, List.set_cons_zero, List.set_cons_succ]))
    (refine wpZ_take (i := 8) (v := ?_) rfl (by kernel_rfl) (by kernel_rfl) (by kernel_rfl) (by kernel_rfl) (fun _ _ _ h => h) HT0.out (Or.inl ⟨by rfl, ?_⟩) ?_; rotate_left 1; (focus (intro w0 hw0; (try dsimp only at hw0); obtain ⟨s0, s1, s2, s3, s4⟩ := hw0; first | with_reducible rfl | (go_simp; try with_reducible rfl))); (try simp only [Act.put, List.getElem_toArray, List.getElem_cons_zero, List.getElem_cons_succ, List.setIfInBounds_toArray, List.set_cons_zero, List.set_cons_succ]))
    (refine wpZ_take (i := 9) (v := ?_) rfl (by kernel_rfl) (by kernel_rfl) (by kernel_rfl) (by kernel_rfl) (fun _ _ _ h => h) HT0.out (Or.inl ⟨by rfl, ?_⟩) ?_; rotate_left 1; (focus (intro w0 hw0; (try dsimp only at hw0); obtain ⟨s0, s1, s2, s3, s4⟩ := hw0; first | with_reducible rfl | (go_simp; try with_reducible rfl))); (try simp only [Act.put, List.getElem_toArray, List.getElem_cons_zero, List.getElem_cons_succ, List.setIfInBounds_toArray, List.set_cons_zero, List.set_cons_succ]))
    (refine wpZ_take (i := 10) (v := ?_) rfl (by kernel_rfl) (by kernel_rfl) (by kernel_rfl) (by kernel_rfl) (fun _ _ _ h => h) HT0.out (Or.inl ⟨by rfl, ?_⟩) ?_; rotate_left 1; (focus (intro w0 hw0; (try dsimp only at hw0); obtain ⟨s0, s1, s2, s3, s4⟩ := hw0; first | with_reducible rfl | (go_simp; try with_reducible rfl))); (try simp only [Act.put, List.getElem_toArray, List.getElem_cons_zero, List.getElem_cons_succ, List.setIfInBounds_toArray, List.set_cons_zero, List.set_cons_succ]))
    refine wpZ_ready (rs := [11]) (by kernel_rfl) (by simp) ?_
    refine ReadyZ.cons rfl (fun K hK => ?_) ReadyZ.nil
    have t0 : W1.cell? ⟨w.heap.size, 0, none⟩ = some (.int .i64 0) := cell_at HGW.out rfl
    have t1 : W1.cell? ⟨w.heap.size, 1, none⟩ = some (.string ⟨#[]⟩) := cell_at HGW.out rfl
    have t2 : W1.cell? ⟨w.heap.size, 2, none⟩ = some (.int .i64 0) := cell_at HGW.out rfl
    have f0 : W1.frozen? ⟨w.heap.size, 0, none⟩ = false := free_at HGW.out
    have f1 : W1.frozen? ⟨w.heap.size, 1, none⟩ = false := free_at HGW.out
    have f2 : W1.frozen? ⟨w.heap.size, 2, none⟩ = false := free_at HGW.out
    go_simp
    refine hK.out _ _ (.inl rfl) ?_
    clear hK K
    try simp only [Act.put, List.getElem_toArray, List.getElem_cons_zero, List.getElem_cons_succ, List.setIfInBounds_toArray, List.set_cons_zero, List.set_cons_succ]
    refine wpZ_done (by kernel_rfl) ?_ _
    go_wp2_with fail
    refine bodyPost_ret (v := .agg #[.int .i64 kk, .string (bs x), .int .i64 pp]) (by simp [results, Tryz.results56, go_sem, *]) rfl ?_
    have hzw : r < w.heap.size := hrl
    have key : ∀ (o : Nat) (v : Value) (W : World), Bt r w W → Bt r w (W.setCell ⟨w.heap.size, o, none⟩ v) := fun o v W h =>
      ⟨h.below.setCell (p := ⟨w.heap.size, o, none⟩) (by show r ≤ w.heap.size; omega) v, ⟨by have := h.fix.size; simpa [World.setCell] using this, fun b hb hf => (Below.heap_setCell _ _ _ _ (by show b ≠ w.heap.size; omega)).trans (h.fix.same b hb hf)⟩⟩
    refine ⟨key _ _ _ (key _ _ _ (key _ _ _ ⟨HBT.out.below.drew, ⟨HBT.out.fix.size, HBT.out.fix.same⟩⟩)), kk, x, pp, rfl, .inl ⟨HX.out, ?_⟩⟩
    have hn2 : r ≠ w.heap.size := by omega
    unfold RdC
    show (World.setCell _ _ _).heap[r]? = _
    rw [Below.heap_setCell _ _ _ _ hn2, Below.heap_setCell _ _ _ _ hn2, Below.heap_setCell _ _ _ _ hn2]
    exact HR1.out
  · have hle : (T.length : Int) ≤ (at' : Int) := by omega
    have f2 := f0 2
    clear f0
    have t0 : W0.cell? ⟨w.heap.size, 0, none⟩ = some (.int .i64 0) := cell_at HG0.out rfl
    have t1 : W0.cell? ⟨w.heap.size, 1, none⟩ = some (.string ⟨#[]⟩) := cell_at HG0.out rfl
    have t2 : W0.cell? ⟨w.heap.size, 2, none⟩ = some (.int .i64 0) := cell_at HG0.out rfl
    have e0 : W0.frozen? ⟨w.heap.size, 0, none⟩ = false := free_at HG0.out
    have e1 : W0.frozen? ⟨w.heap.size, 1, none⟩ = false := free_at HG0.out
    have e2 : W0.frozen? ⟨w.heap.size, 2, none⟩ = false := free_at HG0.out
    go_enter Tryz.func56, Tryz.ntmps56
    go_upto_region 1 with fail
    rw [← hW0]
    clear hW0
    go_quiet (fail)
    go_wp2_with fail
    refine bodyPost_ret (v := .agg #[.int .i64 0, .string (bs []), .int .i64 0]) (by simp [results, Tryz.results56, go_sem, *]; rfl) rfl ?_
    have hrw : r ≤ w.heap.size := Nat.le_of_lt hrl
    have key : ∀ (o : Nat) (v : Value) (W : World), Bt r w W → Bt r w (W.setCell ⟨w.heap.size, o, none⟩ v) := fun o v W h =>
      ⟨h.below.setCell (p := ⟨w.heap.size, o, none⟩) hrw v, ⟨by have := h.fix.size; simpa [World.setCell] using this, fun b hb hf => (Below.heap_setCell _ _ _ _ (by show b ≠ w.heap.size; omega)).trans (h.fix.same b hb hf)⟩⟩
    have hbt : Bt r w (((W0.drewN nq)).setCell ⟨r, 2, none⟩ (.bool false)) := (Bt.of_below HB0.out hrw).trans ((⟨below_drewN (Below.refl _ _) nq, Fix.drewN _ _ _⟩ : Bt r W0 (W0.drewN nq)).trans (Bt.set _ _ _))
    refine ⟨key _ _ _ (key _ _ _ (key _ _ _ hbt)), 0, [], 0, rfl, .inr ⟨by omega, rfl, ?_⟩⟩
    have hn2 : r ≠ w.heap.size := by omega
    unfold RdC
    rw [Below.heap_setCell _ _ _ _ hn2, Below.heap_setCell _ _ _ _ hn2, Below.heap_setCell _ _ _ _ hn2]
    exact heap_set_at (o := 2) _ (show (W0.drewN nq).heap[r]? = _ from HR0.out)
def SignPost (r : Nat) (la : Option Addr) (lc : Nat) (T : List (List UInt8)) (at' : Nat) (ok : Bool) (z : UInt8) (w : World) (e : Ending) (w' : World) : Prop :=
  Bt r w w' ∧ ((T[at']? = some [z] ∧ e = .returned (.bool true) ∧ RdC w' r la T.length lc (at' + 1) ok) ∨ (T[at']? ≠ some [z] ∧ e = .returned (.bool false) ∧ RdC w' r la T.length lc at' ok))
theorem bs_one (z : UInt8) : (bs [z]).toList = [z] := bs_toList _
set_option maxRecDepth 100000 in
set_option maxHeartbeats 2000000 in
theorem sign_any (r : Nat) (la : Option Addr) (lc : Nat) (T : List (List UInt8)) (at' : Nat) (ok : Bool) (z : UInt8) (w : World) (hr : RdC w r la T.length lc at' ok) (ht : Toks w r la T) (hT : T.length ≤ 1048576) (ha : at' ≤ 1048576) :
    Calls Tryz.prog 57 #[.pointer (some ⟨r, 0, none⟩), .string (bs [z])] w (SignPost r la lc T at' ok z w) := by
  have hrl : r < w.heap.size := (Array.getElem?_eq_some_iff.1 hr).1
  have HR := Lib.hid hr
  have HT := Lib.hid ht
  have c0 : w.cell? ⟨r, 0, none⟩ = some (.slice la T.length lc) := cell_at (o := 0) hr rfl
  have c1 : w.cell? ⟨r, 1, none⟩ = some (.int .i64 (at' : Int)) := cell_at (o := 1) hr rfl
  have f1 : w.frozen? ⟨r, 1, none⟩ = false := free_at (o := 1) hr
  have hbd : ∀ n, Bt r w (w.drewN n) := fun n => ⟨below_drewN (Below.refl _ _) n, Fix.drewN _ _ _⟩
  have HBD := Lib.hid hbd
  clear hr ht hbd
  by_cases hlt : at' < T.length
  · obtain ⟨x, hx⟩ : ∃ x, T[at']? = some x := ⟨_, List.getElem?_eq_getElem hlt⟩
    obtain ⟨g, kk, pp, rfl, hgr, hgl, p0, p1, p2⟩ := HT.out at' x hx
    have hi1 : decide ((at' : Int) < (T.length : Int)) = true := decide_eq_true (by omega)
    have HX := Lib.hid hx
    clear p0 p2 hx
    by_cases he : x = [z]
    · subst he
      have hb1 : ((bs [z]).toList == (bs [z]).toList) = true := by simp
      generalize bs [z] = sz at *
      go_enter Tryz.func57, Tryz.ntmps57
      go_wp2_with fail
      go_quiet (fail)
      go_wp2_with fail
      go_ret
      exact ⟨(HBD.out _).trans (Bt.set _ _ _), .inl ⟨HX.out, rfl, heap_set_at (o := 1) _ (show (w.drewN _).heap[r]? = _ from HR.out)⟩⟩
    · have HNE := Lib.hid he
      have hb1 : ((bs x).toList == (bs [z]).toList) = false := by rw [bs_toList, bs_toList]; simpa using he
      generalize bs [z] = sz at *
      generalize bs x = sx at *
      clear he
      go_enter Tryz.func57, Tryz.ntmps57
      go_wp2_with fail
      go_quiet (fail)
      go_wp2_with fail
      go_ret
      exact ⟨HBD.out _, .inr ⟨fun e => HNE.out (by rw [HX.out] at e; exact Option.some.inj e), rfl, HR.out⟩⟩
  · have hi1 : decide ((at' : Int) < (T.length : Int)) = false := decide_eq_false (by omega)
    generalize bs [z] = sz at *
    go_enter Tryz.func57, Tryz.ntmps57
    go_wp2_with fail
    go_quiet (fail)
    go_wp2_with fail
    go_ret
    exact ⟨HBD.out _, .inr ⟨by rw [List.getElem?_eq_none (by omega)]; simp, rfl, HR.out⟩⟩
end Go.Proofs.YtdhkndoglcnllaaGreatDoor.Lex
