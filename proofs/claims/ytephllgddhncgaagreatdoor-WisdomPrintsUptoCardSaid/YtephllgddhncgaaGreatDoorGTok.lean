/- Kind23, Rdr23, Tok23: laid into one text. -/
import Derived.Test.YtephllgddhncgaaGreatDoorGText
import Derived.Test.YtephllgddhncgaaGreatDoorHeldZ
import Derived.BigQuiet
/- A word's kind. -/
namespace Go.Proofs.YtephllgddhncgaaGreatDoor.Lex
open Go.RowKit
set_option linter.unusedSimpArgs false
set_option linter.unusedVariables false
/-- A word's kind; 0: none. -/
def kindD (x : List UInt8) : Nat := match names23.findIdx? (· == x) with | none => 0 | some i => i + 1
theorem kindD_le (x : List UInt8) : kindD x ≤ 7 := by
  unfold kindD
  cases h : names23.findIdx? (· == x) with
  | none => exact Nat.zero_le _
  | some i =>
    have := List.findIdx?_eq_some_iff_getElem.1 h
    obtain ⟨hi, _⟩ := this
    have : names23.length = 7 := rfl
    show i + 1 ≤ 7
    omega
theorem kindD_at {x : List UInt8} {j : Nat} (hj : j < names23.length) (h : names23[j]'hj = x) (hno : ∀ i (hi : i < j), names23[i]'(by omega) ≠ x) : kindD x = j + 1 := by
  have : names23.findIdx? (· == x) = some j := List.findIdx?_eq_some_iff_getElem.2 ⟨hj, by simpa using h, fun i hi => by simpa using hno i hi⟩
  rw [kindD, this]
theorem kindD_no {x : List UInt8} (hno : ∀ i (hi : i < names23.length), names23[i]'hi ≠ x) : kindD x = 0 := by
  have : names23.findIdx? (· == x) = none := by
    rw [List.findIdx?_eq_none_iff]
    intro y hy
    obtain ⟨i, hi, rfl⟩ := List.mem_iff_getElem.1 hy
    simpa using hno i hi
  rw [kindD, this]
theorem kindD_word {k : Int} (h : 1 ≤ k ∧ k ≤ 7) : (kindD (wordD k) : Int) = k := by
  rcases (by omega : k = 1 ∨ k = 2 ∨ k = 3 ∨ k = 4 ∨ k = 5 ∨ k = 6 ∨ k = 7) with rfl | rfl | rfl | rfl | rfl | rfl | rfl <;> decide
theorem wordD_kind {x : List UInt8} (h : kindD x ≠ 0) : wordD (kindD x) = x := by
  unfold kindD at h ⊢
  cases hf : names23.findIdx? (· == x) with
  | none => rw [hf] at h; exact absurd rfl h
  | some i =>
    obtain ⟨hi, he, _⟩ := List.findIdx?_eq_some_iff_getElem.1 hf
    have h7 : names23.length = 7 := rfl
    show wordD ((i + 1 : Nat) : Int) = x
    rw [wordD, if_pos (by omega), show (((i + 1 : Nat) : Int) - 1).toNat = i by omega, List.getD_eq_getElem?_getD, List.getElem?_eq_getElem hi]
    simpa using he
theorem bs_toList (x : List UInt8) : (bs x).toList = x := by
  rw [ByteArray.toList_eq]
  simp [bs]
set_option maxRecDepth 100000 in
set_option maxHeartbeats 1000000 in
theorem kind_any (x : List UInt8) (w : World) (hm : HasMax w) : Calls Tryz.prog 94 #[.string (bs x)] w fun e w' => e = .returned (.int .i64 (kindD x)) ∧ Below w.heap.size w w' := by
  have HM := Lib.hid hm
  clear hm
  go_enter Tryz.func94, Tryz.ntmps94
  go_wp2_with (go_at_call 70; (with_reducible refine (split23 _ HM.out).mono ?_); rintro e w1 ⟨rfl, hc, hb⟩; have HC := Lib.hid hc; have HB := Lib.hid hb; clear hc hb)
  go_loopg [7] 7 (fun g iv wr => ∃ j : Nat, j ≤ 7 ∧ g = 7 - j ∧ iv = .int .i64 (j : Int) ∧ (∀ i (hi : i < names23.length), i < j → names23[i]'hi ≠ x) ∧ wr = w1)
  case atStart => exact ⟨0, by omega, rfl, rfl, fun i _ h => by omega, rfl⟩
  case round =>
    obtain ⟨j, hj, rfl, rfl, hno, rfl⟩ := hrel
    have HNO := Lib.hid hno
    clear hno
    by_cases hlt : j < 7
    · have hj7 : j < names23.length := hlt
      have c0 := HC.out j _ (List.getElem?_eq_getElem hj7)
      by_cases he : names23[j]'hj7 = x
      · have HK : Hid (kindD x = j + 1) := Lib.hid (kindD_at hj7 he fun i hi => HNO.out i (by omega) hi)
        rw [he] at c0
        clear he
        go_wp2_with fail
        go_ret
        exact ⟨by rw [HK.out]; go_num, HB.out⟩
      · have hb : ((bs (names23[j]'hj7)).toList == (bs x).toList) = false := by rw [bs_toList, bs_toList]; simpa using he
        have HNE := Lib.hid he
        generalize bs (names23[j]'hj7) = sj at *
        clear he
        go_wp2_with fail
        go_roundg (7 - (j + 1))
        case measure => omega
        case rel => exact ⟨j + 1, by omega, rfl, by go_num, fun i hi h => by
          rcases (by omega : i < j ∨ i = j) with h' | rfl
          · exact HNO.out i hi h'
          · exact HNE.out, rfl⟩
    · obtain rfl : j = 7 := by omega
      have HK : Hid (kindD x = 0) := Lib.hid (kindD_no fun i hi => HNO.out i hi hi)
      go_wp2_with fail
      go_ret
      exact ⟨by rw [HK.out]; rfl, HB.out⟩
end Go.Proofs.YtephllgddhncgaaGreatDoor.Lex
/- A reader of tokens: next, sign. -/
namespace Go.Proofs.YtephllgddhncgaaGreatDoor.Lex
open Go.RowKit
set_option linter.unusedSimpArgs false
set_option linter.unusedVariables false
/-- Tokens in memory, by their texts; none in block r. -/
def Toks (w : World) (r : Nat) (la : Option Addr) (T : List (List UInt8)) : Prop := ∀ i x, T[i]? = some x → ∃ g kk pp, la = some ⟨g, 0, none⟩ ∧ g ≠ r ∧ g < w.heap.size ∧
  w.cell? ⟨g, i * 3, none⟩ = some (.int .i64 kk) ∧ w.cell? ⟨g, i * 3 + 1, none⟩ = some (.string (bs x)) ∧ w.cell? ⟨g, i * 3 + 2, none⟩ = some (.int .i64 pp)
/-- All but block r reads as it did. -/
structure Bt (r : Nat) (w w' : World) : Prop where
  below : Below r w w'
  fix : Fix (fun b => b ≠ r) w w'
theorem Bt.refl (r : Nat) (w : World) : Bt r w w := ⟨Below.refl _ _, Fix.refl _ _⟩
theorem Bt.trans {r : Nat} {a b c : World} (h : Bt r a b) (k : Bt r b c) : Bt r a c := ⟨h.below.trans k.below, h.fix.trans k.fix⟩
theorem Bt.of_below {r : Nat} {w w' : World} (h : Below w.heap.size w w') (hr : r ≤ w.heap.size) : Bt r w w' := ⟨Below.mono h hr, Fix.of_below h⟩
theorem Bt.set {r : Nat} (w : World) (o : Nat) (v : Value) : Bt r w (w.setCell ⟨r, o, none⟩ v) := ⟨(Below.refl r w).setCell (p := ⟨r, o, none⟩) (Nat.le_refl r) v, Fix.setCell w ⟨r, o, none⟩ v (fun h => h rfl)⟩
theorem Toks.keep {w w' : World} {r : Nat} {la : Option Addr} {T : List (List UInt8)} (h : Toks w r la T) (hb : Bt r w w') : Toks w' r la T := fun i x hx => by
  obtain ⟨g, kk, pp, h1, h2, h3, h4, h5, h6⟩ := h i x hx
  exact ⟨g, kk, pp, h1, h2, Nat.lt_of_lt_of_le h3 hb.fix.size, (hb.fix.cell h3 h2).trans h4, (hb.fix.cell h3 h2).trans h5, (hb.fix.cell h3 h2).trans h6⟩
/-- The reader's own cells. -/
def RdC (w : World) (r : Nat) (la : Option Addr) (n lc at' : Nat) (ok : Bool) : Prop := w.heap[r]? = some (.cells #[.slice la n lc, .int .i64 (at' : Int), .bool ok] 121 (0, 0))
def NextPost (r : Nat) (la : Option Addr) (lc : Nat) (T : List (List UInt8)) (at' : Nat) (ok : Bool) (w : World) (e : Ending) (w' : World) : Prop :=
  Bt r w w' ∧ ∃ (kk : Int) (x : List UInt8) (pp : Int), e = .returned (.agg #[.int .i64 kk, .string (bs x), .int .i64 pp]) ∧
    ((T[at']? = some x ∧ RdC w' r la T.length lc (at' + 1) ok) ∨ (T.length ≤ at' ∧ x = [] ∧ RdC w' r la T.length lc at' false))
set_option maxRecDepth 100000 in
set_option maxHeartbeats 2000000 in
theorem next_any (r : Nat) (la : Option Addr) (lc : Nat) (T : List (List UInt8)) (at' : Nat) (ok : Bool) (w : World) (hr : RdC w r la T.length lc at' ok) (ht : Toks w r la T) (hT : T.length ≤ 1048576) (ha : at' ≤ 1048576) :
    Calls Tryz.prog 95 #[.pointer (some ⟨r, 0, none⟩)] w (NextPost r la lc T at' ok w) := by
  have hrl : r < w.heap.size := (Array.getElem?_eq_some_iff.1 hr).1
  have HR := Lib.hid hr
  have HT := Lib.hid ht
  obtain ⟨W0, hW0⟩ : ∃ W0, W0 = w.alloc (.cells #[.int .i64 0, .string ⟨#[]⟩, .int .i64 0] 133) := ⟨_, rfl⟩
  have hb0 : Below w.heap.size w W0 := by rw [hW0]; exact (Below.refl _ _).alloc (Nat.le_refl _) _
  have g0 : W0.heap[w.heap.size]? = some (.cells #[.int .i64 0, .string ⟨#[]⟩, .int .i64 0] 133 (0, 0)) := by rw [hW0]; exact heap_alloc_new w _
  have hr0 : W0.heap[r]? = some (.cells #[.slice la T.length lc, .int .i64 (at' : Int), .bool ok] 121 (0, 0)) := (hb0.block _ hrl).trans hr
  have c0 := cell_at (o := 0) hr0 rfl
  have c1 := cell_at (o := 1) hr0 rfl
  have c2 := cell_at (o := 2) hr0 rfl
  have f0 := fun o => free_at (o := o) hr0
  have HR0 := Lib.hid hr0
  have HG0 := Lib.hid g0
  have HB0 := Lib.hid hb0
  have hne : ¬ w.heap.size = r := by omega
  clear hr ht g0 hr0 hb0
  by_cases hlt : at' < T.length
  · have hlt' : ¬ ((T.length : Int) ≤ (at' : Int)) := by omega
    have f1 := f0 1
    clear f0
    obtain ⟨x, hx⟩ : ∃ x, T[at']? = some x := ⟨_, List.getElem?_eq_getElem hlt⟩
    obtain ⟨g, kk, pp, rfl, hgr, hgl, p0, p1, p2⟩ := HT.out at' x hx
    have hi1 : (at' : Int) < (T.length : Int) := by omega
    have hwr : IntKind.i64.wrap (at' : Int) = (at' : Int) := IntWalk.i64_in _ (by omega)
    have HX := Lib.hid hx
    go_enter Tryz.func95, Tryz.ntmps95
    go_upto_region 1 with fail
    rw [← hW0]
    clear hW0
    go_quiet (fail)
    go_wp2_with fail
    obtain ⟨W1, hW1⟩ : ∃ W1, W1 = (W0.drewN nq).setCell ⟨r, 1, none⟩ (.int .i64 ((at' : Int) + 1)) := ⟨_, rfl⟩
    have hbt : Bt r W0 W1 := by rw [hW1]; exact (⟨below_drewN (Below.refl _ _) nq, Fix.drewN _ _ _⟩ : Bt r W0 (W0.drewN nq)).trans (Bt.set _ _ _)
    have hr1 : W1.heap[r]? = some (.cells #[.slice (some ⟨g, 0, none⟩) T.length lc, .int .i64 ((at' : Int) + 1), .bool ok] 121 (0, 0)) := by rw [hW1]; exact heap_set_at (o := 1) _ HR0.out
    have hgw : W1.heap[w.heap.size]? = some (.cells #[.int .i64 0, .string ⟨#[]⟩, .int .i64 0] 133 (0, 0)) := (hbt.fix.same _ (Array.getElem?_eq_some_iff.1 HG0.out).1 hne).trans HG0.out
    have HBT := Lib.hid (Bt.trans (Bt.of_below HB0.out (by omega)) hbt)
    have HGW := Lib.hid hgw
    have HR1 := Lib.hid hr1
    have hT0 : W1.drew.cell? ⟨r, 0, none⟩ = some (.slice (some ⟨g, 0, none⟩) T.length lc) ∧ W1.drew.cell? ⟨r, 1, none⟩ = some (.int .i64 ((at' : Int) + 1)) ∧ W1.drew.cell? ⟨g, at' * 3, none⟩ = some (.int .i64 kk) ∧ W1.drew.cell? ⟨g, at' * 3 + 1, none⟩ = some (.string (bs x)) ∧ W1.drew.cell? ⟨g, at' * 3 + 2, none⟩ = some (.int .i64 pp) := by
      have e : ∀ o, W1.drew.cell? ⟨g, o, none⟩ = w.cell? ⟨g, o, none⟩ := fun o => HBT.out.fix.cell hgl hgr
      rw [e, e, e]
      exact ⟨cell_at (w := W1.drew) hr1 rfl, cell_at (w := W1.drew) hr1 rfl, p0, p1, p2⟩
    have HT0 := Lib.hid hT0
    rw [← hW1]
    clear hW1 hbt hr1 hgw hT0 p0 p1 p2 c0 c1 c2 f1 hx
    refine wp_region_z (fun W => W.cell? ⟨r, 0, none⟩ = some (.slice (some ⟨g, 0, none⟩) T.length lc) ∧ W.cell? ⟨r, 1, none⟩ = some (.int .i64 ((at' : Int) + 1)) ∧ W.cell? ⟨g, at' * 3, none⟩ = some (.int .i64 kk) ∧ W.cell? ⟨g, at' * 3 + 1, none⟩ = some (.string (bs x)) ∧ W.cell? ⟨g, at' * 3 + 2, none⟩ = some (.int .i64 pp)) 11 (by kernel_rfl) ?_
    change wpZ _ _ _ _ _ _ 12 #[false, false, false, false, false, false, false, false, false, false, false, false] _ W1.drew
    (refine wpZ_take (i := 0) (v := ?_) rfl (by kernel_rfl) (by kernel_rfl) (by kernel_rfl) (by kernel_rfl) (fun _ _ _ h => h) HT0.out (Or.inl ⟨by rfl, ?_⟩) ?_; rotate_left 1; (focus (intro w0 hw0; (try dsimp only at hw0); obtain ⟨s0, s1, s2, s3, s4⟩ := hw0; first | with_reducible rfl | (go_simp; try with_reducible rfl))); (try simp only [Act.put, List.getElem_toArray, List.getElem_cons_zero, List.getElem_cons_succ, List.setIfInBounds_toArray, List.set_cons_zero, List.set_cons_succ]))
    (refine wpZ_take (i := 1) (v := ?_) rfl (by kernel_rfl) (by kernel_rfl) (by kernel_rfl) (by kernel_rfl) (fun _ _ _ h => h) HT0.out (Or.inl ⟨by rfl, ?_⟩) ?_; rotate_left 1; (focus (intro w0 hw0; (try dsimp only at hw0); obtain ⟨s0, s1, s2, s3, s4⟩ := hw0; first | with_reducible rfl | (go_simp; try with_reducible rfl))); (try simp only [Act.put, List.getElem_toArray, List.getElem_cons_zero, List.getElem_cons_succ, List.setIfInBounds_toArray, List.set_cons_zero, List.set_cons_succ]))
    (refine wpZ_take (i := 2) (v := ?_) rfl (by kernel_rfl) (by kernel_rfl) (by kernel_rfl) (by kernel_rfl) (fun _ _ _ h => h) HT0.out (Or.inl ⟨by rfl, ?_⟩) ?_; rotate_left 1; (focus (intro w0 hw0; (try dsimp only at hw0); obtain ⟨s0, s1, s2, s3, s4⟩ := hw0; first | with_reducible rfl | (go_simp; try with_reducible rfl))); (try simp only [Act.put, List.getElem_toArray, List.getElem_cons_zero, List.getElem_cons_succ, List.setIfInBounds_toArray, List.set_cons_zero, List.set_cons_succ]))
    (refine wpZ_take (i := 3) (v := ?_) rfl (by kernel_rfl) (by kernel_rfl) (by kernel_rfl) (by kernel_rfl) (fun _ _ _ h => h) HT0.out (Or.inl ⟨by rfl, ?_⟩) ?_; rotate_left 1; (focus (intro w0 hw0; (try dsimp only at hw0); obtain ⟨s0, s1, s2, s3, s4⟩ := hw0; first | with_reducible rfl | (go_simp; try with_reducible rfl))); (try simp only [Act.put, List.getElem_toArray, List.getElem_cons_zero, List.getElem_cons_succ, List.setIfInBounds_toArray, List.set_cons_zero, List.set_cons_succ]))
    (refine wpZ_take (i := 4) (v := ?_) rfl (by kernel_rfl) (by kernel_rfl) (by kernel_rfl) (by kernel_rfl) (fun _ _ _ h => h) HT0.out (Or.inl ⟨by rfl, ?_⟩) ?_; rotate_left 1; (focus (intro w0 hw0; (try dsimp only at hw0); obtain ⟨s0, s1, s2, s3, s4⟩ := hw0; first | with_reducible rfl | (go_simp; try with_reducible rfl))); (try simp only [Act.put, List.getElem_toArray, List.getElem_cons_zero, List.getElem_cons_succ, List.setIfInBounds_toArray, List.set_cons_zero, List.set_cons_succ]))
    (refine wpZ_take (i := 5) (v := ?_) rfl (by kernel_rfl) (by kernel_rfl) (by kernel_rfl) (by kernel_rfl) (fun _ _ _ h => h) HT0.out (Or.inl ⟨by rfl, ?_⟩) ?_; rotate_left 1; (focus (intro w0 hw0; (try dsimp only at hw0); obtain ⟨s0, s1, s2, s3, s4⟩ := hw0; first | with_reducible rfl | (go_simp; try with_reducible rfl))); (try simp only [Act.put, List.getElem_toArray, List.getElem_cons_zero, List.getElem_cons_succ, List.setIfInBounds_toArray, List.set_cons_zero, List.set_cons_succ]))
    (refine wpZ_take (i := 6) (v := ?_) rfl (by kernel_rfl) (by kernel_rfl) (by kernel_rfl) (by kernel_rfl) (fun _ _ _ h => h) HT0.out (Or.inl ⟨by rfl, ?_⟩) ?_; rotate_left 1; (focus (intro w0 hw0; (try dsimp only at hw0); obtain ⟨s0, s1, s2, s3, s4⟩ := hw0; first | with_reducible rfl | (go_simp; try with_reducible rfl))); (try simp only [Act.put, List.getElem_toArray, List.getElem_cons_zero, List.getElem_cons_succ, List.setIfInBounds_toArray, List.set_cons_zero, List.set_cons_succ]))
    (refine wpZ_take (i := 7) (v := ?_) rfl (by kernel_rfl) (by kernel_rfl) (by kernel_rfl) (by kernel_rfl) (fun _ _ _ h => h) HT0.out (Or.inl ⟨by rfl, ?_⟩) ?_; rotate_left 1; (focus (intro w0 hw0; (try dsimp only at hw0); obtain ⟨s0, s1, s2, s3, s4⟩ := hw0; first | with_reducible rfl | (go_simp; try with_reducible rfl))); (try simp only [Act.put, List.getElem_toArray, List.getElem_cons_zero, List.getElem_cons_succ, List.setIfInBounds_toArray, List.set_cons_zero, List.set_cons_succ]))
    (refine wpZ_take (i := 8) (v := ?_) rfl (by kernel_rfl) (by kernel_rfl) (by kernel_rfl) (by kernel_rfl) (fun _ _ _ h => h) HT0.out (Or.inl ⟨by rfl, ?_⟩) ?_; rotate_left 1; (focus (intro w0 hw0; (try dsimp only at hw0); obtain ⟨s0, s1, s2, s3, s4⟩ := hw0; first | with_reducible rfl | (go_simp; try with_reducible rfl))); (try simp only [Act.put, List.getElem_toArray, List.getElem_cons_zero, List.getElem_cons_succ, List.setIfInBounds_toArray, List.set_cons_zero, List.set_cons_succ]))
    (refine wpZ_take (i := 9) (v := ?_) rfl (by kernel_rfl) (by kernel_rfl) (by kernel_rfl) (by kernel_rfl) (fun _ _ _ h => h) HT0.out (Or.inl ⟨by rfl, ?_⟩) ?_; rotate_left 1; (focus (intro w0 hw0; (try dsimp only at hw0); obtain ⟨s0, s1, s2, s3, s4⟩ := hw0; first | with_reducible rfl | (go_simp; try with_reducible rfl))); (try simp only [Act.put, List.getElem_toArray, List.getElem_cons_zero, List.getElem_cons_succ, List.setIfInBounds_toArray, List.set_cons_zero, List.set_cons_succ]))
    (refine wpZ_take (i := 10) (v := ?_) rfl (by kernel_rfl) (by kernel_rfl) (by kernel_rfl) (by kernel_rfl) (fun _ _ _ h => h) HT0.out (Or.inl ⟨by rfl, ?_⟩) ?_; rotate_left 1; (focus (intro w0 hw0; (try dsimp only at hw0); obtain ⟨s0, s1, s2, s3, s4⟩ := hw0; first | with_reducible rfl | (go_simp; try with_reducible rfl))); (try simp only [Act.put, List.getElem_toArray, List.getElem_cons_zero, List.getElem_cons_succ, List.setIfInBounds_toArray, List.set_cons_zero, List.set_cons_succ]))
    refine wpZ_ready (rs := [11]) (by kernel_rfl) (by simp) ?_
    refine ReadyZ.cons rfl (fun K hK => ?_) ReadyZ.nil
    have t0 : W1.cell? ⟨w.heap.size, 0, none⟩ = some (.int .i64 0) := cell_at HGW.out rfl
    have t1 : W1.cell? ⟨w.heap.size, 1, none⟩ = some (.string ⟨#[]⟩) := cell_at HGW.out rfl
    have t2 : W1.cell? ⟨w.heap.size, 2, none⟩ = some (.int .i64 0) := cell_at HGW.out rfl
    have f0 : W1.frozen? ⟨w.heap.size, 0, none⟩ = false := free_at HGW.out
    have f1 : W1.frozen? ⟨w.heap.size, 1, none⟩ = false := free_at HGW.out
    have f2 : W1.frozen? ⟨w.heap.size, 2, none⟩ = false := free_at HGW.out
    go_simp
    refine hK.out _ _ (.inl rfl) ?_
    clear hK K
    try simp only [Act.put, List.getElem_toArray, List.getElem_cons_zero, List.getElem_cons_succ, List.setIfInBounds_toArray, List.set_cons_zero, List.set_cons_succ]
    refine wpZ_done (by kernel_rfl) ?_ _
    go_wp2_with fail
    refine bodyPost_ret (v := .agg #[.int .i64 kk, .string (bs x), .int .i64 pp]) (by simp [results, Tryz.results95, go_sem, *]) rfl ?_
    have hzw : r < w.heap.size := hrl
    have key : ∀ (o : Nat) (v : Value) (W : World), Bt r w W → Bt r w (W.setCell ⟨w.heap.size, o, none⟩ v) := fun o v W h =>
      ⟨h.below.setCell (p := ⟨w.heap.size, o, none⟩) (by show r ≤ w.heap.size; omega) v, ⟨by have := h.fix.size; simpa [World.setCell] using this, fun b hb hf => (Below.heap_setCell _ _ _ _ (by show b ≠ w.heap.size; omega)).trans (h.fix.same b hb hf)⟩⟩
    refine ⟨key _ _ _ (key _ _ _ (key _ _ _ ⟨HBT.out.below.drew, ⟨HBT.out.fix.size, HBT.out.fix.same⟩⟩)), kk, x, pp, rfl, .inl ⟨HX.out, ?_⟩⟩
    have hn2 : r ≠ w.heap.size := by omega
    unfold RdC
    show (World.setCell _ _ _).heap[r]? = _
    rw [Below.heap_setCell _ _ _ _ hn2, Below.heap_setCell _ _ _ _ hn2, Below.heap_setCell _ _ _ _ hn2]
    exact HR1.out
  · have hle : (T.length : Int) ≤ (at' : Int) := by omega
    have f2 := f0 2
    clear f0
    have t0 : W0.cell? ⟨w.heap.size, 0, none⟩ = some (.int .i64 0) := cell_at HG0.out rfl
    have t1 : W0.cell? ⟨w.heap.size, 1, none⟩ = some (.string ⟨#[]⟩) := cell_at HG0.out rfl
    have t2 : W0.cell? ⟨w.heap.size, 2, none⟩ = some (.int .i64 0) := cell_at HG0.out rfl
    have e0 : W0.frozen? ⟨w.heap.size, 0, none⟩ = false := free_at HG0.out
    have e1 : W0.frozen? ⟨w.heap.size, 1, none⟩ = false := free_at HG0.out
    have e2 : W0.frozen? ⟨w.heap.size, 2, none⟩ = false := free_at HG0.out
    go_enter Tryz.func95, Tryz.ntmps95
    go_upto_region 1 with fail
    rw [← hW0]
    clear hW0
    go_quiet (fail)
    go_wp2_with fail
    refine bodyPost_ret (v := .agg #[.int .i64 0, .string (bs []), .int .i64 0]) (by simp [results, Tryz.results95, go_sem, *]; rfl) rfl ?_
    have hrw : r ≤ w.heap.size := Nat.le_of_lt hrl
    have key : ∀ (o : Nat) (v : Value) (W : World), Bt r w W → Bt r w (W.setCell ⟨w.heap.size, o, none⟩ v) := fun o v W h =>
      ⟨h.below.setCell (p := ⟨w.heap.size, o, none⟩) hrw v, ⟨by have := h.fix.size; simpa [World.setCell] using this, fun b hb hf => (Below.heap_setCell _ _ _ _ (by show b ≠ w.heap.size; omega)).trans (h.fix.same b hb hf)⟩⟩
    have hbt : Bt r w (((W0.drewN nq)).setCell ⟨r, 2, none⟩ (.bool false)) := (Bt.of_below HB0.out hrw).trans ((⟨below_drewN (Below.refl _ _) nq, Fix.drewN _ _ _⟩ : Bt r W0 (W0.drewN nq)).trans (Bt.set _ _ _))
    refine ⟨key _ _ _ (key _ _ _ (key _ _ _ hbt)), 0, [], 0, rfl, .inr ⟨by omega, rfl, ?_⟩⟩
    have hn2 : r ≠ w.heap.size := by omega
    unfold RdC
    rw [Below.heap_setCell _ _ _ _ hn2, Below.heap_setCell _ _ _ _ hn2, Below.heap_setCell _ _ _ _ hn2]
    exact heap_set_at (o := 2) _ (show (W0.drewN nq).heap[r]? = _ from HR0.out)
def SignPost (r : Nat) (la : Option Addr) (lc : Nat) (T : List (List UInt8)) (at' : Nat) (ok : Bool) (z : UInt8) (w : World) (e : Ending) (w' : World) : Prop :=
  Bt r w w' ∧ ((T[at']? = some [z] ∧ e = .returned (.bool true) ∧ RdC w' r la T.length lc (at' + 1) ok) ∨ (T[at']? ≠ some [z] ∧ e = .returned (.bool false) ∧ RdC w' r la T.length lc at' ok))
theorem bs_one (z : UInt8) : (bs [z]).toList = [z] := bs_toList _
set_option maxRecDepth 100000 in
set_option maxHeartbeats 2000000 in
theorem sign_any (r : Nat) (la : Option Addr) (lc : Nat) (T : List (List UInt8)) (at' : Nat) (ok : Bool) (z : UInt8) (w : World) (hr : RdC w r la T.length lc at' ok) (ht : Toks w r la T) (hT : T.length ≤ 1048576) (ha : at' ≤ 1048576) :
    Calls Tryz.prog 96 #[.pointer (some ⟨r, 0, none⟩), .string (bs [z])] w (SignPost r la lc T at' ok z w) := by
  have hrl : r < w.heap.size := (Array.getElem?_eq_some_iff.1 hr).1
  have HR := Lib.hid hr
  have HT := Lib.hid ht
  have c0 : w.cell? ⟨r, 0, none⟩ = some (.slice la T.length lc) := cell_at (o := 0) hr rfl
  have c1 : w.cell? ⟨r, 1, none⟩ = some (.int .i64 (at' : Int)) := cell_at (o := 1) hr rfl
  have f1 : w.frozen? ⟨r, 1, none⟩ = false := free_at (o := 1) hr
  have hbd : ∀ n, Bt r w (w.drewN n) := fun n => ⟨below_drewN (Below.refl _ _) n, Fix.drewN _ _ _⟩
  have HBD := Lib.hid hbd
  clear hr ht hbd
  by_cases hlt : at' < T.length
  · obtain ⟨x, hx⟩ : ∃ x, T[at']? = some x := ⟨_, List.getElem?_eq_getElem hlt⟩
    obtain ⟨g, kk, pp, rfl, hgr, hgl, p0, p1, p2⟩ := HT.out at' x hx
    have hi1 : decide ((at' : Int) < (T.length : Int)) = true := decide_eq_true (by omega)
    have HX := Lib.hid hx
    clear p0 p2 hx
    by_cases he : x = [z]
    · subst he
      have hb1 : ((bs [z]).toList == (bs [z]).toList) = true := by simp
      generalize bs [z] = sz at *
      go_enter Tryz.func96, Tryz.ntmps96
      go_wp2_with fail
      go_quiet (fail)
      go_wp2_with fail
      go_ret
      exact ⟨(HBD.out _).trans (Bt.set _ _ _), .inl ⟨HX.out, rfl, heap_set_at (o := 1) _ (show (w.drewN _).heap[r]? = _ from HR.out)⟩⟩
    · have HNE := Lib.hid he
      have hb1 : ((bs x).toList == (bs [z]).toList) = false := by rw [bs_toList, bs_toList]; simpa using he
      generalize bs [z] = sz at *
      generalize bs x = sx at *
      clear he
      go_enter Tryz.func96, Tryz.ntmps96
      go_wp2_with fail
      go_quiet (fail)
      go_wp2_with fail
      go_ret
      exact ⟨HBD.out _, .inr ⟨fun e => HNE.out (by rw [HX.out] at e; exact Option.some.inj e), rfl, HR.out⟩⟩
  · have hi1 : decide ((at' : Int) < (T.length : Int)) = false := decide_eq_false (by omega)
    generalize bs [z] = sz at *
    go_enter Tryz.func96, Tryz.ntmps96
    go_wp2_with fail
    go_quiet (fail)
    go_wp2_with fail
    go_ret
    exact ⟨HBD.out _, .inr ⟨by rw [List.getElem?_eq_none (by omega)]; simp, rfl, HR.out⟩⟩
end Go.Proofs.YtephllgddhncgaaGreatDoor.Lex
/- Trees as tokens and as bytes: which tree a text shows. No function of the program. -/
namespace Go.Proofs.YtephllgddhncgaaGreatDoor.Lex
open Go.RowKit
set_option linter.unusedSimpArgs false
set_option linter.unusedVariables false
/-! ### Tokens of bytes -/
def kdL (x : List UInt8) : Nat := match x.getLast? with | none => 0 | some b => kd b.toNat
def addB (T : List (List UInt8)) (b : UInt8) : List (List UInt8) :=
  if kd b.toNat = 3 ∨ kd b.toNat ≠ kdL (T.getLastD []) then T ++ [[b]] else T.dropLast ++ [T.getLastD [] ++ [b]]
def tokL (l : List UInt8) : List (List UInt8) := l.foldl addB []
theorem addB_flat (T : List (List UInt8)) (b : UInt8) : (addB T b).flatten = T.flatten ++ [b] := by
  unfold addB
  split
  · simp
  · rcases List.eq_nil_or_concat T with rfl | ⟨l, x, rfl⟩
    · simp
    · simp
theorem fold_flat : ∀ (l : List UInt8) (T : List (List UInt8)), (l.foldl addB T).flatten = T.flatten ++ l
  | [], T => by simp
  | b :: l, T => by rw [List.foldl_cons, fold_flat l, addB_flat, List.append_assoc]; rfl
theorem tokL_flat (l : List UInt8) : (tokL l).flatten = l := by rw [tokL, fold_flat]; rfl
theorem addB_sign {T : List (List UInt8)} {b : UInt8} (h : kd b.toNat = 3) : addB T b = T ++ [[b]] := by rw [addB, if_pos (.inl h)]
theorem kdL_snoc (x : List UInt8) (b : UInt8) : kdL (x ++ [b]) = kd b.toNat := by simp [kdL]
theorem run_more {k : Nat} (h3 : k ≠ 3) : ∀ (x y : List UInt8) (T : List (List UInt8)), (∀ b ∈ x, kd b.toNat = k) → kdL y = k → x.foldl addB (T ++ [y]) = T ++ [y ++ x]
  | [], y, T, _, _ => by simp
  | b :: x, y, T, h, hy => by
    have hb := h b (by simp)
    rw [List.foldl_cons, addB, if_neg (by rw [hb, List.getLastD_concat, hy]; simp [h3]), List.dropLast_concat, List.getLastD_concat, run_more h3 x (y ++ [b]) T (fun c hc => h c (by simp [hc])) (by rw [kdL_snoc, hb])]
    simp
theorem run_new {k : Nat} (h3 : k ≠ 3) {x : List UInt8} {T : List (List UInt8)} (hx : x ≠ []) (h : ∀ b ∈ x, kd b.toNat = k) (hT : kdL (T.getLastD []) ≠ k) : x.foldl addB T = T ++ [x] := by
  cases x with
  | nil => exact absurd rfl hx
  | cons b x =>
    have hb := h b (by simp)
    rw [List.foldl_cons, addB, if_pos (.inr (by rw [hb]; exact fun e => hT e.symm)), run_more h3 x [b] T (fun c hc => h c (by simp [hc])) (by simp [kdL, hb])]
    rfl
theorem kdL_all {k : Nat} {x : List UInt8} (hx : x ≠ []) (h : ∀ b ∈ x, kd b.toNat = k) : kdL x = k := by
  rcases List.eq_nil_or_concat x with rfl | ⟨l, b, rfl⟩
  · exact absurd rfl hx
  · rw [List.concat_eq_append, kdL_snoc]
    exact h b (by simp)
/-! ### Words and numbers -/
theorem word_kd {k : Int} : ∀ b ∈ wordD k, kd b.toNat = 1 := by
  unfold wordD
  split
  · rename_i h
    rcases (by omega : k = 1 ∨ k = 2 ∨ k = 3 ∨ k = 4 ∨ k = 5 ∨ k = 6 ∨ k = 7) with rfl | rfl | rfl | rfl | rfl | rfl | rfl <;> decide
  · simp
theorem dec_kd (n : Nat) : ∀ b ∈ Lib.decDigits n, kd b.toNat = 2 := by
  have one : ∀ d, d < 10 → kd (UInt8.ofNat (48 + d)).toNat = 2 := fun d hd => by
    have e : (UInt8.ofNat (48 + d)).toNat = 48 + d := by simp [UInt8.toNat_ofNat']; omega
    rw [e]
    unfold kd
    rw [if_neg (by omega), if_pos (by omega)]
  induction n using Nat.strongRecOn with
  | _ n ih =>
    by_cases h : n < 10
    · rw [decDigits_small h]
      intro b hb
      simp only [List.mem_cons, List.not_mem_nil, or_false] at hb
      subst hb
      exact one n h
    · rw [decDigits_big h]
      intro b hb
      rcases List.mem_append.1 hb with hb | hb
      · exact ih (n / 10) (by omega) b hb
      · simp only [List.mem_cons, List.not_mem_nil, or_false] at hb
        subst hb
        exact one _ (by omega)
theorem digitVal_inv {b : UInt8} {d : Nat} (h : Lib.digitVal b = some d) : d < 10 ∧ b = UInt8.ofNat (48 + d) := by
  unfold Lib.digitVal at h
  split at h
  · rename_i hc
    cases h
    refine ⟨by omega, ?_⟩
    apply UInt8.toNat_inj.1
    simp [UInt8.toNat_ofNat']
    omega
  · cases h
theorem numOf_inv_aux : ∀ (m : Nat) (y : List UInt8) (n : Nat), y.length = m → y ≠ [] → (y[0]? = some 48 → y.length ≤ 1) → Lib.decFrom 0 y = some n → y = Lib.decDigits n := by
  intro m
  induction m with
  | zero => intro y n h h0; exact absurd (List.eq_nil_of_length_eq_zero h) h0
  | succ m ih =>
    intro y n hl h0 hz hd
    rcases List.eq_nil_or_concat y with rfl | ⟨z, b, rfl⟩
    · exact absurd rfl h0
    rw [List.concat_eq_append] at hl h0 hz hd ⊢
    rw [decFrom_append] at hd
    obtain ⟨q, hq, hd2⟩ := Option.bind_eq_some_iff.1 hd
    clear hd
    simp only [Lib.decFrom] at hd2
    cases hb : Lib.digitVal b with
    | none => rw [hb] at hd2; cases hd2
    | some d =>
      rw [hb] at hd2
      obtain ⟨hd10, rfl⟩ := digitVal_inv hb
      have hn : n = 10 * q + d := by have hd' := Option.some.inj hd2; omega
      by_cases hz0 : z = []
      · subst hz0
        obtain rfl : q = 0 := by simp [Lib.decFrom] at hq; omega
        rw [hn, Nat.mul_zero, Nat.zero_add, decDigits_small hd10]
        rfl
      · have hzl : 0 < z.length := List.length_pos_iff.2 hz0
        have hz1 : z[0]? ≠ some 48 := fun e => by
          have := hz (by rw [List.getElem?_append_left hzl]; exact e)
          rw [List.length_append, List.length_singleton] at this
          omega
        have e := ih z q (by simpa using hl) hz0 (fun e => absurd e hz1) hq
        have hq0 : 0 < q := by
          rcases Nat.eq_zero_or_pos q with rfl | h
          · rw [decDigits_small (by omega)] at e
            rw [e] at hz1
            exact absurd rfl hz1
          · exact h
        rw [hn, decDigits_big (by omega), show (10 * q + d) / 10 = q by omega, show (10 * q + d) % 10 = d by omega, ← e]
theorem numOf_inv {y : List UInt8} {n : Nat} (h : numOf y = some n) : y = Lib.decDigits n := by
  unfold numOf at h
  split at h
  · cases h
  · rename_i hc
    exact numOf_inv_aux _ y n rfl (fun e => hc (.inl (by rw [e]; rfl))) (fun e => Nat.le_of_not_lt fun h1 => hc (.inr (.inr ⟨e, h1⟩))) h
/-! ### A tree's tokens -/
mutual
def tokD : DescV → List (List UInt8)
  | .mk k n l => wordD k :: Lib.decDigits n.toNat :: tokR l
def tokR : List DescV → List (List UInt8)
  | [] => []
  | d :: l => [40] :: (tokD d ++ tokK l)
def tokK : List DescV → List (List UInt8)
  | [] => [[41]]
  | d :: l => [44] :: (tokD d ++ tokK l)
end
def tokJ : List DescV → List (List UInt8)
  | [] => []
  | d :: l => tokD d ++ tokK l
theorem okH_iff {k n : Int} : okH (k, n) = true ↔ 1 ≤ k ∧ k ≤ 7 ∧ 0 ≤ n ∧ n ≤ 999999999 := by unfold okH; simp
mutual
theorem fold_tok : ∀ (d : DescV) (T : List (List UInt8)), d.heads.all okH = true → kdL (T.getLastD []) ≠ 1 → (tokD d).flatten.foldl addB T = T ++ tokD d
  | .mk k n l, T, h, hT => by
    rw [DescV.heads, List.all_cons, Bool.and_eq_true] at h
    have hk := okH_iff.1 h.1
    rw [tokD, List.flatten_cons, List.flatten_cons, List.foldl_append, List.foldl_append,
      run_new (k := 1) (by omega) (wordD_ne ⟨hk.1, hk.2.1⟩) word_kd hT,
      run_new (k := 2) (by omega) (decDigits_ne _) (dec_kd _) (by rw [List.getLastD_concat, kdL_all (wordD_ne ⟨hk.1, hk.2.1⟩) word_kd]; omega),
      fold_tokR l _ h.2]
    simp
theorem fold_tokR : ∀ (l : List DescV) (T : List (List UInt8)), (DescV.headsL l).all okH = true → (tokR l).flatten.foldl addB T = T ++ tokR l
  | [], T, _ => by simp [tokR]
  | d :: l, T, h => by
    rw [DescV.headsL, List.all_append, Bool.and_eq_true] at h
    rw [tokR, List.flatten_cons, List.flatten_append, List.foldl_append, List.foldl_append, show [(40 : UInt8)].foldl addB T = T ++ [[40]] from addB_sign (b := 40) (by decide), fold_tok d _ h.1 (by rw [List.getLastD_concat]; decide), fold_tokK l _ h.2]
    simp
theorem fold_tokK : ∀ (l : List DescV) (T : List (List UInt8)), (DescV.headsL l).all okH = true → (tokK l).flatten.foldl addB T = T ++ tokK l
  | [], T, _ => by rw [tokK]; exact addB_sign (b := 41) (by decide)
  | d :: l, T, h => by
    rw [DescV.headsL, List.all_append, Bool.and_eq_true] at h
    rw [tokK, List.flatten_cons, List.flatten_append, List.foldl_append, List.foldl_append, show [(44 : UInt8)].foldl addB T = T ++ [[44]] from addB_sign (b := 44) (by decide), fold_tok d _ h.1 (by rw [List.getLastD_concat]; decide), fold_tokK l _ h.2]
    simp
end
mutual
theorem kinds_tok : ∀ (d : DescV), ∀ b ∈ (tokD d).flatten, kd b.toNat ≠ 0
  | .mk k n l, b, hb => by
    rw [tokD, List.flatten_cons, List.flatten_cons, List.mem_append, List.mem_append] at hb
    rcases hb with hb | hb | hb
    · rw [word_kd b hb]; omega
    · rw [dec_kd _ b hb]; omega
    · exact kinds_tokR l b hb
theorem kinds_tokR : ∀ (l : List DescV), ∀ b ∈ (tokR l).flatten, kd b.toNat ≠ 0
  | [], b, hb => by simp [tokR] at hb
  | d :: l, b, hb => by
    rw [tokR, List.flatten_cons, List.flatten_append, List.mem_append, List.mem_append] at hb
    rcases hb with hb | hb | hb
    · simp only [List.mem_cons, List.not_mem_nil, or_false] at hb
      subst hb; decide
    · exact kinds_tok d b hb
    · exact kinds_tokK l b hb
theorem kinds_tokK : ∀ (l : List DescV), ∀ b ∈ (tokK l).flatten, kd b.toNat ≠ 0
  | [], b, hb => by
    rw [tokK] at hb
    simp at hb
    subst hb; decide
  | d :: l, b, hb => by
    rw [tokK, List.flatten_cons, List.flatten_append, List.mem_append, List.mem_append] at hb
    rcases hb with hb | hb | hb
    · simp only [List.mem_cons, List.not_mem_nil, or_false] at hb
      subst hb; decide
    · exact kinds_tok d b hb
    · exact kinds_tokK l b hb
end
theorem tokK_join (l : List DescV) (ts : List (List UInt8)) (h : ts = l.map fun d => (tokD d).flatten) : Lib.joinTail [44] ts ++ [41] = (tokK l).flatten := by
  induction l generalizing ts with
  | nil => subst h; rfl
  | cons d l ih =>
    subst h
    rw [tokK, List.flatten_cons, List.flatten_append, ← ih _ rfl]
    simp [Lib.joinTail]
mutual
theorem textD_tok : ∀ (d : DescV), d.heads.all okH = true → textD d = some (tokD d).flatten
  | .mk k n l, h => by
    rw [DescV.heads, List.all_cons, Bool.and_eq_true] at h
    rw [textD, if_pos h.1, textsD_tok l h.2, Option.map_some, tokD, List.flatten_cons, List.flatten_cons]
    cases l with
    | nil => simp [tokR]
    | cons d l =>
      rw [if_neg (by simp), tokR, List.flatten_cons, List.flatten_append, ← tokK_join l _ rfl, List.map_cons, Lib.join_cons]
      simp
theorem textsD_tok : ∀ (l : List DescV), (DescV.headsL l).all okH = true → textsD l = some (l.map fun d => (tokD d).flatten)
  | [], _ => rfl
  | d :: l, h => by
    rw [DescV.headsL, List.all_append, Bool.and_eq_true] at h
    rw [textsD, textD_tok d h.1, textsD_tok l h.2]
    rfl
end
mutual
theorem textD_heads : ∀ (d : DescV) (t : List UInt8), textD d = some t → d.heads.all okH = true
  | .mk k n l, t, h => by
    rw [textD] at h
    split at h
    · next hok =>
      obtain ⟨ts, hts, _⟩ := Option.map_eq_some_iff.1 h
      rw [DescV.heads, List.all_cons, hok, textsD_heads l ts hts]
      rfl
    · cases h
theorem textsD_heads : ∀ (l : List DescV) (ts : List (List UInt8)), textsD l = some ts → (DescV.headsL l).all okH = true
  | [], _, _ => rfl
  | d :: l, ts, h => by
    rw [textsD] at h
    cases ht : textD d with
    | none => rw [ht] at h; cases h
    | some t =>
      rw [ht] at h
      obtain ⟨r, hr, _⟩ := Option.map_eq_some_iff.1 h
      rw [DescV.headsL, List.all_append, textD_heads d t ht, textsD_heads l r hr]
      rfl
end
theorem textD_iff {d : DescV} {t : List UInt8} : textD d = some t ↔ d.heads.all okH = true ∧ (tokD d).flatten = t :=
  ⟨fun h => ⟨textD_heads d t h, by have := textD_tok d (textD_heads d t h); rw [h] at this; exact (Option.some.inj this).symm⟩, fun h => by rw [textD_tok d h.1, h.2]⟩
/-! ### Tokens read -/
mutual
def nodeT : Nat → List (List UInt8) → Option (DescV × List (List UInt8))
  | f + 1, x :: y :: T => if kindD x = 0 then none else match numOf y with
    | none => none
    | some n => match T with
      | [40] :: T' => (kidsT f T').map fun r => (.mk (kindD x) n r.1, r.2)
      | _ => some (.mk (kindD x) n [], T)
  | _, _ => none
def kidsT : Nat → List (List UInt8) → Option (List DescV × List (List UInt8))
  | f + 1, T => match nodeT f T with
    | none => none
    | some (d, T') => match T' with
      | [44] :: T2 => (kidsT f T2).map fun r => (d :: r.1, r.2)
      | [41] :: T2 => some ([d], T2)
      | _ => none
  | 0, _ => none
end
theorem sound (f : Nat) : (∀ T d R, nodeT f T = some (d, R) → T = tokD d ++ R ∧ d.heads.all okH = true) ∧ (∀ T l R, kidsT f T = some (l, R) → l ≠ [] ∧ T = tokJ l ++ R ∧ (DescV.headsL l).all okH = true) := by
  induction f with
  | zero => exact ⟨fun T d R h => by simp [nodeT] at h, fun T l R h => by simp [kidsT] at h⟩
  | succ f ih =>
    refine ⟨fun T d R h => ?_, fun T l R h => ?_⟩
    · match T, h with
      | x :: y :: T, h =>
        rw [nodeT] at h
        split at h
        · cases h
        · rename_i hk
          cases hn : numOf y with
          | none => rw [hn] at h; cases h
          | some n =>
            rw [hn] at h
            have hx : wordD (kindD x) = x := wordD_kind hk
            have hy := numOf_inv hn
            have hlt := numOf_lt hn
            have h7 := kindD_le x
            have hok : okH ((kindD x : Int), (n : Int)) = true := okH_iff.2 ⟨by omega, by omega, by omega, by omega⟩
            split at h
            · cases h
            · rename_i n' e
              cases e
              split at h
              · rename_i T'
                obtain ⟨r, hr, he⟩ := Option.map_eq_some_iff.1 h
                obtain ⟨l, R'⟩ := r
                cases he
                obtain ⟨hne, e, ho⟩ := ih.2 _ _ _ hr
                refine ⟨?_, by rw [DescV.heads, List.all_cons, hok, ho]; rfl⟩
                cases l with
                | nil => exact absurd rfl hne
                | cons d l =>
                  rw [tokD, hx, Int.toNat_natCast, ← hy, tokR, e]
                  simp [tokJ]
              · cases h
                refine ⟨?_, by rw [DescV.heads, List.all_cons, hok]; rfl⟩
                rw [tokD, hx, Int.toNat_natCast, ← hy, tokR]
                rfl
      | [], h => simp [nodeT] at h
      | [x], h => simp [nodeT] at h
    · rw [kidsT] at h
      split at h
      · cases h
      · rename_i d T' hd
        obtain ⟨e, ho⟩ := ih.1 _ _ _ hd
        split at h
        · rename_i T2
          obtain ⟨r, hr, he⟩ := Option.map_eq_some_iff.1 h
          obtain ⟨l', R'⟩ := r
          cases he
          obtain ⟨hne, e2, ho2⟩ := ih.2 _ _ _ hr
          refine ⟨by simp, ?_, by rw [DescV.headsL, List.all_append, ho, ho2]; rfl⟩
          cases l' with
          | nil => exact absurd rfl hne
          | cons d' l' => rw [e, e2]; simp [tokJ, tokK]
        · cases h
          exact ⟨by simp, by rw [e, tokJ, tokK]; simp, by rw [DescV.headsL, List.all_append, ho]; rfl⟩
        · cases h
theorem headsL_nil : (DescV.headsL []).all okH = true := rfl
mutual
theorem complete : ∀ (d : DescV) (f : Nat) (R : List (List UInt8)), d.heads.all okH = true → R.head? ≠ some [40] → (tokD d ++ R).length < f → nodeT f (tokD d ++ R) = some (d, R)
  | .mk k n l, f, R, h, hR, hf => by
    rw [DescV.heads, List.all_cons, Bool.and_eq_true] at h
    have hk := okH_iff.1 h.1
    cases f with
    | zero => omega
    | succ f =>
      have e1 := kindD_word ⟨hk.1, hk.2.1⟩
      have e2 : ((n.toNat : Nat) : Int) = n := by omega
      have e0 : ¬ kindD (wordD k) = 0 := by omega
      rw [tokD, List.cons_append, List.cons_append, nodeT, if_neg e0, numOf_digits (by omega)]
      cases l with
      | nil =>
        rw [tokR, List.nil_append]
        simp only
        rw [e1, e2]
        split
        · rename_i T' e
          exact absurd rfl hR
        · rfl
      | cons d l =>
        rw [tokR, List.cons_append]
        simp only
        have := completeK (d :: l) f R (by simp) h.2 (by
          rw [tokD, tokR] at hf
          simp only [tokJ, List.length_append, List.length_cons] at hf ⊢
          omega)
        rw [tokJ] at this
        rw [this, e1, e2]
        rfl
theorem completeK : ∀ (l : List DescV) (f : Nat) (R : List (List UInt8)), l ≠ [] → (DescV.headsL l).all okH = true → (tokJ l ++ R).length + 1 < f → kidsT f (tokJ l ++ R) = some (l, R)
  | [], _, _, h, _, _ => absurd rfl h
  | d :: l, f, R, _, h, hf => by
    rw [DescV.headsL, List.all_append, Bool.and_eq_true] at h
    cases f with
    | zero => omega
    | succ f =>
      rw [kidsT, tokJ, List.append_assoc, complete d f (tokK l ++ R) h.1 (by cases l <;> simp [tokK]) (by rw [tokJ] at hf; simp only [List.length_append] at hf ⊢; omega)]
      cases l with
      | nil => simp [tokK]
      | cons d' l =>
        simp only [tokK, List.cons_append]
        have := completeK (d' :: l) f R (by simp) h.2 (by
          simp only [tokJ, tokK, List.length_append, List.length_cons] at hf ⊢
          omega)
        rw [tokJ] at this
        rw [this]
        rfl
end
/-! ### Bytes read -/
def isDig (b : UInt8) : Bool := decide (48 ≤ b.toNat ∧ b.toNat ≤ 57)
/-- The kind whose word a text begins with; 0: none. -/
def kwB (l : List UInt8) : Nat := match names23.findIdx? (fun w => w.isPrefixOf l) with | none => 0 | some i => i + 1
mutual
def nodeB : Nat → List UInt8 → Option (DescV × List UInt8)
  | f + 1, l => if kwB l = 0 then none else match numOf ((l.drop (wordD (kwB l)).length).takeWhile isDig) with
    | none => none
    | some n => match (l.drop (wordD (kwB l)).length).dropWhile isDig with
      | 40 :: r => (kidsB f r).map fun q => (.mk (kwB l) n q.1, q.2)
      | r => some (.mk (kwB l) n [], r)
  | 0, _ => none
def kidsB : Nat → List UInt8 → Option (List DescV × List UInt8)
  | f + 1, l => match nodeB f l with
    | none => none
    | some (d, r) => match r with
      | 44 :: r2 => (kidsB f r2).map fun q => (d :: q.1, q.2)
      | 41 :: r2 => some ([d], r2)
      | _ => none
  | 0, _ => none
end
theorem kwB_le (l : List UInt8) : kwB l ≤ 7 := by
  unfold kwB
  cases h : names23.findIdx? (fun w => w.isPrefixOf l) with
  | none => exact Nat.zero_le _
  | some i =>
    obtain ⟨hi, _⟩ := List.findIdx?_eq_some_iff_getElem.1 h
    have : names23.length = 7 := rfl
    show i + 1 ≤ 7
    omega
theorem wordD_succ {i : Nat} (hi : i < names23.length) : wordD ((i + 1 : Nat) : Int) = names23[i]'hi := by
  have h7 : names23.length = 7 := rfl
  rw [wordD, if_pos (by omega), show (((i + 1 : Nat) : Int) - 1).toNat = i by omega, List.getD_eq_getElem?_getD, List.getElem?_eq_getElem hi]
  rfl
theorem kwB_pre {l : List UInt8} (h : kwB l ≠ 0) : wordD (kwB l) ++ l.drop (wordD (kwB l)).length = l := by
  unfold kwB at h ⊢
  cases hf : names23.findIdx? (fun w => w.isPrefixOf l) with
  | none => rw [hf] at h; exact absurd rfl h
  | some i =>
    obtain ⟨hi, he, _⟩ := List.findIdx?_eq_some_iff_getElem.1 hf
    show wordD ((i + 1 : Nat) : Int) ++ l.drop (wordD ((i + 1 : Nat) : Int)).length = l
    rw [wordD_succ hi]
    obtain ⟨t, ht⟩ := List.isPrefixOf_iff_prefix.1 he
    rw [← ht]
    simp
theorem names_two : ∀ (i : Fin 7) (j : Fin 7), i ≠ j → (names23[i.1]'i.2).take 2 ≠ (names23[j.1]'j.2).take 2 := by decide
theorem names_len : ∀ (i : Fin 7), 2 ≤ (names23[i.1]'i.2).length := by decide
theorem pre_take {x l : List UInt8} (h : x.isPrefixOf l = true) (h2 : 2 ≤ x.length) : l.take 2 = x.take 2 := by
  obtain ⟨t, rfl⟩ := List.isPrefixOf_iff_prefix.1 h
  exact List.take_append_of_le_length h2
theorem names_pre {l : List UInt8} {i j : Nat} (hi : i < 7) (hj : j < 7) (h : (names23[i]'hi).isPrefixOf l = true) (k : (names23[j]'hj).isPrefixOf l = true) : i = j := Classical.byContradiction fun hne => by
  have e := (pre_take h (names_len ⟨i, hi⟩)).symm.trans (pre_take k (names_len ⟨j, hj⟩))
  exact names_two ⟨i, hi⟩ ⟨j, hj⟩ (fun e => hne (congrArg Fin.val e)) e
theorem kwB_at {l : List UInt8} {i : Nat} (hi : i < 7) (h : (names23[i]'hi).isPrefixOf l = true) : kwB l = i + 1 := by
  have : names23.findIdx? (fun w => w.isPrefixOf l) = some i := List.findIdx?_eq_some_iff_getElem.2 ⟨hi, h, fun j hj => by
    intro k
    have := names_pre (l := l) (i := j) (j := i) (by omega) hi k h
    omega⟩
  rw [kwB, this]
theorem kwB_no {l : List UInt8} (h : ∀ i (hi : i < 7), (names23[i]'hi).isPrefixOf l = false) : kwB l = 0 := by
  have : names23.findIdx? (fun w => w.isPrefixOf l) = none := by
    rw [List.findIdx?_eq_none_iff]
    intro y hy
    obtain ⟨i, hi, rfl⟩ := List.mem_iff_getElem.1 hy
    exact h i hi
  rw [kwB, this]
theorem kwB_word {k : Int} (h : 1 ≤ k ∧ k ≤ 7) (r : List UInt8) : (kwB (wordD k ++ r) : Int) = k := by
  have hi : (k - 1).toNat < 7 := by omega
  have e : wordD k = names23[(k - 1).toNat]'hi := by
    have := wordD_succ (i := (k - 1).toNat) hi
    rwa [show (((k - 1).toNat + 1 : Nat) : Int) = k by omega] at this
  rw [kwB_at hi (by rw [e]; exact List.isPrefixOf_iff_prefix.2 (List.prefix_append _ _))]
  omega
theorem dig_kd {b : UInt8} : isDig b = true ↔ kd b.toNat = 2 := by
  unfold isDig kd
  rw [decide_eq_true_iff]
  split
  · omega
  · split
    · omega
    · split <;> omega
theorem while_run {x r : List UInt8} (hx : ∀ b ∈ x, isDig b = true) (hr : ∀ b, r.head? = some b → isDig b = false) : (x ++ r).takeWhile isDig = x ∧ (x ++ r).dropWhile isDig = r := by
  rw [List.takeWhile_append_of_pos hx, List.dropWhile_append_of_pos hx]
  cases r with
  | nil => simp
  | cons b r => have := hr b rfl; simp [List.takeWhile_cons, List.dropWhile_cons, this]
theorem soundB (f : Nat) : (∀ l d r, nodeB f l = some (d, r) → l = (tokD d).flatten ++ r ∧ d.heads.all okH = true) ∧ (∀ l ds r, kidsB f l = some (ds, r) → ds ≠ [] ∧ l = (tokJ ds).flatten ++ r ∧ (DescV.headsL ds).all okH = true) := by
  induction f with
  | zero => exact ⟨fun l d r h => by simp [nodeB] at h, fun l d r h => by simp [kidsB] at h⟩
  | succ f ih =>
    refine ⟨fun l d r h => ?_, fun l ds r h => ?_⟩
    · rw [nodeB] at h
      split at h
      · cases h
      · rename_i hk
        have hpre := kwB_pre hk
        have h7 := kwB_le l
        split at h
        · cases h
        · rename_i n hn
          have hy := numOf_inv hn
          have hlt := numOf_lt hn
          have hok : okH ((kwB l : Int), (n : Int)) = true := okH_iff.2 ⟨by omega, by omega, by omega, by omega⟩
          have hsp := List.takeWhile_append_dropWhile (p := isDig) (l := l.drop (wordD (kwB l)).length)
          rw [hy] at hsp
          split at h
          · rename_i r' hr'
            rw [hr'] at hsp
            obtain ⟨q, hq, he⟩ := Option.map_eq_some_iff.1 h
            obtain ⟨ds, r2⟩ := q
            cases he
            obtain ⟨hne, e, ho⟩ := ih.2 _ _ _ hq
            refine ⟨?_, by rw [DescV.heads, List.all_cons, hok, ho]; rfl⟩
            cases ds with
            | nil => exact absurd rfl hne
            | cons d ds =>
              rw [tokD, Int.toNat_natCast, tokR]
              rw [tokJ] at e
              simp only [List.flatten_cons, List.flatten_append, List.append_assoc, List.singleton_append, List.cons_append, List.nil_append] at e ⊢
              rw [← e, hsp, hpre]
          · cases h
            refine ⟨?_, by rw [DescV.heads, List.all_cons, hok]; rfl⟩
            rw [tokD, Int.toNat_natCast, tokR]
            simp only [List.flatten_cons, List.append_assoc, List.flatten_nil, List.nil_append]
            rw [hsp, hpre]
    · rw [kidsB] at h
      split at h
      · cases h
      · rename_i d r' hd
        obtain ⟨e, ho⟩ := ih.1 _ _ _ hd
        split at h
        · rename_i r2
          obtain ⟨q, hq, he⟩ := Option.map_eq_some_iff.1 h
          obtain ⟨l', R'⟩ := q
          cases he
          obtain ⟨hne, e2, ho2⟩ := ih.2 _ _ _ hq
          refine ⟨by simp, ?_, by rw [DescV.headsL, List.all_append, ho, ho2]; rfl⟩
          cases l' with
          | nil => exact absurd rfl hne
          | cons d' l' => rw [e, e2]; simp [tokJ, tokK]
        · cases h
          exact ⟨by simp, by rw [e, tokJ, tokK]; simp, by rw [DescV.headsL, List.all_append, ho]; rfl⟩
        · cases h
/-- Bytes behind a tree's. -/
def Behind (r : List UInt8) : Prop := ∀ b, r.head? = some b → isDig b = false ∧ b ≠ 40
mutual
theorem completeB : ∀ (d : DescV) (f : Nat) (r : List UInt8), d.heads.all okH = true → Behind r → ((tokD d).flatten ++ r).length < f → nodeB f ((tokD d).flatten ++ r) = some (d, r)
  | .mk k n l, f, r, h, hr, hf => by
    rw [DescV.heads, List.all_cons, Bool.and_eq_true] at h
    have hk := okH_iff.1 h.1
    cases f with
    | zero => omega
    | succ f =>
      rw [tokD, List.flatten_cons, List.flatten_cons, List.append_assoc, List.append_assoc] at hf ⊢
      have e1 := kwB_word ⟨hk.1, hk.2.1⟩ (Lib.decDigits n.toNat ++ ((tokR l).flatten ++ r))
      have e2 : ((n.toNat : Nat) : Int) = n := by omega
      have e0 : ¬ kwB (wordD k ++ (Lib.decDigits n.toNat ++ ((tokR l).flatten ++ r))) = 0 := by omega
      rw [nodeB, if_neg e0, e1, List.drop_left]
      have hw := while_run (x := Lib.decDigits n.toNat) (r := (tokR l).flatten ++ r) (fun b hb => dig_kd.2 (dec_kd _ b hb)) (fun b hb => by
        cases l with
        | nil => rw [tokR] at hb; exact (hr b hb).1
        | cons d l => rw [tokR] at hb; simp at hb; subst hb; decide)
      rw [hw.1, hw.2, numOf_digits (by omega)]
      cases l with
      | nil =>
        rw [tokR, List.flatten_nil, List.nil_append]
        simp only
        rw [e2]
        split
        · rename_i r' hr'
          exact absurd rfl (hr 40 rfl).2
        · rfl
      | cons d l =>
        rw [tokR, List.flatten_cons]
        simp only [List.singleton_append, List.cons_append, List.nil_append]
        have := completeBK (d :: l) f r (by simp) h.2 (by
          have := List.length_pos_iff.2 (wordD_ne ⟨hk.1, hk.2.1⟩)
          rw [tokR] at hf
          simp only [tokJ, List.flatten_cons, List.length_append, List.length_cons, List.length_nil] at hf ⊢
          omega)
        rw [tokJ] at this
        rw [this, e2]
        rfl
theorem completeBK : ∀ (l : List DescV) (f : Nat) (r : List UInt8), l ≠ [] → (DescV.headsL l).all okH = true → ((tokJ l).flatten ++ r).length + 1 < f → kidsB f ((tokJ l).flatten ++ r) = some (l, r)
  | [], _, _, h, _, _ => absurd rfl h
  | d :: l, f, r, _, h, hf => by
    rw [DescV.headsL, List.all_append, Bool.and_eq_true] at h
    cases f with
    | zero => omega
    | succ f =>
      rw [kidsB, tokJ, List.flatten_append, List.append_assoc, completeB d f ((tokK l).flatten ++ r) h.1 (by intro b hb; cases l <;> (simp [tokK] at hb; subst hb; decide)) (by rw [tokJ] at hf; simp only [List.flatten_append, List.length_append] at hf ⊢; omega)]
      cases l with
      | nil => simp [tokK]
      | cons d' l =>
        simp only [tokK, List.flatten_cons, List.cons_append, List.singleton_append, List.nil_append]
        have := completeBK (d' :: l) f r (by simp) h.2 (by
          simp only [tokJ, tokK, List.flatten_append, List.flatten_cons, List.length_append, List.length_cons, List.length_nil] at hf ⊢
          omega)
        rw [tokJ] at this
        rw [this]
        rfl
end
/-! ### Which tree a text shows -/
def treeT (s : List UInt8) : Option DescV := if (s.all fun b => kd b.toNat != 0) = true then match nodeT (s.length + 2) (tokL s) with | some (d, []) => some d | _ => none else none
def treeB (s : List UInt8) : Option DescV := match nodeB (s.length + 1) s with | some (d, []) => some d | _ => none
theorem addB_len (T : List (List UInt8)) (b : UInt8) : (addB T b).length ≤ T.length + 1 := by
  unfold addB
  split
  · simp
  · rw [List.length_append, List.length_dropLast, List.length_singleton]; omega
theorem fold_len : ∀ (l : List UInt8) (T : List (List UInt8)), (l.foldl addB T).length ≤ T.length + l.length
  | [], T => by simp
  | b :: l, T => by
    rw [List.foldl_cons]
    have := fold_len l (addB T b)
    have := addB_len T b
    rw [List.length_cons]
    omega
theorem tokL_len (l : List UInt8) : (tokL l).length ≤ l.length := by have := fold_len l []; simpa [tokL] using this
theorem treeT_iff {s : List UInt8} {d : DescV} : treeT s = some d ↔ textD d = some s := by
  rw [textD_iff]
  constructor
  · intro h
    unfold treeT at h
    split at h
    · split at h
      · rename_i d' he
        cases h
        obtain ⟨e, ho⟩ := (sound _).1 _ _ _ he
        refine ⟨ho, ?_⟩
        rw [List.append_nil] at e
        rw [← e, tokL_flat]
      · cases h
    · cases h
  · rintro ⟨ho, rfl⟩
    have e : tokL (tokD d).flatten = tokD d := by rw [tokL, fold_tok d [] ho (by decide)]; rfl
    have hl := tokL_len (tokD d).flatten
    have hc := complete d ((tokD d).flatten.length + 2) [] ho (by simp) (by rw [e] at hl; simp only [List.append_nil]; omega)
    rw [List.append_nil] at hc
    unfold treeT
    rw [if_pos (List.all_eq_true.2 fun b hb => by simpa using kinds_tok d b hb), e, hc]
theorem treeB_iff {s : List UInt8} {d : DescV} : treeB s = some d ↔ textD d = some s := by
  rw [textD_iff]
  constructor
  · intro h
    unfold treeB at h
    split at h
    · rename_i d' he
      cases h
      obtain ⟨e, ho⟩ := (soundB _).1 _ _ _ he
      rw [List.append_nil] at e
      exact ⟨ho, e.symm⟩
    · cases h
  · rintro ⟨ho, rfl⟩
    have hc := completeB d ((tokD d).flatten.length + 1) [] ho (fun b hb => by simp at hb) (by simp)
    rw [List.append_nil] at hc
    unfold treeB
    rw [hc]
theorem tree_eq (s : List UInt8) : treeB s = treeT s := by
  cases h : treeB s with
  | some d => exact (treeT_iff.2 (treeB_iff.1 h)).symm
  | none =>
    cases k : treeT s with
    | none => rfl
    | some d => rw [treeB_iff.2 (treeT_iff.1 k)] at h; cases h
end Go.Proofs.YtephllgddhncgaaGreatDoor.Lex
