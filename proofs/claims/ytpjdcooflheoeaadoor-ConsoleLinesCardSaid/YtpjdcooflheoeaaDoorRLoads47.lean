/- The reference's lines of rules and of loads. -/
import Derived.Test.YtpjdcooflheoeaaDoorROf45
import Derived.Test.YtpjdcooflheoeaaDoorRWord
namespace Go.Proofs.YtpjdcooflheoeaaDoor.Lex
open Go.RowKit
set_option linter.unusedSimpArgs false
set_option linter.unusedVariables false
def names47 : List (List UInt8) := [[], [103, 101, 116], [108, 111, 111, 107, 117, 112], [101, 118, 105, 99, 116], [105, 109, 112, 111, 114, 116], [101, 120, 112, 111, 114, 116], [101, 120, 101, 99, 117, 116, 101], [114, 101, 108, 101, 97, 115, 101]]
def nameK47 (k : Nat) : List UInt8 := names47.getD k []
theorem nameK47_len {k : Nat} (hk : k < 8) : (nameK47 k).length ≤ 7 := by
  rcases (by omega : k = 0 ∨ k = 1 ∨ k = 2 ∨ k = 3 ∨ k = 4 ∨ k = 5 ∨ k = 6 ∨ k = 7) with rfl | rfl | rfl | rfl | rfl | rfl | rfl | rfl <;> decide
set_option maxRecDepth 100000 in
theorem name_any (k : Nat) (hk : k < 8) (w : World) : Calls Tryd.prog 16 #[.int .i64 k] w fun e w' => e = .returned (.string (bs (nameK47 k))) ∧ Below w.heap.size w w' := by
  have HB : Hid (∀ o, Below w.heap.size w (w.alloc o)) := Lib.hid fun o => (Below.refl _ _).alloc (Nat.le_refl _) o
  rcases (by omega : k = 0 ∨ k = 1 ∨ k = 2 ∨ k = 3 ∨ k = 4 ∨ k = 5 ∨ k = 6 ∨ k = 7) with rfl | rfl | rfl | rfl | rfl | rfl | rfl | rfl
  all_goals
    go_enter Tryd.func16, Tryd.ntmps16
    go_wp2_with fail
    go_ret
    exact ⟨rfl, HB.out _⟩
def lookW : List UInt8 := [108, 111, 111, 107]
def lookL (xs : List Int) : List UInt8 := if xs = [] then [108, 111, 111, 107, 32, 102, 105, 110, 101] else glue (lookW :: xs.map Lib.itoa)
set_option maxRecDepth 100000 in
set_option maxHeartbeats 2000000 in
theorem rlook_any (xs : List Int) (a : Option Addr) (cap : Nat) (w : World) (hn : xs.length ≤ 1048576) (hi : Ints w a xs) :
    Calls Tryd.prog 6 #[.slice a xs.length cap] w fun e w' => e = .returned (.string (bs (lookL xs))) ∧ w' = w := by
  have HI := Lib.hid hi
  clear hi
  by_cases h0 : xs = []
  · subst h0
    go_enter Tryd.func6, Tryd.ntmps6
    go_wp2_with fail
    go_ret
    exact ⟨rfl, rfl⟩
  · have HL : Hid (lookL xs = glue (lookW :: xs.map Lib.itoa)) := Lib.hid (by rw [lookL, if_neg h0])
    have hx0 : ((xs.length : Int) == 0) = false := by have := List.length_pos_iff.2 h0; rw [beq_eq_false_iff_ne]; omega
    clear h0
    go_enter Tryd.func6, Tryd.ntmps6
    go_wp2_with fail
    go_loopg [3, 4] xs.length (fun g tv kv wr => ∃ (k : Nat) (t : List UInt8), k ≤ xs.length ∧ g = xs.length - k ∧ kv = .int .i64 k ∧ tv = .string (bs t) ∧ t = glue (lookW :: (xs.take k).map Lib.itoa) ∧ t.length ≤ 4 + 21 * k ∧ wr = w)
    case atStart => exact ⟨0, lookW, by omega, rfl, rfl, rfl, rfl, by decide, rfl⟩
    case round =>
      obtain ⟨k, t, hk, rfl, rfl, rfl, ht, htl, rfl⟩ := hrel
      by_cases hlt : k < xs.length
      · obtain ⟨g, off, rfl, _, c1, r0, r1⟩ := HI.out k hlt
        have HNX : Hid (glue (lookW :: (xs.take (k + 1)).map Lib.itoa) = t ++ 32 :: Lib.itoa (xs[k]'hlt)) := Lib.hid (by
          rw [List.take_succ_eq_append_getElem hlt, List.map_append, List.map_singleton, glue_snocW, ht])
        have HIL := Lib.hid (itoa_len (n := xs[k]'hlt) ⟨r0, r1⟩)
        have HRI := Lib.hid (fun w => rint_any (xs[k]'hlt) w r0 r1)
        generalize xs[k]'hlt = z at *
        have HX : Hid (bs t ++ bs [32] ++ bs (Lib.itoa z) = bs (t ++ 32 :: Lib.itoa z)) := Lib.hid (by rw [bs_bs, bs_bs]; simp)
        have z1 : (bs t).size ≤ 30000000 := by rw [size_bs]; omega
        have z2 : (bs (Lib.itoa z)).size ≤ 20 := by rw [size_bs]; exact HIL.out
        have HT := Lib.hid htl
        clear ht htl
        go_wp2_with (go_at_call 12; (with_reducible refine (HRI.out _).mono ?_); rintro e w1 ⟨rfl, rfl⟩)
        go_roundg (xs.length - (k + 1))
        case measure => omega
        case rel => exact ⟨k + 1, t ++ 32 :: Lib.itoa z, by omega, rfl, by go_num, congrArg Value.string HX.out, HNX.out.symm, by have h1 := HT.out; have h2 := HIL.out; rw [List.length_append, List.length_cons]; omega, rfl⟩
      · obtain rfl : k = xs.length := by omega
        have HX : Hid (t = lookL xs) := Lib.hid (by rw [ht, List.take_length, HL.out])
        clear ht
        go_wp2_with fail
        go_ret
        exact ⟨by rw [← HX.out]; rfl, rfl⟩
/-- A kind's line. -/
def numsK (x : LoadV) : List Int := [x.c, x.e, x.n, x.l]
def lineK (k : Nat) (x : LoadV) : List UInt8 := if k = 0 ∨ x.c = 0 then [] else glue (nameK47 k :: (numsK x).map Lib.itoa) ++ [10]
def textK (f : Nat → LoadV) (n : Nat) : List UInt8 := (List.range n).flatMap fun k => lineK k (f k)
theorem textK_succ (f : Nat → LoadV) (n : Nat) : textK f (n + 1) = textK f n ++ lineK n (f n) := by simp [textK, List.range_succ]
theorem lineK_len {k : Nat} {x : LoadV} {B : Nat} (hk : k < 8) (h : x.Fits B) (hB : B ≤ 1099511627776) : (lineK k x).length ≤ 100 := by
  unfold lineK
  split
  · simp
  · have h0 := nameK47_len hk
    have h1 := itoa_len (n := x.c) ⟨by omega, by have := h.c; omega⟩
    have h2 := itoa_len (n := x.e) ⟨by omega, by have := h.e; omega⟩
    have h3 := itoa_len (n := x.n) ⟨by omega, by have := h.n; omega⟩
    have h4 := itoa_len (n := x.l) ⟨by have := h.l0; omega, by have := h.l1; omega⟩
    simp [numsK, glue]
    omega
theorem textK_len {f : Nat → LoadV} {B : Nat} (h : ∀ k, (f k).Fits B) (hB : B ≤ 1099511627776) : ∀ n, n ≤ 8 → (textK f n).length ≤ 100 * n := fun n hn => by
  induction n with
  | zero => simp [textK]
  | succ n ih =>
    rw [textK_succ, List.length_append]
    have := ih (by omega)
    have := lineK_len (k := n) (by omega) (h n) hB
    omega
set_option maxRecDepth 100000 in
set_option maxHeartbeats 8000000 in
theorem rloads_any (l : List OpV) (a : Option Addr) (cap : Nat) (w : World) (hl : l.length ≤ 1048576) (ho : OpRow w a l) :
    Calls Tryd.prog 8 #[.slice a l.length cap] w fun e w' => e = .returned (.string (bs (textK (loadsV l) 8))) ∧ Below w.heap.size w w' := by
  have HO := Lib.hid ho
  have HTL := Lib.hid (textK_len (f := loadsV l) (B := l.length) (fun k => (loadsV_fits l.length l k rfl).1) (by omega))
  clear ho
  go_enter Tryd.func8, Tryd.ntmps8
  go_wp2_with fail
  go_loopg [3, 4] 7 (fun g tv iv wr => ∃ k : Nat, 1 ≤ k ∧ k ≤ 8 ∧ g = 8 - k ∧ iv = .int .i64 (k : Int) ∧ tv = .string (bs (textK (loadsV l) k)) ∧ Below w.heap.size w wr)
  case atStart => exact ⟨1, by omega, by omega, rfl, rfl, rfl, Below.refl _ _⟩
  case round =>
    obtain ⟨k, hk1, hk8, rfl, rfl, rfl, hb⟩ := hrel
    obtain ⟨wo, rfl⟩ : ∃ wo : World, wo = wr := ⟨_, rfl⟩
    have HB := Lib.hid hb
    by_cases hlt : k < 8
    · have hki : (k : Int) < 8 := by omega
      have HRK := Lib.hid (rkind_any l k hlt a cap wo hl (HO.out.keep hb))
      have hfk := ofKind_len k l
      have HRO := Lib.hid (fun a' c' W hr => rof_any (ofKind k l) a' c' W (by omega) hr)
      obtain ⟨hft, _⟩ := loadsV_fits l.length l k rfl
      have HLV := Lib.hid (loadsV_of l.length l k rfl)
      have HTS := Lib.hid (textK_succ (loadsV l) k)
      rw [← HLV.out] at HRO
      have htl := HTL.out k (by omega)
      generalize textK (loadsV l) k = t at *
      generalize loadsV l k = x at *
      have HN := Lib.hid (fun W => name_any k hlt W)
      have hnl := nameK47_len hlt
      have hx1 := hft.c
      have hx2 := hft.e
      have hx3 := hft.n
      have hx4 := hft.l0
      have hx5 := hft.l1
      have HI1 := Lib.hid (fun W => rint_any (x.c : Int) W (by omega) (by omega))
      have HI2 := Lib.hid (fun W => rint_any (x.e : Int) W (by omega) (by omega))
      have HI3 := Lib.hid (fun W => rint_any (x.n : Int) W (by omega) (by omega))
      have HI4 := Lib.hid (fun W => rint_any x.l W (by omega) (by omega))
      have hl1 := itoa_len (n := x.c) ⟨by omega, by omega⟩
      have hl2 := itoa_len (n := x.e) ⟨by omega, by omega⟩
      have hl3 := itoa_len (n := x.n) ⟨by omega, by omega⟩
      have hl4 := itoa_len (n := x.l) ⟨by omega, by omega⟩
      clear hb
      by_cases hc : x.c = 0
      · have HX : Hid (lineK k x = []) := Lib.hid (by rw [lineK, if_pos (.inr hc)])
        have hc' : ¬ (0 : Int) < x.c := by omega
        go_wp2_with (first
          | (go_at_call 15; (with_reducible refine HRK.out.mono ?_); rintro e w1 ⟨hb1, a', c', rfl, hr1⟩; have HB1 := Lib.hid (HB.out.trans (hb1.mono HB.out.size)); have HR1 := Lib.hid hr1; clear hb1 hr1)
          | (go_at_call 14; (with_reducible refine (HRO.out _ _ _ HR1.out).mono ?_); rintro e w2 ⟨rfl, hb2⟩; have HB2 := Lib.hid (HB1.out.trans (hb2.mono HB1.out.size)); clear hb2))
        go_roundg (8 - (k + 1))
        case measure => omega
        case rel => exact ⟨k + 1, by omega, by omega, by omega, by go_num, by rw [HTS.out, HX.out, List.append_nil], HB2.out.alloc HB2.out.size _⟩
      · have HX : Hid (lineK k x = glue (nameK47 k :: (numsK x).map Lib.itoa) ++ [10]) := Lib.hid (by rw [lineK, if_neg (by omega)])
        have hc' : (0 : Int) < x.c := by omega
        go_wp2_with (first
          | (go_at_call 15; (with_reducible refine HRK.out.mono ?_); rintro e w1 ⟨hb1, a', c', rfl, hr1⟩; have HB1 := Lib.hid (HB.out.trans (hb1.mono HB.out.size)); have HR1 := Lib.hid hr1; clear hb1 hr1)
          | (go_at_call 14; (with_reducible refine (HRO.out _ _ _ HR1.out).mono ?_); rintro e w2 ⟨rfl, hb2⟩; have HB2 := Lib.hid (HB1.out.trans (hb2.mono HB1.out.size)); clear hb2))
        obtain ⟨W3, hW3⟩ : ∃ W3, W3 = w2.alloc (.cells #[.int .i64 x.c, .int .i64 x.e, .int .i64 x.n, .int .i64 x.l] 43) := ⟨_, rfl⟩
        have hb3 : Below w2.heap.size w2 W3 := by rw [hW3]; exact (Below.refl _ _).alloc (Nat.le_refl _) _
        have g3 : W3.heap[w2.heap.size]? = some (.cells #[.int .i64 x.c, .int .i64 x.e, .int .i64 x.n, .int .i64 x.l] 43 (0, 0)) := by rw [hW3]; exact heap_alloc_new w2 _
        have hz3 : w2.heap.size < W3.heap.size := by rw [hW3]; simp
        have HB3 : Hid (Below w.heap.size w W3) := Lib.hid (HB2.out.trans (hb3.mono HB2.out.size))
        have HS : Hid (∀ W, Below W3.heap.size W3 W → W.cell? ⟨w2.heap.size, 0, none⟩ = some (.int .i64 x.c) ∧ W.cell? ⟨w2.heap.size, 1, none⟩ = some (.int .i64 x.e) ∧ W.cell? ⟨w2.heap.size, 2, none⟩ = some (.int .i64 x.n) ∧ W.cell? ⟨w2.heap.size, 3, none⟩ = some (.int .i64 x.l)) := Lib.hid fun W hb => by
          have g := (hb.block _ hz3).trans g3
          exact ⟨cell_at g rfl, cell_at g rfl, cell_at g rfl, cell_at g rfl⟩
        have hbz := Below.refl W3.heap.size W3
        have z0 : (bs t).size ≤ 1000 := by rw [size_bs]; omega
        have z1 : (bs (nameK47 k)).size ≤ 7 := by rw [size_bs]; exact hnl
        have z2 : (bs (Lib.itoa (x.c : Int))).size ≤ 20 := by rw [size_bs]; exact hl1
        have z3 : (bs (Lib.itoa (x.e : Int))).size ≤ 20 := by rw [size_bs]; exact hl2
        have z4 : (bs (Lib.itoa (x.n : Int))).size ≤ 20 := by rw [size_bs]; exact hl3
        have z5 : (bs (Lib.itoa x.l)).size ≤ 20 := by rw [size_bs]; exact hl4
        have z6 : (⟨#[32]⟩ : ByteArray).size = 1 := rfl
        have z7 : (⟨#[10]⟩ : ByteArray).size = 1 := rfl
        have HXX : Hid (bs t ++ bs (nameK47 k) ++ ⟨#[32]⟩ ++ bs (Lib.itoa (x.c : Int)) ++ ⟨#[32]⟩ ++ bs (Lib.itoa (x.e : Int)) ++ ⟨#[32]⟩ ++ bs (Lib.itoa (x.n : Int)) ++ ⟨#[32]⟩ ++ bs (Lib.itoa x.l) ++ ⟨#[10]⟩ = bs (t ++ lineK k x)) := Lib.hid (by
          rw [HX.out, show (⟨#[32]⟩ : ByteArray) = bs [32] from rfl, show (⟨#[10]⟩ : ByteArray) = bs [10] from rfl]
          simp only [bs_bs]
          simp [numsK, glue])
        rw [← hW3]
        clear hW3 hb3 g3 hl1 hl2 hl3 hl4 hnl
        have HT0 := Lib.hid (HS.out W3.drew hbz.drew)
        refine wp_region_held (S := fun W => (W.cell? ⟨w2.heap.size, 0, none⟩ = some (.int .i64 x.c) ∧ W.cell? ⟨w2.heap.size, 1, none⟩ = some (.int .i64 x.e) ∧ W.cell? ⟨w2.heap.size, 2, none⟩ = some (.int .i64 x.n) ∧ W.cell? ⟨w2.heap.size, 3, none⟩ = some (.int .i64 x.l))) (by kernel_rfl) ?_
        change wpAnyH _ _ _ _ _ 26 #[false, false, false, false, false, false, false, false, false, false, false, false, false, false, false, false, false, false, false, false, false, false, false, false, false, false] _ W3.drew
        (refine wpAnyH_take (i := 0) (v := ?_) rfl (by kernel_rfl) (by kernel_rfl) (by kernel_rfl) (fun _ _ _ h => h) (Or.inl ⟨by rfl, ?_⟩) HT0.out ?_; rotate_left 1; (focus (intro w0 hw0; (try dsimp only at hw0); obtain ⟨s0, s1, s2, s3⟩ := hw0; go_simp; first | (with_reducible rfl) | (rw [if_neg (by (try simp only [ByteArray.size_append]); (try simp only [z6, z7]); omega)]) | skip)); (try simp only [Act.put, List.getElem_toArray, List.getElem_cons_zero, List.getElem_cons_succ, List.setIfInBounds_toArray, List.set_cons_zero, List.set_cons_succ]))
        (refine wpAnyH_take (i := 1) (v := ?_) rfl (by kernel_rfl) (by kernel_rfl) (by kernel_rfl) (fun _ _ _ h => h) (Or.inl ⟨by rfl, ?_⟩) HT0.out ?_; rotate_left 1; (focus (intro w0 hw0; (try dsimp only at hw0); obtain ⟨s0, s1, s2, s3⟩ := hw0; go_simp; first | (with_reducible rfl) | (rw [if_neg (by (try simp only [ByteArray.size_append]); (try simp only [z6, z7]); omega)]) | skip)); (try simp only [Act.put, List.getElem_toArray, List.getElem_cons_zero, List.getElem_cons_succ, List.setIfInBounds_toArray, List.set_cons_zero, List.set_cons_succ]))
        (refine wpAnyH_take (i := 5) (v := ?_) rfl (by kernel_rfl) (by kernel_rfl) (by kernel_rfl) (fun _ _ _ h => h) (Or.inl ⟨by rfl, ?_⟩) HT0.out ?_; rotate_left 1; (focus (intro w0 hw0; (try dsimp only at hw0); obtain ⟨s0, s1, s2, s3⟩ := hw0; go_simp; first | (with_reducible rfl) | (rw [if_neg (by (try simp only [ByteArray.size_append]); (try simp only [z6, z7]); omega)]) | skip)); (try simp only [Act.put, List.getElem_toArray, List.getElem_cons_zero, List.getElem_cons_succ, List.setIfInBounds_toArray, List.set_cons_zero, List.set_cons_succ]))
        (refine wpAnyH_take (i := 6) (v := ?_) rfl (by kernel_rfl) (by kernel_rfl) (by kernel_rfl) (fun _ _ _ h => h) (Or.inl ⟨by rfl, ?_⟩) HT0.out ?_; rotate_left 1; (focus (intro w0 hw0; (try dsimp only at hw0); obtain ⟨s0, s1, s2, s3⟩ := hw0; go_simp; first | (with_reducible rfl) | (rw [if_neg (by (try simp only [ByteArray.size_append]); (try simp only [z6, z7]); omega)]) | skip)); (try simp only [Act.put, List.getElem_toArray, List.getElem_cons_zero, List.getElem_cons_succ, List.setIfInBounds_toArray, List.set_cons_zero, List.set_cons_succ]))
        (refine wpAnyH_take (i := 10) (v := ?_) rfl (by kernel_rfl) (by kernel_rfl) (by kernel_rfl) (fun _ _ _ h => h) (Or.inl ⟨by rfl, ?_⟩) HT0.out ?_; rotate_left 1; (focus (intro w0 hw0; (try dsimp only at hw0); obtain ⟨s0, s1, s2, s3⟩ := hw0; go_simp; first | (with_reducible rfl) | (rw [if_neg (by (try simp only [ByteArray.size_append]); (try simp only [z6, z7]); omega)]) | skip)); (try simp only [Act.put, List.getElem_toArray, List.getElem_cons_zero, List.getElem_cons_succ, List.setIfInBounds_toArray, List.set_cons_zero, List.set_cons_succ]))
        (refine wpAnyH_take (i := 11) (v := ?_) rfl (by kernel_rfl) (by kernel_rfl) (by kernel_rfl) (fun _ _ _ h => h) (Or.inl ⟨by rfl, ?_⟩) HT0.out ?_; rotate_left 1; (focus (intro w0 hw0; (try dsimp only at hw0); obtain ⟨s0, s1, s2, s3⟩ := hw0; go_simp; first | (with_reducible rfl) | (rw [if_neg (by (try simp only [ByteArray.size_append]); (try simp only [z6, z7]); omega)]) | skip)); (try simp only [Act.put, List.getElem_toArray, List.getElem_cons_zero, List.getElem_cons_succ, List.setIfInBounds_toArray, List.set_cons_zero, List.set_cons_succ]))
        (refine wpAnyH_take (i := 15) (v := ?_) rfl (by kernel_rfl) (by kernel_rfl) (by kernel_rfl) (fun _ _ _ h => h) (Or.inl ⟨by rfl, ?_⟩) HT0.out ?_; rotate_left 1; (focus (intro w0 hw0; (try dsimp only at hw0); obtain ⟨s0, s1, s2, s3⟩ := hw0; go_simp; first | (with_reducible rfl) | (rw [if_neg (by (try simp only [ByteArray.size_append]); (try simp only [z6, z7]); omega)]) | skip)); (try simp only [Act.put, List.getElem_toArray, List.getElem_cons_zero, List.getElem_cons_succ, List.setIfInBounds_toArray, List.set_cons_zero, List.set_cons_succ]))
        (refine wpAnyH_take (i := 16) (v := ?_) rfl (by kernel_rfl) (by kernel_rfl) (by kernel_rfl) (fun _ _ _ h => h) (Or.inl ⟨by rfl, ?_⟩) HT0.out ?_; rotate_left 1; (focus (intro w0 hw0; (try dsimp only at hw0); obtain ⟨s0, s1, s2, s3⟩ := hw0; go_simp; first | (with_reducible rfl) | (rw [if_neg (by (try simp only [ByteArray.size_append]); (try simp only [z6, z7]); omega)]) | skip)); (try simp only [Act.put, List.getElem_toArray, List.getElem_cons_zero, List.getElem_cons_succ, List.setIfInBounds_toArray, List.set_cons_zero, List.set_cons_succ]))
        (refine wpAnyH_take (i := 20) (v := ?_) rfl (by kernel_rfl) (by kernel_rfl) (by kernel_rfl) (fun _ _ _ h => h) (Or.inl ⟨by rfl, ?_⟩) HT0.out ?_; rotate_left 1; (focus (intro w0 hw0; (try dsimp only at hw0); obtain ⟨s0, s1, s2, s3⟩ := hw0; go_simp; first | (with_reducible rfl) | (rw [if_neg (by (try simp only [ByteArray.size_append]); (try simp only [z6, z7]); omega)]) | skip)); (try simp only [Act.put, List.getElem_toArray, List.getElem_cons_zero, List.getElem_cons_succ, List.setIfInBounds_toArray, List.set_cons_zero, List.set_cons_succ]))
        (refine wpAnyH_take (i := 21) (v := ?_) rfl (by kernel_rfl) (by kernel_rfl) (by kernel_rfl) (fun _ _ _ h => h) (Or.inl ⟨by rfl, ?_⟩) HT0.out ?_; rotate_left 1; (focus (intro w0 hw0; (try dsimp only at hw0); obtain ⟨s0, s1, s2, s3⟩ := hw0; go_simp; first | (with_reducible rfl) | (rw [if_neg (by (try simp only [ByteArray.size_append]); (try simp only [z6, z7]); omega)]) | skip)); (try simp only [Act.put, List.getElem_toArray, List.getElem_cons_zero, List.getElem_cons_succ, List.setIfInBounds_toArray, List.set_cons_zero, List.set_cons_succ]))
        refine wpAnyH_all (rs := [2]) (by kernel_rfl) (by simp) fun i hi => ?_
        obtain rfl := List.mem_singleton.1 hi
        refine wpOp_step rfl (fun K hK => ?_)
        go_simp
        refine (HN.out _).mono ?_
        rintro e w4 ⟨rfl, hb4⟩
        have hb4z : Below W3.heap.size W3 w4 := hbz.drew.trans (hb4.mono (Nat.le_refl _))
        have HT4 := Lib.hid (HS.out w4 hb4z)
        refine hK _ _ ⟨HT4.out, ?_⟩
        clear hK K hi
        try simp only [Act.put, List.getElem_toArray, List.getElem_cons_zero, List.getElem_cons_succ, List.setIfInBounds_toArray, List.set_cons_zero, List.set_cons_succ]
        (refine wpAnyH_take (i := 3) (v := ?_) rfl (by kernel_rfl) (by kernel_rfl) (by kernel_rfl) (fun _ _ _ h => h) (Or.inl ⟨by rfl, ?_⟩) HT4.out ?_; rotate_left 1; (focus (intro w0 hw0; (try dsimp only at hw0); obtain ⟨s0, s1, s2, s3⟩ := hw0; go_simp; first | (with_reducible rfl) | (rw [if_neg (by (try simp only [ByteArray.size_append]); (try simp only [z6, z7]); omega)]) | skip)); (try simp only [Act.put, List.getElem_toArray, List.getElem_cons_zero, List.getElem_cons_succ, List.setIfInBounds_toArray, List.set_cons_zero, List.set_cons_succ]))
        (refine wpAnyH_take (i := 4) (v := ?_) rfl (by kernel_rfl) (by kernel_rfl) (by kernel_rfl) (fun _ _ _ h => h) (Or.inl ⟨by rfl, ?_⟩) HT4.out ?_; rotate_left 1; (focus (intro w0 hw0; (try dsimp only at hw0); obtain ⟨s0, s1, s2, s3⟩ := hw0; go_simp; first | (with_reducible rfl) | (rw [if_neg (by (try simp only [ByteArray.size_append]); (try simp only [z6, z7]); omega)]) | skip)); (try simp only [Act.put, List.getElem_toArray, List.getElem_cons_zero, List.getElem_cons_succ, List.setIfInBounds_toArray, List.set_cons_zero, List.set_cons_succ]))
        refine wpAnyH_all (rs := [7]) (by kernel_rfl) (by simp) fun i hi => ?_
        obtain rfl := List.mem_singleton.1 hi
        refine wpOp_step rfl (fun K hK => ?_)
        go_simp
        refine (HI1.out _).mono ?_
        rintro e w5 ⟨rfl, rfl⟩
        refine hK _ _ ⟨HT4.out, ?_⟩
        clear hK K hi
        try simp only [Act.put, List.getElem_toArray, List.getElem_cons_zero, List.getElem_cons_succ, List.setIfInBounds_toArray, List.set_cons_zero, List.set_cons_succ]
        (refine wpAnyH_take (i := 8) (v := ?_) rfl (by kernel_rfl) (by kernel_rfl) (by kernel_rfl) (fun _ _ _ h => h) (Or.inl ⟨by rfl, ?_⟩) HT4.out ?_; rotate_left 1; (focus (intro w0 hw0; (try dsimp only at hw0); obtain ⟨s0, s1, s2, s3⟩ := hw0; go_simp; first | (with_reducible rfl) | (rw [if_neg (by (try simp only [ByteArray.size_append]); (try simp only [z6, z7]); omega)]) | skip)); (try simp only [Act.put, List.getElem_toArray, List.getElem_cons_zero, List.getElem_cons_succ, List.setIfInBounds_toArray, List.set_cons_zero, List.set_cons_succ]))
        (refine wpAnyH_take (i := 9) (v := ?_) rfl (by kernel_rfl) (by kernel_rfl) (by kernel_rfl) (fun _ _ _ h => h) (Or.inl ⟨by rfl, ?_⟩) HT4.out ?_; rotate_left 1; (focus (intro w0 hw0; (try dsimp only at hw0); obtain ⟨s0, s1, s2, s3⟩ := hw0; go_simp; first | (with_reducible rfl) | (rw [if_neg (by (try simp only [ByteArray.size_append]); (try simp only [z6, z7]); omega)]) | skip)); (try simp only [Act.put, List.getElem_toArray, List.getElem_cons_zero, List.getElem_cons_succ, List.setIfInBounds_toArray, List.set_cons_zero, List.set_cons_succ]))
        refine wpAnyH_all (rs := [12]) (by kernel_rfl) (by simp) fun i hi => ?_
        obtain rfl := List.mem_singleton.1 hi
        refine wpOp_step rfl (fun K hK => ?_)
        go_simp
        refine (HI2.out _).mono ?_
        rintro e w5 ⟨rfl, rfl⟩
        refine hK _ _ ⟨HT4.out, ?_⟩
        clear hK K hi
        try simp only [Act.put, List.getElem_toArray, List.getElem_cons_zero, List.getElem_cons_succ, List.setIfInBounds_toArray, List.set_cons_zero, List.set_cons_succ]
        (refine wpAnyH_take (i := 13) (v := ?_) rfl (by kernel_rfl) (by kernel_rfl) (by kernel_rfl) (fun _ _ _ h => h) (Or.inl ⟨by rfl, ?_⟩) HT4.out ?_; rotate_left 1; (focus (intro w0 hw0; (try dsimp only at hw0); obtain ⟨s0, s1, s2, s3⟩ := hw0; go_simp; first | (with_reducible rfl) | (rw [if_neg (by (try simp only [ByteArray.size_append]); (try simp only [z6, z7]); omega)]) | skip)); (try simp only [Act.put, List.getElem_toArray, List.getElem_cons_zero, List.getElem_cons_succ, List.setIfInBounds_toArray, List.set_cons_zero, List.set_cons_succ]))
        (refine wpAnyH_take (i := 14) (v := ?_) rfl (by kernel_rfl) (by kernel_rfl) (by kernel_rfl) (fun _ _ _ h => h) (Or.inl ⟨by rfl, ?_⟩) HT4.out ?_; rotate_left 1; (focus (intro w0 hw0; (try dsimp only at hw0); obtain ⟨s0, s1, s2, s3⟩ := hw0; go_simp; first | (with_reducible rfl) | (rw [if_neg (by (try simp only [ByteArray.size_append]); (try simp only [z6, z7]); omega)]) | skip)); (try simp only [Act.put, List.getElem_toArray, List.getElem_cons_zero, List.getElem_cons_succ, List.setIfInBounds_toArray, List.set_cons_zero, List.set_cons_succ]))
        refine wpAnyH_all (rs := [17]) (by kernel_rfl) (by simp) fun i hi => ?_
        obtain rfl := List.mem_singleton.1 hi
        refine wpOp_step rfl (fun K hK => ?_)
        go_simp
        refine (HI3.out _).mono ?_
        rintro e w5 ⟨rfl, rfl⟩
        refine hK _ _ ⟨HT4.out, ?_⟩
        clear hK K hi
        try simp only [Act.put, List.getElem_toArray, List.getElem_cons_zero, List.getElem_cons_succ, List.setIfInBounds_toArray, List.set_cons_zero, List.set_cons_succ]
        (refine wpAnyH_take (i := 18) (v := ?_) rfl (by kernel_rfl) (by kernel_rfl) (by kernel_rfl) (fun _ _ _ h => h) (Or.inl ⟨by rfl, ?_⟩) HT4.out ?_; rotate_left 1; (focus (intro w0 hw0; (try dsimp only at hw0); obtain ⟨s0, s1, s2, s3⟩ := hw0; go_simp; first | (with_reducible rfl) | (rw [if_neg (by (try simp only [ByteArray.size_append]); (try simp only [z6, z7]); omega)]) | skip)); (try simp only [Act.put, List.getElem_toArray, List.getElem_cons_zero, List.getElem_cons_succ, List.setIfInBounds_toArray, List.set_cons_zero, List.set_cons_succ]))
        (refine wpAnyH_take (i := 19) (v := ?_) rfl (by kernel_rfl) (by kernel_rfl) (by kernel_rfl) (fun _ _ _ h => h) (Or.inl ⟨by rfl, ?_⟩) HT4.out ?_; rotate_left 1; (focus (intro w0 hw0; (try dsimp only at hw0); obtain ⟨s0, s1, s2, s3⟩ := hw0; go_simp; first | (with_reducible rfl) | (rw [if_neg (by (try simp only [ByteArray.size_append]); (try simp only [z6, z7]); omega)]) | skip)); (try simp only [Act.put, List.getElem_toArray, List.getElem_cons_zero, List.getElem_cons_succ, List.setIfInBounds_toArray, List.set_cons_zero, List.set_cons_succ]))
        refine wpAnyH_all (rs := [22]) (by kernel_rfl) (by simp) fun i hi => ?_
        obtain rfl := List.mem_singleton.1 hi
        refine wpOp_step rfl (fun K hK => ?_)
        go_simp
        refine (HI4.out _).mono ?_
        rintro e w5 ⟨rfl, rfl⟩
        refine hK _ _ ⟨HT4.out, ?_⟩
        clear hK K hi
        try simp only [Act.put, List.getElem_toArray, List.getElem_cons_zero, List.getElem_cons_succ, List.setIfInBounds_toArray, List.set_cons_zero, List.set_cons_succ]
        (refine wpAnyH_take (i := 23) (v := ?_) rfl (by kernel_rfl) (by kernel_rfl) (by kernel_rfl) (fun _ _ _ h => h) (Or.inl ⟨by rfl, ?_⟩) HT4.out ?_; rotate_left 1; (focus (intro w0 hw0; (try dsimp only at hw0); obtain ⟨s0, s1, s2, s3⟩ := hw0; go_simp; first | (with_reducible rfl) | (rw [if_neg (by (try simp only [ByteArray.size_append]); (try simp only [z6, z7]); omega)]) | skip)); (try simp only [Act.put, List.getElem_toArray, List.getElem_cons_zero, List.getElem_cons_succ, List.setIfInBounds_toArray, List.set_cons_zero, List.set_cons_succ]))
        (refine wpAnyH_take (i := 24) (v := ?_) rfl (by kernel_rfl) (by kernel_rfl) (by kernel_rfl) (fun _ _ _ h => h) (Or.inl ⟨by rfl, ?_⟩) HT4.out ?_; rotate_left 1; (focus (intro w0 hw0; (try dsimp only at hw0); obtain ⟨s0, s1, s2, s3⟩ := hw0; go_simp; first | (with_reducible rfl) | (rw [if_neg (by (try simp only [ByteArray.size_append]); (try simp only [z6, z7]); omega)]) | skip)); (try simp only [Act.put, List.getElem_toArray, List.getElem_cons_zero, List.getElem_cons_succ, List.setIfInBounds_toArray, List.set_cons_zero, List.set_cons_succ]))
        (refine wpAnyH_take (i := 25) (v := ?_) rfl (by kernel_rfl) (by kernel_rfl) (by kernel_rfl) (fun _ _ _ h => h) (Or.inl ⟨by rfl, ?_⟩) HT4.out ?_; rotate_left 1; (focus (intro w0 hw0; (try dsimp only at hw0); obtain ⟨s0, s1, s2, s3⟩ := hw0; go_simp; first | (with_reducible rfl) | (rw [if_neg (by (try simp only [ByteArray.size_append]); (try simp only [z6, z7]); omega)]) | skip)); (try simp only [Act.put, List.getElem_toArray, List.getElem_cons_zero, List.getElem_cons_succ, List.setIfInBounds_toArray, List.set_cons_zero, List.set_cons_succ]))
        refine wpAnyH_done (by kernel_rfl) ?_ _
        have HB4 : Hid (Below w.heap.size w w4) := Lib.hid (HB3.out.trans (hb4z.mono HB3.out.size))
        go_wp2_with fail
        go_roundg (8 - (k + 1))
        case measure => omega
        case rel => exact ⟨k + 1, by omega, by omega, by omega, by go_num, by rw [HTS.out]; exact congrArg Value.string HXX.out, HB4.out⟩
    · obtain rfl : k = 8 := by omega
      clear hb
      go_wp2_with fail
      go_ret
      exact ⟨rfl, HB.out⟩
end Go.Proofs.YtpjdcooflheoeaaDoor.Lex
