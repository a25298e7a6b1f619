/- Word23, Big23, Text23, Print23, PrintE: laid into one text. -/
import Derived.Test.YtephllgddhncgaaGreatDoorGLex
import Derived.Test.YtephllgddhncgaaGreatDoorNum
import Derived.Test.YtephllgddhncgaaGreatDoorGBase
import Derived.Test.YtephllgddhncgaaGreatDoorGTree
import Derived.Deep.RegionHeld3
import Derived.Test.YtephllgddhncgaaGreatDoorForV
import Derived.Test.YtephllgddhncgaaGreatDoorShelf
/- The kinds' words. -/
namespace Go.Proofs.YtephllgddhncgaaGreatDoor.Lex
open Go.RowKit
set_option linter.unusedSimpArgs false
set_option linter.unusedVariables false
def names23 : List (List UInt8) := [[110, 97, 105, 118, 101], [115, 109, 97, 108, 108], [115, 116, 111, 99, 107], [115, 112, 108, 105, 116], [103, 111, 111, 100], [114, 97, 100, 101, 114], [98, 108, 117, 101]]
/-- A kind's word; none: the empty one. -/
def wordD (k : Int) : List UInt8 := if 1 ≤ k ∧ k ≤ 7 then names23.getD (k - 1).toNat [] else []
theorem wordD_len (k : Int) : (wordD k).length ≤ 5 := by
  unfold wordD
  split
  · rename_i h
    rcases (by omega : k = 1 ∨ k = 2 ∨ k = 3 ∨ k = 4 ∨ k = 5 ∨ k = 6 ∨ k = 7) with rfl | rfl | rfl | rfl | rfl | rfl | rfl <;> decide
  · simp
theorem wordD_ne {k : Int} (h : 1 ≤ k ∧ k ≤ 7) : wordD k ≠ [] := by
  rcases (by omega : k = 1 ∨ k = 2 ∨ k = 3 ∨ k = 4 ∨ k = 5 ∨ k = 6 ∨ k = 7) with rfl | rfl | rfl | rfl | rfl | rfl | rfl <;> decide
def wordsS : ByteArray := ⟨#[110, 97, 105, 118, 101, 32, 115, 109, 97, 108, 108, 32, 115, 116, 111, 99, 107, 32, 115, 112, 108, 105, 116, 32, 103, 111, 111, 100, 32, 114, 97, 100, 101, 114, 32, 98, 108, 117, 101]⟩
theorem pieces_words : pieces wordsS.data.toList = names23 := by decide +kernel
theorem split23 (w : World) (hm : HasMax w) : Calls Tryz.prog 70 #[.string ⟨#[110, 97, 105, 118, 101, 32, 115, 109, 97, 108, 108, 32, 115, 116, 111, 99, 107, 32, 115, 112, 108, 105, 116, 32, 103, 111, 111, 100, 32, 114, 97, 100, 101, 114, 32, 98, 108, 117, 101]⟩, .string ⟨#[32]⟩] w fun e w' =>
    e = .returned (.slice (some ⟨w.heap.size, 0, none⟩) 7 7) ∧ (∀ j x, names23[j]? = some x → w'.cell? ⟨w.heap.size, j, none⟩ = some (.string (bs x))) ∧ Below w.heap.size w w' := by
  refine (split_any wordsS w hm (by decide)).mono ?_
  rw [pieces_words]
  rintro e w' ⟨rfl, ho, hb⟩
  refine ⟨rfl, fun j x hx => ?_, hb⟩
  exact (own_cell ho (i := j) (u := .string (bs x)) (by rw [List.getElem?_map, hx]; rfl)).1
set_option maxRecDepth 100000 in
theorem word_any (k : Int) (w : World) (hm : HasMax w) : Calls Tryz.prog 86 #[.int .i64 k] w fun e w' => e = .returned (.string (bs (wordD k))) ∧ Below w.heap.size w w' := by
  have HM := Lib.hid hm
  clear hm
  by_cases h1 : k < 1
  · have HW : Hid (bs (wordD k) = ⟨#[]⟩) := Lib.hid (by unfold wordD; rw [if_neg (by omega)]; rfl)
    go_enter Tryz.func86, Tryz.ntmps86
    go_wp2_with (go_at_call 70; (with_reducible refine (split23 _ HM.out).mono ?_); rintro e w1 ⟨rfl, hc, hb⟩; have HB := Lib.hid hb; clear hc hb)
    go_ret
    exact ⟨by rw [HW.out]; rfl, HB.out⟩
  · by_cases h7 : 7 < k
    · have HW : Hid (bs (wordD k) = ⟨#[]⟩) := Lib.hid (by unfold wordD; rw [if_neg (by omega)]; rfl)
      go_enter Tryz.func86, Tryz.ntmps86
      go_wp2_with (go_at_call 70; (with_reducible refine (split23 _ HM.out).mono ?_); rintro e w1 ⟨rfl, hc, hb⟩; have HB := Lib.hid hb; clear hc hb)
      go_ret
      exact ⟨by rw [HW.out]; rfl, HB.out⟩
    · rcases (by omega : k = 1 ∨ k = 2 ∨ k = 3 ∨ k = 4 ∨ k = 5 ∨ k = 6 ∨ k = 7) with rfl | rfl | rfl | rfl | rfl | rfl | rfl
      all_goals
        clear h1 h7
        go_enter Tryz.func86, Tryz.ntmps86
        go_wp2_with (go_at_call 70; (with_reducible refine (split23 _ HM.out).mono ?_); rintro e w1 ⟨rfl, hc, hb⟩; have HB := Lib.hid hb; have c0 := hc 0 _ rfl; have c1 := hc 1 _ rfl; have c2 := hc 2 _ rfl; have c3 := hc 3 _ rfl; have c4 := hc 4 _ rfl; have c5 := hc 5 _ rfl; have c6 := hc 6 _ rfl; clear hc hb)
        go_ret
        exact ⟨rfl, HB.out⟩
set_option maxRecDepth 100000 in
theorem rword23 (k : Int) (w : World) (h0 : 0 ≤ k) (h7 : k ≤ 7) : Calls Tryz.prog 75 #[.int .i64 k] w fun e w' => e = .returned (.string (bs (wordD k))) ∧ Below w.heap.size w w' := by
  have HB : Hid (Below w.heap.size w (w.alloc (.cells #[.string ⟨#[]⟩, .string ⟨#[110, 97, 105, 118, 101]⟩, .string ⟨#[115, 109, 97, 108, 108]⟩, .string ⟨#[115, 116, 111, 99, 107]⟩, .string ⟨#[115, 112, 108, 105, 116]⟩, .string ⟨#[103, 111, 111, 100]⟩, .string ⟨#[114, 97, 100, 101, 114]⟩, .string ⟨#[98, 108, 117, 101]⟩] 9))) := Lib.hid ((Below.refl _ _).alloc (Nat.le_refl _) _)
  rcases (by omega : k = 0 ∨ k = 1 ∨ k = 2 ∨ k = 3 ∨ k = 4 ∨ k = 5 ∨ k = 6 ∨ k = 7) with rfl | rfl | rfl | rfl | rfl | rfl | rfl | rfl
  all_goals
    clear h0 h7
    go_enter Tryz.func75, Tryz.ntmps75
    go_wp2_with fail
    go_ret
    exact ⟨rfl, HB.out⟩
end Go.Proofs.YtephllgddhncgaaGreatDoor.Lex
/- Which trees are too big, and which may be printed. -/
namespace Go.Proofs.YtephllgddhncgaaGreatDoor.Lex
open Go.RowKit
set_option linter.unusedSimpArgs false
set_option linter.unusedVariables false
theorem desc_box (kd nd : Int) (a : Option Addr) (n cap : Nat) (w : World) :
    let W0 := w.alloc (.cells #[.int .i64 kd, .int .i64 nd, .slice a n cap] 42)
    Below w.heap.size w W0 ∧ w.heap.size < W0.heap.size ∧ ∀ W, Below W0.heap.size W0 W → W.cell? ⟨w.heap.size, 0, none⟩ = some (.int .i64 kd) ∧ W.cell? ⟨w.heap.size, 1, none⟩ = some (.int .i64 nd) ∧ W.cell? ⟨w.heap.size, 2, none⟩ = some (.slice a n cap) := by
  have g0 := heap_alloc_new w (.cells #[.int .i64 kd, .int .i64 nd, .slice a n cap] 42)
  have hz : w.heap.size < (w.alloc (.cells #[.int .i64 kd, .int .i64 nd, .slice a n cap] 42)).heap.size := by simp
  refine ⟨(Below.refl _ _).alloc (Nat.le_refl _) _, hz, fun W hb => ?_⟩
  have g := (hb.block _ hz).trans g0
  exact ⟨cell_at g rfl, cell_at g rfl, cell_at g rfl⟩
set_option maxRecDepth 100000 in
set_option maxHeartbeats 1000000 in
theorem big_any (k : Nat) (F : Foot) (kd nd : Int) (l : List DescV) (a : Option Addr) (n cap : Nat) (w : World) (hl : RowOf (descRd k) 3 40 F w a n cap l) (hm : DescV.nodesL l < 1048576) :
    Calls Tryz.prog 64 #[.agg #[.int .i64 kd, .int .i64 nd, .slice a n cap]] w fun e w' => e = .returned (.bool (bigD (.mk kd nd l))) ∧ Below w.heap.size w w' := by
  obtain ⟨hb0, hz0, hc⟩ := desc_box kd nd a n cap w
  obtain ⟨W0, hW0⟩ : ∃ W0, W0 = w.alloc (.cells #[.int .i64 kd, .int .i64 nd, .slice a n cap] 42) := ⟨_, rfl⟩
  rw [← hW0] at hb0 hz0 hc
  have H1 := Lib.hid (nodes_any k F kd nd l a n cap W0 (hl.keep (descRd_ok _) (Fix.of_below hb0)) hm)
  have H2 : Hid (∀ W, Below W0.heap.size W0 W → Calls Tryz.prog 85 #[.agg #[.int .i64 kd, .int .i64 nd, .slice a n cap]] W fun e w' => e = .returned (.int .i64 ((DescV.depthL l + 1 : Nat) : Int)) ∧ Below W0.heap.size W0 w') := Lib.hid fun W hb =>
    (depth_any k F kd nd l a n cap W (hl.keep (descRd_ok _) (Fix.of_below (hb0.trans (hb.mono hb0.size)))) hm).mono fun e w' h => ⟨h.1, hb.trans (h.2.mono hb.size)⟩
  have HC := Lib.hid hc
  have HB0 := Lib.hid hb0
  have t0 := hc W0 (Below.refl _ _)
  obtain ⟨t00, t01, t02⟩ := t0
  have hE : bigD (.mk kd nd l) = decide (60 < (DescV.mk kd nd l).nodes ∨ 12 < DescV.depthL l + 1) := rfl
  rw [hE]
  clear hl hm hb0 hz0 hc hE
  generalize (DescV.mk kd nd l).nodes = N at *
  generalize DescV.depthL l + 1 = D at *
  by_cases hN : 60 < N
  · have hN' : (60 : Int) < N := by omega
    have HE : Hid (decide (60 < N ∨ 12 < D) = true) := Lib.hid (by simp [hN])
    clear hN
    go_enter Tryz.func64, Tryz.ntmps64
    go_wp2_with (rw [← hW0]; (go_at_call 84; (with_reducible refine H1.out.mono ?_); rintro e w1 ⟨rfl, hb1⟩; have HB1 := Lib.hid hb1; clear hb1))
    go_ret
    exact ⟨by rw [HE.out]; rfl, HB0.out.trans (HB1.out.mono HB0.out.size)⟩
  · have hN' : ¬ (60 : Int) < N := by omega
    by_cases hD : 12 < D
    · have hD' : (12 : Int) < D := by omega
      have HE : Hid (decide (60 < N ∨ 12 < D) = true) := Lib.hid (by simp [hD])
      clear hN hD
      go_enter Tryz.func64, Tryz.ntmps64
      go_wp2_with (first
        | (rw [← hW0]; (go_at_call 84; (with_reducible refine H1.out.mono ?_); rintro e w1 ⟨rfl, hb1⟩; have HB1 := Lib.hid hb1; obtain ⟨t10, t11, t12⟩ := HC.out w1 hb1; clear hb1))
        | (go_at_call 85; (with_reducible refine (H2.out _ HB1.out).mono ?_); rintro e w2 ⟨rfl, hb2⟩; have HB2 := Lib.hid hb2; clear hb2))
      go_ret
      exact ⟨by rw [HE.out]; rfl, HB0.out.trans (HB2.out.mono HB0.out.size)⟩
    · have hD' : ¬ (12 : Int) < D := by omega
      have HE : Hid (decide (60 < N ∨ 12 < D) = false) := Lib.hid (by simp; omega)
      clear hN hD
      go_enter Tryz.func64, Tryz.ntmps64
      go_wp2_with (first
        | (rw [← hW0]; (go_at_call 84; (with_reducible refine H1.out.mono ?_); rintro e w1 ⟨rfl, hb1⟩; have HB1 := Lib.hid hb1; obtain ⟨t10, t11, t12⟩ := HC.out w1 hb1; clear hb1))
        | (go_at_call 85; (with_reducible refine (H2.out _ HB1.out).mono ?_); rintro e w2 ⟨rfl, hb2⟩; have HB2 := Lib.hid hb2; clear hb2))
      go_ret
      exact ⟨by rw [HE.out]; simp [hN', hD'], HB0.out.trans (HB2.out.mono HB0.out.size)⟩
set_option maxRecDepth 100000 in
set_option maxHeartbeats 1000000 in
theorem rbig_any (k : Nat) (F : Foot) (kd nd : Int) (l : List DescV) (a : Option Addr) (n cap : Nat) (w : World) (hl : RowOf (descRd k) 3 40 F w a n cap l) (hm : DescV.nodesL l < 1048576) :
    Calls Tryz.prog 78 #[.agg #[.int .i64 kd, .int .i64 nd, .slice a n cap]] w fun e w' => e = .returned (.bool (bigD (.mk kd nd l))) ∧ Below w.heap.size w w' := by
  obtain ⟨hb0, hz0, hc⟩ := desc_box kd nd a n cap w
  obtain ⟨W0, hW0⟩ : ∃ W0, W0 = w.alloc (.cells #[.int .i64 kd, .int .i64 nd, .slice a n cap] 42) := ⟨_, rfl⟩
  rw [← hW0] at hb0 hz0 hc
  have H1 := Lib.hid (list_any k F kd nd l a n cap W0 (hl.keep (descRd_ok _) (Fix.of_below hb0)) hm)
  have H2 : Hid (∀ W, Below W0.heap.size W0 W → Calls Tryz.prog 88 #[.agg #[.int .i64 kd, .int .i64 nd, .slice a n cap]] W fun e w' => e = .returned (.int .i64 ((DescV.depthL l + 1 : Nat) : Int)) ∧ Below W0.heap.size W0 w') := Lib.hid fun W hb =>
    (rdepth_any k F kd nd l a n cap W (hl.keep (descRd_ok _) (Fix.of_below (hb0.trans (hb.mono hb0.size)))) hm).mono fun e w' h => ⟨h.1, hb.trans (h.2.mono hb.size)⟩
  have HC := Lib.hid hc
  have HB0 := Lib.hid hb0
  have t0 := hc W0 (Below.refl _ _)
  obtain ⟨t00, t01, t02⟩ := t0
  have hE : bigD (.mk kd nd l) = decide (60 < 1 + DescV.nodesL l ∨ 12 < DescV.depthL l + 1) := by unfold bigD; rw [DescV.nodes_kids, DescV.depth_kids]; simp only [DescV.kids, Nat.add_comm]
  rw [hE]
  clear hl hm hb0 hz0 hc hE
  generalize 1 + DescV.nodesL l = N at *
  generalize DescV.depthL l + 1 = D at *
  by_cases hN : 60 < N
  · have hN' : (60 : Int) < N := by omega
    have HE : Hid (decide (60 < N ∨ 12 < D) = true) := Lib.hid (by simp [hN])
    go_enter Tryz.func78, Tryz.ntmps78
    go_wp2_with (rw [← hW0]; (go_at_call 34; (with_reducible refine H1.out.mono ?_); rintro e w1 ⟨a1, c1, x1, rfl, _, _, _, hb1⟩; have HB1 := Lib.hid hb1; clear hb1))
    go_ret
    exact ⟨by rw [HE.out]; simp [hN'], HB0.out.trans (HB1.out.mono HB0.out.size)⟩
  · have hN' : ¬ (60 : Int) < N := by omega
    by_cases hD : 12 < D
    · have hD' : (12 : Int) < D := by omega
      have HE : Hid (decide (60 < N ∨ 12 < D) = true) := Lib.hid (by simp [hD])
      go_enter Tryz.func78, Tryz.ntmps78
      go_wp2_with (first
        | (rw [← hW0]; (go_at_call 34; (with_reducible refine H1.out.mono ?_); rintro e w1 ⟨a1, c1, x1, rfl, _, _, _, hb1⟩; have HB1 := Lib.hid hb1; obtain ⟨t10, t11, t12⟩ := HC.out w1 hb1; clear hb1))
        | (go_at_call 88; (with_reducible refine (H2.out _ HB1.out).mono ?_); rintro e w2 ⟨rfl, hb2⟩; have HB2 := Lib.hid hb2; clear hb2))
      go_ret
      exact ⟨by rw [HE.out]; simp [hN', hD'], HB0.out.trans (HB2.out.mono HB0.out.size)⟩
    · have hD' : ¬ (12 : Int) < D := by omega
      have HE : Hid (decide (60 < N ∨ 12 < D) = false) := Lib.hid (by simp; omega)
      go_enter Tryz.func78, Tryz.ntmps78
      go_wp2_with (first
        | (rw [← hW0]; (go_at_call 34; (with_reducible refine H1.out.mono ?_); rintro e w1 ⟨a1, c1, x1, rfl, _, _, _, hb1⟩; have HB1 := Lib.hid hb1; obtain ⟨t10, t11, t12⟩ := HC.out w1 hb1; clear hb1))
        | (go_at_call 88; (with_reducible refine (H2.out _ HB1.out).mono ?_); rintro e w2 ⟨rfl, hb2⟩; have HB2 := Lib.hid hb2; clear hb2))
      go_ret
      exact ⟨by rw [HE.out]; simp [hN', hD'], HB0.out.trans (HB2.out.mono HB0.out.size)⟩
def okH (p : Int × Int) : Bool := decide (1 ≤ p.1 ∧ p.1 ≤ 7 ∧ 0 ≤ p.2 ∧ p.2 ≤ 999999999)
/-- The error of a tree that is to be printed. -/
def chkD (d : DescV) : Int := if bigD d = true then 12 else if d.heads.all okH = true then 0 else 8
end Go.Proofs.YtephllgddhncgaaGreatDoor.Lex
/- A tree's text: the program's. -/
namespace Go.Proofs.YtephllgddhncgaaGreatDoor.Lex
open Go.RowKit
set_option linter.unusedSimpArgs false
set_option linter.unusedVariables false
mutual
/-- A tree's text, if it has one. -/
def textD : DescV → Option (List UInt8)
  | .mk k n l => if okH (k, n) = true then (textsD l).map fun ts => wordD k ++ Lib.decDigits n.toNat ++ (if ts = [] then [] else [40] ++ Lib.join ts [44] ++ [41]) else none
def textsD : List DescV → Option (List (List UInt8))
  | [] => some []
  | d :: l => match textD d with | none => none | some t => (textsD l).map fun ts => t :: ts
end
theorem textsD_snoc : ∀ (l : List DescV) (d : DescV), textsD (l ++ [d]) = match textsD l with | none => none | some ts => (textD d).map fun t => ts ++ [t]
  | [], d => by
    rw [List.nil_append, textsD, textsD]
    cases textD d <;> simp [textsD]
  | a :: l, d => by
    rw [List.cons_append, textsD, textsD, textsD_snoc l d]
    cases textD a with
    | none => rfl
    | some t =>
      cases textsD l with
      | none => rfl
      | some ts => cases textD d <;> rfl
theorem textsD_none {l : List DescV} {i : Nat} (hi : i < l.length) (h : textD (l[i]'hi) = none) : textsD l = none := by
  induction l generalizing i with
  | nil => simp at hi
  | cons a l ih =>
    rw [textsD]
    cases i with
    | zero =>
      rw [List.getElem_cons_zero] at h
      rw [h]
    | succ i =>
      rw [ih (i := i) (by simpa using hi) (by simpa using h)]
      cases textD a <;> rfl
theorem textsD_len : ∀ {l : List DescV} {ts : List (List UInt8)}, textsD l = some ts → ts.length = l.length
  | [], ts, h => by cases h; rfl
  | a :: l, ts, h => by
    rw [textsD] at h
    cases ht : textD a with
    | none => rw [ht] at h; cases h
    | some t =>
      rw [ht] at h
      obtain ⟨r, hr, rfl⟩ := Option.map_eq_some_iff.1 h
      rw [List.length_cons, List.length_cons, textsD_len hr]
theorem join_len : ∀ (ts : List (List UInt8)), (Lib.join ts [44]).length ≤ (ts.map fun t => t.length + 1).sum
  | [] => by simp [Lib.join_nil]
  | [a] => by rw [Lib.join_one]; simp
  | a :: b :: r => by
    have h := join_len (b :: r)
    rw [Lib.join_cons] at h ⊢
    rw [show Lib.joinTail [44] (b :: r) = [44] ++ b ++ Lib.joinTail [44] r by simp [Lib.joinTail]]
    simp only [List.length_append, List.length_cons, List.length_nil, List.map_cons, List.sum_cons] at h ⊢
    omega
mutual
theorem textD_len : ∀ {d : DescV} {t : List UInt8}, textD d = some t → t.length + 1 ≤ 20 * d.nodes
  | .mk k n l, t, h => by
    rw [textD] at h
    split at h
    · next hok =>
      obtain ⟨ts, hts, rfl⟩ := Option.map_eq_some_iff.1 h
      have h1 := textsD_sum hts
      have h2 := wordD_len k
      have h3 := join_len ts
      have h4 : (Lib.decDigits n.toNat).length ≤ 9 := by
        rw [Lib.decDigits_length]
        unfold okH at hok
        simp at hok
        exact nDigits_le 8 _ (by omega)
      rw [DescV.nodes]
      simp only [List.length_append]
      split
      · simp; omega
      · simp only [List.length_append, List.length_cons, List.length_nil]; omega
    · cases h
theorem textsD_sum : ∀ {l : List DescV} {ts : List (List UInt8)}, textsD l = some ts → (ts.map fun t => t.length + 1).sum ≤ 20 * DescV.nodesL l
  | [], ts, h => by cases h; simp
  | a :: l, ts, h => by
    rw [textsD] at h
    cases ht : textD a with
    | none => rw [ht] at h; cases h
    | some t =>
      rw [ht] at h
      obtain ⟨r, hr, rfl⟩ := Option.map_eq_some_iff.1 h
      have h1 := textD_len ht
      have h2 := textsD_sum hr
      rw [DescV.nodesL, List.map_cons, List.sum_cons]
      omega
end
/-- A text, or none. -/
def tup2 : Option (List UInt8) → Value
  | none => .tuple #[.string ⟨#[]⟩, .bool false]
  | some t => .tuple #[.string (bs t), .bool true]
theorem join_row {w : World} {B : Nat} {v : Value} {ts : List (List UInt8)} (h : w.ownsRow B 9 1 v ts.length (ts.map fun t => .string (bs t))) (h0 : 0 < ts.length) (hl : (Lib.join ts [44]).length ≤ 140737488355328) (hn : ts.length ≤ 140737488355328) :
    Calls Tryz.prog 41 #[v, .string ⟨#[44]⟩] w fun e w' => e = .returned (.string (bs (Lib.join ts [44]))) ∧ Below w.heap.size w w' := by
  obtain ⟨g, cp, rfl, hbg, hgl, hgc, hgm⟩ := own_some h h0
  have e : (ts.map bs).map (·.data.toList) = ts := by rw [List.map_map, show ((fun x : ByteArray => x.data.toList) ∘ bs) = id from rfl, List.map_id]
  have hJ := Tryz.strings_Join g 0 cp (ts.map bs) ⟨#[44]⟩ w (fun j x hx => by
    rw [Nat.zero_add]
    refine (own_cell h (i := j) (u := .string x) ?_).1
    rw [List.getElem?_map, Option.map_eq_some_iff] at hx
    obtain ⟨t, ht, rfl⟩ := hx
    rw [List.getElem?_map, ht]
    rfl) hgl (by simpa using hn) (by simpa using hgc) (by rw [e]; exact hl)
  rw [e] at hJ
  rw [List.length_map] at hJ
  exact hJ
set_option maxRecDepth 100000 in
set_option maxHeartbeats 4000000 in
theorem text_step (k : Nat) (ih : ∀ j, k = j + 1 → ∀ (F : Foot) (kd nd : Int) (l : List DescV) (a : Option Addr) (n cap : Nat) (w : World), RowOf (descRd j) 3 40 F w a n cap l → DescV.nodesL l < 1048576 → HasMax w → HasTab w →
    Calls Tryz.prog 65 #[.agg #[.int .i64 kd, .int .i64 nd, .slice a n cap]] w fun e w' => e = .returned (tup2 (textD (.mk kd nd l))) ∧ Below w.heap.size w w') (F : Foot) (kd nd : Int) (l : List DescV) (a : Option Addr) (n cap : Nat) (w : World) (hl : RowOf (descRd k) 3 40 F w a n cap l) (hm : DescV.nodesL l < 1048576) (hx : HasMax w) (ht : HasTab w) :
    Calls Tryz.prog 65 #[.agg #[.int .i64 kd, .int .i64 nd, .slice a n cap]] w fun e w' => e = .returned (tup2 (textD (.mk kd nd l))) ∧ Below w.heap.size w w' := by
  have HLN := Lib.hid hl.len
  have hn : n ≤ 3518437208880 := by have := hl.room; omega
  obtain ⟨hb0, hz0, hc⟩ := desc_box kd nd a n cap w
  obtain ⟨W0, hW0⟩ : ∃ W0, W0 = w.alloc (.cells #[.int .i64 kd, .int .i64 nd, .slice a n cap] 42) := ⟨_, rfl⟩
  rw [← hW0] at hb0 hz0 hc
  have HC := Lib.hid hc
  have HB0 := Lib.hid hb0
  have HL := Lib.hid (hl.keep (descRd_ok _) (Fix.of_below hb0))
  have HM := Lib.hid hm
  have HIH := Lib.hid ih
  have HX := Lib.hid (hx.below hb0)
  have HT := Lib.hid (ht.below hb0)
  obtain ⟨t00, t01, t02⟩ := hc W0 (Below.refl _ _)
  obtain ⟨R, hR⟩ : ∃ R, tup2 (textD (.mk kd nd l)) = R := ⟨_, rfl⟩
  rw [hR]
  have HR := Lib.hid hR
  have HWD : Hid (∀ W, Below W0.heap.size W0 W → Calls Tryz.prog 86 #[.int .i64 kd] W fun e w' => e = .returned (.string (bs (wordD kd))) ∧ Below W0.heap.size W0 w') := Lib.hid fun W hb => (word_any kd W ((hx.below hb0).below hb)).mono fun e w' h => ⟨h.1, hb.trans (h.2.mono hb.size)⟩
  clear hl ih hm hb0 hx ht hc hR
  by_cases h1 : nd < 0 ∨ 999999999 < nd
  · have HBAD : Hid (R = .tuple #[.string ⟨#[]⟩, .bool false]) := Lib.hid (by rw [← HR.out, textD, if_neg (by unfold okH; simp; omega)]; rfl)
    have HD := Lib.hid (dig_no nd W0 h1)
    have hb0 := Below.refl W0.heap.size W0
    clear h1
    go_enter Tryz.func65, Tryz.ntmps65
    go_wp2_with (first
      | (rw [← hW0]; clear hW0; (go_at_call 39; (with_reducible refine HD.out.mono ?_); rintro e w1 ⟨rfl, rfl⟩))
      | (go_at_call 86; (with_reducible refine (HWD.out _ hb0).mono ?_); rintro e w2 ⟨rfl, hb2⟩; have HB2 := Lib.hid hb2; clear hb2))
    go_ret2
    exact ⟨by rw [HBAD.out]; rfl, HB0.out.trans (HB2.out.mono HB0.out.size)⟩
  obtain ⟨q, rfl⟩ : ∃ q : Nat, nd = q := ⟨nd.toNat, by omega⟩
  have hq : q ≤ 999999999 := by omega
  have HD := Lib.hid (dig_yes q W0 hq HT.out)
  by_cases h2 : kd < 1 ∨ 7 < kd
  · have HBAD : Hid (R = .tuple #[.string ⟨#[]⟩, .bool false]) := Lib.hid (by rw [← HR.out, textD, if_neg (by unfold okH; simp; omega)]; rfl)
    have hw0 : bs (wordD kd) = ⟨#[]⟩ := by unfold wordD; rw [if_neg (by omega)]; rfl
    rw [hw0] at HWD
    clear h1 h2 hw0
    go_enter Tryz.func65, Tryz.ntmps65
    go_wp2_with (first
      | (rw [← hW0]; clear hW0; (go_at_call 39; (with_reducible refine HD.out.mono ?_); rintro e w1 ⟨rfl, hb1⟩; obtain ⟨t10, t11, t12⟩ := HC.out w1 hb1))
      | (go_at_call 86; (with_reducible refine (HWD.out _ hb1).mono ?_); rintro e w2 ⟨rfl, hb2⟩; have HB2 := Lib.hid hb2; clear hb2))
    go_ret2
    exact ⟨by rw [HBAD.out]; rfl, HB0.out.trans (HB2.out.mono HB0.out.size)⟩
  have hne : bs (wordD kd) ≠ ⟨#[]⟩ := fun e => by
    have h := congrArg ByteArray.data e
    exact wordD_ne (k := kd) (by omega) (by have := congrArg Array.toList h; simpa [bs] using this)
  have hne' : ((bs (wordD kd)).toList == ([] : List UInt8)) = false := by
    rw [beq_eq_false_iff_ne]
    intro e
    exact hne (by have := congrArg ByteArray.data (show bs (wordD kd) = ⟨#[]⟩ from ByteArray.ext (by simpa [bs, ByteArray.toList_eq] using e)); exact ByteArray.ext this)
  have HOK : Hid (R = tup2 ((textsD l).map fun ts => wordD kd ++ Lib.decDigits q ++ (if ts = [] then [] else [40] ++ Lib.join ts [44] ++ [41]))) := Lib.hid (by rw [← HR.out, textD, if_pos (by unfold okH; simp; omega)]; rfl)
  have lw : (bs (wordD kd)).size ≤ 5 := by rw [size_bs]; exact wordD_len kd
  have ld : (bs (Lib.decDigits q)).size ≤ 19 := by rw [size_bs]; exact decDigits_len (by omega)
  generalize hWD : bs (wordD kd) = sw at *
  generalize hDD : bs (Lib.decDigits q) = sd at *
  have HSW := Lib.hid hWD
  have HSD := Lib.hid hDD
  clear h1 h2 hWD hDD hne
  go_enter Tryz.func65, Tryz.ntmps65
  go_wp2_with (first
    | (rw [← hW0]; clear hW0; (go_at_call 39; (with_reducible refine HD.out.mono ?_); rintro e w1 ⟨rfl, hb1⟩; obtain ⟨t10, t11, t12⟩ := HC.out w1 hb1))
    | (go_at_call 86; (with_reducible refine (HWD.out _ hb1).mono ?_); rintro e w2 ⟨rfl, hb2⟩; have HB2 := Lib.hid hb2; obtain ⟨t20, t21, t22⟩ := HC.out w2 hb2; clear hb2))
  clear t00 t01 t02 t10 t11 t12 t20 t21 t22 hb1
  have HB2L := Lib.hid (HL.out.keep (descRd_ok _) (Fix.of_below HB2.out))
  go_loopg [7, 30] n (fun g kv iv wr => ∃ (j : Nat) (ts : List (List UInt8)) (va : Option Addr) (vc : Nat), j ≤ n ∧ g = n - j ∧ iv = .int .i64 (j : Int) ∧ kv = .slice va j vc ∧ textsD (l.take j) = some ts ∧ ts.length = j ∧ wr.ownsRow W0.heap.size 9 1 (.slice va j vc) j (ts.map fun t => .string (bs t)) ∧ Below W0.heap.size W0 wr)
  case atStart => exact ⟨0, [], none, 0, by omega, rfl, rfl, rfl, rfl, rfl, World.ownsRow_nil _ _ _ _, HB2.out⟩
  case round =>
    obtain ⟨j, ts, va, vc, hj, rfl, rfl, rfl, hts, htl, ho, hB⟩ := hrel
    obtain ⟨wo, rfl⟩ : ∃ wo : World, wo = wr := ⟨_, rfl⟩
    have HTS := Lib.hid hts
    have HTL := Lib.hid htl
    have HO := Lib.hid ho
    have HB := Lib.hid hB
    clear hts htl ho
    by_cases hlt : j < n
    · obtain ⟨k, rfl⟩ : ∃ q, k = q + 1 := by
        cases k with
        | zero => exact absurd (row_no_zero HL.out) (fun e => by have := HLN.out; rw [e] at this; simp at this; omega)
        | succ q => exact ⟨q, rfl⟩
      have hil : j < l.length := by have := HLN.out; omega
      obtain ⟨b, off, ax, nx, cx, rfl, hbw, _, _, _, hk, p0, p1, p2⟩ := (HL.out.keep (descRd_ok _) (Fix.of_below hB)).desc j hil
      have HTK := Lib.hid (List.take_succ_eq_append_getElem hil)
      have HSUM := Lib.hid (DescV.nodesL_take_succ hil)
      have HLE := Lib.hid (DescV.nodesL_take_le l (j + 1))
      have HNK := Lib.hid (DescV.nodes_kids (l[j]'hil))
      have HNO : Hid (textD (l[j]'hil) = none → textsD l = none) := Lib.hid (textsD_none hil)
      generalize l[j]'hil = d at *
      obtain ⟨dk, dn, dl⟩ := d
      simp only [DescV.kind, DescV.n, DescV.kids] at p0 p1 p2 hk
      have HNK' : Hid ((DescV.mk dk dn dl).nodes = DescV.nodesL dl + 1) := HNK
      have hmd : DescV.nodesL dl < 1048576 := by have := HM.out; have := HSUM.out; have := HLE.out; have := HNK'.out; omega
      have HB4 : Hid (Below wo.heap.size wo (wo.alloc (.cells #[.int .i64 dk, .int .i64 dn, .slice ax nx cx] 42))) := Lib.hid ((Below.refl _ _).alloc (Nat.le_refl _) _)
      have HCX := Lib.hid (HIH.out k rfl F dk dn dl ax nx cx _ (hk.keep (descRd_ok _) (Fix.of_below HB4.out)) hmd (HX.out.below (hB.trans (HB4.out.mono hB.size))) (HT.out.below (hB.trans (HB4.out.mono hB.size))))
      clear hk hB hmd
      cases htd : textD (.mk dk dn dl) with
      | none =>
        rw [htd] at HCX
        have HBAD : Hid (R = .tuple #[.string ⟨#[]⟩, .bool false]) := Lib.hid (by rw [HOK.out, HNO.out htd]; rfl)
        dsimp only [tup2] at HCX
        clear htd
        go_wp2_with (go_at_call 65; (with_reducible refine HCX.out.mono ?_); rintro e w5 ⟨rfl, hb5⟩; have HB5 := Lib.hid hb5; clear hb5)
        go_ret2
        exact ⟨by rw [HBAD.out]; rfl, HB0.out.trans ((HB.out.trans ((HB4.out.trans (HB5.out.mono HB4.out.size)).mono HB.out.size)).mono HB0.out.size)⟩
      | some t =>
        rw [htd] at HCX
        have HTS2 : Hid (textsD (l.take (j + 1)) = some (ts ++ [t])) := Lib.hid (by rw [HTK.out, textsD_snoc, HTS.out]; simp [htd])
        dsimp only [tup2] at HCX
        clear htd
        go_wp2_with (first
          | (go_at_call 65; (with_reducible refine HCX.out.mono ?_); rintro e w5 ⟨rfl, hb5⟩; have HB5 := Lib.hid (HB.out.trans ((HB4.out.trans (hb5.mono HB4.out.size)).mono HB.out.size)); have HO5 := Lib.hid (own_below HO.out (HB4.out.trans (hb5.mono HB4.out.size))); have hsz5 := HB5.out.size; clear hb5)
          | (at_builtin; refine wpl_app1 rfl _ _ 82 rfl strElem _ _ _ rfl _ rfl rfl HO5.out HB5.out (Nat.le_refl _) hsz5 (by omega) (by unfold maxLen; omega) ?_; intro v' w6 hown6 hb6 _; have HO6 := Lib.hid hown6; have HB6 := Lib.hid hb6; clear hown6 hb6))
        have HO6' : Hid (w6.ownsRow W0.heap.size 9 1 v' (j + 1) ((ts ++ [t]).map fun t => .string (bs t))) := Lib.hid (by rw [List.map_append]; exact HO6.out)
        obtain ⟨a6, c6, hv6, _⟩ := own_row HO6.out
        subst hv6
        go_roundg (n - (j + 1))
        case measure => omega
        case rel => exact ⟨j + 1, ts ++ [t], a6, c6, by omega, rfl, by go_num, rfl, HTS2.out, by rw [List.length_append, HTL.out]; rfl, HO6'.out, HB6.out⟩
    · obtain rfl : j = n := by omega
      have HTS2 : Hid (textsD l = some ts) := Lib.hid (by have := HTS.out; rwa [List.take_of_length_le (by have := HLN.out; omega)] at this)
      have HSUMT := Lib.hid (textsD_sum HTS2.out)
      have HJL := Lib.hid (join_len ts)
      by_cases h0 : 0 < j
      · have hj0 : (0 : Int) < j := by omega
        have hJ : Calls Tryz.prog 41 #[.slice va j vc, .string ⟨#[44]⟩] wo fun e w' => e = .returned (.string (bs (Lib.join ts [44]))) ∧ Below wo.heap.size wo w' := by
          have h := HO.out
          rw [← HTL.out] at h ⊢
          exact join_row h (by have := HTL.out; omega) (by have := HJL.out; have := HSUMT.out; have := HM.out; omega) (by have := HTL.out; omega)
        have HJ := Lib.hid hJ
        have HRT : Hid (R = .tuple #[.string (sw ++ sd ++ (⟨#[40]⟩ ++ bs (Lib.join ts [44]) ++ ⟨#[41]⟩)), .bool true]) := Lib.hid (by
          rw [HOK.out, HTS2.out, ← HSW.out, ← HSD.out]
          have hne : ts ≠ [] := fun e => by have := HTL.out; rw [e] at this; simp at this; omega
          simp only [Option.map_some, tup2, if_neg hne]
          rw [show (⟨#[40]⟩ : ByteArray) = bs [40] from rfl, show (⟨#[41]⟩ : ByteArray) = bs [41] from rfl, bs_bs, bs_bs, bs_bs, bs_bs])
        have lj : (bs (Lib.join ts [44])).size ≤ 20971520 := by rw [size_bs]; have := HJL.out; have := HSUMT.out; have := HM.out; omega
        generalize bs (Lib.join ts [44]) = sj at *
        have ls : (sw ++ sd).size ≤ 24 := by rw [ByteArray.size_append]; omega
        have l1 : (⟨#[40]⟩ ++ sj : ByteArray).size ≤ 20971521 := by rw [ByteArray.size_append]; have : (⟨#[40]⟩ : ByteArray).size = 1 := rfl; omega
        have l2 : (⟨#[40]⟩ ++ sj ++ ⟨#[41]⟩ : ByteArray).size ≤ 20971522 := by rw [ByteArray.size_append]; have : (⟨#[41]⟩ : ByteArray).size = 1 := rfl; omega
        clear hJ h0
        go_wp2_with (go_at_call 41; (with_reducible refine HJ.out.mono ?_); rintro e w7 ⟨rfl, hb7⟩; have HB7 := Lib.hid (HB.out.trans (hb7.mono HB.out.size)); clear hb7)
        go_ret2
        exact ⟨by rw [HRT.out]; rfl, HB0.out.trans (HB7.out.mono HB0.out.size)⟩
      · have hj0 : ¬ (0 : Int) < j := by omega
        have HRT : Hid (R = .tuple #[.string (sw ++ sd), .bool true]) := Lib.hid (by
          rw [HOK.out, HTS2.out, ← HSW.out, ← HSD.out]
          have hne : ts = [] := List.eq_nil_of_length_eq_zero (by have := HTL.out; omega)
          simp only [Option.map_some, tup2, if_pos hne]
          rw [bs_bs, List.append_nil])
        go_wp2_with fail
        go_ret2
        exact ⟨by rw [HRT.out]; rfl, HB0.out.trans (HB.out.mono HB0.out.size)⟩
theorem text_any : ∀ (k : Nat) (F : Foot) (kd nd : Int) (l : List DescV) (a : Option Addr) (n cap : Nat) (w : World), RowOf (descRd k) 3 40 F w a n cap l → DescV.nodesL l < 1048576 → HasMax w → HasTab w →
    Calls Tryz.prog 65 #[.agg #[.int .i64 kd, .int .i64 nd, .slice a n cap]] w fun e w' => e = .returned (tup2 (textD (.mk kd nd l))) ∧ Below w.heap.size w w'
  | 0 => text_step 0 fun j h => by omega
  | k + 1 => text_step (k + 1) fun j h => by
    obtain rfl : k = j := by omega
    exact text_any k
end Go.Proofs.YtephllgddhncgaaGreatDoor.Lex
/- dtext.Print; the reference's Text. -/
namespace Go.Proofs.YtephllgddhncgaaGreatDoor.Lex
open Go.RowKit
set_option linter.unusedSimpArgs false
set_option linter.unusedVariables false
/-- What Print tells. -/
def printD (d : DescV) : Value := if bigD d = true then .tuple #[.string ⟨#[]⟩, .int .i64 12] else match textD d with | none => .tuple #[.string ⟨#[]⟩, .int .i64 8] | some t => .tuple #[.string (bs t), .int .i64 0]
set_option maxRecDepth 100000 in
set_option maxHeartbeats 1000000 in
theorem print_any (k : Nat) (F : Foot) (kd nd : Int) (l : List DescV) (a : Option Addr) (n cap : Nat) (w : World) (hl : RowOf (descRd k) 3 40 F w a n cap l) (hm : DescV.nodesL l < 1048576) (hx : HasMax w) (ht : HasTab w) :
    Calls Tryz.prog 40 #[.agg #[.int .i64 kd, .int .i64 nd, .slice a n cap]] w fun e w' => e = .returned (printD (.mk kd nd l)) ∧ Below w.heap.size w w' := by
  obtain ⟨hb0, hz0, hc⟩ := desc_box kd nd a n cap w
  obtain ⟨W0, hW0⟩ : ∃ W0, W0 = w.alloc (.cells #[.int .i64 kd, .int .i64 nd, .slice a n cap] 42) := ⟨_, rfl⟩
  rw [← hW0] at hb0 hz0 hc
  have HB0 := Lib.hid hb0
  have HC := Lib.hid hc
  have H1 := Lib.hid (big_any k F kd nd l a n cap W0 (hl.keep (descRd_ok _) (Fix.of_below hb0)) hm)
  have H2 : Hid (∀ W, Below W0.heap.size W0 W → Calls Tryz.prog 65 #[.agg #[.int .i64 kd, .int .i64 nd, .slice a n cap]] W fun e w' => e = .returned (tup2 (textD (.mk kd nd l))) ∧ Below W0.heap.size W0 w') := Lib.hid fun W hb =>
    (text_any k F kd nd l a n cap W (hl.keep (descRd_ok _) (Fix.of_below (hb0.trans (hb.mono hb0.size)))) hm (hx.below (hb0.trans (hb.mono hb0.size))) (ht.below (hb0.trans (hb.mono hb0.size)))).mono fun e w' h => ⟨h.1, hb.trans (h.2.mono hb.size)⟩
  obtain ⟨t00, t01, t02⟩ := hc W0 (Below.refl _ _)
  unfold printD
  obtain ⟨R, hR⟩ : ∃ R : Value, (if bigD (.mk kd nd l) = true then Value.tuple #[.string ⟨#[]⟩, .int .i64 12] else match textD (.mk kd nd l) with | none => .tuple #[.string ⟨#[]⟩, .int .i64 8] | some t => .tuple #[.string (bs t), .int .i64 0]) = R := ⟨_, rfl⟩
  rw [hR]
  have HR := Lib.hid hR
  clear hl hm hx ht hb0 hz0 hc hR
  generalize bigD (.mk kd nd l) = B at *
  generalize textD (.mk kd nd l) = T at *
  cases B with
  | true =>
    clear H2
    go_enter Tryz.func40, Tryz.ntmps40
    go_wp2_with (rw [← hW0]; clear hW0; (go_at_call 64; (with_reducible refine H1.out.mono ?_); rintro e w1 ⟨rfl, hb1⟩; have HB1 := Lib.hid hb1; clear hb1))
    go_ret2
    exact ⟨by rw [← HR.out]; rfl, HB0.out.trans (HB1.out.mono HB0.out.size)⟩
  | false =>
    cases T with
    | none =>
      dsimp only [tup2] at H2
      go_enter Tryz.func40, Tryz.ntmps40
      go_wp2_with (first
        | (rw [← hW0]; clear hW0; (go_at_call 64; (with_reducible refine H1.out.mono ?_); rintro e w1 ⟨rfl, hb1⟩; have HB1 := Lib.hid hb1; obtain ⟨t10, t11, t12⟩ := HC.out w1 hb1; clear hb1))
        | (go_at_call 65; (with_reducible refine (H2.out _ HB1.out).mono ?_); rintro e w2 ⟨rfl, hb2⟩; have HB2 := Lib.hid hb2; clear hb2))
      go_ret2
      exact ⟨by rw [← HR.out]; rfl, HB0.out.trans (HB2.out.mono HB0.out.size)⟩
    | some t =>
      dsimp only [tup2] at H2
      go_enter Tryz.func40, Tryz.ntmps40
      go_wp2_with (first
        | (rw [← hW0]; clear hW0; (go_at_call 64; (with_reducible refine H1.out.mono ?_); rintro e w1 ⟨rfl, hb1⟩; have HB1 := Lib.hid hb1; obtain ⟨t10, t11, t12⟩ := HC.out w1 hb1; clear hb1))
        | (go_at_call 65; (with_reducible refine (H2.out _ HB1.out).mono ?_); rintro e w2 ⟨rfl, hb2⟩; have HB2 := Lib.hid hb2; clear hb2))
      go_ret2
      exact ⟨by rw [← HR.out]; rfl, HB0.out.trans (HB2.out.mono HB0.out.size)⟩
theorem join_snoc (ts : List (List UInt8)) (t : List UInt8) (h : ts ≠ []) : Lib.join (ts ++ [t]) [44] = Lib.join ts [44] ++ [44] ++ t := by
  cases ts with
  | nil => exact absurd rfl h
  | cons a r =>
    rw [List.cons_append, Lib.join_cons, Lib.join_cons]
    simp [Lib.joinTail]
/-- What is told so far: a word, its digits, the first i kids. -/
def soFar (hd : List UInt8) (ts : List (List UInt8)) (i : Nat) : List UInt8 := hd ++ if i = 0 then [] else [40] ++ Lib.join (ts.take i) [44]
theorem soFar_zero (hd : List UInt8) (ts : List (List UInt8)) : soFar hd ts 0 = hd := by simp [soFar]
theorem soFar_one {hd : List UInt8} {ts : List (List UInt8)} {t : List UInt8} (h : ts[0]? = some t) : soFar hd ts 1 = hd ++ [40] ++ t := by
  cases ts with
  | nil => simp at h
  | cons a r =>
    obtain rfl : a = t := by simpa using h
    simp [soFar, Lib.join_one]
theorem soFar_succ {hd : List UInt8} {ts : List (List UInt8)} {t : List UInt8} {i : Nat} (h : ts[i]? = some t) (h0 : 0 < i) : soFar hd ts (i + 1) = soFar hd ts i ++ [44] ++ t := by
  have hi := (List.getElem?_eq_some_iff.1 h).1
  rw [soFar, soFar, if_neg (by omega), if_neg (by omega), List.take_succ_eq_append_getElem hi, (List.getElem?_eq_some_iff.1 h).2, join_snoc _ _ (fun e => by have := congrArg List.length e; rw [List.length_take, List.length_nil] at this; omega)]
  simp
theorem textsD_get : ∀ {l : List DescV} {ts : List (List UInt8)}, textsD l = some ts → ∀ {i : Nat} (hi : i < l.length), ∃ t, ts[i]? = some t ∧ textD (l[i]'hi) = some t
  | [], ts, h, i, hi => by simp at hi
  | a :: l, ts, h, i, hi => by
    rw [textsD] at h
    cases ht : textD a with
    | none => rw [ht] at h; cases h
    | some t =>
      rw [ht] at h
      obtain ⟨r, hr, rfl⟩ := Option.map_eq_some_iff.1 h
      cases i with
      | zero => exact ⟨t, rfl, by simpa using ht⟩
      | succ i =>
        obtain ⟨u, h1, h2⟩ := textsD_get hr (i := i) (by simpa using hi)
        exact ⟨u, by simpa using h1, by simpa using h2⟩
set_option maxRecDepth 100000 in
set_option maxHeartbeats 4000000 in
theorem rtext_step (k : Nat) (ih : ∀ j, k = j + 1 → ∀ (F : Foot) (kd nd : Int) (l : List DescV) (a : Option Addr) (n cap : Nat) (w : World) (t : List UInt8), RowOf (descRd j) 3 40 F w a n cap l → DescV.nodesL l < 1048576 → textD (.mk kd nd l) = some t →
    Calls Tryz.prog 50 #[.agg #[.int .i64 kd, .int .i64 nd, .slice a n cap]] w fun e w' => e = .returned (.string (bs t)) ∧ Below w.heap.size w w') (F : Foot) (kd nd : Int) (l : List DescV) (a : Option Addr) (n cap : Nat) (w : World) (t : List UInt8) (hl : RowOf (descRd k) 3 40 F w a n cap l) (hm : DescV.nodesL l < 1048576) (htx : textD (.mk kd nd l) = some t) :
    Calls Tryz.prog 50 #[.agg #[.int .i64 kd, .int .i64 nd, .slice a n cap]] w fun e w' => e = .returned (.string (bs t)) ∧ Below w.heap.size w w' := by
  have HLN := Lib.hid hl.len
  have hn : n ≤ 3518437208880 := by have := hl.room; omega
  obtain ⟨hb0, hz0, hc⟩ := desc_box kd nd a n cap w
  obtain ⟨W0, hW0⟩ : ∃ W0, W0 = w.alloc (.cells #[.int .i64 kd, .int .i64 nd, .slice a n cap] 42) := ⟨_, rfl⟩
  rw [← hW0] at hb0 hz0 hc
  have HC := Lib.hid hc
  have HB0 := Lib.hid hb0
  have HL := Lib.hid (hl.keep (descRd_ok _) (Fix.of_below hb0))
  have HM := Lib.hid hm
  have HIH := Lib.hid ih
  have hlen := textD_len htx
  rw [textD] at htx
  split at htx
  · next hok =>
    obtain ⟨ts, hts, htt⟩ := Option.map_eq_some_iff.1 htx
    have hok' : 1 ≤ kd ∧ kd ≤ 7 ∧ 0 ≤ nd ∧ nd ≤ 999999999 := by unfold okH at hok; simpa using hok
    obtain ⟨h1, h2, h3, h4⟩ := hok'
    obtain ⟨q, rfl⟩ : ∃ q : Nat, nd = q := ⟨nd.toNat, by omega⟩
    have hq : q ≤ 999999999 := by omega
    rw [Int.toNat_natCast] at htt
    have HTS := Lib.hid hts
    have HTT : Hid (t = soFar (wordD kd ++ Lib.decDigits q) ts n ++ if n = 0 then [] else [41]) := Lib.hid (by
      rw [← htt, soFar]
      have hl := textsD_len hts
      by_cases h0 : n = 0
      · rw [if_pos h0, if_pos h0, if_pos (List.eq_nil_of_length_eq_zero (by rw [hl, HLN.out]; exact h0))]
        simp
      · rw [if_neg h0, if_neg h0, if_neg (fun e => by rw [e] at hl; have := HLN.out; simp at hl; omega), List.take_of_length_le (by rw [hl, HLN.out]; exact Nat.le_refl _)]
        simp)
    have HRW := Lib.hid (fun W => rword23 kd W (by omega) (by omega))
    have HRD := Lib.hid (fun W => rdig q W (by omega))
    have hlw : (bs (wordD kd)).size ≤ 5 := by rw [size_bs]; exact wordD_len kd
    have hld : (bs (Lib.decDigits q)).size ≤ 19 := by rw [size_bs]; exact decDigits_len (by omega)
    have hsum : ¬ 9223372036854775807 < (bs (wordD kd)).size + (bs (Lib.decDigits q)).size := by omega
    have HHD : Hid (bs (wordD kd) ++ bs (Lib.decDigits q) = bs (soFar (wordD kd ++ Lib.decDigits q) ts 0)) := Lib.hid (by rw [bs_bs, soFar_zero])
    have hts0 : (soFar (wordD kd ++ Lib.decDigits q) ts n).length ≤ 20971520 := by
      have : t.length ≤ 20971520 := by rw [DescV.nodes] at hlen; omega
      rw [HTT.out, List.length_append] at this
      omega
    have HMON : Hid (∀ i, i ≤ n → (soFar (wordD kd ++ Lib.decDigits q) ts i).length ≤ 20971520) := Lib.hid (by
      have step : ∀ i, i < n → (soFar (wordD kd ++ Lib.decDigits q) ts i).length ≤ (soFar (wordD kd ++ Lib.decDigits q) ts (i + 1)).length := fun i hi => by
        obtain ⟨u, hu, _⟩ := textsD_get hts (i := i) (by rw [HLN.out]; exact hi)
        by_cases h0 : i = 0
        · subst h0
          rw [soFar_one hu, soFar_zero]
          try (simp only [List.length_append] <;> omega)
        · rw [soFar_succ hu (by omega)]
          simp
      have down : ∀ m i, i + m = n → (soFar (wordD kd ++ Lib.decDigits q) ts i).length ≤ 20971520 := fun m => by
        induction m with
        | zero => intro i hi; rw [show i = n by omega]; exact hts0
        | succ m ih2 => intro i hi; exact Nat.le_trans (step i (by omega)) (ih2 (i + 1) (by omega))
      exact fun i hi => down (n - i) i (by omega))
    generalize wordD kd ++ Lib.decDigits q = hd at *
    have hbz := Below.refl W0.heap.size W0
    obtain ⟨t00, t01, t02⟩ := hc W0 hbz
    clear hl ih hm hlen htx hok hts htt h1 h2 h3 h4 hb0 hc hts0
    go_enter Tryz.func50, Tryz.ntmps50
    go_upto_region 1 with fail
    rw [← hW0]
    clear hW0
    go_region_held3 (fun W => W.cell? ⟨w.heap.size, 0, none⟩ = some (.int .i64 kd) ∧ W.cell? ⟨w.heap.size, 1, none⟩ = some (.int .i64 (q : Int)) ∧ W.cell? ⟨w.heap.size, 2, none⟩ = some (.slice a n cap)) (first | exact HC.out _ (by first | assumption | exact Below.drew (by assumption)))
      ((first
        | (go_at_call 75; (with_reducible refine (HRW.out _).mono ?_); rintro e w2 ⟨rfl, hb2⟩; have hb2z : Below W0.heap.size W0 w2 := Below.trans (by first | assumption | exact Below.drew (by assumption)) (hb2.mono (Nat.le_refl _)); clear hb2)
        | (go_at_call 49; (with_reducible refine (HRD.out _).mono ?_); rintro e w3 ⟨rfl, rfl⟩)))
    rw [HHD.out]
    have HB2 := Lib.hid hb2z
    go_wp2_with fail
    clear hb2z hbz t00 t01 t02 hsum hlw hld HRW HRD HHD
    go_loopg [3, 4] n (fun g sv iv wr => ∃ j : Nat, j ≤ n ∧ g = n - j ∧ iv = .int .i64 (j : Int) ∧ sv = .string (bs (soFar hd ts j)) ∧ Below W0.heap.size W0 wr)
    case atStart => exact ⟨0, by omega, rfl, rfl, rfl, HB2.out⟩
    case round =>
      obtain ⟨j, hj, rfl, rfl, rfl, hB⟩ := hrel
      obtain ⟨wo, rfl⟩ : ∃ wo : World, wo = wr := ⟨_, rfl⟩
      have HB := Lib.hid hB
      obtain ⟨b00, b01, b02⟩ := HC.out wo hB
      have hsz : (bs (soFar hd ts j)).size ≤ 20971520 := by rw [size_bs]; exact HMON.out j hj
      by_cases hlt : j < n
      · obtain ⟨k, rfl⟩ : ∃ q, k = q + 1 := by
          cases k with
          | zero => exact absurd (row_no_zero HL.out) (fun e => by have := HLN.out; rw [e] at this; simp at this; omega)
          | succ q => exact ⟨q, rfl⟩
        have hil : j < l.length := by have := HLN.out; omega
        obtain ⟨b, off, ax, nx, cx, rfl, hbw, _, _, _, hk, p0, p1, p2⟩ := (HL.out.keep (descRd_ok _) (Fix.of_below hB)).desc j hil
        obtain ⟨u, hu, htd⟩ := textsD_get HTS.out hil
        have HSUM := Lib.hid (DescV.nodesL_take_succ hil)
        have HLE := Lib.hid (DescV.nodesL_take_le l (j + 1))
        have HNK := Lib.hid (DescV.nodes_kids (l[j]'hil))
        generalize l[j]'hil = d at *
        obtain ⟨dk, dn, dl⟩ := d
        simp only [DescV.kind, DescV.n, DescV.kids] at p0 p1 p2 hk
        have HNK' : Hid ((DescV.mk dk dn dl).nodes = DescV.nodesL dl + 1) := HNK
        have hmd : DescV.nodesL dl < 1048576 := by have := HM.out; have := HSUM.out; have := HLE.out; have := HNK'.out; omega
        have HCX := Lib.hid (HIH.out k rfl F dk dn dl ax nx cx wo u hk hmd htd)
        have hus : (bs u).size ≤ 20971520 := by rw [size_bs]; have := textD_len htd; rw [DescV.nodes] at this; omega
        by_cases h0 : j = 0
        · subst h0
          rw [Nat.zero_mul, Nat.add_zero] at p0 p1 p2
          have HSO : Hid (bs (soFar hd ts 0) ++ ⟨#[40]⟩ ++ bs u = bs (soFar hd ts (0 + 1))) := Lib.hid (by rw [show (⟨#[40]⟩ : ByteArray) = bs [40] from rfl, bs_bs, bs_bs, soFar_one hu, soFar_zero])
          have hs1 : (bs (soFar hd ts 0) ++ ⟨#[40]⟩ : ByteArray).size ≤ 20971521 := by rw [ByteArray.size_append]; have : (⟨#[40]⟩ : ByteArray).size = 1 := rfl; omega
          clear hk hB hmd hu htd
          go_wp2_with (go_at_call 50; (with_reducible refine HCX.out.mono ?_); rintro e w5 ⟨rfl, hb5⟩; have HB5 := Lib.hid (HB.out.trans (hb5.mono HB.out.size)); clear hb5)
          rw [HSO.out]
          go_roundg (n - (0 + 1))
          case measure => omega
          case rel => exact ⟨0 + 1, by omega, rfl, by go_num, rfl, HB5.out⟩
        · have hj0 : ((j : Int) == 0) = false := by rw [beq_eq_false_iff_ne]; omega
          have HSO : Hid (bs (soFar hd ts j) ++ ⟨#[44]⟩ ++ bs u = bs (soFar hd ts (j + 1))) := Lib.hid (by rw [show (⟨#[44]⟩ : ByteArray) = bs [44] from rfl, bs_bs, bs_bs, soFar_succ hu (by omega)])
          have hs1 : (bs (soFar hd ts j) ++ ⟨#[44]⟩ : ByteArray).size ≤ 20971521 := by rw [ByteArray.size_append]; have : (⟨#[44]⟩ : ByteArray).size = 1 := rfl; omega
          clear hk hB hmd hu htd
          go_wp2_with (go_at_call 50; (with_reducible refine HCX.out.mono ?_); rintro e w5 ⟨rfl, hb5⟩; have HB5 := Lib.hid (HB.out.trans (hb5.mono HB.out.size)); clear hb5)
          rw [HSO.out]
          go_roundg (n - (j + 1))
          case measure => omega
          case rel => exact ⟨j + 1, by omega, rfl, by go_num, rfl, HB5.out⟩
      · obtain rfl : j = n := by omega
        by_cases h0 : 0 < j
        · have hj0 : (0 : Int) < j := by omega
          have HFIN : Hid (bs (soFar hd ts j) ++ ⟨#[41]⟩ = bs t) := Lib.hid (by rw [HTT.out, if_neg (by omega), show (⟨#[41]⟩ : ByteArray) = bs [41] from rfl, bs_bs])
          clear h0 hB
          go_wp2_with fail
          rw [HFIN.out]
          go_ret
          exact ⟨rfl, HB0.out.trans (HB.out.mono HB0.out.size)⟩
        · have hj0 : ¬ (0 : Int) < j := by omega
          have HFIN : Hid (bs (soFar hd ts j) = bs t) := Lib.hid (by rw [HTT.out, if_pos (by omega), List.append_nil])
          clear h0 hB
          go_wp2_with fail
          rw [HFIN.out]
          go_ret
          exact ⟨rfl, HB0.out.trans (HB.out.mono HB0.out.size)⟩
  · cases htx
theorem rtext_any : ∀ (k : Nat) (F : Foot) (kd nd : Int) (l : List DescV) (a : Option Addr) (n cap : Nat) (w : World) (t : List UInt8), RowOf (descRd k) 3 40 F w a n cap l → DescV.nodesL l < 1048576 → textD (.mk kd nd l) = some t →
    Calls Tryz.prog 50 #[.agg #[.int .i64 kd, .int .i64 nd, .slice a n cap]] w fun e w' => e = .returned (.string (bs t)) ∧ Below w.heap.size w w'
  | 0 => rtext_step 0 fun j h => by omega
  | k + 1 => rtext_step (k + 1) fun j h => by
    obtain rfl : k = j := by omega
    exact rtext_any k
end Go.Proofs.YtephllgddhncgaaGreatDoor.Lex
/- entry.Check, entry.Print. -/
namespace Go.Proofs.YtephllgddhncgaaGreatDoor.Lex
open Go.RowKit
set_option linter.unusedSimpArgs false
set_option linter.unusedVariables false
theorem nodeB_ok {kd nd : Int} {l : List DescV} (h : nodeB kd nd l = true) : okH (kd, nd) = true := by
  unfold okH
  rw [decide_eq_true_iff]
  dsimp only
  unfold nodeB at h
  split at h
  · next e =>
    simp only [Bool.and_eq_true, decide_eq_true_eq] at h
    have := hasB_le h.2.1
    omega
  · split at h
    · next e =>
      unfold smallB at h
      simp only [Bool.and_eq_true, decide_eq_true_eq] at h
      omega
    · split at h
      · next e =>
        unfold stockB at h
        simp only [Bool.and_eq_true, decide_eq_true_eq] at h
        omega
      · split at h
        · next e =>
          unfold sidesB at h
          simp only [Bool.and_eq_true, decide_eq_true_eq] at h
          have := hasB_le h.2.1
          omega
        · split at h
          · next e =>
            unfold sidesB at h
            simp only [Bool.and_eq_true, decide_eq_true_eq] at h
            have := hasB_le h.2.2.1
            omega
          · split at h
            · next e =>
              unfold singleB at h
              simp only [Bool.and_eq_true, decide_eq_true_eq] at h
              have := hasB_le h.2.2.2.1
              omega
            · split at h
              · next e =>
                unfold singleB at h
                simp only [Bool.and_eq_true, decide_eq_true_eq] at h
                have := hasB_le h.2.2.1
                omega
              · cases h
mutual
theorem right_text : ∀ {d : DescV}, d.rightD = true → ∃ t, textD d = some t
  | .mk k n l, h => by
    rw [DescV.rightD, Bool.and_eq_true] at h
    obtain ⟨ts, hts⟩ := right_texts h.2
    rw [textD, if_pos (nodeB_ok h.1), hts]
    exact ⟨_, rfl⟩
theorem right_texts : ∀ {l : List DescV}, DescV.rightL l = true → ∃ ts, textsD l = some ts
  | [], _ => ⟨[], by rw [textsD]⟩
  | d :: l, h => by
    rw [DescV.rightL, Bool.and_eq_true] at h
    obtain ⟨t, ht⟩ := right_text h.1
    obtain ⟨ts, hts⟩ := right_texts h.2
    exact ⟨t :: ts, by rw [textsD, ht, hts]; rfl⟩
end
theorem checkE_zero {d : DescV} (h : checkE d = 0) : bigD d = false ∧ d.rightD = true := by
  unfold checkE at h
  split at h
  · cases h
  · next hb =>
    split at h
    · next hr => exact ⟨by simpa using hb, hr⟩
    · cases h
theorem forE_zero {kn kd : Int} {d : DescV} (h : forE kn kd d = 0) : hasB kn = true ∧ (kd = 0 ∨ kd = 1) ∧ bigD d = false ∧ d.rightD = true ∧ d.n = kn := by
  unfold forE at h
  split at h
  · next h1 =>
    split at h
    · next h2 =>
      split at h
      · next h3 =>
        split at h
        · next h4 => exact ⟨h1, h2, (checkE_zero h3).1, (checkE_zero h3).2, h4⟩
        · cases h
      · next h3 => exact absurd h h3
    · cases h
  · cases h
/-- An entry's line. -/
def lineE (kn kd : Int) (t : List UInt8) : List UInt8 := Lib.decDigits kn.toNat ++ [32] ++ Lib.decDigits kd.toNat ++ [32] ++ t
def printE (kn kd : Int) (d : DescV) : Value := if forE kn kd d = 0 then (match textD d with | none => .tuple #[.string ⟨#[]⟩, .int .i64 8] | some t => .tuple #[.string (bs (lineE kn kd t)), .int .i64 0]) else .tuple #[.string ⟨#[]⟩, .int .i64 (forE kn kd d)]
set_option maxRecDepth 100000 in
set_option maxHeartbeats 1000000 in
theorem echeck_any (k : Nat) (F : Foot) (kn kr kd nd : Int) (l : List DescV) (a : Option Addr) (n cap : Nat) (w : World) (hl : RowOf (descRd k) 3 40 F w a n cap l) (hk : k ≤ 1048576) (hbg : BigAt k kd nd l) :
    Calls Tryz.prog 17 #[.agg #[.int .i64 kn, .int .i64 kr, .int .i64 kd, .int .i64 nd, .slice a n cap]] w fun e w' => e = .returned (.int .i64 (forE kn kr (.mk kd nd l))) ∧ Below w.heap.size w w' := by
  have hb : Below w.heap.size w (w.alloc (.cells #[.int .i64 kn, .int .i64 kr, .int .i64 kd, .int .i64 nd, .slice a n cap] 44)) := (Below.refl _ _).alloc (Nat.le_refl _) _
  have HB := Lib.hid hb
  have HC := Lib.hid (for_any k F kn kr kd nd l a n cap _ (hl.keep (descRd_ok _) (Fix.of_below hb)) hk hbg)
  clear hl hb hbg
  go_enter Tryz.func17, Tryz.ntmps17
  go_wp2_with (go_at_call 35; (with_reducible refine HC.out.mono ?_); rintro e w2 ⟨rfl, hb2⟩; have HB2 := Lib.hid (HB.out.trans (hb2.mono HB.out.size)); clear hb2)
  go_ret
  exact ⟨rfl, HB2.out⟩
set_option maxRecDepth 100000 in
set_option maxHeartbeats 4000000 in
theorem eprint_any (k : Nat) (F : Foot) (kn kr kd nd : Int) (l : List DescV) (a : Option Addr) (n cap : Nat) (w : World) (hl : RowOf (descRd k) 3 40 F w a n cap l) (hk : k ≤ 1048576) (hm : DescV.nodesL l < 1048576) (hbg : BigAt k kd nd l) (hx : HasMax w) (ht : HasTab w) :
    Calls Tryz.prog 21 #[.agg #[.int .i64 kn, .int .i64 kr, .int .i64 kd, .int .i64 nd, .slice a n cap]] w fun e w' => e = .returned (printE kn kr (.mk kd nd l)) ∧ Below w.heap.size w w' := by
  obtain ⟨W1, hW1⟩ : ∃ W1, W1 = w.alloc (.cells #[.int .i64 kn, .int .i64 kr, .int .i64 kd, .int .i64 nd, .slice a n cap] 44) := ⟨_, rfl⟩
  have hb1 : Below w.heap.size w W1 := by rw [hW1]; exact (Below.refl _ _).alloc (Nat.le_refl _) _
  have g1 : W1.heap[w.heap.size]? = some (.cells #[.int .i64 kn, .int .i64 kr, .int .i64 kd, .int .i64 nd, .slice a n cap] 44 (0, 0)) := by rw [hW1]; exact heap_alloc_new w _
  have hz1 : w.heap.size < W1.heap.size := by rw [hW1]; simp
  have hl1 := hl.keep (descRd_ok _) (Fix.of_below hb1)
  have HB := Lib.hid hb1
  have HT : Hid (∀ w2, Below W1.heap.size W1 w2 → w2.cell? ⟨w.heap.size, 0, none⟩ = some (.int .i64 kn) ∧ w2.cell? ⟨w.heap.size, 1, none⟩ = some (.int .i64 kr) ∧ w2.cell? ⟨w.heap.size, 2, none⟩ = some (.int .i64 kd) ∧ w2.cell? ⟨w.heap.size, 3, none⟩ = some (.int .i64 nd) ∧ w2.cell? ⟨w.heap.size, 4, none⟩ = some (.slice a n cap)) := Lib.hid fun w2 hb => by
    have g := (hb.block _ hz1).trans g1
    exact ⟨cell_at g rfl, cell_at g rfl, cell_at g rfl, cell_at g rfl, cell_at g rfl⟩
  obtain ⟨c0, c1, c2, c3, c4⟩ := HT.out W1 (Below.refl _ _)
  have HC := Lib.hid (echeck_any k F kn kr kd nd l a n cap W1 hl1 hk hbg)
  have HL := Lib.hid hl1
  have HX := Lib.hid (hx.below hb1)
  have HTB := Lib.hid (ht.below hb1)
  have HM := Lib.hid hm
  clear hl hl1 hb1 g1 hbg hx ht hm
  by_cases hf : forE kn kr (.mk kd nd l) = 0
  · obtain ⟨h1, h2, h3, h4, h5⟩ := forE_zero hf
    obtain ⟨t, htx⟩ := right_text h4
    have hkn := hasB_le h1
    obtain ⟨m, rfl⟩ : ∃ m : Nat, kn = m := ⟨kn.toNat, by omega⟩
    obtain ⟨r, rfl⟩ : ∃ r : Nat, kr = r := ⟨kr.toNat, by omega⟩
    obtain ⟨lz, hlz⟩ : ∃ lz, lz = lineE m r t := ⟨_, rfl⟩
    have HPE : Hid (printE m r (.mk kd nd l) = .tuple #[.string (bs lz), .int .i64 0]) := Lib.hid (by unfold printE; rw [if_pos hf, htx, hlz])
    have HLZ : Hid (lz = Lib.decDigits m ++ [32] ++ Lib.decDigits r ++ [32] ++ t) := Lib.hid (by rw [hlz]; unfold lineE; rw [Int.toNat_natCast, Int.toNat_natCast])
    have HF := Lib.hid hf
    have HPD : Hid (printD (.mk kd nd l) = .tuple #[.string (bs t), .int .i64 0]) := Lib.hid (by unfold printD; rw [h3, htx]; rfl)
    have HTL := Lib.hid (textD_len htx)
    have HDG1 : Hid (∀ W, Below W1.heap.size W1 W → Calls Tryz.prog 39 #[.int .i64 (m : Int)] W fun e w' => e = .returned (.tuple #[.string (bs (Lib.decDigits m)), .int .i64 0]) ∧ Below W.heap.size W w') := Lib.hid fun W hb => dig_yes m W (by omega) (HTB.out.below hb)
    have HDG2 : Hid (∀ W, Below W1.heap.size W1 W → Calls Tryz.prog 39 #[.int .i64 (r : Int)] W fun e w' => e = .returned (.tuple #[.string (bs (Lib.decDigits r)), .int .i64 0]) ∧ Below W.heap.size W w') := Lib.hid fun W hb => dig_yes r W (by omega) (HTB.out.below hb)
    have HLN1 := Lib.hid (decDigits_len (n := m) (by omega))
    have HLN2 := Lib.hid (decDigits_len (n := r) (by omega))
    clear hf h1 h2 h3 h4 h5 htx hkn hlz
    go_enter Tryz.func21, Tryz.ntmps21
    go_upto_region 1 with fail
    rw [← hW1]
    clear hW1
    go_upto_region 4 with (go_at_call 17; (with_reducible refine HC.out.mono ?_); rintro e w2 ⟨rfl, hb2⟩; rw [HF.out]; have HB2 := Lib.hid hb2; clear c0 c1 c2 c3 c4; obtain ⟨c0, c1, c2, c3, c4⟩ := HT.out w2 hb2; clear hb2)
    go_upto_region 5 with (go_at_call 39; (with_reducible refine (HDG1.out _ HB2.out).mono ?_); rintro e w3 ⟨rfl, hb3⟩; have HB3 := Lib.hid (HB2.out.trans (hb3.mono HB2.out.size)); clear c0 c1 c2 c3 c4; obtain ⟨c0, c1, c2, c3, c4⟩ := HT.out w3 HB3.out; clear hb3)
    go_upto_region 6 with (go_at_call 39; (with_reducible refine (HDG2.out _ HB3.out).mono ?_); rintro e w4 ⟨rfl, hb4⟩; have HB4 := Lib.hid (HB3.out.trans (hb4.mono HB3.out.size)); clear c0 c1 c2 c3 c4; obtain ⟨c0, c1, c2, c3, c4⟩ := HT.out w4 HB4.out; clear hb4)
    go_upto_region 9 with (go_at_call 40; (with_reducible refine (print_any k F kd nd l a n cap _ (HL.out.keep (descRd_ok _) (Fix.of_below HB4.out)) HM.out (HX.out.below HB4.out) (HTB.out.below HB4.out)).mono ?_); rintro e w5 ⟨rfl, hb5⟩; rw [HPD.out]; have HB5 := Lib.hid (HB4.out.trans (hb5.mono HB4.out.size)); clear c0 c1 c2 c3 c4 hb5)
    obtain ⟨W5, rfl⟩ : ∃ W : World, W = w5 := ⟨_, rfl⟩
    obtain ⟨W6, hW6⟩ : ∃ W6, W6 = W5.alloc (.cells #[.string (bs (Lib.decDigits m)), .string (bs (Lib.decDigits r)), .string (bs t)] 9) := ⟨_, rfl⟩
    have hb6 : Below W5.heap.size W5 W6 := by rw [hW6]; exact (Below.refl _ _).alloc (Nat.le_refl _) _
    have g6 : W6.heap[W5.heap.size]? = some (.cells #[.string (bs (Lib.decDigits m)), .string (bs (Lib.decDigits r)), .string (bs t)] 9 (0, 0)) := by rw [hW6]; exact heap_alloc_new W5 _
    have HB6 := Lib.hid (HB.out.trans ((HB5.out.trans (hb6.mono HB5.out.size)).mono HB.out.size))
    have HJN : Hid (Lib.join [Lib.decDigits m, Lib.decDigits r, t] [32] = lz) := Lib.hid (by rw [HLZ.out]; simp [Lib.join, List.intercalate, List.intersperse])
    have HJ : Hid (Calls Tryz.prog 41 #[.slice (some ⟨W5.heap.size, 0, none⟩) 3 3, .string ⟨#[32]⟩] W6 fun e w' => e = .returned (.string (bs lz)) ∧ Below W6.heap.size W6 w') := Lib.hid (by
      have hJ := Tryz.strings_Join W5.heap.size 0 3 [bs (Lib.decDigits m), bs (Lib.decDigits r), bs t] ⟨#[32]⟩ W6 (fun j x hx => by
        rw [Nat.zero_add]
        refine cell_at g6 ?_
        rcases j with _ | _ | _ | j
        · cases hx; rfl
        · cases hx; rfl
        · cases hx; rfl
        · simp at hx) (Array.getElem?_eq_some_iff.1 g6).1 (by simp) (by simp) (by
          show (Lib.join [Lib.decDigits m, Lib.decDigits r, t] [32]).length ≤ _
          rw [HJN.out, HLZ.out]
          have h1 := HLN1.out
          have h2 := HLN2.out
          have h3 := HTL.out
          have h4 : (DescV.mk kd nd l).nodes = DescV.nodesL l + 1 := DescV.nodes_kids _
          have h5 := HM.out
          simp only [List.length_append, List.length_cons, List.length_nil]
          omega)
      have e : ([bs (Lib.decDigits m), bs (Lib.decDigits r), bs t].map (·.data.toList)) = [Lib.decDigits m, Lib.decDigits r, t] := rfl
      rw [e, HJN.out] at hJ
      exact hJ)
    clear hb6 g6
    go_wp2_with (rw [← hW6]; (go_at_call 41; (with_reducible refine HJ.out.mono ?_); rintro e w7 ⟨rfl, hb7⟩; have HB7 := Lib.hid (HB6.out.trans (hb7.mono HB6.out.size)); clear hb7))
    go_ret2
    exact ⟨by rw [HPE.out]; rfl, HB7.out⟩
  · have HPE : Hid (printE kn kr (.mk kd nd l) = .tuple #[.string ⟨#[]⟩, .int .i64 (forE kn kr (.mk kd nd l))]) := Lib.hid (by unfold printE; rw [if_neg hf])
    generalize forE kn kr (.mk kd nd l) = ce at *
    have hcb : (ce != 0) = true := by simpa using hf
    go_enter Tryz.func21, Tryz.ntmps21
    go_upto_region 1 with fail
    rw [← hW1]
    clear hW1
    go_wp2_with (go_at_call 17; (with_reducible refine HC.out.mono ?_); rintro e w2 ⟨rfl, hb2⟩; have HB2 := Lib.hid (HB.out.trans (hb2.mono HB.out.size)); clear c0 c1 c2 c3 c4 hb2)
    go_ret2
    exact ⟨by rw [HPE.out]; rfl, HB2.out⟩
end Go.Proofs.YtephllgddhncgaaGreatDoor.Lex
