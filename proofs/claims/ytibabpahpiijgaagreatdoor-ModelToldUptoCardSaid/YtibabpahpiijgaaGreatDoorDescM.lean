/- The nodes of a tree, counted by the reference. -/
import Derived.Test.YtibabpahpiijgaaGreatDoorGrow
import Derived.Test.YtibabpahpiijgaaGreatDoorProg
import Derived.Deep.LoopGhost
namespace Go.Proofs.YtibabpahpiijgaaGreatDoor
open Go.RowKit
set_option linter.unusedSimpArgs false
set_option linter.unusedVariables false
theorem own_down {w : World} {B B' : Nat} {e : TypeId} {size : Nat} {v : Value} {n : Nat} {xs : List Value} (h : w.ownsRow B e size v n xs) (hb : B' ≤ B) : w.ownsRow B' e size v n xs := by
  refine ⟨h.1, ?_⟩
  rcases h.2 with hn | ⟨g, cap, cur, rfl, hbg, rest⟩
  · exact .inl hn
  · exact .inr ⟨g, cap, cur, rfl, Nat.le_trans hb hbg, rest⟩
theorem own_src {w : World} {B : Nat} {e : TypeId} {size : Nat} {a : Option Addr} {n cap : Nat} {xs : List Value} (h : w.ownsRow B e size (.slice a n cap) n xs) (h1 : ∀ u ∈ xs, u.oneCell' = true) : Src w a n cap size xs := by
  rcases h.2 with ⟨hv, hx⟩ | ⟨g, cap', cur, hv, hb, hg, hn, hm, hs, ht⟩
  · cases hv
    exact ⟨h.1, fun _ => ⟨rfl, rfl⟩, fun x hx => by simp at hx, h1⟩
  · cases hv
    refine ⟨h.1, by simp, fun x hx j u hu => ?_, h1⟩
    cases hx
    exact h.cells (g := g) rfl _ u hu
theorem own_val {w : World} {base : Nat} {e : TypeId} {size n : Nat} {v : Value} {xs : List Value} (h : w.ownsRow base e size v n xs) : ∃ a c, v = .slice a n c := by
  rcases h.2 with ⟨rfl, rfl⟩ | ⟨g, cap, cur, rfl, _⟩
  · exact ⟨_, _, rfl⟩
  · exact ⟨_, _, rfl⟩
theorem descElem : Elem Tryz.prog 23 25 3 40 := ⟨Tryz.underlying23, ⟨.agg #[.int .i64 0, .int .i64 0, .slice none 0 0], by kernel_rfl, rfl⟩, by omega⟩
/-- The kinds and sizes of nodes, in order, in a row's cells. -/
def Heads : List Value → List (Int × Int) → Prop
  | xs, [] => xs = []
  | xs, p :: ps => ∃ a n c r, xs = .int .i64 p.1 :: .int .i64 p.2 :: .slice a n c :: r ∧ Heads r ps
theorem Heads.append : ∀ {xs ys : List Value} {ps qs : List (Int × Int)}, Heads xs ps → Heads ys qs → Heads (xs ++ ys) (ps ++ qs)
  | xs, ys, [], qs, h, k => by rw [show xs = [] from h]; exact k
  | xs, ys, p :: ps, qs, ⟨a, n, c, r, e, h⟩, k => ⟨a, n, c, r ++ ys, by rw [e]; rfl, h.append k⟩
theorem Heads.get : ∀ {xs : List Value} {ps : List (Int × Int)} {i : Nat} {p : Int × Int}, Heads xs ps → ps[i]? = some p → xs[i * 3]? = some (.int .i64 p.1) ∧ xs[i * 3 + 1]? = some (.int .i64 p.2)
  | xs, [], i, p, _, h => by simp at h
  | xs, q :: ps, 0, p, ⟨a, n, c, r, e, hr⟩, h => by
    obtain rfl : q = p := by simpa using h
    subst e
    exact ⟨rfl, rfl⟩
  | xs, q :: ps, i + 1, p, ⟨a, n, c, r, e, hr⟩, h => by
    subst e
    have := hr.get (i := i) (p := p) (by simpa using h)
    rw [Nat.add_mul]
    exact this
namespace DescV
mutual
def heads : DescV → List (Int × Int) | .mk k n l => (k, n) :: headsL l
def headsL : List DescV → List (Int × Int) | [] => [] | d :: l => d.heads ++ headsL l
end
mutual
theorem heads_len : ∀ d : DescV, d.heads.length = d.nodes
  | .mk _ _ l => by rw [heads, nodes, List.length_cons, headsL_len l]
theorem headsL_len : ∀ l : List DescV, (headsL l).length = nodesL l
  | [] => rfl
  | d :: l => by rw [headsL, nodesL, List.length_append, heads_len d, headsL_len l]
end
theorem headsL_snoc (l : List DescV) (d : DescV) : headsL (l ++ [d]) = headsL l ++ d.heads := by
  induction l with
  | nil => simp [headsL]
  | cons a l ih => rw [List.cons_append, headsL, ih, headsL, List.append_assoc]
end DescV
def ListPost (m : Nat) (ps : List (Int × Int)) (w : World) (e : Ending) (w' : World) : Prop := ∃ a cap xs, e = .returned (.slice a m cap) ∧ w'.ownsRow w.heap.size 25 3 (.slice a m cap) m xs ∧ (∀ u ∈ xs, u.oneCell' = true) ∧ Heads xs ps ∧ Below w.heap.size w w'
set_option maxRecDepth 100000 in
set_option maxHeartbeats 4000000 in
theorem list_step (k : Nat) (ih : ∀ j, k = j + 1 → ∀ (F : Foot) (kd nd : Int) (l : List DescV) (a : Option Addr) (n cap : Nat) (w : World), RowOf (descRd j) 3 40 F w a n cap l → DescV.nodesL l < 1048576 →
    Calls Tryz.prog 8 #[.agg #[.int .i64 kd, .int .i64 nd, .slice a n cap]] w (ListPost (1 + DescV.nodesL l) ((kd, nd) :: DescV.headsL l) w)) (F : Foot) (kd nd : Int) (l : List DescV) (a : Option Addr) (n cap : Nat) (w : World) (hl : RowOf (descRd k) 3 40 F w a n cap l) (hm : DescV.nodesL l < 1048576) :
    Calls Tryz.prog 8 #[.agg #[.int .i64 kd, .int .i64 nd, .slice a n cap]] w (ListPost (1 + DescV.nodesL l) ((kd, nd) :: DescV.headsL l) w) := by
  have HL := Lib.hid hl.len
  have hn := hl.room
  have HM := Lib.hid hm
  have HIH := Lib.hid ih
  obtain ⟨W0, hW0⟩ : ∃ W0, W0 = w.alloc (.cells #[.int .i64 kd, .int .i64 nd, .slice a n cap] 25) := ⟨_, rfl⟩
  obtain ⟨W1, hW1⟩ : ∃ W1, W1 = W0.alloc (.cells #[.int .i64 kd, .int .i64 nd, .slice a n cap] 25) := ⟨_, rfl⟩
  have hb0 : Below w.heap.size w W0 := by rw [hW0]; exact (Below.refl _ _).alloc (Nat.le_refl _) _
  have hz0 : W0.heap.size = w.heap.size + 1 := by rw [hW0]; simp
  have hb1 : Below W0.heap.size W0 W1 := by rw [hW1]; exact (Below.refl _ _).alloc (Nat.le_refl _) _
  have g0 : W0.heap[w.heap.size]? = some (.cells #[.int .i64 kd, .int .i64 nd, .slice a n cap] 25 (0, 0)) := by rw [hW0]; exact heap_alloc_new w _
  have t2 := cell_at (o := 2) g0 rfl
  have HT2 := Lib.hid t2
  have ho1 : W1.ownsRow W0.heap.size 25 3 (.slice (some ⟨W0.heap.size, 0, none⟩) 1 1) 1 [.int .i64 kd, .int .i64 nd, .slice a n cap] := by
    rw [hW1]
    exact ⟨rfl, .inr ⟨W0.heap.size, 1, _, rfl, Nat.le_refl _, heap_alloc_new W0 _, Nat.le_refl _, by unfold maxLen; omega, rfl, rfl⟩⟩
  have HO1 := Lib.hid ho1
  have HL0 := Lib.hid (hl.keep (descRd_ok _) (Fix.of_below hb0))
  have HB0 := Lib.hid hb0
  have HB1 := Lib.hid hb1
  have HZ := Lib.hid hz0
  clear hl hm ih hb0 hb1 g0 ho1
  go_enter Tryz.func8, Tryz.ntmps8
  go_wp2_with fail
  rw [← hW0, ← hz0, ← hW1]
  clear hW0 hW1 hz0
  go_loopg [3, 4] n (fun g v iv wr => ∃ i : Nat, i ≤ n ∧ g = n - i ∧ iv = .int .i64 i ∧ (∃ xs, wr.ownsRow W0.heap.size 25 3 v (1 + DescV.nodesL (l.take i)) xs ∧ (∀ u ∈ xs, u.oneCell' = true) ∧ Heads xs ((kd, nd) :: DescV.headsL (l.take i))) ∧ Below W0.heap.size W0 wr)
  case atStart => exact ⟨0, by omega, rfl, rfl, ⟨_, HO1.out, one3, ⟨_, _, _, [], rfl, rfl⟩⟩, HB1.out⟩
  case round =>
    obtain ⟨i, hi, rfl, rfl, ⟨xs, ho, hone, hhd⟩, hB⟩ := hrel
    obtain ⟨wo, rfl⟩ : ∃ wo : World, wo = wr := ⟨_, rfl⟩
    obtain ⟨av, cv, rfl⟩ := own_val ho
    have HO := Lib.hid ho
    have HONE := Lib.hid hone
    have HHD := Lib.hid hhd
    have HBo := Lib.hid hB
    have b2 : wo.cell? ⟨w.heap.size, 2, none⟩ = _ := (hB.cell (p := ⟨w.heap.size, 2, none⟩) (by have := HZ.out; show w.heap.size < _; omega)).trans HT2.out
    clear ho hone hB t2 hhd
    by_cases hlt : i < n
    · obtain ⟨k, rfl⟩ : ∃ j, k = j + 1 := by
        cases k with
        | zero => exact absurd (row_no_zero HL0.out) (fun e => by have := HL.out; rw [e] at this; simp at this; omega)
        | succ j => exact ⟨j, rfl⟩
      obtain ⟨b, off, ax, nx, cx, rfl, hbw, _, _, _, hk, p0, p1, p2⟩ := (HL0.out.keep (descRd_ok _) (Fix.of_below HBo.out)).desc i (by have := HL.out; omega)
      have HTK := Lib.hid (List.take_succ_eq_append_getElem (l := l) (i := i) (by have := HL.out; omega))
      have HSUM := Lib.hid (DescV.nodesL_take_succ (l := l) (i := i) (by have := HL.out; omega))
      have HLE := Lib.hid (DescV.nodesL_take_le l (i + 1))
      have HNK := Lib.hid (DescV.nodes_kids (l[i]'(by have := HL.out; omega)))
      generalize l[i]'_ = d at *
      obtain ⟨dk, dn, dl⟩ := d
      simp only [DescV.kind, DescV.n, DescV.kids] at p0 p1 p2 hk
      have HNK' : Hid ((DescV.mk dk dn dl).nodes = DescV.nodesL dl + 1) := HNK
      have HK := Lib.hid hk
      clear hk
      go_wp2_with fail
      refine (HIH.out k rfl F dk dn dl ax nx cx _ HK.out (by have := HM.out; have := HSUM.out; have := HLE.out; have := HNK'.out; omega)).mono ?_
      rintro e w2 ⟨a2, c2, xs2, rfl, ho2, hone2, hhd2, hb2⟩
      have HO2 := Lib.hid ho2
      have HONE2 := Lib.hid hone2
      have HHD2 := Lib.hid hhd2
      have HB2 := Lib.hid hb2
      clear ho2 hone2 hb2 hhd2
      go_wp2_with (at_builtin; refine wpl_append rfl _ _ 23 rfl descElem _ _ _ rfl _ _ _ _ rfl (own_below HO.out HB2.out) (own_src HO2.out HONE2.out) (by unfold maxLen; have := HM.out; have := HSUM.out; have := HLE.out; have := HNK'.out; omega) (by have := HM.out; have := HSUM.out; have := HLE.out; have := HNK'.out; omega) (by have := HBo.out.size; have := HB2.out.size; omega) ?_; intro v' w3 ho3 hg3 _)
      have HB3 : Hid (Below W0.heap.size W0 w3) := Lib.hid ((HBo.out.trans (HB2.out.mono HBo.out.size)).grown hg3 (by have := HBo.out.size; have := HB2.out.size; omega) (fun q hq => own_lt HO.out q hq))
      have HO3 := Lib.hid ho3
      clear ho3 hg3
      go_wp2_with fail
      go_roundg (n - (i + 1))
      case measure => omega
      case rel =>
        refine ⟨i + 1, by omega, rfl, by go_num, ⟨xs ++ xs2, ?_, ?_, ?_⟩, HB3.out⟩
        · have h3 := HO3.out
          rw [show 1 + DescV.nodesL (l.take i) + (1 + DescV.nodesL dl) = 1 + DescV.nodesL (l.take (i + 1)) by rw [HSUM.out, HNK'.out]; omega] at h3
          exact h3
        · intro u hu
          rcases List.mem_append.1 hu with hu | hu
          · exact HONE.out u hu
          · exact HONE2.out u hu
        · rw [HTK.out, DescV.headsL_snoc, ← List.cons_append]
          exact HHD.out.append HHD2.out
    · obtain rfl : i = n := by omega
      rw [List.take_of_length_le (by have := HL.out; omega)] at HO HHD ⊢
      clear b2
      have b2 : wo.cell? ⟨w.heap.size, 2, none⟩ = _ := (HBo.out.cell (p := ⟨w.heap.size, 2, none⟩) (by have := HZ.out; show w.heap.size < _; omega)).trans HT2.out
      go_wp2_with fail
      go_ret
      exact ⟨_, _, _, rfl, own_down HO.out HB0.out.size, HONE.out, HHD.out, HB0.out.trans (HBo.out.mono HB0.out.size)⟩
theorem list_any : ∀ (k : Nat) (F : Foot) (kd nd : Int) (l : List DescV) (a : Option Addr) (n cap : Nat) (w : World), RowOf (descRd k) 3 40 F w a n cap l → DescV.nodesL l < 1048576 →
    Calls Tryz.prog 8 #[.agg #[.int .i64 kd, .int .i64 nd, .slice a n cap]] w (ListPost (1 + DescV.nodesL l) ((kd, nd) :: DescV.headsL l) w)
  | 0 => list_step 0 fun j h => by omega
  | k + 1 => list_step (k + 1) fun j h => by
    obtain rfl : k = j := by omega
    exact list_any k
set_option maxRecDepth 100000 in
set_option maxHeartbeats 1000000 in
/-- More nodes than statements ask? -/
theorem much_any (k : Nat) (F : Foot) (kd nd : Int) (l : List DescV) (a : Option Addr) (n cap : Nat) (w : World) (hl : RowOf (descRd k) 3 40 F w a n cap l) (hm : DescV.nodesL l < 1048576) :
    Calls Tryz.prog 4 #[.agg #[.int .i64 kd, .int .i64 nd, .slice a n cap]] w fun e w' => e = .returned (.bool (decide (80 < (DescV.mk kd nd l).nodes))) ∧ Below w.heap.size w w' := by
  have hb : Below w.heap.size w (w.alloc (.cells #[.int .i64 kd, .int .i64 nd, .slice a n cap] 25)) := (Below.refl _ _).alloc (Nat.le_refl _) _
  have HL := Lib.hid (hl.keep (descRd_ok _) (Fix.of_below hb))
  have HB := Lib.hid hb
  have HM := Lib.hid hm
  have HN : Hid ((DescV.mk kd nd l).nodes = DescV.nodesL l + 1) := Lib.hid (DescV.nodes_kids _)
  clear hl hb hm
  by_cases hg : 79 < DescV.nodesL l
  · have HT : Hid (decide (80 < (DescV.mk kd nd l).nodes) = true) := Lib.hid (by simp only [decide_eq_true_eq]; have := HN.out; omega)
    go_enter Tryz.func4, Tryz.ntmps4
    go_wp2_with (go_at_call 8; (with_reducible refine (list_any k F kd nd l a n cap _ HL.out HM.out).mono ?_); rintro e w2 ⟨a2, c2, xs2, rfl, _, _, _, hb2⟩; have HB2 := Lib.hid (HB.out.trans (hb2.mono HB.out.size)); clear hb2; have hgt : (80 : Int) < ((1 + DescV.nodesL l : Nat) : Int) := (by omega); have hgt' : 80 < 1 + DescV.nodesL l := (by omega))
    go_ret
    exact ⟨by rw [HT.out]; simp; omega, HB2.out⟩
  · have HT : Hid (decide (80 < (DescV.mk kd nd l).nodes) = false) := Lib.hid (by simp only [decide_eq_false_iff_not]; have := HN.out; omega)
    go_enter Tryz.func4, Tryz.ntmps4
    go_wp2_with (go_at_call 8; (with_reducible refine (list_any k F kd nd l a n cap _ HL.out HM.out).mono ?_); rintro e w2 ⟨a2, c2, xs2, rfl, _, _, _, hb2⟩; have HB2 := Lib.hid (HB.out.trans (hb2.mono HB.out.size)); clear hb2; have hgt : ¬ (80 : Int) < ((1 + DescV.nodesL l : Nat) : Int) := (by omega); have hgt' : ¬ 80 < 1 + DescV.nodesL l := (by omega))
    go_ret
    exact ⟨by rw [HT.out]; simp; omega, HB2.out⟩
end Go.Proofs.YtibabpahpiijgaaGreatDoor
