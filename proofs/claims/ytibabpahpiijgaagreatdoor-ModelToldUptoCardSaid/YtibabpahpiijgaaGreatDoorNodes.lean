/- desc.Nodes: the range over a tree's nodes. -/
import Derived.Test.YtibabpahpiijgaaGreatDoorClone
import Derived.Test.YtibabpahpiijgaaGreatDoorRange
import Derived.RangeFuncNested
import Derived.RangeFuncLeaves
import Derived.Shelf.Abstract
import Derived.Shelf.RegionOpen
import Derived.OwnWalkIn
import Derived.TacticsInMore
import Derived.LoopNIn
import Derived.LoopIn
import Derived.Sort.LoopGhostIn
import Derived.Lib.SmallJoins
import Derived.RegionTactic
namespace Go.Proofs.YtibabpahpiijgaaGreatDoor.Lex
open Go.RowKit Go.Shelf
set_option linter.unusedSimpArgs false
set_option linter.unusedVariables false
attribute [local go_sem] Oper.semAt_some
/-- What a round over a tree's nodes keeps: all below block B, and all cells but those of block N. -/
structure KpN (B N : Nat) (W W' : World) : Prop where
  fix : Fix (fun b => b < B) W W'
  cells : ∀ (b : Nat), b ≠ N → ∀ (c : Array Value) (T : TypeId) (f : Nat × Nat), W.heap[b]? = some (.cells c T f) → W'.heap[b]? = some (.cells c T f)
theorem KpN.refl (B N : Nat) (W : World) : KpN B N W W := ⟨Fix.refl _ _, fun _ _ _ _ _ h => h⟩
theorem KpN.trans {B N : Nat} {W W1 W2 : World} (h : KpN B N W W1) (k : KpN B N W1 W2) : KpN B N W W2 := ⟨h.fix.trans k.fix, fun b hb c T f e => k.cells b hb c T f (h.cells b hb c T f e)⟩
theorem KpN.of_below {B N : Nat} {W W' : World} (h : Below W.heap.size W W') : KpN B N W W' := ⟨Fix.of_below h, fun b _ c T f e => (h.block b (Array.getElem?_eq_some_iff.1 e).1).trans e⟩
set_option maxRecDepth 100000 in
set_option maxHeartbeats 4000000 in
theorem all_step (k L N B0 N0 : Nat) (K : Nat → World → Prop) (hKb : ∀ i W W', K i W → Below W.heap.size W W' → K i W')
    (hY : ∀ (m i : Nat) (x : Value) (W1 : World), i < N → K i W1 → YieldAt Fence.wide m Tryz.prog L #[x] W1 fun e W' => e = .returned (.bool true) ∧ K (i + 1) W' ∧ KpN B0 N0 W1 W')
    (ih : ∀ j, k = j + 1 → ∀ (kd nd : Int) (l : List DescV) (a : Option Addr) (n cap i : Nat) (W : World), RowOf (descRd j) 3 40 (fun b => b < B0) W a n cap l → K i W → N0 < W.heap.size → i + 1 + DescV.nodesL l ≤ N →
      Calls Tryz.prog 110 #[.agg #[.int .i64 kd, .int .i64 nd, .slice a n cap], .func (.yield L) #[] #[]] W fun e W' => e = .returned (.bool true) ∧ K (i + 1 + DescV.nodesL l) W' ∧ KpN B0 N0 W W')
    (kd nd : Int) (l : List DescV) (a : Option Addr) (n cap i : Nat) (W : World) (hl : RowOf (descRd k) 3 40 (fun b => b < B0) W a n cap l) (hK : K i W) (hN0 : N0 < W.heap.size) (hi : i + 1 + DescV.nodesL l ≤ N) :
      Calls Tryz.prog 110 #[.agg #[.int .i64 kd, .int .i64 nd, .slice a n cap], .func (.yield L) #[] #[]] W fun e W' => e = .returned (.bool true) ∧ K (i + 1 + DescV.nodesL l) W' ∧ KpN B0 N0 W W' := by
  have HLN := Lib.hid hl.len
  have HRM := Lib.hid hl.room
  have hn : n ≤ 3518437208880 := by have := hl.room; omega
  obtain ⟨W1, hW1⟩ : ∃ W1, W1 = W.alloc (.cells #[.int .i64 kd, .int .i64 nd, .slice a n cap] 25) := ⟨_, rfl⟩
  have hb1 : Below W.heap.size W W1 := by rw [hW1]; exact (Below.refl _ _).alloc (Nat.le_refl _) _
  have g1 : W1.heap[W.heap.size]? = some (.cells #[.int .i64 kd, .int .i64 nd, .slice a n cap] 25 (0, 0)) := by rw [hW1]; exact heap_alloc_new W _
  have hz1 : W.heap.size < W1.heap.size := by rw [hW1]; simp
  have hl1 := hl.keep (descRd_ok _) (Fix.of_below hb1)
  have HCL := Lib.hid (clone_any k _ kd nd l a n cap W1 hl1)
  have HL1 := Lib.hid hl1
  have HB1 := Lib.hid hb1
  have HG1 := Lib.hid g1
  have HK := Lib.hid hK
  have HKB := Lib.hid hKb
  have HY := Lib.hid hY
  have HIH := Lib.hid ih
  have HI := Lib.hid hi
  have c0 := cell_at (o := 0) g1 rfl
  have c1 := cell_at (o := 1) g1 rfl
  have c2 := cell_at (o := 2) g1 rfl
  clear hl hl1 hb1 hK hKb hY ih hi g1
  refine (callsIn_wide (n := 5)).1 ?_
  refine callsIn_of_wp Tryz.func110 rfl trivial ?_ rfl
  simp only [Tryz.ntmps110, List.size_toArray, List.length_cons, List.length_nil, Nat.reduceAdd, Nat.reduceSub, Array.replicate_succ, Array.replicate_zero, List.push_toArray, List.append_toArray, List.nil_append, List.cons_append]
  gi_wp2
  rw [← hW1]
  clear hW1
  refine ⟨trivial, ?_⟩
  refine (callsIn_wide.2 HCL.out).mono ?_
  rintro e w2 ⟨a2, cc2, rfl, hr2, hb2⟩
  have HB2 := Lib.hid hb2
  have hz2 : W.heap.size < w2.heap.size := Nat.lt_of_lt_of_le hz1 hb2.size
  have HB12 := Lib.hid (HB1.out.trans (hb2.mono HB1.out.size))
  obtain ⟨fn, tmps, assign, body, hy, hR⟩ := HY.out (5 - 1) i (.agg #[.int .i64 kd, .int .i64 nd, .slice a2 n cc2]) w2 (by have := HI.out; omega) (HKB.out i W w2 HK.out HB12.out)
  clear hr2 hb2
  gi_wp2
  refine hR.mono ?_
  rintro e w3 ⟨rfl, hK3, hkp3⟩
  have hkp : KpN B0 N0 W w3 := (KpN.of_below HB12.out).trans hkp3
  have g3 := hkp3.cells W.heap.size (by omega) _ _ _ ((HB2.out.block _ hz1).trans HG1.out)
  have d2 := cell_at (o := 2) g3 rfl
  have hz3 : W.heap.size < w3.heap.size := (Array.getElem?_eq_some_iff.1 g3).1
  have HK3 := Lib.hid hK3
  have HKP := Lib.hid hkp
  have HL3 := Lib.hid (HL1.out.keep (descRd_ok _) ((KpN.of_below HB2.out).trans hkp3).fix)
  clear hK3 hkp hkp3 hy hR c0 c1 c2 g3
  gi_wp2
  gi_loopg [15] n (fun gh iv wr => ∃ j : Nat, j ≤ n ∧ gh = n - j ∧ iv = .int .i64 (j : Int) ∧ K (i + 1 + DescV.nodesL (l.take j)) wr ∧ KpN B0 N0 W wr ∧ KpN B0 N0 w3 wr)
  case atStart => exact ⟨0, by omega, rfl, rfl, by simpa [DescV.nodesL] using HK3.out, HKP.out, KpN.refl _ _ _⟩
  case round =>
    obtain ⟨j, hj, rfl, rfl, hKj, hkw, hk3⟩ := hrel
    obtain ⟨wo, rfl⟩ : ∃ wo : World, wo = wr := ⟨_, rfl⟩
    have HKJ := Lib.hid hKj
    have HKW := Lib.hid hkw
    have HK3W := Lib.hid hk3
    clear hKj hkw hk3
    by_cases hlt : j < n
    · obtain ⟨k, rfl⟩ : ∃ q, k = q + 1 := by
        cases k with
        | zero => exact absurd (row_no_zero HL1.out) (fun e => by have := HLN.out; rw [e] at this; simp at this; omega)
        | succ q => exact ⟨q, rfl⟩
      have hil : j < l.length := by have := HLN.out; omega
      obtain ⟨b, off, ax, nx, cx, rfl, hbw, _, _, _, hk, p0, p1, p2⟩ := (HL3.out.keep (descRd_ok _) HK3W.out.fix).desc j hil
      have HSUM := Lib.hid (DescV.nodesL_take_succ hil)
      have HLE := Lib.hid (DescV.nodesL_take_le l (j + 1))
      have HNK := Lib.hid (DescV.nodes_kids (l[j]'hil))
      generalize l[j]'hil = d at *
      obtain ⟨dk, dn, dl⟩ := d
      simp only [DescV.kind, DescV.n, DescV.kids] at p0 p1 p2 hk
      have HNK' : Hid ((DescV.mk dk dn dl).nodes = DescV.nodesL dl + 1) := HNK
      gi_wp2
      obtain ⟨W4, hW4⟩ : ∃ W4, W4 = wo.alloc (.cells #[.int .i64 dk, .int .i64 dn, .slice ax nx cx] 25) := ⟨_, rfl⟩
      have hb4 : Below wo.heap.size wo W4 := by rw [hW4]; exact (Below.refl _ _).alloc (Nat.le_refl _) _
      have HIHC := Lib.hid (HIH.out k rfl dk dn dl ax nx cx (i + 1 + DescV.nodesL (l.take j)) W4 (hk.keep (descRd_ok _) (Fix.of_below hb4)) (HKB.out _ _ _ HKJ.out hb4) (by have := HKW.out.fix.size; have := hb4.size; omega) (by have := HSUM.out; have := HLE.out; have := HNK'.out; have := HI.out; omega))
      have HB4 := Lib.hid hb4
      rw [← hW4]
      clear hW4 hk p0 p1 p2 hb4
      refine ⟨trivial, ?_⟩
      refine (callsIn_wide.2 HIHC.out).mono ?_
      rintro e w5 ⟨rfl, hK5, hkp5⟩
      have HK5 := Lib.hid hK5
      have HKP5 := Lib.hid ((KpN.of_below HB4.out : KpN B0 N0 wo W4).trans hkp5)
      clear hK5 hkp5
      gi_wp2
      gi_roundg (n - (j + 1))
      case measure => omega
      case rel =>
        refine ⟨j + 1, by omega, rfl, by go_num, ?_, HKW.out.trans HKP5.out, HK3W.out.trans HKP5.out⟩
        rw [show i + 1 + DescV.nodesL (l.take (j + 1)) = i + 1 + DescV.nodesL (l.take j) + 1 + DescV.nodesL dl by rw [HSUM.out, HNK'.out]; omega]
        exact HK5.out
    · obtain rfl : j = n := by omega
      rw [List.take_of_length_le (by have := HLN.out; omega)] at HKJ
      gi_wp2
      go_ret
      exact ⟨rfl, HKJ.out, HKW.out⟩
theorem all_any (L N B0 N0 : Nat) (K : Nat → World → Prop) (hKb : ∀ i W W', K i W → Below W.heap.size W W' → K i W')
    (hY : ∀ (m i : Nat) (x : Value) (W1 : World), i < N → K i W1 → YieldAt Fence.wide m Tryz.prog L #[x] W1 fun e W' => e = .returned (.bool true) ∧ K (i + 1) W' ∧ KpN B0 N0 W1 W') :
    ∀ (k : Nat) (kd nd : Int) (l : List DescV) (a : Option Addr) (n cap i : Nat) (W : World), RowOf (descRd k) 3 40 (fun b => b < B0) W a n cap l → K i W → N0 < W.heap.size → i + 1 + DescV.nodesL l ≤ N →
      Calls Tryz.prog 110 #[.agg #[.int .i64 kd, .int .i64 nd, .slice a n cap], .func (.yield L) #[] #[]] W fun e W' => e = .returned (.bool true) ∧ K (i + 1 + DescV.nodesL l) W' ∧ KpN B0 N0 W W'
  | 0 => all_step 0 L N B0 N0 K hKb hY fun j h => by omega
  | k + 1 => all_step (k + 1) L N B0 N0 K hKb hY fun j h => by
    obtain rfl : k = j := by omega
    exact all_any L N B0 N0 K hKb hY k
theorem room_noneN {F : Fence} (hd : F.depth = none) (k : Nat) : F.room k := fun d h => by rw [hd] at h; cases h
theorem roundN {F : Fence} (hd : F.depth = none) {m m' : Nat} {P : Program} {l : Nat} {f : FuncId} {tmps : Array Value} {assign body : Code} {w : World} {R : Ending → World → Prop}
    (h : RoundIn F m P l f tmps assign body w R) : RoundIn F m' P l f tmps assign body w R := ⟨h.1, fun c cs _ => h.2 c cs (room_noneN hd _)⟩
theorem yieldN {F : Fence} (hd : F.depth = none) {m : Nat} (m' : Nat) {P : Program} {l : Nat} {args : Array Value} {W : World} {R : Ending → World → Prop} (h : YieldAt F m P l args W R) : YieldAt F m' P l args W R := by
  obtain ⟨fn, tmps, assign, body, hy, hR⟩ := h
  exact ⟨fn, tmps, assign, body, hy, roundN hd hR⟩
theorem allc_any (kd nd : Int) (a : Option Addr) (n cap : Nat) (w : World) : Calls Tryz.prog 88 #[.agg #[.int .i64 kd, .int .i64 nd, .slice a n cap]] w fun e w' => e = .returned (.func (.func 109) #[] #[.pointer (some ⟨w.heap.size, 0, none⟩)]) ∧ w' = w.alloc (.cells #[.int .i64 kd, .int .i64 nd, .slice a n cap] 25) := by
  go_enter Tryz.func88, Tryz.ntmps88
  go_wp2_with fail
  go_ret
  exact ⟨rfl, rfl⟩
set_option maxRecDepth 100000 in
set_option maxHeartbeats 4000000 in
theorem all1_any (L N B0 N0 : Nat) (K : Nat → World → Prop) (hKb : ∀ i W W', K i W → Below W.heap.size W W' → K i W')
    (hY : ∀ (m i : Nat) (x : Value) (W1 : World), i < N → K i W1 → YieldAt Fence.wide m Tryz.prog L #[x] W1 fun e W' => e = .returned (.bool true) ∧ K (i + 1) W' ∧ KpN B0 N0 W1 W')
    (k m : Nat) (kd nd : Int) (l : List DescV) (a : Option Addr) (n cap B : Nat) (W : World) (hl : RowOf (descRd k) 3 40 (fun b => b < B0) W a n cap l) (hK : K 0 W) (hN0 : N0 < W.heap.size) (hi : 1 + DescV.nodesL l ≤ N) (hB : W.heap[B]? = some (.cells #[.int .i64 kd, .int .i64 nd, .slice a n cap] 25 (0, 0))) :
    CallsIn Fence.wide m Tryz.prog 109 #[.func (.yield L) #[] #[], .pointer (some ⟨B, 0, none⟩)] W fun e W' => (∃ v, e = .returned v) ∧ K (1 + DescV.nodesL l) W' := by
  have HA := Lib.hid (all_any L N B0 N0 K hKb hY k kd nd l a n cap 0 W hl hK hN0 (by omega))
  have c0 := cell_at (o := 0) hB rfl
  have c1 := cell_at (o := 1) hB rfl
  have c2 := cell_at (o := 2) hB rfl
  clear hl hK hKb hY hB
  refine callsIn_of_wp Tryz.func109 rfl trivial ?_ rfl
  simp only [Tryz.ntmps109, List.size_toArray, List.length_cons, List.length_nil, Nat.reduceAdd, Nat.reduceSub, Array.replicate_succ, Array.replicate_zero, List.push_toArray, List.append_toArray, List.nil_append, List.cons_append]
  gi_wp2
  refine ⟨trivial, fun h => (by cases h), ?_⟩
  refine (callsIn_wide.2 HA.out).mono ?_
  rintro e w1 ⟨rfl, hK1, _⟩
  have HK1 := Lib.hid hK1
  clear hK1
  gi_wp2
  go_end0
  exact ⟨⟨_, rfl⟩, by have h := HK1.out; rwa [Nat.zero_add] at h⟩
theorem putN_cells {W : World} {l : Nat} {o o' : Obj} (hl : W.heap[l]? = some o) (ho : o.isCells = false) {k : Nat} {c : Array Value} {T : TypeId} {f : Nat × Nat} (h : W.heap[k]? = some (.cells c T f)) : (W.putObj l o').heap[k]? = some (.cells c T f) := by
  rw [World.putObj_heap_other fun e => ?_]
  · exact h
  · subst e
    rw [hl] at h
    cases h
    cases ho
theorem putN_below {A W : World} {n l : Nat} {o' : Obj} (h : Below n A W) (hl : n ≤ l) (hn : n ≤ W.heap.size) : Below n A (W.putObj l o') := h.grown (grownBy_putObj' W l o') hn (fun k e => by cases e; exact hl)
/-- Between two rounds: so many nodes are counted. -/
structure JN (w : World) (k : Nat) (W : World) : Prop where
  n : W.heap[w.heap.size + 1]? = some (.cells #[.int .i64 (k : Int)] 3 (0, 0))
  below : Below w.heap.size w W
  size : w.heap.size + 3 ≤ W.heap.size
set_option maxRecDepth 100000 in
set_option maxHeartbeats 8000000 in
theorem nodes_any (k : Nat) (F : Foot) (kd nd : Int) (l : List DescV) (a : Option Addr) (n cap : Nat) (w : World) (hl : RowOf (descRd k) 3 40 F w a n cap l) (hm : DescV.nodesL l < 1048576) :
    Calls Tryz.prog 114 #[.agg #[.int .i64 kd, .int .i64 nd, .slice a n cap]] w fun e w' => e = .returned (.int .i64 ((DescV.mk kd nd l).nodes : Int)) ∧ Below w.heap.size w w' := by
  refine (callsIn_wide (n := 5)).1 ?_
  refine callsIn_of_wp_marks Tryz.func114 rfl trivial ?_ rfl
  simp only [Tryz.ntmps114, List.size_toArray, List.length_cons, List.length_nil, Nat.reduceAdd, Nat.reduceSub, Array.replicate_succ, Array.replicate_zero, List.push_toArray, List.append_toArray, List.nil_append, List.cons_append]
  have HL := Lib.hid (hl.mono (G := fun b => b < w.heap.size) (descRd_ok _) fun b hb _ => hb)
  have HM := Lib.hid hm
  clear hl hm
  gi_wp2
  refine ⟨trivial, ?_⟩
  refine (callsIn_wide.2 (allc_any kd nd a n cap _)).mono ?_
  rintro e w1 ⟨rfl, rfl⟩
  gi_wp2
  obtain ⟨W3, hW3⟩ : ∃ W3, W3 = (((w.alloc (.cells #[.int .i64 kd, .int .i64 nd, .slice a n cap] 25)).alloc (.cells #[.int .i64 0] 3)).alloc (.cells #[.int .i64 kd, .int .i64 nd, .slice a n cap] 25)) := ⟨_, rfl⟩
  have hb3 : Below w.heap.size w W3 := by rw [hW3]; exact (((Below.refl _ _).alloc (Nat.le_refl _) _).alloc (by simp) _).alloc (by simp; omega) _
  have hz3 : W3.heap.size = w.heap.size + 3 := by rw [hW3]; simp
  have g1 : W3.heap[w.heap.size + 1]? = some (.cells #[.int .i64 0] 3 (0, 0)) := by
    rw [hW3, Lib.alloc_old _ _ _ (by simp)]
    have h2 := heap_alloc_new (w.alloc (.cells #[.int .i64 kd, .int .i64 nd, .slice a n cap] 25)) (.cells #[.int .i64 0] 3)
    rw [show (w.alloc (.cells #[.int .i64 kd, .int .i64 nd, .slice a n cap] 25)).heap.size = w.heap.size + 1 by simp] at h2
    exact h2
  have g2 : W3.heap[w.heap.size + 1 + 1]? = some (.cells #[.int .i64 kd, .int .i64 nd, .slice a n cap] 25 (0, 0)) := by
    rw [hW3]
    have h2 := heap_alloc_new ((w.alloc (.cells #[.int .i64 kd, .int .i64 nd, .slice a n cap] 25)).alloc (.cells #[.int .i64 0] 3)) (.cells #[.int .i64 kd, .int .i64 nd, .slice a n cap] 25)
    rw [show ((w.alloc (.cells #[.int .i64 kd, .int .i64 nd, .slice a n cap] 25)).alloc (.cells #[.int .i64 0] 3)).heap.size = w.heap.size + 1 + 1 by simp] at h2
    exact h2
  have HL3 := Lib.hid (HL.out.keep (descRd_ok _) (Fix.of_below hb3))
  rw [← hW3]
  clear hW3
  refine wp_rangeAll (α := Value) rfl (by omega) (gf := 109) (lb := #[.pointer (some ⟨w.heap.size + 1 + 1, 0, none⟩)]) rfl trivial (enters_of Tryz.func109 (by kernel_rfl) rfl) (fun x => #[x]) (fun x => rfl)
    (JN w) (fun _ _ _ => True) (KpN w.heap.size (w.heap.size + 1)) (fun _ => False) (1 + DescV.nodesL l) ?h0 ?hKt ?hKp ?hJs ?hJb ?hJp ?hOp ?hseq (fun x => { tmps := #[.agg #[.int .i64 kd, .int .i64 nd, .slice a n cap], .pointer (some ⟨w.heap.size, 0, none⟩), .int .i64 0, .pointer (some ⟨w.heap.size + 1, 0, none⟩), .agg #[.int .i64 kd, .int .i64 nd, .slice a n cap], .func (.func 109) #[] #[.pointer (some ⟨w.heap.size + 1 + 1, 0, none⟩)], x, undef, undef, undef], defers := [] }) ?assign ?body ?done
  case h0 => exact ⟨g1, hb3, by omega⟩
  case hKt => exact fun A B C h1 h2 => h1.trans h2
  case hKp => exact fun W lo o o' hle hl ho => ⟨Fix.of_grown (grownBy_putObj' W lo o') (fun b _ hf e => by cases e; omega), fun b _ c T f e => putN_cells hl ho e⟩
  case hJs => exact fun i W h => h.elim
  case hJb =>
    intro i W W' hj hb
    have hs := hj.size
    exact ⟨(hb.block _ (by omega)).trans hj.n, hj.below.trans (hb.mono (by omega)), Nat.le_trans hs hb.size⟩
  case hJp =>
    intro i W lo o o' hj hl hlo hoc
    have hs := hj.size
    exact ⟨putN_cells hlo hoc hj.n, putN_below hj.below (by omega) (by omega), by rw [World.putObj_size]; exact hs⟩
  case hOp => exact fun _ _ _ _ _ _ _ _ _ _ => trivial
  case hseq =>
    intro L K W hb hKb hKs hY h0
    have hbW := hb3.trans (hb.mono (by omega))
    exact all1_any L _ w.heap.size (w.heap.size + 1) K hKb (fun m i x W1 hi hK => yieldN rfl m (hY i x W1 hi hK trivial)) k _ kd nd l a n cap (w.heap.size + 1 + 1) W (HL.out.keep (descRd_ok _) (Fix.of_below hbW)) h0 (by have := hb.size; omega) (Nat.le_refl _) ((hb.block _ (by omega)).trans g2)
  case assign =>
    intro lo x W K hK
    dsimp only
    gi_wp2
    first
      | exact hK
      | exact (by kernel_rfl : #[(6 : Nat)].zip #[x] = #[(6, x)]) ▸ hK
      | (rw [show #[(6 : Nat)].zip #[x] = #[(6, x)] from rfl]; exact hK)
      | (have e : #[(6 : Nat)].zip #[x] = #[(6, x)] := by simp
         rw [e]; exact hK)
  case body =>
    intro lo i x W hi hj _
    have HJ := Lib.hid hj
    have hM := HM.out
    have hi64 : (i : Int) + 1 ≤ 9223372036854775807 := by omega
    have t0 := cell_at (o := 0) hj.n rfl
    have f0 := free_at (o := 0) hj.n
    clear hj
    gi_wp2
    have hB : Below w.heap.size w (W.setCell ⟨w.heap.size + 1, 0, none⟩ (.int .i64 ((i : Int) + 1))) := HJ.out.below.setCell (by show w.heap.size ≤ w.heap.size + 1; omega) _
    refine ⟨KeepsOthers.setCell _ _ _, ⟨Fix.setCell _ _ _ (fun h => by have h' : w.heap.size + 1 < w.heap.size := h; omega), fun b hb c T f e => (Below.heap_setCell _ _ _ _ hb).trans e⟩, ⟨?_, hB, by have := HJ.out.size; simpa [World.setCell] using this⟩⟩
    have h := heap_set_at (o := 0) (.int .i64 ((i : Int) + 1)) HJ.out.n
    exact h
  case done =>
    intro D W hD hj hdf
    have HJ := Lib.hid hj
    have HD := Lib.hid hdf
    have hsz := hj.size
    have t0 := cell_at (o := 0) hj.n rfl
    clear hj hdf
    gi_wp2
    have hK0 : W.heap[D]? = some (.deferred (some [])) := HD.out
    refine ⟨by simp, .inl ⟨_, _, rfl, run_takeDeferred hK0, ?_⟩⟩
    have hN : (DescV.mk kd nd l).nodes = 1 + DescV.nodesL l := by rw [DescV.nodes_kids]; show DescV.nodesL l + 1 = _; omega
    exact ⟨_, results_tmp rfl _ _ _, by rw [hN, Int.natCast_add]; rfl, putN_below HJ.out.below (by omega) (by omega)⟩
end Go.Proofs.YtibabpahpiijgaaGreatDoor.Lex
