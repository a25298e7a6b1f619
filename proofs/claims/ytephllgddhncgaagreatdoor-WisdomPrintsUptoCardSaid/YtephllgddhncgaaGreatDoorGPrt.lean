/- Same24, RangeS, NodesS, BigS, PairH, PrE, Bld, PrintW: laid into one text. -/
import Derived.Test.YtephllgddhncgaaGreatDoorDescR
import Derived.RangeFuncRecord
import Derived.RangeFuncFrom
import Derived.RangeFuncCalls
import Derived.Test.YtephllgddhncgaaGreatDoorGTree
import Derived.RangeFuncNested
import Derived.RangeFuncLeaves
import Derived.Shelf.Abstract
import Derived.Shelf.RegionOpen
import Derived.OwnWalkIn
import Derived.TacticsInMore
import Derived.LoopNIn
import Derived.LoopIn
import Derived.Sort.LoopGhostIn
import Derived.Lib.SmallJoins
import Derived.RegionTactic
import Derived.Deep.RegionHeld3
import Derived.OrdersHeld
import Derived.Laws.Concat
import Derived.Test.YtephllgddhncgaaGreatDoorGText
import Derived.BigQuiet
import Derived.Deep.QuietTactic
import Derived.Test.YtephllgddhncgaaGreatDoorGBase
import Derived.Test.YtephllgddhncgaaGreatDoorGLex
import Derived.Test.YtephllgddhncgaaGreatDoorChecked
import Derived.Test.YtephllgddhncgaaGreatDoorShelf
import Derived.Shelf.Strings.Builder1
import Derived.Test.YtephllgddhncgaaGreatDoorGWis
import Derived.Test.YtephllgddhncgaaGreatDoorGTw
import Derived.Test.YtephllgddhncgaaGreatDoorGSrt
/- The reference's answer on two entries. -/
namespace Go.Proofs.YtephllgddhncgaaGreatDoor.Lex
open Go Go.RowKit
set_option linter.unusedSimpArgs false
set_option linter.unusedVariables false
/-- Are two entries the same? -/
def sameE (x y : ((Int × Int) × DescV)) : Bool := decide (x.1 = y.1) && decide (cmpD x.2 y.2 = 0)
theorem sameE_self (x : ((Int × Int) × DescV)) : sameE x x = true := by simp [sameE, cmpD_self]
set_option maxRecDepth 100000 in
set_option maxHeartbeats 4000000 in
theorem same24_any (k : Nat) (F G : Foot) (a1 a2 b1 b2 ka na kb nb : Int) (la lb : List DescV) (da db : Option Addr) (ma mb ca cb : Nat) (w : World) (ha : RowOf (descRd k) 3 40 F w da ma ca la) (hb : RowOf (descRd k) 3 40 G w db mb cb lb) :
    Calls Tryz.prog 30 #[.agg #[.int .i64 a1, .int .i64 a2, .int .i64 ka, .int .i64 na, .slice da ma ca], .agg #[.int .i64 b1, .int .i64 b2, .int .i64 kb, .int .i64 nb, .slice db mb cb]] w
      fun e w' => e = .returned (.bool (sameE ((a1, a2), .mk ka na la) ((b1, b2), .mk kb nb lb))) ∧ Below w.heap.size w w' := by
  have hb0 : Below w.heap.size w ((w.alloc (.cells #[.int .i64 a1, .int .i64 a2, .int .i64 ka, .int .i64 na, .slice da ma ca] 44)).alloc (.cells #[.int .i64 b1, .int .i64 b2, .int .i64 kb, .int .i64 nb, .slice db mb cb] 44)) := ((Below.refl _ _).alloc (Nat.le_refl _) _).alloc (by simp) _
  have HA := Lib.hid (ha.keep (descRd_ok _) (Fix.of_below hb0))
  have HB := Lib.hid (hb.keep (descRd_ok _) (Fix.of_below hb0))
  have HB0 := Lib.hid hb0
  clear hb0 ha hb
  by_cases h1 : a1 = b1
  · by_cases h2 : a2 = b2
    · subst h1
      subst h2
      have HR : Hid (sameE ((a1, a2), .mk ka na la) ((a1, a2), .mk kb nb lb) = decide (cmpD (.mk ka na la) (.mk kb nb lb) = 0)) := Lib.hid (by simp [sameE])
      go_enter Tryz.func30, Tryz.ntmps30
      go_wp2_with (go_at_call 51; (with_reducible refine (rsame_any k F G ka na kb nb la lb da db ma mb ca cb _ HA.out HB.out).mono ?_); rintro e w2 ⟨rfl, hb2⟩; have HB2 := Lib.hid (HB0.out.trans (hb2.mono HB0.out.size)); clear hb2)
      go_ret
      exact ⟨by rw [HR.out]; rfl, HB2.out⟩
    · subst h1
      have hb : (a2 == b2) = false := by simpa using h2
      have HR : Hid (sameE ((a1, a2), .mk ka na la) ((a1, b2), .mk kb nb lb) = false) := Lib.hid (by simp [sameE, h2])
      go_enter Tryz.func30, Tryz.ntmps30
      go_wp2_with fail
      go_ret
      exact ⟨by rw [HR.out]; rfl, HB0.out⟩
  · have hb : (a1 == b1) = false := by simpa using h1
    have HR : Hid (sameE ((a1, a2), .mk ka na la) ((b1, b2), .mk kb nb lb) = false) := Lib.hid (by simp [sameE, h1])
    go_enter Tryz.func30, Tryz.ntmps30
    go_wp2_with fail
    go_ret
    exact ⟨by rw [HR.out]; rfl, HB0.out⟩
end Go.Proofs.YtephllgddhncgaaGreatDoor.Lex
/- A range over a function whose body goes on N times and then returns. -/
namespace Go.Proofs.YtephllgddhncgaaGreatDoor.Lex
open Go.RowKit
set_option linter.unusedVariables false
/-- How the last round must end. -/
def stopsAt (Z : World → Prop) (W : World) : Exit → Act → World → Prop
  | .ret, _, W' => KeepsOthers W W' ∧ Z W'
  | _, _, _ => False
theorem wp_rangeStop {α : Type} {F : Fence} {n : Nat} {P : Program} {g : Operand} {ps : Array Tmp} {assign body : Code} {Q : Exit → Act → World → Prop} {a : Act} {w : World}
    (hro : F.round = none) (h1 : 1 ≤ n) {gf : Nat} {lb : Array Value} (hg : a.eval g = .func (.func gf) #[] lb) (hFg : F.fn gf) (eg : ∀ args w, (callFunc gf args).run P w = .ok (.enter gf args) w)
    (encs : α → Array Value) (hps : ∀ x, (encs x).size = ps.size) (J : Nat → World → Prop) (Z : World → Prop) (Kp : World → World → Prop) (N : Nat) (h0 : J 0 w)
    (hKt : ∀ A B C, Kp A B → Kp B C → Kp A C) (hKp : ∀ W l o o', w.heap.size ≤ l → W.heap[l]? = some o → o.isCells = false → Kp W (W.putObj l o'))
    (hJb : ∀ i W W', J i W → Below W.heap.size W W' → J i W')
    (hJp : ∀ i W l o o', J i W → w.heap.size ≤ l → W.heap[l]? = some o → o.isCells = false → J i (W.putObj l o'))
    (hZb : ∀ W W', Z W → Below W.heap.size W W' → Z W')
    (hZp : ∀ W l o o', Z W → w.heap.size ≤ l → W.heap[l]? = some o → o.isCells = false → Z (W.putObj l o'))
    (hseq : ∀ (l : Nat) (K : Nat → World → Prop) (Zk : World → Prop) (W : World), Below w.heap.size w W → (∀ i W W', K i W → Below W.heap.size W W' → K i W') → (∀ W W', Zk W → Below W.heap.size W W' → Zk W') →
      (∀ i x W1, i < N → K i W1 → YieldAt F (n - 1 - 1) P l (encs x) W1 fun e W' => e = .returned (.bool true) ∧ K (i + 1) W' ∧ Kp W1 W') →
      (∀ x W1, K N W1 → YieldAt F (n - 1 - 1) P l (encs x) W1 fun e W' => e = .returned (.bool false) ∧ Zk W') → K 0 W →
      CallsIn F (n - 1) P gf (#[.func (.yield l) #[] #[]] ++ lb) W fun e W' => (∃ v, e = .returned v) ∧ Zk W')
    (a₁ : α → Act)
    (hassign : ∀ (l : Nat) (x : α) (W : World) (K : Act → World → Prop), K (a₁ x) W →
      assign.wpIn (F.inRound l) (n - 1 - 1) P (Exit.then K (fun _ _ _ => False)) { tmps := (ps.zip (encs x)).foldl (fun t (p, v) => t.setIfInBounds p v) a.tmps, defers := [] } W)
    (hbody : ∀ (l i : Nat) (x : α) (W : World), i < N → J i W → body.wpIn (F.inRound l) (n - 1 - 1) P (goesOn Kp J i W) (a₁ x) W)
    (hlast : ∀ (l : Nat) (x : α) (W : World), J N W → body.wpIn (F.inRound l) (n - 1 - 1) P (stopsAt Z W) (a₁ x) W)
    (hstop : ∀ (D : Nat) (W : World), w.heap.size ≤ D → Z W → W.heap[D]? = some (.deferred (some [])) → Code.ret.wpIn F n P Q { a with defers := { target := .collected D, args := #[] } :: a.defers } W) :
    (Code.rangeFunc g ps assign body).wpIn F n P Q a w := by
  refine wpIn_rangeFunc fun fn hfn => ?_
  rw [hro]
  obtain ⟨rec, hrec⟩ : ∃ rec : LoopState → Option Code → Loop, rec = fun st pe => { state := st, pending := pe, fn, tmps := a.tmps, params := ps, assign, body, defers := w.heap.size } := ⟨_, rfl⟩
  obtain ⟨W1, hW1⟩ : ∃ W1, (w.alloc (.deferred (some []))).alloc (.loop (rec .ready none)) = W1 := ⟨_, rfl⟩
  have hbW : Below w.heap.size w W1 := by rw [← hW1]; exact ((Below.refl _ w).alloc (Nat.le_refl _) _).alloc (by simp) _
  have hL1 : W1.heap[w.heap.size + 1]? = some (.loop (rec .ready none)) := by
    rw [← hW1]; have := World.alloc_heap_new (w.alloc (.deferred (some []))) (.loop (rec .ready none)); rwa [World.size_alloc] at this
  have hD1 : W1.heap[w.heap.size]? = some (.deferred (some [])) := by
    rw [← hW1]; exact (Below.heap_alloc _ _ _ (by simp)).trans (World.alloc_heap_new w _)
  refine ⟨w.heap.size + 1, [{ target := .collected w.heap.size, args := #[] }], W1, { target := .fn (.func gf) lb, args := #[.func (.yield (w.heap.size + 1)) #[] #[]] }, W1, gf,
    #[.func (.yield (w.heap.size + 1)) #[] #[]] ++ lb, W1, ?_, ?_, ?_, ?_, fun _ => h1, ?_⟩
  · rw [← hW1, hrec]; exact run_enterLoop_outer _ _ _ _ _
  · simp only [resolve, hg]
    simp [go_sem]
  · intro f' hf'; simp [Target.leads] at hf'; subst hf'; exact hFg
  · simp [invoke, go_sem, eg]
  · have stays : ∀ {k : Nat} {o : Obj} {A B : World}, A.heap[k]? = some o → Below A.heap.size A B → B.heap[k]? = some o := fun hk hb => (hb.block _ (Array.getElem?_eq_some_iff.1 hk).1).trans hk
    have begin_ : ∀ (x : α) (W : World) (R : Ending → World → Prop), W.heap[w.heap.size + 1]? = some (.loop (rec .ready none)) → W.heap[w.heap.size]? = some (.deferred (some [])) →
        (∀ (W2 : World), W2 = W.putObj (w.heap.size + 1) (.loop { rec .ready none with state := .busy }) → W2.heap[w.heap.size + 1]? = some (.loop { rec .ready none with state := .busy }) → W2.heap[w.heap.size]? = some (.deferred (some [])) →
          body.wpIn (F.inRound (w.heap.size + 1)) (n - 1 - 1) P (roundPost P (w.heap.size + 1) R) (a₁ x) W2) →
        YieldAt F (n - 1 - 1) P (w.heap.size + 1) (encs x) W R := by
      intro x W R hl hk hB
      have hy := run_yield (P := P) (args := encs x) hl (by rw [hrec]; exact hps x)
      rw [hrec] at hy
      have hlt : w.heap.size + 1 < W.heap.size := (Array.getElem?_eq_some_iff.1 hl).1
      exact ⟨fn, _, assign, body, hy, roundIn_of_wpIn hfn (hassign _ x W _ ⟨_, run_beginRound hl (by rw [hrec]), hB _ rfl (World.putObj_heap_same hlt) ((World.putObj_heap_other (by omega)).trans hk)⟩)⟩
    refine (hseq (w.heap.size + 1) (fun i W => J i W ∧ W.heap[w.heap.size + 1]? = some (.loop (rec .ready none)) ∧ W.heap[w.heap.size]? = some (.deferred (some [])))
      (fun W => Z W ∧ W.heap[w.heap.size + 1]? = some (.loop (rec .done (some .ret))) ∧ W.heap[w.heap.size]? = some (.deferred (some []))) W1 hbW
      (fun i A B h hb => ⟨hJb i A B h.1 hb, stays h.2.1 hb, stays h.2.2 hb⟩) (fun A B h hb => ⟨hZb A B h.1 hb, stays h.2.1 hb, stays h.2.2 hb⟩) ?_ ?_ ⟨hJb 0 w W1 h0 hbW, hL1, hD1⟩).mono ?_
    · rintro i x W hiN ⟨hi, hl, hk⟩
      refine begin_ x W _ hl hk fun W2 hW2 hl2 hk2 => ?_
      subst hW2
      refine wpIn_mono (hbody _ i x _ hiN (hJp i W _ _ _ hi (by omega) hl rfl)) ?_
      rintro e a3 W3 hp
      cases e with
      | normal =>
        obtain ⟨hk3, hkp, hi3⟩ := hp
        have hl3 := hk3.same _ _ hl2 rfl
        have hend := run_endRound (P := P) none hl3
        refine ⟨_, _, hend, rfl, ⟨hJp _ W3 _ _ _ hi3 (by omega) hl3 rfl, ?_, (World.putObj_heap_other (by omega)).trans (hk3.same _ _ hk2 rfl)⟩, hKt _ _ _ (hKp W _ _ _ (by omega) hl rfl) (hKt _ _ _ hkp (hKp W3 _ _ _ (by omega) hl3 rfl))⟩
        rw [World.putObj_heap_same (Array.getElem?_eq_some_iff.1 hl3).1, hrec]
        rfl
      | ret => exact hp.elim
      | exit id => exact hp.elim
      | goto t => exact hp.elim
      | panic ch => exact hp.elim
      | outgrown => exact hp.elim
    · rintro x W ⟨hi, hl, hk⟩
      refine begin_ x W _ hl hk fun W2 hW2 hl2 hk2 => ?_
      subst hW2
      refine wpIn_mono (hlast _ x _ (hJp N W _ _ _ hi (by omega) hl rfl)) ?_
      rintro e a3 W3 hp
      cases e with
      | ret =>
        obtain ⟨hk3, hi3⟩ := hp
        have hl3 := hk3.same _ _ hl2 rfl
        have hend := run_endRound (P := P) (some .ret) hl3
        refine ⟨_, _, hend, rfl, hZp W3 _ _ _ hi3 (by omega) hl3 rfl, ?_, (World.putObj_heap_other (by omega)).trans (hk3.same _ _ hk2 rfl)⟩
        rw [World.putObj_heap_same (Array.getElem?_eq_some_iff.1 hl3).1, hrec]
        rfl
      | normal => exact hp.elim
      | exit id => exact hp.elim
      | goto t => exact hp.elim
      | panic ch => exact hp.elim
      | outgrown => exact hp.elim
    · rintro e W2 ⟨⟨v, rfl⟩, hi, hl, hk⟩
      have hend := run_endLoop (P := P) hl (by rw [hrec]; simp)
      exact ⟨some .ret, _, by rw [hrec] at hend; exact hend, hstop _ _ (Nat.le_refl _) (hZp W2 _ _ _ hi (by omega) hl rfl) ((World.putObj_heap_other (by omega)).trans hk)⟩
end Go.Proofs.YtephllgddhncgaaGreatDoor.Lex
/- The range over a tree's nodes, left early. -/
namespace Go.Proofs.YtephllgddhncgaaGreatDoor.Lex
open Go.RowKit Go.Shelf
set_option linter.unusedSimpArgs false
set_option linter.unusedVariables false
attribute [local go_sem] Oper.semAt_some
set_option maxRecDepth 100000 in
set_option maxHeartbeats 4000000 in
theorem alls_step (k L N B0 N0 : Nat) (K : Nat → World → Prop) (hKb : ∀ i W W', K i W → Below W.heap.size W W' → K i W')
    (hY : ∀ (m i : Nat) (x : Value) (W1 : World), i < N → K i W1 → YieldAt Fence.wide m Tryz.prog L #[x] W1 fun e W' => e = .returned (.bool true) ∧ K (i + 1) W' ∧ KpN B0 N0 W1 W')
    (Z : World → Prop) (hYs : ∀ (m : Nat) (x : Value) (W1 : World), K N W1 → YieldAt Fence.wide m Tryz.prog L #[x] W1 fun e W' => e = .returned (.bool false) ∧ Z W')
    (ih : ∀ j, k = j + 1 → ∀ (kd nd : Int) (l : List DescV) (a : Option Addr) (n cap i : Nat) (W : World), RowOf (descRd j) 3 40 (fun b => b < B0) W a n cap l → K i W → N0 < W.heap.size → i ≤ N → N < i + 1 + DescV.nodesL l →
      Calls Tryz.prog 116 #[.agg #[.int .i64 kd, .int .i64 nd, .slice a n cap], .func (.yield L) #[] #[]] W fun e W' => e = .returned (.bool false) ∧ Z W')
    (kd nd : Int) (l : List DescV) (a : Option Addr) (n cap i : Nat) (W : World) (hl : RowOf (descRd k) 3 40 (fun b => b < B0) W a n cap l) (hK : K i W) (hN0 : N0 < W.heap.size) (hin : i ≤ N) (hi : N < i + 1 + DescV.nodesL l) :
      Calls Tryz.prog 116 #[.agg #[.int .i64 kd, .int .i64 nd, .slice a n cap], .func (.yield L) #[] #[]] W fun e W' => e = .returned (.bool false) ∧ Z W' := by
  have HLN := Lib.hid hl.len
  have HRM := Lib.hid hl.room
  have hn : n ≤ 3518437208880 := by have := hl.room; omega
  obtain ⟨W1, hW1⟩ : ∃ W1, W1 = W.alloc (.cells #[.int .i64 kd, .int .i64 nd, .slice a n cap] 42) := ⟨_, rfl⟩
  have hb1 : Below W.heap.size W W1 := by rw [hW1]; exact (Below.refl _ _).alloc (Nat.le_refl _) _
  have g1 : W1.heap[W.heap.size]? = some (.cells #[.int .i64 kd, .int .i64 nd, .slice a n cap] 42 (0, 0)) := by rw [hW1]; exact heap_alloc_new W _
  have hz1 : W.heap.size < W1.heap.size := by rw [hW1]; simp
  have hl1 := hl.keep (descRd_ok _) (Fix.of_below hb1)
  have HCL := Lib.hid (clone_any k _ kd nd l a n cap W1 hl1)
  have HL1 := Lib.hid hl1
  have HB1 := Lib.hid hb1
  have HG1 := Lib.hid g1
  have HK := Lib.hid hK
  have HKB := Lib.hid hKb
  have HY := Lib.hid hY
  have HYS := Lib.hid hYs
  have HIN := Lib.hid hin
  have HALL := Lib.hid (all_any L N B0 N0 K hKb hY)
  have HIH := Lib.hid ih
  have HI := Lib.hid hi
  have c0 := cell_at (o := 0) g1 rfl
  have c1 := cell_at (o := 1) g1 rfl
  have c2 := cell_at (o := 2) g1 rfl
  clear hl hl1 hb1 hK hKb hY hYs ih hi hin g1
  refine (callsIn_wide (n := 5)).1 ?_
  refine callsIn_of_wp Tryz.func116 rfl trivial ?_ rfl
  simp only [Tryz.ntmps116, List.size_toArray, List.length_cons, List.length_nil, Nat.reduceAdd, Nat.reduceSub, Array.replicate_succ, Array.replicate_zero, List.push_toArray, List.append_toArray, List.nil_append, List.cons_append]
  gi_wp2
  rw [← hW1]
  clear hW1
  refine ⟨trivial, ?_⟩
  refine (callsIn_wide.2 HCL.out).mono ?_
  rintro e w2 ⟨a2, cc2, rfl, hr2, hb2⟩
  have HB2 := Lib.hid hb2
  have hz2 : W.heap.size < w2.heap.size := Nat.lt_of_lt_of_le hz1 hb2.size
  have HB12 := Lib.hid (HB1.out.trans (hb2.mono HB1.out.size))
  by_cases hiN : i = N
  · subst hiN
    obtain ⟨fn, tmps, assign, body, hy, hR⟩ := HYS.out (5 - 1) (.agg #[.int .i64 kd, .int .i64 nd, .slice a2 n cc2]) w2 (HKB.out i W w2 HK.out HB12.out)
    clear hr2 hb2
    gi_wp2
    refine hR.mono ?_
    rintro e w3 ⟨rfl, hZ⟩
    have HZ := Lib.hid hZ
    clear hZ hy hR c0 c1 c2
    gi_wp2
    go_ret
    exact ⟨rfl, HZ.out⟩
  obtain ⟨fn, tmps, assign, body, hy, hR⟩ := HY.out (5 - 1) i (.agg #[.int .i64 kd, .int .i64 nd, .slice a2 n cc2]) w2 (by have := HIN.out; omega) (HKB.out i W w2 HK.out HB12.out)
  clear hr2 hb2
  gi_wp2
  refine hR.mono ?_
  rintro e w3 ⟨rfl, hK3, hkp3⟩
  have hkp : KpN B0 N0 W w3 := (KpN.of_below HB12.out).trans hkp3
  have g3 := hkp3.cells W.heap.size (by omega) _ _ _ ((HB2.out.block _ hz1).trans HG1.out)
  have d2 := cell_at (o := 2) g3 rfl
  have hz3 : W.heap.size < w3.heap.size := (Array.getElem?_eq_some_iff.1 g3).1
  have HK3 := Lib.hid hK3
  have HKP := Lib.hid hkp
  have HL3 := Lib.hid (HL1.out.keep (descRd_ok _) ((KpN.of_below HB2.out).trans hkp3).fix)
  clear hK3 hkp hkp3 hy hR c0 c1 c2 g3
  gi_wp2
  gi_loopg [15] n (fun gh iv wr => ∃ j : Nat, j ≤ n ∧ gh = n - j ∧ iv = .int .i64 (j : Int) ∧ i + 1 + DescV.nodesL (l.take j) ≤ N ∧ K (i + 1 + DescV.nodesL (l.take j)) wr ∧ KpN B0 N0 W wr ∧ KpN B0 N0 w3 wr)
  case atStart => exact ⟨0, by omega, rfl, rfl, by have := HIN.out; simp [DescV.nodesL]; omega, by simpa [DescV.nodesL] using HK3.out, HKP.out, KpN.refl _ _ _⟩
  case round =>
    obtain ⟨j, hj, rfl, rfl, hle, hKj, hkw, hk3⟩ := hrel
    obtain ⟨wo, rfl⟩ : ∃ wo : World, wo = wr := ⟨_, rfl⟩
    have HKJ := Lib.hid hKj
    have HKW := Lib.hid hkw
    have HK3W := Lib.hid hk3
    clear hKj hkw hk3
    by_cases hlt : j < n
    · obtain ⟨k, rfl⟩ : ∃ q, k = q + 1 := by
        cases k with
        | zero => exact absurd (row_no_zero HL1.out) (fun e => by have := HLN.out; rw [e] at this; simp at this; omega)
        | succ q => exact ⟨q, rfl⟩
      have hil : j < l.length := by have := HLN.out; omega
      obtain ⟨b, off, ax, nx, cx, rfl, hbw, _, _, _, hk, p0, p1, p2⟩ := (HL3.out.keep (descRd_ok _) HK3W.out.fix).desc j hil
      have HSUM := Lib.hid (DescV.nodesL_take_succ hil)
      have HLE := Lib.hid (DescV.nodesL_take_le l (j + 1))
      have HNK := Lib.hid (DescV.nodes_kids (l[j]'hil))
      generalize l[j]'hil = d at *
      obtain ⟨dk, dn, dl⟩ := d
      simp only [DescV.kind, DescV.n, DescV.kids] at p0 p1 p2 hk
      have HNK' : Hid ((DescV.mk dk dn dl).nodes = DescV.nodesL dl + 1) := HNK
      gi_wp2
      obtain ⟨W4, hW4⟩ : ∃ W4, W4 = wo.alloc (.cells #[.int .i64 dk, .int .i64 dn, .slice ax nx cx] 42) := ⟨_, rfl⟩
      have hb4 : Below wo.heap.size wo W4 := by rw [hW4]; exact (Below.refl _ _).alloc (Nat.le_refl _) _
      have HKW4 := Lib.hid (HKB.out _ _ _ HKJ.out hb4)
      have hz4 : N0 < W4.heap.size := by have := HKW.out.fix.size; have := hb4.size; omega
      have HC4 := Lib.hid (hk.keep (descRd_ok _) (Fix.of_below hb4))
      have HB4 := Lib.hid hb4
      by_cases htot : i + 1 + DescV.nodesL (l.take (j + 1)) ≤ N
      · have HIHC := Lib.hid (HALL.out k dk dn dl ax nx cx (i + 1 + DescV.nodesL (l.take j)) W4 HC4.out HKW4.out hz4 (by have := HSUM.out; have := HNK'.out; omega))
        have HTOT := Lib.hid htot
        rw [← hW4]
        clear hW4 hk p0 p1 p2 hb4 htot hz4 hle
        refine ⟨trivial, ?_⟩
        refine (callsIn_wide.2 HIHC.out).mono ?_
        rintro e w5 ⟨rfl, hK5, hkp5⟩
        have HK5 := Lib.hid hK5
        have HKP5 := Lib.hid ((KpN.of_below HB4.out : KpN B0 N0 wo W4).trans hkp5)
        clear hK5 hkp5
        gi_wp2
        gi_roundg (n - (j + 1))
        case measure => omega
        case rel =>
          refine ⟨j + 1, by omega, rfl, by go_num, HTOT.out, ?_, HKW.out.trans HKP5.out, HK3W.out.trans HKP5.out⟩
          rw [show i + 1 + DescV.nodesL (l.take (j + 1)) = i + 1 + DescV.nodesL (l.take j) + 1 + DescV.nodesL dl by rw [HSUM.out, HNK'.out]; omega]
          exact HK5.out
      · have HIHC := Lib.hid (HIH.out k rfl dk dn dl ax nx cx (i + 1 + DescV.nodesL (l.take j)) W4 HC4.out HKW4.out hz4 hle (by have := HSUM.out; have := HNK'.out; omega))
        rw [← hW4]
        clear hW4 hk p0 p1 p2 hb4 htot hz4 hle
        refine ⟨trivial, ?_⟩
        refine (callsIn_wide.2 HIHC.out).mono ?_
        rintro e w5 ⟨rfl, hZ⟩
        have HZ := Lib.hid hZ
        clear hZ
        gi_wp2
        go_ret
        exact ⟨rfl, HZ.out⟩
    · obtain rfl : j = n := by omega
      rw [List.take_of_length_le (by have := HLN.out; omega)] at hle
      have := HI.out
      omega
theorem alls_any (L N B0 N0 : Nat) (K : Nat → World → Prop) (hKb : ∀ i W W', K i W → Below W.heap.size W W' → K i W')
    (hY : ∀ (m i : Nat) (x : Value) (W1 : World), i < N → K i W1 → YieldAt Fence.wide m Tryz.prog L #[x] W1 fun e W' => e = .returned (.bool true) ∧ K (i + 1) W' ∧ KpN B0 N0 W1 W')
    (Z : World → Prop) (hYs : ∀ (m : Nat) (x : Value) (W1 : World), K N W1 → YieldAt Fence.wide m Tryz.prog L #[x] W1 fun e W' => e = .returned (.bool false) ∧ Z W') :
    ∀ (k : Nat) (kd nd : Int) (l : List DescV) (a : Option Addr) (n cap i : Nat) (W : World), RowOf (descRd k) 3 40 (fun b => b < B0) W a n cap l → K i W → N0 < W.heap.size → i ≤ N → N < i + 1 + DescV.nodesL l →
      Calls Tryz.prog 116 #[.agg #[.int .i64 kd, .int .i64 nd, .slice a n cap], .func (.yield L) #[] #[]] W fun e W' => e = .returned (.bool false) ∧ Z W'
  | 0 => alls_step 0 L N B0 N0 K hKb hY Z hYs fun j h => by omega
  | k + 1 => alls_step (k + 1) L N B0 N0 K hKb hY Z hYs fun j h => by
    obtain rfl : k = j := by omega
    exact alls_any L N B0 N0 K hKb hY Z hYs k
set_option maxRecDepth 100000 in
set_option maxHeartbeats 4000000 in
theorem all1s_any (L N B0 N0 : Nat) (K : Nat → World → Prop) (hKb : ∀ i W W', K i W → Below W.heap.size W W' → K i W')
    (hY : ∀ (m i : Nat) (x : Value) (W1 : World), i < N → K i W1 → YieldAt Fence.wide m Tryz.prog L #[x] W1 fun e W' => e = .returned (.bool true) ∧ K (i + 1) W' ∧ KpN B0 N0 W1 W')
    (Z : World → Prop) (hYs : ∀ (m : Nat) (x : Value) (W1 : World), K N W1 → YieldAt Fence.wide m Tryz.prog L #[x] W1 fun e W' => e = .returned (.bool false) ∧ Z W')
    (k m : Nat) (kd nd : Int) (l : List DescV) (a : Option Addr) (n cap B : Nat) (W : World) (hl : RowOf (descRd k) 3 40 (fun b => b < B0) W a n cap l) (hK : K 0 W) (hN0 : N0 < W.heap.size) (hi : N < 1 + DescV.nodesL l) (hB : W.heap[B]? = some (.cells #[.int .i64 kd, .int .i64 nd, .slice a n cap] 42 (0, 0))) :
    CallsIn Fence.wide m Tryz.prog 115 #[.func (.yield L) #[] #[], .pointer (some ⟨B, 0, none⟩)] W fun e W' => (∃ v, e = .returned v) ∧ Z W' := by
  have HA := Lib.hid (alls_any L N B0 N0 K hKb hY Z hYs k kd nd l a n cap 0 W hl hK hN0 (by omega) (by omega))
  have c0 := cell_at (o := 0) hB rfl
  have c1 := cell_at (o := 1) hB rfl
  have c2 := cell_at (o := 2) hB rfl
  clear hl hK hKb hY hYs hB
  refine callsIn_of_wp Tryz.func115 rfl trivial ?_ rfl
  simp only [Tryz.ntmps115, List.size_toArray, List.length_cons, List.length_nil, Nat.reduceAdd, Nat.reduceSub, Array.replicate_succ, Array.replicate_zero, List.push_toArray, List.append_toArray, List.nil_append, List.cons_append]
  gi_wp2
  refine ⟨trivial, fun h => (by cases h), ?_⟩
  refine (callsIn_wide.2 HA.out).mono ?_
  rintro e w1 ⟨rfl, hK1⟩
  have HK1 := Lib.hid hK1
  clear hK1
  gi_wp2
  go_end0
  exact ⟨⟨_, rfl⟩, HK1.out⟩
end Go.Proofs.YtephllgddhncgaaGreatDoor.Lex
/- valid.big, of trees of more nodes than may be: it is left early. -/
namespace Go.Proofs.YtephllgddhncgaaGreatDoor.Lex
open Go.RowKit Go.Shelf
set_option linter.unusedSimpArgs false
set_option linter.unusedVariables false
attribute [local go_sem] Oper.semAt_some
/-- Behind the round that returns. -/
structure ZB (w : World) (W : World) : Prop where
  res : W.heap[w.heap.size + 1]? = some (.cells #[.bool true] 4 (0, 0))
  below : Below w.heap.size w W
  size : w.heap.size + 4 ≤ W.heap.size
set_option maxRecDepth 100000 in
set_option maxHeartbeats 8000000 in
theorem bigV_more (k : Nat) (F : Foot) (kd nd : Int) (l : List DescV) (a : Option Addr) (n cap : Nat) (w : World) (hl : RowOf (descRd k) 3 40 F w a n cap l) (hm : 60 < 1 + DescV.nodesL l) :
    Calls Tryz.prog 79 #[.agg #[.int .i64 kd, .int .i64 nd, .slice a n cap]] w fun e w' => e = .returned (.bool true) ∧ Below w.heap.size w w' := by
  refine (callsIn_wide (n := 5)).1 ?_
  refine callsIn_of_wp_marks Tryz.func79 rfl trivial ?_ rfl
  simp only [Tryz.ntmps79, List.size_toArray, List.length_cons, List.length_nil, Nat.reduceAdd, Nat.reduceSub, Array.replicate_succ, Array.replicate_zero, List.push_toArray, List.append_toArray, List.nil_append, List.cons_append]
  have HL := Lib.hid (hl.mono (G := fun b => b < w.heap.size) (descRd_ok _) fun b hb _ => hb)
  have HM := Lib.hid hm
  clear hl hm
  gi_wp2
  refine ⟨trivial, ?_⟩
  refine (callsIn_wide.2 (allc_any kd nd a n cap _)).mono ?_
  rintro e w1 ⟨rfl, rfl⟩
  gi_wp2
  obtain ⟨W3, hW3⟩ : ∃ W3, W3 = ((((w.alloc (.cells #[.int .i64 kd, .int .i64 nd, .slice a n cap] 42)).alloc (.cells #[.bool false] 4)).alloc (.cells #[.int .i64 0] 3)).alloc (.cells #[.int .i64 kd, .int .i64 nd, .slice a n cap] 42)) := ⟨_, rfl⟩
  have hb3 : Below w.heap.size w W3 := by rw [hW3]; exact ((((Below.refl _ _).alloc (Nat.le_refl _) _).alloc (by simp) _).alloc (by simp; omega) _).alloc (by simp; omega) _
  have hz3 : W3.heap.size = w.heap.size + 4 := by rw [hW3]; simp
  have gs : W3.heap[w.heap.size]? = some (.cells #[.int .i64 kd, .int .i64 nd, .slice a n cap] 42 (0, 0)) ∧ W3.heap[w.heap.size + 1]? = some (.cells #[.bool false] 4 (0, 0)) ∧ W3.heap[w.heap.size + 1 + 1]? = some (.cells #[.int .i64 0] 3 (0, 0)) ∧ W3.heap[w.heap.size + 1 + 1 + 1]? = some (.cells #[.int .i64 kd, .int .i64 nd, .slice a n cap] 42 (0, 0)) := by
    rw [hW3]
    simp only [heap_alloc_iff, World.size_alloc]
    refine ⟨?_, ?_, ?_, ?_⟩ <;> simp
    all_goals omega
  obtain ⟨g0, g1, g2, g3⟩ := gs
  have HL3 := Lib.hid (HL.out.keep (descRd_ok _) (Fix.of_below hb3))
  rw [← hW3]
  clear hW3
  refine wp_rangeStop (α := Value) rfl (by omega) (gf := 115) (lb := #[.pointer (some ⟨w.heap.size + 1 + 1 + 1, 0, none⟩)]) rfl trivial (enters_of Tryz.func115 (by kernel_rfl) rfl) (fun x => #[x]) (fun x => rfl)
    (JB w kd nd (.slice a n cap)) (ZB w) (KpN w.heap.size (w.heap.size + 1 + 1)) 60 ?h0 ?hKt ?hKp ?hJb ?hJp ?hZb ?hZp ?hseq (fun x => { tmps := #[.agg #[.int .i64 kd, .int .i64 nd, .slice a n cap], .pointer (some ⟨w.heap.size, 0, none⟩), .pointer (some ⟨w.heap.size + 1, 0, none⟩), .pointer (some ⟨w.heap.size + 1 + 1, 0, none⟩), .agg #[.int .i64 kd, .int .i64 nd, .slice a n cap], .func (.func 115) #[] #[.pointer (some ⟨w.heap.size + 1 + 1 + 1, 0, none⟩)], x, undef, undef, undef, undef, undef, undef, undef], defers := [] }) ?assign ?body ?last ?stop
  case h0 => exact ⟨g2, g0, g1, hb3, by omega⟩
  case hKt => exact fun A B C h1 h2 => h1.trans h2
  case hKp => exact fun W lo o o' hle hl ho => ⟨Fix.of_grown (grownBy_putObj' W lo o') (fun b _ hf e => by cases e; omega), fun b _ c T f e => putN_cells hl ho e⟩
  case hJb =>
    intro i W W' hj hb
    have hs := hj.size
    exact ⟨(hb.block _ (by omega)).trans hj.n, (hb.block _ (by omega)).trans hj.box, (hb.block _ (by omega)).trans hj.res, hj.below.trans (hb.mono (by omega)), Nat.le_trans hs hb.size⟩
  case hJp =>
    intro i W lo o o' hj hl hlo hoc
    have hs := hj.size
    exact ⟨putN_cells hlo hoc hj.n, putN_cells hlo hoc hj.box, putN_cells hlo hoc hj.res, putN_below hj.below (by omega) (by omega), by rw [World.putObj_size]; exact hs⟩
  case hZb =>
    intro W W' hj hb
    have hs := hj.size
    exact ⟨(hb.block _ (by omega)).trans hj.res, hj.below.trans (hb.mono (by omega)), Nat.le_trans hs hb.size⟩
  case hZp =>
    intro W lo o o' hj hl hlo hoc
    have hs := hj.size
    exact ⟨putN_cells hlo hoc hj.res, putN_below hj.below (by omega) (by omega), by rw [World.putObj_size]; exact hs⟩
  case hseq =>
    intro L K Z W hb hKb hZb hY hYs h0
    have hbW := hb3.trans (hb.mono (by omega))
    exact all1s_any L 60 w.heap.size (w.heap.size + 1 + 1) K hKb (fun m i x W1 hi hK => yieldN rfl m (hY i x W1 hi hK)) Z (fun m x W1 hK => yieldN rfl m (hYs x W1 hK)) k _ kd nd l a n cap (w.heap.size + 1 + 1 + 1) W (HL.out.keep (descRd_ok _) (Fix.of_below hbW)) h0 (by have := hb.size; omega) HM.out ((hb.block _ (by omega)).trans g3)
  case assign =>
    intro lo x W K hK
    dsimp only
    gi_wp2
    first
      | exact hK
      | exact (by kernel_rfl : #[(6 : Nat)].zip #[x] = #[(6, x)]) ▸ hK
      | (rw [show #[(6 : Nat)].zip #[x] = #[(6, x)] from rfl]; exact hK)
      | (have e : #[(6 : Nat)].zip #[x] = #[(6, x)] := by simp
         rw [e]; exact hK)
  case body =>
    intro lo i x W hi hj
    have HJ := Lib.hid hj
    have hi64 : (i : Int) + 1 ≤ 9223372036854775807 := by omega
    have hi60 : ¬ (60 : Int) < (i : Int) + 1 := by omega
    have t0 := cell_at (o := 0) hj.n rfl
    have f0 := free_at (o := 0) hj.n
    clear hj
    gi_wp2
    have hB : Below w.heap.size w (W.setCell ⟨w.heap.size + 1 + 1, 0, none⟩ (.int .i64 ((i : Int) + 1))) := HJ.out.below.setCell (by show w.heap.size ≤ w.heap.size + 1 + 1; omega) _
    refine ⟨KeepsOthers.setCell _ _ _, ⟨Fix.setCell _ _ _ (fun h => by have h' : w.heap.size + 1 + 1 < w.heap.size := h; omega), fun b hb c T f e => (Below.heap_setCell _ _ _ _ hb).trans e⟩, ⟨?_, (Below.heap_setCell _ _ _ _ (by show w.heap.size ≠ w.heap.size + 1 + 1; omega)).trans HJ.out.box, (Below.heap_setCell _ _ _ _ (by show w.heap.size + 1 ≠ w.heap.size + 1 + 1; omega)).trans HJ.out.res, hB, by have := HJ.out.size; simpa [World.setCell] using this⟩⟩
    have h := heap_set_at (o := 0) (.int .i64 ((i : Int) + 1)) HJ.out.n
    exact h
  case last =>
    intro lo x W hj
    have HJ := Lib.hid hj
    have t0 := cell_at (o := 0) hj.n rfl
    have f0 := free_at (o := 0) hj.n
    have r0 := cell_at (o := 0) hj.res rfl
    have fr0 := free_at (o := 0) hj.res
    clear hj
    gi_wp2
    have hs := HJ.out.size
    have hk := (KeepsOthers.setCell W ⟨w.heap.size + 1 + 1, 0, none⟩ (.int .i64 61)).trans (KeepsOthers.setCell _ ⟨w.heap.size + 1, 0, none⟩ (.bool true))
    have hr := (Below.heap_setCell W ⟨w.heap.size + 1 + 1, 0, none⟩ (.int .i64 61) (w.heap.size + 1) (by show w.heap.size + 1 ≠ w.heap.size + 1 + 1; omega)).trans HJ.out.res
    have hb := (HJ.out.below.setCell (p := ⟨w.heap.size + 1 + 1, 0, none⟩) (by show w.heap.size ≤ w.heap.size + 1 + 1; omega) (.int .i64 61)).setCell (p := ⟨w.heap.size + 1, 0, none⟩) (by show w.heap.size ≤ w.heap.size + 1; omega) (.bool true)
    exact ⟨hk, heap_set_at (o := 0) (.bool true) hr, hb, by simpa [World.setCell] using hs⟩
  case stop =>
    intro D W hD hz hdf
    have HZ := Lib.hid hz
    have HD := Lib.hid hdf
    have hsz := hz.size
    have t0 := cell_at (o := 0) hz.res rfl
    clear hz hdf
    gi_wp2
    refine ⟨by simp, .inl ⟨_, _, rfl, run_takeDeferred HD.out, ?_⟩⟩
    have hPP : Below w.heap.size w (W.putObj D (.deferred none)) := putN_below HZ.out.below (by omega) (by omega)
    have hc : (W.putObj D (.deferred none)).cell? ⟨w.heap.size + 1, 0, none⟩ = some (.bool true) := cell_at (putN_cells HD.out rfl HZ.out.res) rfl
    exact ⟨.bool true, by simp [results, Tryz.results79, go_sem, hc], rfl, hPP⟩
end Go.Proofs.YtephllgddhncgaaGreatDoor.Lex
/- Two calls of a region that draws its order, each giving its value in whatever world is met: their order is nothing. -/
namespace Go.Proofs.YtephllgddhncgaaGreatDoor.Lex
open Go
section
variable {P : Program} {ops : Array Oper} {Q : Exit → Act → World → Prop} {md : Region.Mode} {S : World → Prop}
theorem wpAnyH_one {i : Nat} {oi : Oper} {vi : Value} {fuel : Nat} {listed : Array Bool} {a : Act} {w : World} (hoi : ops[i]? = some oi) (hr : Region.ready md ops listed = [i]) (hS : S w)
    (hi : ∀ (W : World) (K : Act → World → Prop), S W → (∀ W', S W' → K (a.put oi.dst vi) W') → wpOp P ops Q i K a W)
    (rest : ∀ W, S W → wpAnyH P md ops Q S fuel (listed.setIfInBounds i true) (a.put oi.dst vi) W) : wpAnyH P md ops Q S (fuel + 1) listed a w := by
  refine wpAnyH_all hr (by simp) fun k hk => ?_
  obtain rfl := List.mem_singleton.1 hk
  exact hi w _ hS fun W' h' => ⟨h', rest W' h'⟩
theorem wpAnyH_pair {i j : Nat} {oi oj : Oper} {vi vj : Value} {fuel : Nat} {listed : Array Bool} {a : Act} {w : World} (hoi : ops[i]? = some oi) (hoj : ops[j]? = some oj) (hne : i ≠ j)
    (hr : Region.ready md ops listed = [i, j]) (hr1 : Region.ready md ops (listed.setIfInBounds i true) = [j]) (hr2 : Region.ready md ops (listed.setIfInBounds j true) = [i]) (hS : S w)
    (hi : ∀ (W : World) (K : Act → World → Prop), S W → (∀ W', S W' → K (a.put oi.dst vi) W') → wpOp P ops Q i K a W)
    (hij : ∀ (W : World) (K : Act → World → Prop), S W → (∀ W', S W' → K ((a.put oi.dst vi).put oj.dst vj) W') → wpOp P ops Q j K (a.put oi.dst vi) W)
    (hj : ∀ (W : World) (K : Act → World → Prop), S W → (∀ W', S W' → K (a.put oj.dst vj) W') → wpOp P ops Q j K a W)
    (hji : ∀ (W : World) (K : Act → World → Prop), S W → (∀ W', S W' → K ((a.put oj.dst vj).put oi.dst vi) W') → wpOp P ops Q i K (a.put oj.dst vj) W)
    (hc : (a.put oj.dst vj).put oi.dst vi = (a.put oi.dst vi).put oj.dst vj)
    (rest : ∀ W, S W → wpAnyH P md ops Q S fuel ((listed.setIfInBounds i true).setIfInBounds j true) ((a.put oi.dst vi).put oj.dst vj) W) : wpAnyH P md ops Q S (fuel + 2) listed a w := by
  refine wpAnyH_all hr (by simp) fun k hk => ?_
  simp only [List.mem_cons, List.not_mem_nil, or_false] at hk
  rcases hk with rfl | rfl
  · refine hi w _ hS fun W' h' => ⟨h', wpAnyH_all hr1 (by simp) fun k' hk' => ?_⟩
    obtain rfl := List.mem_singleton.1 hk'
    exact hij W' _ h' fun W2 h2 => ⟨h2, rest W2 h2⟩
  · refine hj w _ hS fun W' h' => ⟨h', wpAnyH_all hr2 (by simp) fun k' hk' => ?_⟩
    obtain rfl := List.mem_singleton.1 hk'
    refine hji W' _ h' fun W2 h2 => ⟨h2, ?_⟩
    rw [hc, Array.setIfInBounds_comm _ _ (Ne.symm hne)]
    exact rest W2 h2
/-- Two strings joined: their length is an int. -/
theorem yieldsIf_cat {op : Oper} {a : Act} (hw : Region.wanted op (yielded ops a.tmps) = true) (ty ty' : TypeId) (x y : Operand) (ho : op.op = .binOp .add ty x y ty') (s t : ByteArray) (hx : a.eval x = .string s) (hy : a.eval y = .string t)
    (hs : (s ++ t).size ≤ 9223372036854775807) : YieldsIf P ops S op (.string (s ++ t)) a :=
  .inl ⟨hw, fun w _ => by
    rw [ByteArray.size_append] at hs
    have hadd := run_string_add_sum (P := P) w s t hs
    unfold execOp
    simp only [ho, hx, hy, eqGuard, binOp]
    simp [hadd, go_sem]⟩
end
end Go.Proofs.YtephllgddhncgaaGreatDoor.Lex
/- entry.Same; the reference's Line; valid.big of whatever tree. -/
namespace Go.Proofs.YtephllgddhncgaaGreatDoor.Lex
open Go.RowKit
set_option linter.unusedSimpArgs false
set_option linter.unusedVariables false
theorem bigAt_all {k : Nat} {kd nd : Int} {l : List DescV} : BigAt k kd nd l := by
  by_cases h : (DescV.mk kd nd l).nodes ≤ 60
  · exact bigAt_small h
  · intro F a n cap w hl
    have hn : (DescV.mk kd nd l).nodes = DescV.nodesL l + 1 := DescV.nodes_kids _
    have e : bigD (.mk kd nd l) = true := by
      unfold bigD
      exact decide_eq_true (.inl (by omega))
    rw [e]
    exact bigV_more k F kd nd l a n cap w hl (by omega)
set_option maxRecDepth 100000 in
set_option maxHeartbeats 4000000 in
theorem rline_any (k : Nat) (F : Foot) (kn kr : Nat) (kd nd : Int) (l : List DescV) (a : Option Addr) (n cap : Nat) (t : List UInt8) (w : World) (h1 : kn ≤ 999999999) (h2 : kr ≤ 999999999) (hl : RowOf (descRd k) 3 40 F w a n cap l) (hm : DescV.nodesL l < 1048576) (ht : textD (.mk kd nd l) = some t)
    (z1 : (bs (Lib.decDigits kn)).size ≤ 20) (z2 : (bs (Lib.decDigits kr)).size ≤ 20) (z3 : (bs t).size ≤ 20971520) :
    Calls Tryz.prog 29 #[.agg #[.int .i64 kn, .int .i64 kr, .int .i64 kd, .int .i64 nd, .slice a n cap]] w fun e w' => e = .returned (.string (bs (lineE kn kr t))) ∧ Below w.heap.size w w' := by
  obtain ⟨W1, hW1⟩ : ∃ W1, W1 = w.alloc (.cells #[.int .i64 kn, .int .i64 kr, .int .i64 kd, .int .i64 nd, .slice a n cap] 44) := ⟨_, rfl⟩
  have hb1 : Below w.heap.size w W1 := by rw [hW1]; exact (Below.refl _ _).alloc (Nat.le_refl _) _
  have g1 : W1.heap[w.heap.size]? = some (.cells #[.int .i64 kn, .int .i64 kr, .int .i64 kd, .int .i64 nd, .slice a n cap] 44 (0, 0)) := by rw [hW1]; exact heap_alloc_new w _
  have hz1 : w.heap.size < W1.heap.size := by rw [hW1]; simp
  have HB := Lib.hid hb1
  have HS : Hid (∀ W, Below W1.heap.size W1 W → W.cell? ⟨w.heap.size, 0, none⟩ = some (.int .i64 (kn : Int)) ∧ W.cell? ⟨w.heap.size, 1, none⟩ = some (.int .i64 (kr : Int)) ∧ W.cell? ⟨w.heap.size, 2, none⟩ = some (.int .i64 kd) ∧ W.cell? ⟨w.heap.size, 3, none⟩ = some (.int .i64 nd) ∧ W.cell? ⟨w.heap.size, 4, none⟩ = some (.slice a n cap)) := Lib.hid fun W hb => by
    have g := (hb.block _ hz1).trans g1
    exact ⟨cell_at g rfl, cell_at g rfl, cell_at g rfl, cell_at g rfl, cell_at g rfl⟩
  have HA : Hid (∀ W, Calls Tryz.prog 49 #[.int .i64 kn] W fun e w' => e = .returned (.string (bs (Lib.decDigits kn))) ∧ W = w') := Lib.hid fun W => rdig kn W (by omega)
  have HR : Hid (∀ W, Calls Tryz.prog 49 #[.int .i64 kr] W fun e w' => e = .returned (.string (bs (Lib.decDigits kr))) ∧ W = w') := Lib.hid fun W => rdig kr W (by omega)
  have HT : Hid (∀ W, Below W1.heap.size W1 W → Calls Tryz.prog 50 #[.agg #[.int .i64 kd, .int .i64 nd, .slice a n cap]] W fun e w' => e = .returned (.string (bs t)) ∧ Below W1.heap.size W1 w') := Lib.hid fun W hb => (rtext_any k F kd nd l a n cap W t (hl.keep (descRd_ok _) (Fix.of_below (hb1.trans (hb.mono hb1.size)))) hm ht).mono fun e w' h => ⟨h.1, hb.trans (h.2.mono hb.size)⟩
  have HE : Hid (bs (Lib.decDigits kn) ++ ⟨#[32]⟩ ++ bs (Lib.decDigits kr) ++ ⟨#[32]⟩ ++ bs t = bs (lineE kn kr t)) := Lib.hid (by
    rw [show (⟨#[32]⟩ : ByteArray) = bs [32] from rfl, bs_bs, bs_bs, bs_bs, bs_bs, lineE, Int.toNat_natCast, Int.toNat_natCast])
  have hbz := Below.refl W1.heap.size W1
  clear hb1 g1 hz1 hl ht h1 h2
  generalize bs (Lib.decDigits kn) = sA at *
  generalize bs (Lib.decDigits kr) = sB at *
  generalize bs t = sT at *
  have e1 : (⟨#[32]⟩ : ByteArray).size = 1 := rfl
  have y1 : (sA ++ ⟨#[32]⟩).size ≤ 21 := by rw [ByteArray.size_append]; omega
  have y2 : (sA ++ ⟨#[32]⟩ ++ sB).size ≤ 41 := by rw [ByteArray.size_append]; omega
  have y3 : (sA ++ ⟨#[32]⟩ ++ sB ++ ⟨#[32]⟩).size ≤ 42 := by rw [ByteArray.size_append]; omega
  have y4 : (sA ++ ⟨#[32]⟩ ++ sB ++ ⟨#[32]⟩ ++ sT).size ≤ 20971562 := by rw [ByteArray.size_append]; omega
  have HAY : Hid (∀ W, Below W1.heap.size W1 W → Calls Tryz.prog 49 #[.int .i64 kn] W fun e w' => e = .returned (.string sA) ∧ Below W1.heap.size W1 w') := Lib.hid fun W hb => (HA.out W).mono fun e w' h => ⟨h.1, h.2 ▸ hb⟩
  have HRY : Hid (∀ W, Below W1.heap.size W1 W → Calls Tryz.prog 49 #[.int .i64 kr] W fun e w' => e = .returned (.string sB) ∧ Below W1.heap.size W1 w') := Lib.hid fun W hb => (HR.out W).mono fun e w' h => ⟨h.1, h.2 ▸ hb⟩
  have HN := HS
  clear HS
  go_enter Tryz.func29, Tryz.ntmps29
  go_upto_region 1 with fail
  rw [← hW1]
  clear hW1
  have HS := Lib.hid hbz.drew
  refine wp_region_held (S := fun W => Below W1.heap.size W1 W) (by kernel_rfl) ?_
  change wpAnyH _ _ _ _ _ 16 #[false, false, false, false, false, false, false, false, false, false, false, false, false, false, false, false] _ W1.drew
  (refine wpAnyH_take (i := 0) (v := ?_) rfl (by kernel_rfl) (by kernel_rfl) (by kernel_rfl) (fun _ _ _ h => h) (Or.inl ⟨by rfl, ?_⟩) HS.out ?_; rotate_left 1; (focus (intro w0 hw0; clear hw0; go_simp; try with_reducible rfl)); simp only [Act.put, List.getElem_toArray, List.getElem_cons_zero, List.getElem_cons_succ, List.setIfInBounds_toArray, List.set_cons_zero, List.set_cons_succ])
  (refine wpAnyH_take (i := 1) (v := ?_) rfl (by kernel_rfl) (by kernel_rfl) (by kernel_rfl) (fun _ _ _ h => h) (Or.inl ⟨by rfl, ?_⟩) HS.out ?_; rotate_left 1; (focus (intro w0 hw0; clear hw0; go_simp; try with_reducible rfl)); simp only [Act.put, List.getElem_toArray, List.getElem_cons_zero, List.getElem_cons_succ, List.setIfInBounds_toArray, List.set_cons_zero, List.set_cons_succ])
  (refine wpAnyH_take (i := 2) (v := ?_) rfl (by kernel_rfl) (by kernel_rfl) (by kernel_rfl) (fun _ _ _ h => h) (Or.inl ⟨by rfl, ?_⟩) HS.out ?_; rotate_left 1; (focus (intro w0 hw0; obtain ⟨q1, q2, q3, q4, q5⟩ := HN.out w0 hw0; clear hw0; go_simp; try with_reducible rfl)); simp only [Act.put, List.getElem_toArray, List.getElem_cons_zero, List.getElem_cons_succ, List.setIfInBounds_toArray, List.set_cons_zero, List.set_cons_succ])
  (refine wpAnyH_take (i := 5) (v := ?_) rfl (by kernel_rfl) (by kernel_rfl) (by kernel_rfl) (fun _ _ _ h => h) (Or.inl ⟨by rfl, ?_⟩) HS.out ?_; rotate_left 1; (focus (intro w0 hw0; clear hw0; go_simp; try with_reducible rfl)); simp only [Act.put, List.getElem_toArray, List.getElem_cons_zero, List.getElem_cons_succ, List.setIfInBounds_toArray, List.set_cons_zero, List.set_cons_succ])
  (refine wpAnyH_take (i := 6) (v := ?_) rfl (by kernel_rfl) (by kernel_rfl) (by kernel_rfl) (fun _ _ _ h => h) (Or.inl ⟨by rfl, ?_⟩) HS.out ?_; rotate_left 1; (focus (intro w0 hw0; clear hw0; go_simp; try with_reducible rfl)); simp only [Act.put, List.getElem_toArray, List.getElem_cons_zero, List.getElem_cons_succ, List.setIfInBounds_toArray, List.set_cons_zero, List.set_cons_succ])
  (refine wpAnyH_take (i := 7) (v := ?_) rfl (by kernel_rfl) (by kernel_rfl) (by kernel_rfl) (fun _ _ _ h => h) (Or.inl ⟨by rfl, ?_⟩) HS.out ?_; rotate_left 1; (focus (intro w0 hw0; obtain ⟨q1, q2, q3, q4, q5⟩ := HN.out w0 hw0; clear hw0; go_simp; try with_reducible rfl)); simp only [Act.put, List.getElem_toArray, List.getElem_cons_zero, List.getElem_cons_succ, List.setIfInBounds_toArray, List.set_cons_zero, List.set_cons_succ])
  (refine wpAnyH_take (i := 11) (v := ?_) rfl (by kernel_rfl) (by kernel_rfl) (by kernel_rfl) (fun _ _ _ h => h) (Or.inl ⟨by rfl, ?_⟩) HS.out ?_; rotate_left 1; (focus (intro w0 hw0; clear hw0; go_simp; try with_reducible rfl)); simp only [Act.put, List.getElem_toArray, List.getElem_cons_zero, List.getElem_cons_succ, List.setIfInBounds_toArray, List.set_cons_zero, List.set_cons_succ])
  (refine wpAnyH_take (i := 12) (v := ?_) rfl (by kernel_rfl) (by kernel_rfl) (by kernel_rfl) (fun _ _ _ h => h) (Or.inl ⟨by rfl, ?_⟩) HS.out ?_; rotate_left 1; (focus (intro w0 hw0; obtain ⟨q1, q2, q3, q4, q5⟩ := HN.out w0 hw0; clear hw0; go_simp; try with_reducible rfl)); simp only [Act.put, List.getElem_toArray, List.getElem_cons_zero, List.getElem_cons_succ, List.setIfInBounds_toArray, List.set_cons_zero, List.set_cons_succ])
  (refine wpAnyH_one (i := 3) (vi := .string sA) rfl (by kernel_rfl) HS.out ?_ ?_; (focus (intro W K hW hK; (try simp only [Act.put, List.getElem_toArray, List.getElem_cons_zero, List.getElem_cons_succ, List.setIfInBounds_toArray, List.set_cons_zero, List.set_cons_succ]); refine wpOp_step rfl (fun K2 hK2 => ?_); go_simp; refine (HAY.out _ hW).mono ?_; rintro e w' ⟨rfl, hb⟩; exact hK2 _ _ (hK _ hb))); clear HS; intro wn hS; have HS := Lib.hid hS; clear hS; simp only [Act.put, List.getElem_toArray, List.getElem_cons_zero, List.getElem_cons_succ, List.setIfInBounds_toArray, List.set_cons_zero, List.set_cons_succ])
  (refine wpAnyH_take (i := 4) (v := _) rfl (by kernel_rfl) (by kernel_rfl) (by kernel_rfl) (fun _ _ _ h => h) (yieldsIf_cat (by rfl) _ _ _ _ rfl _ _ rfl rfl (Nat.le_trans y1 (by decide))) HS.out ?_; simp only [Act.put, List.getElem_toArray, List.getElem_cons_zero, List.getElem_cons_succ, List.setIfInBounds_toArray, List.set_cons_zero, List.set_cons_succ])
  (refine wpAnyH_one (i := 8) (vi := .string sB) rfl (by kernel_rfl) HS.out ?_ ?_; (focus (intro W K hW hK; (try simp only [Act.put, List.getElem_toArray, List.getElem_cons_zero, List.getElem_cons_succ, List.setIfInBounds_toArray, List.set_cons_zero, List.set_cons_succ]); refine wpOp_step rfl (fun K2 hK2 => ?_); go_simp; refine (HRY.out _ hW).mono ?_; rintro e w' ⟨rfl, hb⟩; exact hK2 _ _ (hK _ hb))); clear HS; intro wn hS; have HS := Lib.hid hS; clear hS; simp only [Act.put, List.getElem_toArray, List.getElem_cons_zero, List.getElem_cons_succ, List.setIfInBounds_toArray, List.set_cons_zero, List.set_cons_succ])
  (refine wpAnyH_take (i := 9) (v := _) rfl (by kernel_rfl) (by kernel_rfl) (by kernel_rfl) (fun _ _ _ h => h) (yieldsIf_cat (by rfl) _ _ _ _ rfl _ _ rfl rfl (Nat.le_trans y2 (by decide))) HS.out ?_; simp only [Act.put, List.getElem_toArray, List.getElem_cons_zero, List.getElem_cons_succ, List.setIfInBounds_toArray, List.set_cons_zero, List.set_cons_succ])
  (refine wpAnyH_take (i := 10) (v := _) rfl (by kernel_rfl) (by kernel_rfl) (by kernel_rfl) (fun _ _ _ h => h) (yieldsIf_cat (by rfl) _ _ _ _ rfl _ _ rfl rfl (Nat.le_trans y3 (by decide))) HS.out ?_; simp only [Act.put, List.getElem_toArray, List.getElem_cons_zero, List.getElem_cons_succ, List.setIfInBounds_toArray, List.set_cons_zero, List.set_cons_succ])
  (refine wpAnyH_one (i := 13) (vi := .string sT) rfl (by kernel_rfl) HS.out ?_ ?_; (focus (intro W K hW hK; (try simp only [Act.put, List.getElem_toArray, List.getElem_cons_zero, List.getElem_cons_succ, List.setIfInBounds_toArray, List.set_cons_zero, List.set_cons_succ]); refine wpOp_step rfl (fun K2 hK2 => ?_); go_simp; refine (HT.out _ hW).mono ?_; rintro e w' ⟨rfl, hb⟩; exact hK2 _ _ (hK _ hb))); clear HS; intro wn hS; have HS := Lib.hid hS; clear hS; simp only [Act.put, List.getElem_toArray, List.getElem_cons_zero, List.getElem_cons_succ, List.setIfInBounds_toArray, List.set_cons_zero, List.set_cons_succ])
  (refine wpAnyH_take (i := 14) (v := _) rfl (by kernel_rfl) (by kernel_rfl) (by kernel_rfl) (fun _ _ _ h => h) (yieldsIf_cat (by rfl) _ _ _ _ rfl _ _ rfl rfl (Nat.le_trans y4 (by decide))) HS.out ?_; simp only [Act.put, List.getElem_toArray, List.getElem_cons_zero, List.getElem_cons_succ, List.setIfInBounds_toArray, List.set_cons_zero, List.set_cons_succ])
  (refine wpAnyH_take (i := 15) (v := ?_) rfl (by kernel_rfl) (by kernel_rfl) (by kernel_rfl) (fun _ _ _ h => h) (Or.inl ⟨by rfl, ?_⟩) HS.out ?_; rotate_left 1; (focus (intro w0 hw0; clear hw0; go_simp; try with_reducible rfl)); simp only [Act.put, List.getElem_toArray, List.getElem_cons_zero, List.getElem_cons_succ, List.setIfInBounds_toArray, List.set_cons_zero, List.set_cons_succ])
  refine wpAnyH_done (by kernel_rfl) ?_ _
  rw [HE.out]
  go_wp2_with fail
  go_ret
  exact ⟨rfl, HB.out.trans (HS.out.mono HB.out.size)⟩
end Go.Proofs.YtephllgddhncgaaGreatDoor.Lex
/- strings.Builder: its methods at this program's numbers (the loader refuses one statement of copyCheck's, so the shelf's contracts do not lay; the walks are the shelf's, turned). -/
namespace Go.Proofs.YtephllgddhncgaaGreatDoor.Lex
open Go.RowKit
set_option linter.unusedSimpArgs false
set_option linter.unusedVariables false
theorem x72 : (Tryz.prog.info? 50).map (·.size) = some 2 := by kernel_rfl
theorem lies72 : liesAt Tryz.prog Tryz.prog.depth 50 (2 / Tryz.prog.cellsOf 50) 0 50 1 = true := by kernel_rfl
theorem infoByte : (Tryz.prog.info? 5).map (fun i => (i.zero, i.size, i.bytes)) = some (some (.int .u8 0), 1, 1) := by kernel_rfl
set_option maxHeartbeats 1000000 in
set_option maxRecDepth 100000 in
theorem copyCheck_used (b : Nat) (w : World) (h0 : w.cell? ⟨b, 0, none⟩ = some (.pointer (some ⟨b, 0, none⟩))) :
    Calls Tryz.prog 38 #[.pointer (some ⟨b, 0, none⟩)] w fun e w' => e = .returned (.tuple #[]) ∧ w' = w := by
  obtain ⟨j, hj, _⟩ := Option.map_eq_some_iff.1 x72
  go_enter Tryz.func38, Tryz.ntmps38
  go_wp2
  rw [Lib.run_neq_ptr_same w _ Tryz.underlying47 hj]
  go_wp2
  go_end0
  exact ⟨rfl, rfl⟩
set_option maxHeartbeats 1000000 in
set_option maxRecDepth 100000 in
theorem copyCheck_fresh (b : Nat) (w : World) (h0 : w.cell? ⟨b, 0, none⟩ = some (.pointer none)) (hsh : w.shape? b = some (50, 2)) (hfz : w.frozen? ⟨b, 0, none⟩ = false) :
    Calls Tryz.prog 38 #[.pointer (some ⟨b, 0, none⟩)] w fun e w' => e = .returned (.tuple #[]) ∧ w' = w.setCell ⟨b, 0, none⟩ (.pointer (some ⟨b, 0, none⟩)) := by
  obtain ⟨j, hj, hjs⟩ := Option.map_eq_some_iff.1 x72
  go_enter Tryz.func38, Tryz.ntmps38
  go_wp2
  rw [Lib.run_to_unsafe w ⟨b, 0, none⟩ Tryz.underlying47 Tryz.underlying107 hj (by rw [hjs]; decide) hsh (Nat.zero_lt_succ 1)]
  simp only [Result.andThen]
  rw [Oper.upon_value]
  go_wp2
  rw [run_callFunc_extern Tryz.func62 (by kernel_rfl) (by kernel_rfl) (by kernel_rfl) (e := Extern.AbiNoEscape.same) (by kernel_rfl)]
  rw [Lib.run_noEscape]
  simp only [Result.andThen]
  rw [Oper.upon_value]
  go_wp2
  rw [Lib.run_from_unsafe w ⟨b, 0, none⟩ Tryz.underlying107 Tryz.underlying47 hj hsh lies72]
  simp only [Result.andThen]
  rw [Oper.upon_value]
  go_wp2
  go_end0
  exact ⟨rfl, rfl⟩
/-! ### The builder's block, and its row: no older than block C -/
def BAt (b C : Nat) (p : Value) (bs : List Value) (w : World) : Prop :=
  ∃ v, w.heap[b]? = some (.cells #[p, v] 50 (0, 0)) ∧ w.ownsRow C 5 1 v bs.length bs ∧ v.ownBlock ≠ some b
def IsB (b C : Nat) (bs : List Value) (w : World) : Prop := BAt b C (.pointer none) bs w ∨ BAt b C (.pointer (some ⟨b, 0, none⟩)) bs w
/-- All below C but block b is as it was. -/
structure But (b C : Nat) (w w' : World) : Prop where
  os : w'.os = w.os
  tape : w'.tape = w.tape
  output : w'.output = w.output
  size : w.heap.size ≤ w'.heap.size
  block : ∀ k, k < C → k ≠ b → w'.heap[k]? = w.heap[k]?
theorem But.refl (b C : Nat) (w : World) : But b C w w := ⟨rfl, rfl, rfl, Nat.le_refl _, fun _ _ _ => rfl⟩
theorem But.trans {b C : Nat} {u v w : World} (h : But b C u v) (k : But b C v w) : But b C u w :=
  ⟨k.os.trans h.os, k.tape.trans h.tape, k.output.trans h.output, Nat.le_trans h.size k.size, fun i hi hn => (k.block i hi hn).trans (h.block i hi hn)⟩
theorem But.below {b C B : Nat} {w w' : World} (h : But b C w w') (hb : B ≤ b) (hc : B ≤ C) : Below B w w' := ⟨h.os, h.tape, h.output, h.size, fun k hk => h.block k (by omega) (by omega)⟩
theorem But.of_below {b C : Nat} {w w' : World} (h : Below C w w') : But b C w w' := ⟨h.os, h.tape, h.output, h.size, fun k hk _ => h.block k hk⟩
theorem But.setCell (b C : Nat) (w : World) (o : Nat) (u : Value) : But b C w (w.setCell ⟨b, o, none⟩ u) := ⟨rfl, rfl, rfl, by simp, fun k _ hn => Below.heap_setCell _ _ _ _ hn⟩
theorem But.grown {b C : Nat} {w w1 w2 : World} {r : Option Nat} (h : But b C w w1) (hg : w1.grownBy w2 r) (hc : C ≤ w1.heap.size) (hr : ∀ k, r = some k → C ≤ k) : But b C w w2 :=
  h.trans (.of_below ((Below.refl C w1).grown hg hc hr))
theorem But.mono {b C C' : Nat} {w w' : World} (h : But b C w w') (hc : C' ≤ C) : But b C' w w' := ⟨h.os, h.tape, h.output, h.size, fun k hk hn => h.block k (by omega) hn⟩
theorem own_mono {w : World} {C C' : Nat} {e : TypeId} {size n : Nat} {v : Value} {xs : List Value} (h : w.ownsRow C e size v n xs) (hc : C' ≤ C) : w.ownsRow C' e size v n xs := by
  refine ⟨h.1, ?_⟩
  rcases h.2 with hn | ⟨g, cap, cur, rfl, hbg, rest⟩
  · exact .inl hn
  · exact .inr ⟨g, cap, cur, rfl, by omega, rest⟩
theorem own_other {w w' : World} {C : Nat} {e : TypeId} {size n : Nat} {v : Value} {xs : List Value} (h : w.ownsRow C e size v n xs) (hk : ∀ k, v.ownBlock = some k → w'.heap[k]? = w.heap[k]?) : w'.ownsRow C e size v n xs := by
  refine ⟨h.1, ?_⟩
  rcases h.2 with hn | ⟨g, cap, cur, rfl, hbg, hg, rest⟩
  · exact .inl hn
  · exact .inr ⟨g, cap, cur, rfl, hbg, by rw [hk g rfl]; exact hg, rest⟩
theorem BAt.at_ {b C : Nat} {p : Value} {bs : List Value} {w : World} (h : BAt b C p bs w) : Lib.BuilderAt 50 5 (min b C) b p bs w := by
  obtain ⟨v, h1, h2, h3⟩ := h
  exact ⟨Nat.min_le_left _ _, v, h1, own_mono h2 (Nat.min_le_right _ _), h3⟩
theorem IsB.is {b C : Nat} {bs : List Value} {w : World} (h : IsB b C bs w) : Lib.IsBuilder 50 5 (min b C) b bs w := by
  rcases h with h | h
  · exact .inl h.at_
  · exact .inr h.at_
theorem BAt.used {b C : Nat} {p : Value} {bs : List Value} {w : World} (h : BAt b C p bs w) (q : Value) : BAt b C q bs (w.setCell ⟨b, 0, none⟩ q) := by
  obtain ⟨v, h1, h2, h3⟩ := h
  refine ⟨v, heap_set_at q h1, own_other h2 fun k hk => Below.heap_setCell _ _ _ _ (fun e => h3 (by rw [hk, e])), h3⟩
theorem BAt.put {b C : Nat} {p v v' : Value} {bs' : List Value} {w : World} (hb : w.heap[b]? = some (.cells #[p, v] 50 (0, 0))) (hown : w.ownsRow C 5 1 v' bs'.length bs') : BAt b C p bs' (w.setCell ⟨b, 1, none⟩ v') := by
  have hne : v'.ownBlock ≠ some b := fun e => by
    rcases hown.2 with ⟨hv, _⟩ | ⟨g, cap, cur, hv, _, hg, _⟩
    · rw [hv] at e; cases e
    · rw [hv] at e
      cases e
      rw [hb] at hg
      cases hg
  refine ⟨v', heap_set_at v' hb, own_other hown fun k hk => Below.heap_setCell _ _ _ _ (fun e => hne (by rw [hk, e])), hne⟩
theorem copyCheck (b C : Nat) (bs : List Value) (w : World) (h : IsB b C bs w) :
    Calls Tryz.prog 38 #[.pointer (some ⟨b, 0, none⟩)] w fun e w' => e = .returned (.tuple #[]) ∧ (BAt b C (.pointer (some ⟨b, 0, none⟩)) bs w' ∧ But b C w w') := by
  rcases h with h | h
  · refine (copyCheck_fresh b w h.at_.cell0 h.at_.shape h.at_.frozen0).mono ?_
    rintro e w' ⟨rfl, rfl⟩
    exact ⟨rfl, h.used _, But.setCell _ _ _ _ _⟩
  · refine (copyCheck_used b w h.at_.cell0).mono ?_
    rintro e w' ⟨rfl, rfl⟩
    exact ⟨rfl, h, But.refl _ _ _⟩
set_option maxHeartbeats 2000000 in
set_option maxRecDepth 100000 in
theorem writeString (b C : Nat) (bs : List Value) (s : ByteArray) (w : World) (h : IsB b C bs w) (hlen : bs.length + s.size ≤ 140737488355328) (hBw : C ≤ w.heap.size) :
    Calls Tryz.prog 20 #[.pointer (some ⟨b, 0, none⟩), .string s] w fun e w' => e = .returned (.tuple #[.int .i64 s.size, .nilIface]) ∧ (BAt b C (.pointer (some ⟨b, 0, none⟩)) (bs ++ Lib.strCells s) w' ∧ But b C w w') := by
  obtain ⟨i0, hi, hz0, hz1, hz2⟩ := info_parts infoByte
  go_enter Tryz.func20, Tryz.ntmps20
  go_wp2_with (go_at_call 38; refine (copyCheck b C bs _ h).mono ?_)
  rintro e w1 ⟨rfl, h1, hb1⟩
  obtain ⟨v, hbk, hown, hne⟩ := h1
  have c0 : w1.cell? ⟨b, 0, none⟩ = some (.pointer (some ⟨b, 0, none⟩)) := by rw [Lib.cell_of_heap hbk]; rfl
  have c1 : w1.cell? ⟨b, 1, none⟩ = some v := by rw [Lib.cell_of_heap hbk]; rfl
  go_wp2_with (at_builtin; refine Lib.wpList_append_own_string _ rfl _ _ 48 9 rfl C 5 i0 Tryz.underlying48 Tryz.underlying9 hi hz0 hz1 hz2 _ _ _ rfl hown s rfl ?c3 ?c4 ?c5 ?_)
  case c3 => unfold maxLen; omega
  case c4 => omega
  case c5 => have := hb1.size; omega
  intro v' w2 hown' hgrow _
  have hlt : b < w1.heap.size := by
    rcases Nat.lt_or_ge b w1.heap.size with h' | h'
    · exact h'
    · simp [Array.getElem?_eq_none h'] at hbk
  have hb2 : w2.heap[b]? = some (.cells #[.pointer (some ⟨b, 0, none⟩), v] 50 (0, 0)) := by
    rw [hgrow.block b hlt (fun e => hne e.symm)]
    exact hbk
  have d0 : w2.cell? ⟨b, 0, none⟩ = some (.pointer (some ⟨b, 0, none⟩)) := by rw [Lib.cell_of_heap hb2]; rfl
  have d1 : w2.cell? ⟨b, 1, none⟩ = some v := by rw [Lib.cell_of_heap hb2]; rfl
  have f1 : w2.frozen? ⟨b, 1, none⟩ = false := Lib.frozen_of_heap hb2 1
  obtain ⟨ao, n', cap, rfl⟩ : ∃ ao n' cap, v' = .slice ao n' cap := by
    rcases hown'.2 with ⟨hv, _⟩ | ⟨g, cap, cur, hv, _⟩
    · exact ⟨_, _, _, hv⟩
    · exact ⟨_, _, _, hv⟩
  go_wp2
  go_ret2
  refine ⟨rfl, ?_, ?_⟩
  · exact BAt.put hb2 (bs' := bs ++ Lib.strCells s) (by simpa [Lib.strCells_length] using hown')
  · exact (hb1.grown hgrow (by have := hb1.size; omega) (fun k hk => (hown.lt k hk).1)).trans (But.setCell _ _ _ _ _)
/-! ### In bytes -/
/-- The builder in block b holds the bytes l; its row is no older than block C. -/
def Bld (w : World) (b C : Nat) (l : List UInt8) : Prop := IsB b C (Lib.byteCells l) w
theorem bld_new (w : World) (C : Nat) : Bld (w.alloc (.cells #[.pointer none, .slice none 0 0] 50)) w.heap.size C [] :=
  .inl ⟨_, heap_alloc_new w _, World.ownsRow_nil _ _ _ _, by simp [Value.ownBlock]⟩
theorem Bld.keep {w w' : World} {b C : Nat} {l : List UInt8} (h : Bld w b C l) (hb : Below w.heap.size w w') : Bld w' b C l := by
  have one : ∀ {p}, BAt b C p (Lib.byteCells l) w → BAt b C p (Lib.byteCells l) w' := by
    rintro p ⟨v, h2, h3, h4⟩
    exact ⟨v, (hb.block b (Array.getElem?_eq_some_iff.1 h2).1).trans h2, own_below h3 hb, h4⟩
  rcases h with h | h
  · exact .inl (one h)
  · exact .inr (one h)
theorem Bld.lt {w : World} {b C : Nat} {l : List UInt8} (h : Bld w b C l) : b < w.heap.size := by
  rcases h with ⟨_, h, _⟩ | ⟨_, h, _⟩
  · exact (Array.getElem?_eq_some_iff.1 h).1
  · exact (Array.getElem?_eq_some_iff.1 h).1
theorem Bld.mono {w : World} {b C C' : Nat} {l : List UInt8} (h : Bld w b C l) (hc : C' ≤ C) : Bld w b C' l := by
  rcases h with ⟨v, h1, h2, h3⟩ | ⟨v, h1, h2, h3⟩
  · exact .inl ⟨v, h1, own_mono h2 hc, h3⟩
  · exact .inr ⟨v, h1, own_mono h2 hc, h3⟩
theorem byteCells_app (l : List UInt8) (s : ByteArray) : Lib.byteCells l ++ Lib.strCells s = Lib.byteCells (l ++ s.data.toList) := by simp [Lib.byteCells, Lib.strCells]
theorem bld_write (b C : Nat) (l : List UInt8) (s : ByteArray) (w : World) (h : Bld w b C l) (hlen : l.length + s.size ≤ 140737488355328) (hBw : C ≤ w.heap.size) :
    Calls Tryz.prog 20 #[.pointer (some ⟨b, 0, none⟩), .string s] w fun e w' => e = .returned (.tuple #[.int .i64 s.size, .nilIface]) ∧ Bld w' b C (l ++ s.data.toList) ∧ But b C w w' :=
  (writeString b C _ s w h (by rw [Lib.byteCells_length]; exact hlen) hBw).mono fun e w' ⟨h1, h2, h3⟩ => ⟨h1, .inr (by rw [← byteCells_app]; exact h2), h3⟩
theorem bld_string (b C : Nat) (l : List UInt8) (w : World) (h : Bld w b C l) (hBw : min b C ≤ w.heap.size) :
    Calls Tryz.prog 23 #[.pointer (some ⟨b, 0, none⟩)] w fun e w' => e = .returned (.string (bs l)) ∧ Below (min b C) w w' := Tryz.Builder_String_any (min b C) b l w h.is hBw
theorem bld_len (b C : Nat) (l : List UInt8) (w : World) (h : Bld w b C l) :
    Calls Tryz.prog 22 #[.pointer (some ⟨b, 0, none⟩)] w fun e w' => e = .returned (.int .i64 l.length) ∧ w = w' :=
  (Tryz.Builder_Len (min b C) b _ w h.is).mono fun e w' ⟨h1, h2⟩ => ⟨by rw [h1, Lib.byteCells_length], h2.symm⟩
end Go.Proofs.YtephllgddhncgaaGreatDoor.Lex
/- wisdom.Print. -/
namespace Go.Proofs.YtephllgddhncgaaGreatDoor.Lex
open Go.RowKit Stab
set_option linter.unusedSimpArgs false
set_option linter.unusedVariables false
theorem chkW_bad {l : List EntryV} {i : Nat} (hi : i < l.length) (hb : ∀ j (h : j < l.length), j < i → FineX (l[j]'h)) (hf : ¬ FineX (l[i]'hi)) : chkW l = forE (l[i]'hi).1.1 (l[i]'hi).1.2 (l[i]'hi).2 := by
  have h : l.find? (fun x => decide (forE x.1.1 x.1.2 x.2 ≠ 0)) = some (l[i]'hi) := by
    rw [List.find?_eq_some_iff_getElem]
    refine ⟨by simpa [FineX] using hf, i, hi, rfl, fun j hj => ?_⟩
    have := hb j (by omega) hj
    simpa [FineX] using this
  unfold chkW
  rw [h]
theorem chkW_fine {l : List EntryV} (h : ∀ x ∈ l, FineX x) : chkW l = if (l.map Prod.fst).Nodup then (if 65536 < (textW l).length then 12 else 0) else 11 := by
  have hn : l.find? (fun x => decide (forE x.1.1 x.1.2 x.2 ≠ 0)) = none := by
    rw [List.find?_eq_none]
    intro x hx
    have := h x hx
    simpa [FineX] using this
  unfold chkW
  rw [hn]
theorem twiceB_iff : ∀ l : List EntryV, twiceB l = true ↔ ∃ i, ∃ h : i + 1 < l.length, (l[i + 1]'h).1 = (l[i]'(by omega)).1
  | [] => by simp [twiceB]
  | [a] => by simp [twiceB]
  | a :: b :: l => by
    rw [twiceB, Bool.or_eq_true, decide_eq_true_iff, twiceB_iff (b :: l)]
    constructor
    · rintro (h | ⟨i, h, e⟩)
      · exact ⟨0, by simp, h.symm⟩
      · exact ⟨i + 1, by simpa using h, by simpa using e⟩
    · rintro ⟨i, h, e⟩
      cases i with
      | zero => exact .inl e.symm
      | succ i => exact .inr ⟨i, by simpa using h, by simpa using e⟩
theorem printE_fine {kn kr : Int} {d : DescV} (h : FineX ((kn, kr), d)) : printE kn kr d = .tuple #[.string (bs (lineX ((kn, kr), d))), .int .i64 0] := by
  have h' : forE kn kr d = 0 := h
  obtain ⟨t, ht⟩ := forE_text h'
  rw [printE, if_pos h', ht, lineX, ht]
  rfl
theorem lineX_len {x : EntryV} (h : FineX x) : (lineX x).length ≤ 1240 := by
  obtain ⟨t, ht⟩ := forE_text h
  obtain ⟨l1, l2, l3, _⟩ := lineE_len h ht
  rw [lineX, ht, lineE]
  simp only [Option.getD_some, List.length_append, List.length_cons, List.length_nil]
  omega
theorem bodyW_take {l : List EntryV} {i : Nat} (h : i < l.length) : bodyW (l.take (i + 1)) = bodyW (l.take i) ++ (lineX (l[i]'h) ++ [10]) := by
  rw [List.take_succ_eq_append_getElem h]
  simp only [bodyW, List.flatMap_append, List.flatMap_cons, List.flatMap_nil, List.append_nil]
theorem bodyW_len {l : List EntryV} (h : ∀ x ∈ l, FineX x) : (bodyW l).length ≤ l.length * 1241 := by
  induction l with
  | nil => simp [bodyW]
  | cons x l ih =>
    have h1 := lineX_len (h x (by simp))
    have h2 := ih fun y hy => h y (by simp [hy])
    have e : bodyW (x :: l) = lineX x ++ 10 :: bodyW l := by simp [bodyW]
    rw [e]
    simp only [List.length_append, List.length_cons]
    omega
theorem fine_nodes {x : EntryV} (h : FineX x) : x.2.nodes ≤ 60 := by
  obtain ⟨_, _, _, h4, _⟩ := forE_ok h
  unfold bigD at h4
  simp at h4
  omega
def printWV (l : List EntryV) : Value := if chkW l = 0 then .tuple #[.string (bs (textW l)), .int .i64 0] else .tuple #[.string ⟨#[]⟩, .int .i64 (chkW l)]
/-- The text so far, in its builder. -/
structure PW (U W : World) (t : List UInt8) : Prop where
  below : Below U.heap.size U W
  bld : Bld W U.heap.size (U.heap.size + 1) t
  size : U.heap.size + 1 ≤ W.heap.size
theorem PW.start (U : World) : PW U (U.alloc (.cells #[.pointer none, .slice none 0 0] 50)) [] := ⟨(Below.refl _ _).alloc (Nat.le_refl _) _, bld_new U _, by simp⟩
theorem PW.keep {U W W' : World} {t : List UInt8} (h : PW U W t) (hb : Below W.heap.size W W') : PW U W' t := ⟨h.below.trans (hb.mono h.below.size), h.bld.keep hb, Nat.le_trans h.size hb.size⟩
theorem PW.write {U W : World} {t : List UInt8} (h : PW U W t) (s : List UInt8) (hlen : t.length + s.length ≤ 1048576000) :
    Calls Tryz.prog 20 #[.pointer (some ⟨U.heap.size, 0, none⟩), .string (bs s)] W fun e w' => e = .returned (.tuple #[.int .i64 (bs s).size, .nilIface]) ∧ PW U w' (t ++ s) := by
  refine (bld_write _ _ t (bs s) W h.bld (by rw [size_bs]; omega) h.size).mono ?_
  rintro e w' ⟨h1, h2, h3⟩
  exact ⟨h1, h.below.trans (h3.below (Nat.le_refl _) (by omega)), by rw [data_bs] at h2; exact h2, Nat.le_trans h.size h3.size⟩
set_option maxRecDepth 100000 in
set_option maxHeartbeats 8000000 in
theorem wprint (k : Nat) (F : Foot) (l : List EntryV) (a : Option Addr) (n cap : Nat) (w : World) (hl : RowOf (entryRd k) 5 56 F w a n cap l) (hk : k ≤ 1048576) (hn : n ≤ 4096) (hx : HasMax w) (ht : HasTab w) :
    Calls Tryz.prog 8 #[.slice a n cap] w fun e w' => e = .returned (printWV l) ∧ Below w.heap.size w w' := by
  have HLN := Lib.hid hl.len
  have HL := Lib.hid hl
  have HX := Lib.hid hx
  have HT := Lib.hid ht
  have HK := Lib.hid hk
  clear hl hx ht hk
  go_enter Tryz.func8, Tryz.ntmps8
  go_upto_region 2 with fail
  go_loopg [14] n (fun g iv wr => ∃ i : Nat, i ≤ n ∧ g = n - i ∧ iv = .int .i64 i ∧ (∀ j (h : j < l.length), j < i → FineX (l[j]'h)) ∧ Below w.heap.size w wr)
  case atStart => exact ⟨0, by omega, by omega, rfl, fun j h h1 => absurd h1 (by omega), Below.refl _ _⟩
  case round =>
    obtain ⟨i, hi, rfl, rfl, hall, hB⟩ := hrel
    obtain ⟨wo, rfl⟩ : ∃ wo : World, wo = wr := ⟨_, rfl⟩
    have HB := Lib.hid hB
    have HALL := Lib.hid hall
    clear hB hall
    by_cases hlt : i < n
    · have hil : i < l.length := by have := HLN.out; omega
      obtain ⟨b, o, hb, xn, xr, xk, xd, xl, xa, xm, xc, rfl, hx, ⟨p0, p1, p2, p3, p4⟩, _, _, hd⟩ := (HL.out.keep (entryRd_ok _) (Fix.of_below HB.out)).entry i hil
      have HX1 := Lib.hid hx
      have HIL := Lib.hid hil
      have HD := Lib.hid (descRd_kids hd)
      obtain ⟨W1, hW1⟩ : ∃ W1, W1 = wo.alloc (.cells #[.int .i64 xn, .int .i64 xr, .int .i64 xk, .int .i64 xd, .slice xa xm xc] 44) := ⟨_, rfl⟩
      have hb1 : Below wo.heap.size wo W1 := by rw [hW1]; exact (Below.refl _ _).alloc (Nat.le_refl _) _
      have HB1 := Lib.hid hb1
      have g1 : W1.heap[wo.heap.size]? = some (.cells #[.int .i64 xn, .int .i64 xr, .int .i64 xk, .int .i64 xd, .slice xa xm xc] 44 (0, 0)) := by rw [hW1]; exact heap_alloc_new wo _
      have c0 : W1.cell? ⟨wo.heap.size, 0, none⟩ = some (.int .i64 xn) := cell_at g1 rfl
      have c1 : W1.cell? ⟨wo.heap.size, 1, none⟩ = some (.int .i64 xr) := cell_at g1 rfl
      have c2 : W1.cell? ⟨wo.heap.size, 2, none⟩ = some (.int .i64 xk) := cell_at g1 rfl
      have c3 : W1.cell? ⟨wo.heap.size, 3, none⟩ = some (.int .i64 xd) := cell_at g1 rfl
      have c4 : W1.cell? ⟨wo.heap.size, 4, none⟩ = some (.slice xa xm xc) := cell_at g1 rfl
      have HC := Lib.hid (echeck_any k F xn xr xk xd xl xa xm xc W1 (HD.out.keep (descRd_ok _) (Fix.of_below hb1)) HK.out bigAt_all)
      have HF : Hid (forE (l[i]'hil).1.1 (l[i]'hil).1.2 (l[i]'hil).2 = forE xn xr (.mk xk xd xl)) := Lib.hid (by rw [hx])
      clear hx hd hb1 g1
      by_cases hf : forE xn xr (.mk xk xd xl) = 0
      · have HFX : Hid (FineX (l[i]'hil)) := Lib.hid (by show forE _ _ _ = 0; rw [HF.out]; exact hf)
        rw [hf] at HC
        clear hf
        go_upto_region 4 with fail
        rw [← hW1]
        clear hW1 p0 p1 p2 p3 p4
        go_wp2_with (go_at_call 17; (with_reducible refine HC.out.mono ?_); rintro e w2 ⟨rfl, hb2⟩; have HB2 := Lib.hid (HB.out.trans ((HB1.out.trans (hb2.mono HB1.out.size)).mono HB.out.size)); clear hb2 c0 c1 c2 c3 c4)
        go_roundg (n - (i + 1))
        case measure => omega
        case rel =>
          refine ⟨i + 1, by omega, rfl, by go_num, fun j h hj => ?_, HB2.out⟩
          by_cases hji : j = i
          · subst hji; exact HFX.out
          · exact HALL.out j h (by omega)
      · have HFX : Hid (¬ FineX (l[i]'hil)) := Lib.hid (by show ¬ forE _ _ _ = 0; rw [HF.out]; exact hf)
        have HCK : Hid (printWV l = .tuple #[.string ⟨#[]⟩, .int .i64 (forE xn xr (.mk xk xd xl))]) := Lib.hid (by
          have h := chkW_bad hil HALL.out HFX.out
          rw [HF.out] at h
          rw [printWV, h, if_neg hf])
        generalize forE xn xr (.mk xk xd xl) = f at *
        have hfb : (f != 0) = true := by simpa using hf
        go_upto_region 4 with fail
        rw [← hW1]
        clear hW1 p0 p1 p2 p3 p4
        go_wp2_with (go_at_call 17; (with_reducible refine HC.out.mono ?_); rintro e w2 ⟨rfl, hb2⟩; have HB2 := Lib.hid (HB.out.trans ((HB1.out.trans (hb2.mono HB1.out.size)).mono HB.out.size)); clear hb2 c0 c1 c2 c3 c4)
        go_ret2
        exact ⟨by rw [HCK.out]; rfl, HB2.out⟩
    · obtain rfl : i = n := by omega
      have HALLF : Hid (∀ x ∈ l, FineX x) := Lib.hid fun x hx => by
        obtain ⟨j, hj, rfl⟩ := List.mem_iff_getElem.1 hx
        exact HALL.out j hj (by have := HLN.out; omega)
      have HCF := Lib.hid (chkW_fine HALLF.out)
      have HST := Lib.hid (sort_any k F l a i cap wo (by omega) (HL.out.keep (entryRd_ok _) (Fix.of_below HB.out)))
      have HSF : Hid (∀ x ∈ sortE l, FineX x) := Lib.hid fun x hx => HALLF.out x ((sortE_perm l).mem_iff.1 hx)
      have HTW : Hid (∀ t : Bool, (t = true ↔ ∃ j, ∃ h : j + 1 < (sortE l).length, ((sortE l)[j + 1]'h).1 = ((sortE l)[j]'(by omega)).1) → (t = false ↔ (l.map Prod.fst).Nodup)) := Lib.hid fun t h => by
        rw [← sortE_twice, ← Bool.not_eq_true, h, ← twiceB_iff, Bool.not_eq_true]
      have HTX : Hid ((textW l).length ≤ 11 + i * 1241) := Lib.hid (by
        have h1 := bodyW_len HSF.out
        have h2 := (sortE_perm l).length_eq
        have h3 := HLN.out
        rw [textW, List.length_append, show headW.length = 11 from rfl]
        rw [h2, h3] at h1
        omega)
      have HTXE : Hid (textW l = headW ++ bodyW (sortE l)) := Lib.hid rfl
      clear hi hlt
      go_upto_region 9 with (go_at_call 18; (with_reducible refine HST.out.mono ?_); rintro e w2 ⟨a2, c2, rfl, hr2, hb2⟩; have HR2 := Lib.hid hr2; have HB2 := Lib.hid (HB.out.trans (hb2.mono HB.out.size)); clear hr2 hb2)
      go_upto_if 27 with (go_at_call 19; (with_reducible refine (twice_any k _ (sortE l) a2 i c2 w2 HR2.out).mono ?_); rintro e w3 ⟨t, rfl, htw, hb3⟩; have HTB := Lib.hid (HTW.out t htw); have HB3 := Lib.hid (HB2.out.trans (hb3.mono HB2.out.size)); have HR3 := Lib.hid (HR2.out.keep (entryRd_ok _) (Fix.of_below hb3)); clear htw hb3)
      cases t with
      | true =>
        have HCK : Hid (printWV l = .tuple #[.string ⟨#[]⟩, .int .i64 11]) := Lib.hid (by
          have hnd : ¬ (l.map Prod.fst).Nodup := fun h => by have := HTB.out.2 h; cases this
          rw [printWV, HCF.out, if_neg hnd]
          rfl)
        go_wp2_with fail
        go_ret2
        exact ⟨by rw [HCK.out]; rfl, HB3.out⟩
      | false =>
        have HCK : Hid (printWV l = if 65536 < (textW l).length then .tuple #[.string ⟨#[]⟩, .int .i64 12] else .tuple #[.string (bs (textW l)), .int .i64 0]) := Lib.hid (by
          have hnd := HTB.out.1 rfl
          rw [printWV, HCF.out, if_pos hnd]
          by_cases h : 65536 < (textW l).length
          · simp [h]
          · simp [h])
        generalize textW l = tx at *
        obtain ⟨U, rfl⟩ : ∃ U : World, U = w3 := ⟨_, rfl⟩
        have HLS : Hid ((sortE l).length = i) := Lib.hid HR3.out.len
        have HRG := Lib.hid (HR3.out.mono (entryRd_ok _) (G := fun b => b < U.heap.size) fun b hb _ => hb)
        have HPS := Lib.hid (PW.start U)
        go_upto_region 12 with fail
        generalize U.alloc (.cells #[.pointer none, .slice none 0 0] 50) = W6 at *
        have hwr := HPS.out.write headW (by simp [headW])
        rw [show bs headW = ⟨#[100, 117, 108, 99, 105, 109, 101, 114, 32, 49, 10]⟩ from rfl] at hwr
        have HWR := Lib.hid hwr
        clear hwr
        go_upto_region 14 with (go_at_call 20; (with_reducible refine HWR.out.mono ?_); rintro e w7 ⟨rfl, hp7⟩; have HP7 := Lib.hid hp7; clear hp7)
        clear HWR
        go_loopg [31] i (fun g iv wr => ∃ j : Nat, j ≤ i ∧ g = i - j ∧ iv = .int .i64 j ∧ PW U wr (headW ++ bodyW ((sortE l).take j)))
        case atStart => exact ⟨0, by omega, by omega, rfl, by simpa [bodyW] using HP7.out⟩
        case round =>
          obtain ⟨j, hj, rfl, rfl, hP⟩ := hrel
          obtain ⟨wq, rfl⟩ : ∃ wq : World, wq = wr := ⟨_, rfl⟩
          have HP := Lib.hid hP
          clear hP
          by_cases hlt : j < i
          · have hjl : j < (sortE l).length := by have := HLS.out; omega
            obtain ⟨b, o, hb, xn, xr, xk, xd, xl, xa, xm, xc, rfl, hx, ⟨p0, p1, p2, p3, p4⟩, _, _, hd⟩ := (HRG.out.keep (entryRd_ok _) (Fix.of_belowB HP.out.below fun b _ hf => hf)).entry j hjl
            have hfx := HSF.out _ (List.getElem_mem hjl)
            have HTK := Lib.hid (bodyW_take hjl)
            rw [hx] at hfx HTK
            have HNL : Hid (DescV.nodesL xl < 1048576) := Lib.hid (by have h1 := fine_nodes hfx; have h2 : (DescV.mk xk xd xl).nodes = DescV.nodesL xl + 1 := DescV.nodes_kids _; dsimp only at h1; omega)
            have hpe := printE_fine hfx
            have HLL := Lib.hid (lineX_len hfx)
            have HTL : Hid ((bodyW ((sortE l).take j)).length ≤ 4096 * 1241) := Lib.hid (by
              have h1 := bodyW_len (l := (sortE l).take j) fun x hx => HSF.out x (List.mem_of_mem_take hx)
              have h2 : ((sortE l).take j).length ≤ j := by rw [List.length_take]; omega
              have h3 : ((sortE l).take j).length * 1241 ≤ 4096 * 1241 := Nat.mul_le_mul_right _ (by omega)
              omega)
            have hbw : Below w.heap.size w wq := HB3.out.trans (HP.out.below.mono HB3.out.size)
            obtain ⟨W8, hW8⟩ : ∃ W8, W8 = wq.alloc (.cells #[.int .i64 xn, .int .i64 xr, .int .i64 xk, .int .i64 xd, .slice xa xm xc] 44) := ⟨_, rfl⟩
            have hb8 : Below wq.heap.size wq W8 := by rw [hW8]; exact (Below.refl _ _).alloc (Nat.le_refl _) _
            have g8 : W8.heap[wq.heap.size]? = some (.cells #[.int .i64 xn, .int .i64 xr, .int .i64 xk, .int .i64 xd, .slice xa xm xc] 44 (0, 0)) := by rw [hW8]; exact heap_alloc_new wq _
            have c0 : W8.cell? ⟨wq.heap.size, 0, none⟩ = some (.int .i64 xn) := cell_at g8 rfl
            have c1 : W8.cell? ⟨wq.heap.size, 1, none⟩ = some (.int .i64 xr) := cell_at g8 rfl
            have c2 : W8.cell? ⟨wq.heap.size, 2, none⟩ = some (.int .i64 xk) := cell_at g8 rfl
            have c3 : W8.cell? ⟨wq.heap.size, 3, none⟩ = some (.int .i64 xd) := cell_at g8 rfl
            have c4 : W8.cell? ⟨wq.heap.size, 4, none⟩ = some (.slice xa xm xc) := cell_at g8 rfl
            have hb88 : Below w.heap.size w W8 := hbw.trans (hb8.mono hbw.size)
            have hc := eprint_any k _ xn xr xk xd xl xa xm xc W8 ((descRd_kids hd).keep (descRd_ok _) (Fix.of_below hb8)) HK.out HNL.out bigAt_all (HX.out.below hb88) (HT.out.below hb88)
            rw [hpe] at hc
            have HC := Lib.hid hc
            have HP8 := Lib.hid (HP.out.keep hb8)
            clear hx hfx hpe hd hbw hb8 g8 hb88 hc
            generalize lineX ((xn, xr), DescV.mk xk xd xl) = X at *
            have hcat : ¬ 9223372036854775807 < (bs X).size + 1 := by rw [size_bs]; have := HLL.out; omega
            go_upto_region 16 with fail
            rw [← hW8]
            clear hW8 p0 p1 p2 p3 p4
            go_wp2_with (first
              | (go_at_call 21; (with_reducible refine HC.out.mono ?_); rintro e w9 ⟨rfl, hb9⟩; have HP9 := Lib.hid (HP8.out.keep hb9); have hwr := HP9.out.write (X ++ [10]) (by have h1 := HLL.out; have h2 := HTL.out; simp only [List.length_append, List.length_cons, List.length_nil, show headW.length = 11 from rfl]; omega); rw [← bs_bs, show bs [10] = (⟨#[10]⟩ : ByteArray) from rfl] at hwr; have HWR := Lib.hid hwr; clear hb9 hwr c0 c1 c2 c3 c4)
              | (go_at_call 20; (with_reducible refine HWR.out.mono ?_); rintro e w10 ⟨rfl, hp10⟩; have HP10 := Lib.hid hp10; clear hp10))
            go_roundg (i - (j + 1))
            case measure => omega
            case rel =>
              refine ⟨j + 1, by omega, rfl, by go_num, ?_⟩
              rw [HTK.out, ← List.append_assoc]
              exact HP10.out
          · obtain rfl : j = i := by omega
            have hp : PW U wq (tx) := by
              have h := HP.out
              rw [List.take_of_length_le (by have := HLS.out; omega), ← HTXE.out] at h
              exact h
            have HPX := Lib.hid hp
            have hlen := bld_len _ _ _ wq hp.bld
            have HLN2 := Lib.hid hlen
            have HSTR := Lib.hid (bld_string _ _ _ wq hp.bld (by have := hp.size; omega))
            have HBF : Hid (∀ W, Below (min U.heap.size (U.heap.size + 1)) wq W → Below w.heap.size w W) := Lib.hid fun W hb => HB3.out.trans ((HPX.out.below.trans (hb.mono (by omega))).mono HB3.out.size)
            clear hp hlen HP
            by_cases hbig : 65536 < (tx).length
            · have hbi : (65536 : Int) < ((tx).length : Int) := by omega
              have HCK2 : Hid (printWV l = .tuple #[.string ⟨#[]⟩, .int .i64 12]) := Lib.hid (by rw [HCK.out, if_pos hbig])
              clear hbig
              go_wp2_with (go_at_call 22; (with_reducible refine HLN2.out.mono ?_); rintro e w11 ⟨rfl, rfl⟩)
              go_ret2
              exact ⟨by rw [HCK2.out]; rfl, HBF.out _ (Below.refl _ _)⟩
            · have hbi : ¬ (65536 : Int) < ((tx).length : Int) := by omega
              have HCK2 : Hid (printWV l = .tuple #[.string (bs (tx)), .int .i64 0]) := Lib.hid (by rw [HCK.out, if_neg hbig])
              clear hbig
              go_wp2_with (first
                | (go_at_call 22; (with_reducible refine HLN2.out.mono ?_); rintro e w11 ⟨rfl, rfl⟩)
                | (go_at_call 23; (with_reducible refine HSTR.out.mono ?_); rintro e w12 ⟨rfl, hb12⟩; have HB12 := Lib.hid (HBF.out _ hb12); clear hb12))
              go_ret2
              exact ⟨by rw [HCK2.out]; rfl, HB12.out⟩
end Go.Proofs.YtephllgddhncgaaGreatDoor.Lex
