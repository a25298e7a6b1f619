/- console: the loads of kinds, one by one. -/
import Derived.Test.YtpjdcooflheoeaaDoorRLoads47
import Derived.Test.YtpjdcooflheoeaaDoorRange
import Derived.Test.YtpjdcooflheoeaaDoorHeldIn
import Derived.RangeFuncNested
import Derived.RangeFuncLeaves
import Derived.Shelf.Abstract
import Derived.Shelf.RegionOpen
import Derived.OwnWalkIn
import Derived.TacticsInMore
import Derived.LoopNIn
import Derived.LoopIn
import Derived.Sort.LoopGhostIn
import Derived.Lib.SmallJoins
namespace Go.Proofs.YtpjdcooflheoeaaDoor.Lex
open Go.RowKit Go.Shelf
set_option linter.unusedSimpArgs false
set_option linter.unusedVariables false
attribute [local go_sem] Oper.semAt_some
theorem extract4 {cs : Array Value} {o : Nat} {c0 c1 c2 c3 : Value} (hs : o + 4 ≤ cs.size) (h0 : cs[o]? = some c0) (h1 : cs[o + 1]? = some c1) (h2 : cs[o + 2]? = some c2) (h3 : cs[o + 3]? = some c3) : cs.extract o (o + 4) = #[c0, c1, c2, c3] := by
  apply Array.ext_getElem?
  intro i
  rw [Array.getElem?_extract]
  have hm : min (o + 4) cs.size = o + 4 := by omega
  rw [hm]
  by_cases hi : i < 4
  · rw [if_pos (by omega)]
    rcases (by omega : i = 0 ∨ i = 1 ∨ i = 2 ∨ i = 3) with rfl | rfl | rfl | rfl
    · rw [Nat.add_zero, h0]; rfl
    · rw [h1]; rfl
    · rw [h2]; rfl
    · rw [h3]; rfl
  · rw [if_neg (by omega), Array.getElem?_eq_none (by simp; omega)]
theorem index_loads {cs : Array Value} {k : Nat} {c0 c1 c2 c3 : Value} (hk : k < 8) (hs : cs.size = 32) (h0 : cs[k * 4]? = some c0) (h1 : cs[k * 4 + 1]? = some c1) (h2 : cs[k * 4 + 2]? = some c2) (h3 : cs[k * 4 + 3]? = some c3) (W : World) :
    (Instr.index 55 (.agg cs) (.int .i64 k)).run Tryd.prog W = .ok (.agg #[c0, c1, c2, c3]) W := by
  have he := extract4 (by omega) h0 h1 h2 h3
  unfold Instr.index
  simp [go_sem]
  rw [if_pos hk, he]
/-- The names of kinds, as the package lays them. -/
def HasNames (w : World) : Prop := w.var? Tryd.prog "dulcimer/console.names" = some #[.string ⟨#[]⟩, .string ⟨#[103, 101, 116]⟩, .string ⟨#[108, 111, 111, 107, 117, 112]⟩, .string ⟨#[101, 118, 105, 99, 116]⟩, .string ⟨#[105, 109, 112, 111, 114, 116]⟩, .string ⟨#[101, 120, 112, 111, 114, 116]⟩, .string ⟨#[101, 120, 101, 99, 117, 116, 101]⟩, .string ⟨#[114, 101, 108, 101, 97, 115, 101]⟩]
theorem HasNames.below {w w' : World} (h : HasNames w) (hb : Below w.heap.size w w') : HasNames w' := Joins.var_stays (g := 0) (by kernel_rfl) h hb (Nat.le_refl _)
theorem HasNames.cell {w : World} (h : HasNames w) {k : Nat} (hk : k < 8) : w.cell? ⟨0, k, none⟩ = some (.string (bs (nameK47 k))) := by
  rw [var?_cell (g := 0) (by kernel_rfl) h k]
  rcases (by omega : k = 0 ∨ k = 1 ∨ k = 2 ∨ k = 3 ∨ k = 4 ∨ k = 5 ∨ k = 6 ∨ k = 7) with rfl | rfl | rfl | rfl | rfl | rfl | rfl | rfl <;> rfl
theorem HasNames.lt {w : World} (h : HasNames w) : 0 < w.heap.size := World.block_lt_of_cell? w _ (h.cell (k := 0) (by omega))
/-- What a kind hands on. -/
def OkK (f : Nat → LoadV) (k : Nat) (x : Nat × Nat) (W : World) : Prop := x.1 = k ∧ k < 8 ∧ ¬ (k = 0 ∨ (f k).c = 0) ∧ W.heap[x.2]? = some (.cells #[.int .i64 (f k).c, .int .i64 (f k).e, .int .i64 (f k).n, .int .i64 (f k).l] 3 (0, 0))
def encsK (x : Nat × Nat) : Array Value := #[.string (bs (nameK47 x.1)), .slice (some ⟨x.2, 0, none⟩) 4 4]
set_option maxRecDepth 100000 in
set_option maxHeartbeats 8000000 in
theorem kinds1_seq (l : List OpV) (a : Option Addr) (cap B L : Nat) (m : Nat) (K : Nat → World → Prop) (Kp : World → World → Prop) (W : World) (hl : l.length ≤ 1048576) (hB : W.heap[B]? = some (.cells #[.slice a l.length cap] 23 (0, 0))) (ho : OpRow W a l) (hN : HasNames W)
    (hKb : ∀ i W W', K i W → Below W.heap.size W W' → K i W') (hKs : ∀ i W, (i = 0 ∨ (loadsV l i).c = 0) → K i W → K (i + 1) W)
    (hY : ∀ i x W1, i < 8 → K i W1 → OkK (loadsV l) i x W1 → YieldAt Fence.wide (m - 1) Tryd.prog L (encsK x) W1 fun e W' => e = .returned (.bool true) ∧ K (i + 1) W' ∧ Kp W1 W') (h0 : K 0 W)
    (hKN : ∀ W W', Kp W W' → HasNames W → HasNames W') (hKL : ∀ W W' : World, Kp W W' → ∀ (b : Nat) (cs : Array Value), W.heap[b]? = some (Obj.cells cs 54 (0, 0)) → W'.heap[b]? = some (Obj.cells cs 54 (0, 0))) :
    CallsIn Fence.wide m Tryd.prog 21 #[.func (.yield L) #[] #[], .pointer (some ⟨B, 0, none⟩)] W fun e W' => (∃ v, e = .returned v) ∧ K 8 W' := by
  have hb0 := cell_at (o := 0) hB rfl
  have HKI := Lib.hid (kinds_any l a cap W hl ho)
  have HKB := Lib.hid hKb
  have HKS := Lib.hid hKs
  have HY := Lib.hid hY
  have HK0 := Lib.hid h0
  have HN := Lib.hid hN
  have HKN := Lib.hid hKN
  have HKL := Lib.hid hKL
  clear hB ho hN hKb hKs hY h0 hKL hKN
  refine callsIn_of_wp Tryd.func21 rfl trivial ?_ rfl
  simp only [Tryd.ntmps21, List.size_toArray, List.length_cons, List.length_nil, Nat.reduceAdd, Nat.reduceSub, Array.replicate_succ, Array.replicate_zero, List.push_toArray, List.append_toArray, List.nil_append, List.cons_append]
  gi_wp2
  refine ⟨trivial, fun h => (by cases h), ?_⟩
  refine (callsIn_wide.2 HKI.out).mono ?_
  rintro e w1 ⟨hb1, cs, rfl, hcs, hcf⟩
  have HB1 := Lib.hid hb1
  have HCS := Lib.hid hcs
  have HCF := Lib.hid hcf
  clear hb1 hcs hcf
  gi_wp2
  gi_loopg [7] 8 (fun gh iv wr => ∃ k : Nat, k ≤ 8 ∧ gh = 8 - k ∧ iv = .int .i64 (k : Int) ∧ K k wr ∧ HasNames wr)
  case atStart => exact ⟨0, by omega, rfl, rfl, HKB.out 0 W w1 HK0.out HB1.out, HN.out.below HB1.out⟩
  case round =>
    obtain ⟨k, hk, rfl, rfl, hK, hNm⟩ := hrel
    obtain ⟨wo, rfl⟩ : ∃ wo : World, wo = wr := ⟨_, rfl⟩
    have HK := Lib.hid hK
    have HNM := Lib.hid hNm
    clear hK hNm
    by_cases hlt : k < 8
    · have hki : (k : Int) < 8 := by omega
      obtain ⟨q0, q1, q2, q3⟩ := HCF.out k hlt
      have hidx := index_loads hlt HCS.out q0 q1 q2 q3 wo
      have HY1 := Lib.hid (HY.out k)
      have HS1 := Lib.hid (HKS.out k)
      clear q0 q1 q2 q3
      obtain ⟨x, hx⟩ : ∃ x, x = loadsV l k := ⟨_, rfl⟩
      have HX := Lib.hid hx.symm
      rw [← hx] at hidx HS1
      clear hx
      by_cases hs : k = 0 ∨ (loadsV l k).c = 0
      · by_cases hk0 : k = 0
        · subst hk0
          have hidx0 : (Instr.index 55 (.agg cs) (.int .i64 0)).run Tryd.prog wo = .ok (.agg #[.int .i64 x.c, .int .i64 x.e, .int .i64 x.n, .int .i64 x.l]) wo := hidx
          clear hidx
          gi_wp2
          gi_roundg 7
          case measure => omega
          case rel => exact ⟨1, by omega, rfl, rfl, HS1.out _ (by first | exact hs | (rw [← HX.out]; exact hs)) (HKB.out 0 wo _ HK.out ((Below.refl _ _).alloc (Nat.le_refl _) _)), HNM.out.below ((Below.refl _ _).alloc (Nat.le_refl _) _)⟩
        · have hkb : ((k : Int) == 0) = false := by rw [beq_eq_false_iff_ne]; omega
          have hxb : ((x.c : Int) == 0) = true := by rw [← HX.out, show (loadsV l k).c = 0 by omega]; rfl
          gi_wp2
          gi_roundg (8 - (k + 1))
          case measure => omega
          case rel => exact ⟨k + 1, by omega, rfl, by go_num, HS1.out _ (by first | exact hs | (rw [← HX.out]; exact hs)) (HKB.out k wo _ HK.out ((Below.refl _ _).alloc (Nat.le_refl _) _)), HNM.out.below ((Below.refl _ _).alloc (Nat.le_refl _) _)⟩
      · have hkb : ((k : Int) == 0) = false := by rw [beq_eq_false_iff_ne]; omega
        have hxb : ((x.c : Int) == 0) = false := by rw [← HX.out, beq_eq_false_iff_ne]; omega
        gi_wp2
        obtain ⟨W6, hW6⟩ : ∃ W6, W6 = wo.alloc (.cells #[.int .i64 x.c, .int .i64 x.e, .int .i64 x.n, .int .i64 x.l] 54) := ⟨_, rfl⟩
        have hb6 : Below wo.heap.size wo W6 := by rw [hW6]; exact (Below.refl _ _).alloc (Nat.le_refl _) _
        have g6 : W6.heap[wo.heap.size]? = some (.cells #[.int .i64 x.c, .int .i64 x.e, .int .i64 x.n, .int .i64 x.l] 54 (0, 0)) := by rw [hW6]; exact heap_alloc_new wo _
        have hz6 : wo.heap.size < W6.heap.size := by rw [hW6]; simp
        have HN6 := Lib.hid (HNM.out.below hb6)
        have HK6 := Lib.hid (HKB.out k wo W6 HK.out hb6)
        have HSS : Hid (∀ W, Below W6.heap.size W6 W → (W.cell? ⟨0, k, none⟩ = some (.string (bs (nameK47 k))) ∧ W.cell? ⟨wo.heap.size, 0, none⟩ = some (.int .i64 x.c) ∧ W.cell? ⟨wo.heap.size, 1, none⟩ = some (.int .i64 x.e) ∧ W.cell? ⟨wo.heap.size, 2, none⟩ = some (.int .i64 x.n) ∧ W.cell? ⟨wo.heap.size, 3, none⟩ = some (.int .i64 x.l))) := Lib.hid fun W hb => by
          have g := (hb.block _ hz6).trans g6
          exact ⟨(HN6.out.below hb).cell hlt, cell_at g rfl, cell_at g rfl, cell_at g rfl, cell_at g rfl⟩
        have hbz := Below.refl W6.heap.size W6
        have HT0 := Lib.hid (HSS.out W6.drew hbz.drew)
        rw [← hW6]
        clear hW6 hb6
        refine wpIn_region_s (fun W => (W.cell? ⟨0, k, none⟩ = some (.string (bs (nameK47 k))) ∧ W.cell? ⟨wo.heap.size, 0, none⟩ = some (.int .i64 x.c) ∧ W.cell? ⟨wo.heap.size, 1, none⟩ = some (.int .i64 x.e) ∧ W.cell? ⟨wo.heap.size, 2, none⟩ = some (.int .i64 x.n) ∧ W.cell? ⟨wo.heap.size, 3, none⟩ = some (.int .i64 x.l))) (by kernel_rfl) ?_
        change wpSIn _ _ _ _ _ _ _ 15 #[false, false, false, false, false, false, false, false, false, false, false, false, false, false, false] _ W6.drew
        (refine wpSIn_take (i := 0) (v := ?_) rfl rfl (by kernel_rfl) (by kernel_rfl) (by kernel_rfl) (fun _ _ _ h => h) ⟨Or.inl ⟨by rfl, ?_⟩, fun _ => rfl⟩ HT0.out ?_; rotate_left 1; (focus (intro w0 hw0; (try dsimp only at hw0); obtain ⟨n0, s0, s1, s2, s3⟩ := hw0; go_simp; first | (with_reducible rfl) | skip)); (try simp only [Act.put, List.getElem_toArray, List.getElem_cons_zero, List.getElem_cons_succ, List.setIfInBounds_toArray, List.set_cons_zero, List.set_cons_succ]))
        (refine wpSIn_take (i := 1) (v := ?_) rfl rfl (by kernel_rfl) (by kernel_rfl) (by kernel_rfl) (fun _ _ _ h => h) ⟨Or.inl ⟨by rfl, ?_⟩, fun _ => rfl⟩ HT0.out ?_; rotate_left 1; (focus (intro w0 hw0; (try dsimp only at hw0); obtain ⟨n0, s0, s1, s2, s3⟩ := hw0; go_simp; first | (with_reducible rfl) | skip)); (try simp only [Act.put, List.getElem_toArray, List.getElem_cons_zero, List.getElem_cons_succ, List.setIfInBounds_toArray, List.set_cons_zero, List.set_cons_succ]))
        (refine wpSIn_take (i := 2) (v := ?_) rfl rfl (by kernel_rfl) (by kernel_rfl) (by kernel_rfl) (fun _ _ _ h => h) ⟨Or.inl ⟨by rfl, ?_⟩, fun _ => rfl⟩ HT0.out ?_; rotate_left 1; (focus (intro w0 hw0; (try dsimp only at hw0); obtain ⟨n0, s0, s1, s2, s3⟩ := hw0; go_simp; first | (with_reducible rfl) | skip)); (try simp only [Act.put, List.getElem_toArray, List.getElem_cons_zero, List.getElem_cons_succ, List.setIfInBounds_toArray, List.set_cons_zero, List.set_cons_succ]))
        (refine wpSIn_take (i := 3) (v := ?_) rfl rfl (by kernel_rfl) (by kernel_rfl) (by kernel_rfl) (fun _ _ _ h => h) ⟨Or.inl ⟨by rfl, ?_⟩, fun _ => rfl⟩ HT0.out ?_; rotate_left 1; (focus (intro w0 hw0; (try dsimp only at hw0); obtain ⟨n0, s0, s1, s2, s3⟩ := hw0; go_simp; first | (with_reducible rfl) | skip)); (try simp only [Act.put, List.getElem_toArray, List.getElem_cons_zero, List.getElem_cons_succ, List.setIfInBounds_toArray, List.set_cons_zero, List.set_cons_succ]))
        (refine wpSIn_take (i := 4) (v := ?_) rfl rfl (by kernel_rfl) (by kernel_rfl) (by kernel_rfl) (fun _ _ _ h => h) ⟨Or.inl ⟨by rfl, ?_⟩, fun _ => rfl⟩ HT0.out ?_; rotate_left 1; (focus (intro w0 hw0; (try dsimp only at hw0); obtain ⟨n0, s0, s1, s2, s3⟩ := hw0; go_simp; first | (with_reducible rfl) | skip)); (try simp only [Act.put, List.getElem_toArray, List.getElem_cons_zero, List.getElem_cons_succ, List.setIfInBounds_toArray, List.set_cons_zero, List.set_cons_succ]))
        (refine wpSIn_take (i := 5) (v := ?_) rfl rfl (by kernel_rfl) (by kernel_rfl) (by kernel_rfl) (fun _ _ _ h => h) ⟨Or.inl ⟨by rfl, ?_⟩, fun _ => rfl⟩ HT0.out ?_; rotate_left 1; (focus (intro w0 hw0; (try dsimp only at hw0); obtain ⟨n0, s0, s1, s2, s3⟩ := hw0; go_simp; first | (with_reducible rfl) | skip)); (try simp only [Act.put, List.getElem_toArray, List.getElem_cons_zero, List.getElem_cons_succ, List.setIfInBounds_toArray, List.set_cons_zero, List.set_cons_succ]))
        (refine wpSIn_take (i := 6) (v := ?_) rfl rfl (by kernel_rfl) (by kernel_rfl) (by kernel_rfl) (fun _ _ _ h => h) ⟨Or.inl ⟨by rfl, ?_⟩, fun _ => rfl⟩ HT0.out ?_; rotate_left 1; (focus (intro w0 hw0; (try dsimp only at hw0); obtain ⟨n0, s0, s1, s2, s3⟩ := hw0; go_simp; first | (with_reducible rfl) | skip)); (try simp only [Act.put, List.getElem_toArray, List.getElem_cons_zero, List.getElem_cons_succ, List.setIfInBounds_toArray, List.set_cons_zero, List.set_cons_succ]))
        (refine wpSIn_take (i := 7) (v := ?_) rfl rfl (by kernel_rfl) (by kernel_rfl) (by kernel_rfl) (fun _ _ _ h => h) ⟨Or.inl ⟨by rfl, ?_⟩, fun _ => rfl⟩ HT0.out ?_; rotate_left 1; (focus (intro w0 hw0; (try dsimp only at hw0); obtain ⟨n0, s0, s1, s2, s3⟩ := hw0; go_simp; first | (with_reducible rfl) | skip)); (try simp only [Act.put, List.getElem_toArray, List.getElem_cons_zero, List.getElem_cons_succ, List.setIfInBounds_toArray, List.set_cons_zero, List.set_cons_succ]))
        (refine wpSIn_take (i := 8) (v := ?_) rfl rfl (by kernel_rfl) (by kernel_rfl) (by kernel_rfl) (fun _ _ _ h => h) ⟨Or.inl ⟨by rfl, ?_⟩, fun _ => rfl⟩ HT0.out ?_; rotate_left 1; (focus (intro w0 hw0; (try dsimp only at hw0); obtain ⟨n0, s0, s1, s2, s3⟩ := hw0; go_simp; first | (with_reducible rfl) | skip)); (try simp only [Act.put, List.getElem_toArray, List.getElem_cons_zero, List.getElem_cons_succ, List.setIfInBounds_toArray, List.set_cons_zero, List.set_cons_succ]))
        (refine wpSIn_take (i := 9) (v := ?_) rfl rfl (by kernel_rfl) (by kernel_rfl) (by kernel_rfl) (fun _ _ _ h => h) ⟨Or.inl ⟨by rfl, ?_⟩, fun _ => rfl⟩ HT0.out ?_; rotate_left 1; (focus (intro w0 hw0; (try dsimp only at hw0); obtain ⟨n0, s0, s1, s2, s3⟩ := hw0; go_simp; first | (with_reducible rfl) | skip)); (try simp only [Act.put, List.getElem_toArray, List.getElem_cons_zero, List.getElem_cons_succ, List.setIfInBounds_toArray, List.set_cons_zero, List.set_cons_succ]))
        (refine wpSIn_take (i := 10) (v := ?_) rfl rfl (by kernel_rfl) (by kernel_rfl) (by kernel_rfl) (fun _ _ _ h => h) ⟨Or.inl ⟨by rfl, ?_⟩, fun _ => rfl⟩ HT0.out ?_; rotate_left 1; (focus (intro w0 hw0; (try dsimp only at hw0); obtain ⟨n0, s0, s1, s2, s3⟩ := hw0; go_simp; first | (with_reducible rfl) | skip)); (try simp only [Act.put, List.getElem_toArray, List.getElem_cons_zero, List.getElem_cons_succ, List.setIfInBounds_toArray, List.set_cons_zero, List.set_cons_succ]))
        (refine wpSIn_take (i := 11) (v := ?_) rfl rfl (by kernel_rfl) (by kernel_rfl) (by kernel_rfl) (fun _ _ _ h => h) ⟨Or.inl ⟨by rfl, ?_⟩, fun _ => rfl⟩ HT0.out ?_; rotate_left 1; (focus (intro w0 hw0; (try dsimp only at hw0); obtain ⟨n0, s0, s1, s2, s3⟩ := hw0; go_simp; first | (with_reducible rfl) | skip)); (try simp only [Act.put, List.getElem_toArray, List.getElem_cons_zero, List.getElem_cons_succ, List.setIfInBounds_toArray, List.set_cons_zero, List.set_cons_succ]))
        refine wpSIn_one (i := 12) (by kernel_rfl) ?_
        refine wpOpIn_step rfl (fun K' hK' => ?_)
        go_simp
        obtain ⟨W8, hW8⟩ : ∃ W8, W8 = (W6.alloc (.cells #[.int .i64 x.c, .int .i64 x.e, .int .i64 x.n, .int .i64 x.l] 3)).drew := ⟨_, rfl⟩
        have hb8 : Below W6.heap.size W6 W8 := by rw [hW8]; exact (hbz.alloc (Nat.le_refl _) _).drew
        have g8 : W8.heap[W6.heap.size]? = some (.cells #[.int .i64 x.c, .int .i64 x.e, .int .i64 x.n, .int .i64 x.l] 3 (0, 0)) := by rw [hW8]; exact heap_alloc_new W6 _
        have HT8 := Lib.hid (HSS.out W8 hb8)
        have HG8 := Lib.hid ((hb8.block _ hz6).trans g6)
        have HN8 := Lib.hid (HN6.out.below hb8)
        obtain ⟨fn, tmps, assign, body, hy, hR⟩ := HY1.out (k, W6.heap.size) W8 hlt (HKB.out k W6 W8 HK6.out hb8) ⟨rfl, hlt, hs, by rw [HX.out]; exact g8⟩
        dsimp only [encsK] at hy
        rw [← hW8]
        refine hK' _ _ ⟨HT8.out, ?_⟩
        clear hK' K' hW8 hb8 g8
        try simp only [Act.put, List.getElem_toArray, List.getElem_cons_zero, List.getElem_cons_succ, List.setIfInBounds_toArray, List.set_cons_zero, List.set_cons_succ]
        refine wpSIn_one (i := 13) (by kernel_rfl) ?_
        refine wpOpIn_step rfl (fun K' hK' => ?_)
        go_simp
        refine ⟨fun h => (by cases h), hR.mono ?_⟩
        rintro e W9 ⟨rfl, hK9, hkp⟩
        have HN9 := Lib.hid (HKN.out W8 W9 hkp HN8.out)
        have HK9 := Lib.hid hK9
        have HT9 : Hid ((W9.cell? ⟨0, k, none⟩ = some (.string (bs (nameK47 k))) ∧ W9.cell? ⟨wo.heap.size, 0, none⟩ = some (.int .i64 x.c) ∧ W9.cell? ⟨wo.heap.size, 1, none⟩ = some (.int .i64 x.e) ∧ W9.cell? ⟨wo.heap.size, 2, none⟩ = some (.int .i64 x.n) ∧ W9.cell? ⟨wo.heap.size, 3, none⟩ = some (.int .i64 x.l))) := Lib.hid (by
          have g := HKL.out W8 W9 hkp _ _ HG8.out
          exact ⟨HN9.out.cell hlt, cell_at g rfl, cell_at g rfl, cell_at g rfl, cell_at g rfl⟩)
        clear hK9 hkp
        refine hK' _ _ ⟨HT9.out, ?_⟩
        clear hK' K' hy hR
        try simp only [Act.put, List.getElem_toArray, List.getElem_cons_zero, List.getElem_cons_succ, List.setIfInBounds_toArray, List.set_cons_zero, List.set_cons_succ]
        (refine wpSIn_take (i := 14) (v := ?_) rfl rfl (by kernel_rfl) (by kernel_rfl) (by kernel_rfl) (fun _ _ _ h => h) ⟨Or.inl ⟨by rfl, ?_⟩, fun _ => rfl⟩ HT9.out ?_; rotate_left 1; (focus (intro w0 hw0; (try dsimp only at hw0); obtain ⟨n0, s0, s1, s2, s3⟩ := hw0; go_simp; first | (with_reducible rfl) | skip)); (try simp only [Act.put, List.getElem_toArray, List.getElem_cons_zero, List.getElem_cons_succ, List.setIfInBounds_toArray, List.set_cons_zero, List.set_cons_succ]))
        refine wpSIn_done (by kernel_rfl) ?_ _
        gi_wp2
        gi_roundg (8 - (k + 1))
        case measure => omega
        case rel => exact ⟨k + 1, by omega, rfl, by go_num, HK9.out, HN9.out⟩
    · obtain rfl : k = 8 := by omega
      gi_wp2
      go_end0
      exact ⟨⟨_, rfl⟩, HK.out⟩
end Go.Proofs.YtpjdcooflheoeaaDoor.Lex
