/- The statement on what is too big, walked. -/
import Derived.Test.YtplhmcmfdcklaaaDoorScrLive
import Derived.Test.YtplhmcmfdcklaaaDoorLine
import Derived.Test.YtplhmcmfdcklaaaDoorISame
import Derived.Test.YtplhmcmfdcklaaaDoorMem2
import Derived.RegionTactic
import Derived.WalkMore
import Derived.Laws.BytesString
import Derived.Laws.IdiomStrings
namespace Go.Proofs.YtplhmcmfdcklaaaDoor.Lex
open Go.RowKit
set_option linter.unusedSimpArgs false
set_option linter.unusedVariables false
theorem words_nil {w w' : World} {e : Ending} (h : match wordsOf (⟨#[]⟩ : ByteArray).data.toList with
  | none => e = .returned (.tuple #[.slice none 0 0, .int .i64 10])
  | some ws => ∃ v, e = .returned (.tuple #[v, .int .i64 0]) ∧ w'.ownsRow w.heap.size 9 1 v ws.length (ws.map fun l => .string (bs l))) : ∃ v, e = .returned (.tuple #[v, .int .i64 0]) ∧ w'.ownsRow w.heap.size 9 1 v 0 [] := h
abbrev zeroScr : Value := .agg #[.int .i64 0, .int .i64 0, .slice none 0 0, .slice none 0 0, .slice none 0 0]
set_option maxRecDepth 100000 in
set_option maxHeartbeats 4000000 in
theorem parse_big (s : ByteArray) (w : World) (h : 1048576 < s.size) :
    Calls Tryd.prog 15 #[.string s] w fun e w' => e = .returned (.tuple #[zeroScr, .int .i64 0, .int .i64 12]) ∧ Below w.heap.size w w' := by
  go_enter Tryd.func15, Tryd.ntmps15
  go_wp2_with fail
  go_step3
  go_wp2_with fail
  rw [Exit.noGoto_ret]
  refine bodyPost_ret (v := .tuple #[zeroScr, .int .i64 0, .int .i64 12]) (by simp [results, Tryd.results15, go_sem]) rfl ⟨rfl, (Below.refl _ _).alloc (Nat.le_refl _) _⟩
set_option maxRecDepth 100000 in
set_option maxHeartbeats 4000000 in
theorem parse_none (s : ByteArray) (w : World) (hm : HasMax w) (h0 : 0 < s.size) (h : s.size ≤ 1048576) (hn : ∀ j, j < s.size → byteAt s j ≠ 10) :
    Calls Tryd.prog 15 #[.string s] w fun e w' => e = .returned (.tuple #[zeroScr, .int .i64 1, .int .i64 10]) ∧ Below w.heap.size w w' := by
  have HM := Lib.hid hm
  have HN := Lib.hid hn
  clear hm hn
  go_enter Tryd.func15, Tryd.ntmps15
  go_wp2_with fail
  go_step3
  go_wp2_with fail
  go_step3
  go_wp2_with fail
  go_loopg [6] 1 (fun g v wr => g = 1 ∧ v = .int .i64 0 ∧ wr = (w.alloc (.cells #[.int .i64 0, .int .i64 0, .slice none 0 0, .slice none 0 0, .slice none 0 0] 36)).alloc (.cells #[.int .i64 0, .int .i64 0, .slice none 0 0, .slice none 0 0, .slice none 0 0, .int .i64 0] 74))
  case atStart => exact ⟨rfl, rfl, rfl⟩
  case round =>
    obtain ⟨rfl, rfl, rfl⟩ := hrel
    have g1 : ((w.alloc (.cells #[.int .i64 0, .int .i64 0, .slice none 0 0, .slice none 0 0, .slice none 0 0] 36)).alloc (.cells #[.int .i64 0, .int .i64 0, .slice none 0 0, .slice none 0 0, .slice none 0 0, .int .i64 0] 74)).heap[w.heap.size + 1]? = some (.cells #[.int .i64 0, .int .i64 0, .slice none 0 0, .slice none 0 0, .slice none 0 0, .int .i64 0] 74 (0, 0)) := by
      have := heap_alloc_new (w.alloc (.cells #[.int .i64 0, .int .i64 0, .slice none 0 0, .slice none 0 0, .slice none 0 0] 36)) (.cells #[.int .i64 0, .int .i64 0, .slice none 0 0, .slice none 0 0, .slice none 0 0, .int .i64 0] 74)
      simpa using this
    have g0 : ((w.alloc (.cells #[.int .i64 0, .int .i64 0, .slice none 0 0, .slice none 0 0, .slice none 0 0] 36)).alloc (.cells #[.int .i64 0, .int .i64 0, .slice none 0 0, .slice none 0 0, .slice none 0 0, .int .i64 0] 74)).heap[w.heap.size]? = some (.cells #[.int .i64 0, .int .i64 0, .slice none 0 0, .slice none 0 0, .slice none 0 0] 36 (0, 0)) := by
      rw [Lib.alloc_old _ _ _ (by simp)]
      exact heap_alloc_new w _
    have hb0 : Below w.heap.size w ((w.alloc (.cells #[.int .i64 0, .int .i64 0, .slice none 0 0, .slice none 0 0, .slice none 0 0] 36)).alloc (.cells #[.int .i64 0, .int .i64 0, .slice none 0 0, .slice none 0 0, .slice none 0 0, .int .i64 0] 74)) := ((Below.refl _ _).alloc (Nat.le_refl _) _).alloc (by simp) _
    generalize hW : ((w.alloc (.cells #[.int .i64 0, .int .i64 0, .slice none 0 0, .slice none 0 0, .slice none 0 0] 36)).alloc (.cells #[.int .i64 0, .int .i64 0, .slice none 0 0, .slice none 0 0, .slice none 0 0, .int .i64 0] 74)) = W0 at *
    have hz0 : W0.heap.size = w.heap.size + 1 + 1 := by rw [← hW]; simp
    clear hW
    have G1 := Lib.hid g1
    have G0 := Lib.hid g0
    have HB0 := Lib.hid hb0
    clear g1 g0 hb0
    go_upto_region 8 with (first
      | (go_at_call 29; (with_reducible refine (line_no s 0 _ (by omega) (.inr fun j _ hj => HN.out j hj)).mono ?_); rintro e w1 ⟨rfl, rfl⟩)
      | (go_at_call 30; (with_reducible refine (words ⟨#[]⟩ _ (by decide) (HM.out.below HB0.out)).mono ?_); rintro e w1 ⟨hb1, hw1⟩; obtain ⟨v, rfl, ho⟩ := words_nil hw1; clear hw1 ho))
    have g1 := (hb1.block _ (by omega)).trans G1.out
    have g0 := (hb1.block _ (by omega)).trans G0.out
    have HB1 := Lib.hid (HB0.out.trans (hb1.mono HB0.out.size))
    have hz1 := hb1.size
    have c5 := cell_at (o := 5) g1 rfl
    have f5 := free_at (o := 5) g1
    go_upto_region 15 with (fail)
    obtain ⟨W2, hW2⟩ : ∃ W2, W2 = w1.setCell ⟨w.heap.size + 1, 5, none⟩ (.int .i64 1) := ⟨_, rfl⟩
    rw [← hW2]
    have k5 : W2.cell? ⟨w.heap.size + 1, 5, none⟩ = some (.int .i64 1) := by
      have e := heap_set_at (o := 5) (.int .i64 1) g1
      rw [← hW2] at e
      exact cell_at e rfl
    have k0 : W2.heap[w.heap.size]? = some (.cells #[.int .i64 0, .int .i64 0, .slice none 0 0, .slice none 0 0, .slice none 0 0] 36 (0, 0)) := by
      rw [hW2]
      exact (Below.heap_setCell _ _ _ _ (by show w.heap.size ≠ w.heap.size + 1; omega)).trans g0
    have HB2 : Hid (Below w.heap.size w W2) := Lib.hid (by rw [hW2]; exact HB1.out.setCell (by show w.heap.size ≤ w.heap.size + 1; omega) _)
    have q0 := cell_at (o := 0) k0 rfl
    have q1 := cell_at (o := 1) k0 rfl
    have q2 := cell_at (o := 2) k0 rfl
    have q3 := cell_at (o := 3) k0 rfl
    have q4 := cell_at (o := 4) k0 rfl
    have p0 := free_at (o := 0) k0
    have p1 := free_at (o := 1) k0
    have p2 := free_at (o := 2) k0
    have p3 := free_at (o := 3) k0
    have p4 := free_at (o := 4) k0
    clear hW2 c5 f5 g1 g0 k0 hb1
    go_region
    all_goals
      go_wp2_with fail
      rw [Exit.noGoto_ret]
      refine bodyPost_ret (v := .tuple #[zeroScr, .int .i64 1, .int .i64 10]) ?_ rfl ⟨rfl, ?_⟩
      · simp [results, Tryd.results15, go_sem, *]
      · refine Below.drew ?_
        repeat (refine Below.setCell ?_ (by show w.heap.size ≤ w.heap.size; omega) _)
        exact HB2.out
set_option maxRecDepth 100000 in
set_option maxHeartbeats 4000000 in
theorem alike_zero (w : World) : Calls Tryd.prog 17 #[zeroScr, zeroScr] w fun e w' => e = .returned (.bool true) ∧ Below w.heap.size w w' := by
  have hb0 : Below w.heap.size w ((w.alloc (.cells #[.int .i64 0, .int .i64 0, .slice none 0 0, .slice none 0 0, .slice none 0 0] 36)).alloc (.cells #[.int .i64 0, .int .i64 0, .slice none 0 0, .slice none 0 0, .slice none 0 0] 44)) := ((Below.refl _ _).alloc (Nat.le_refl _) _).alloc (by simp) _
  have HB := Lib.hid hb0
  clear hb0
  go_enter Tryd.func17, Tryd.ntmps17
  go_wp2_with (go_at_call 32; (with_reducible refine (Go.Proofs.YtplhmcmfdcklaaaDoor.isame_any [] [] All All none none 0 0 0 0 _ (RowOf.empty _ _ _ _ _) (RowOf.empty _ _ _ _ _)).mono ?_); rintro e w1 ⟨he, d, rfl⟩; rw [decide_eq_true rfl] at he; subst he)
  go_loopg [5] 1 (fun g v wr => g = 1 ∧ v = .int .i64 0 ∧ ∃ d, wr = ((w.alloc (.cells #[.int .i64 0, .int .i64 0, .slice none 0 0, .slice none 0 0, .slice none 0 0] 36)).alloc (.cells #[.int .i64 0, .int .i64 0, .slice none 0 0, .slice none 0 0, .slice none 0 0] 44)).drewN d)
  case atStart => exact ⟨rfl, rfl, _, rfl⟩
  case round =>
    obtain ⟨rfl, rfl, d, rfl⟩ := hrel
    go_wp2_with fail
    go_ret
    exact ⟨rfl, below_drewN HB.out _⟩
theorem madeCells_one (v : Value) (n : Nat) : (madeCells #[v] n).toList = List.replicate n v := by
  refine List.ext_getElem (by simp [madeCells]) fun i h1 h2 => ?_
  simp [madeCells, Nat.mod_one]
theorem wpl_make {P : Program} (w : World) {ops : Array Oper} {rest : List Oper} {o : Oper} {a : Act} {Q : Exit → Act → World → Prop}
    (hg : o.guard = none) (l c : Operand) (t e : TypeId) (hop : o.op = Op.makeSlice t l c) (k : IntKind) (bytes : Nat)
    (h1 : P.underlying t = some (.slice e)) (hi : (P.info? e).map (fun i => (i.zero, i.size, i.bytes)) = some (some (.int k 0), 1, bytes))
    (kl kc : IntKind) (L C : Int) (n : Nat) (hl : a.eval l = .int kl L) (hc : a.eval c = .int kc C) (hL : L = (n : Int)) (hC : C = (n : Int)) (b2 : bytes * n ≤ 281474976710656) (b3 : n ≤ maxLen)
    (hK : ∀ w', w'.ownsRow w.heap.size e 1 (.slice (some ⟨w.heap.size, 0, none⟩) n n) n (List.replicate n (.int k 0)) → w.grownBy w' none → wpList P ops Q rest (a.put o.dst (.slice (some ⟨w.heap.size, 0, none⟩) n n)) w') :
    wpList P ops Q (o :: rest) a w := by
  obtain ⟨i, hi, hz0, hz1, hz2⟩ := info_parts hi
  refine wpList_make_full w hg l c t hop w.heap.size e i (.int k 0) 1 h1 hi hz0 hz1 kl kc L C n hl hc hL hC (by rw [hz2]; exact b2) b3 (Nat.le_refl _) fun w' h2 h3 => hK w' ?_ h3
  rw [Nat.mul_one] at h2
  rw [← madeCells_one]
  exact h2
/-- A text of zeros. -/
theorem zeros_text (n : Nat) : ∃ s : ByteArray, s = ⟨(List.replicate n (0 : UInt8)).toArray⟩ ∧ s.size = n ∧ ∀ j, j < n → byteAt s j ≠ 10 := by
  refine ⟨_, rfl, by simp [ByteArray.size], fun j hj => ?_⟩
  simp [byteAt, List.getD, hj]
theorem zeros_conv (w : World) (g n : Nat) (hc : ∀ j, j < n → w.cell? ⟨g, j, none⟩ = some (.int .u8 0)) :
    (convert 53 9 (.slice (some ⟨g, 0, none⟩) n n)).run Tryd.prog w = .ok (.string ⟨(List.replicate n (0 : UInt8)).toArray⟩) w := by
  have := run_convert_bytes_back (P := Tryd.prog) w 53 9 5 ⟨g, 0, none⟩ n (List.replicate n 0) Tryd.underlying53 Tryd.underlying5 Tryd.underlying9 (fun j hj => by
    rw [Addr.add_lit]
    simp only [List.getElem_replicate, Nat.zero_add]
    exact hc j (by simpa using hj))
  simpa using this
theorem glue_zeros (a : List UInt8) : ∀ k, (glue (a :: List.replicate k [48])).length = a.length + 2 * k
  | 0 => by simp [glue]
  | k + 1 => by
    have ih := glue_zeros [48] k
    rw [List.replicate_succ]
    simp only [glue, List.length_append, List.length_cons] at ih ⊢
    rw [ih]
    simp
    omega
theorem zeros_len (k : Nat) : (headT 0 0 (List.replicate k 0) [] ++ clientsT []).length = 2 * k + 21 := by
  have e1 : (intsL playW [0, 0]).length = 9 := by decide +kernel
  have e2 : (intsL ticksW []).length = 6 := by decide +kernel
  have e3 : (intsL picksW (List.replicate k 0)).length = 6 + 2 * k := by
    unfold intsL
    rw [List.map_replicate, show Lib.itoa 0 = [48] by decide +kernel, List.length_append, glue_zeros]
    simp [picksW]
    omega
  unfold headT
  simp only [List.length_append, e1, e2, e3]
  simp [clientsT]
  omega
theorem print_zeros (k : Nat) (hk : k ≤ 4194304) (aP : Option Addr) (cP : Nat) (w : World) (hm : HasMax w) (ht : HasTab w) (hP : Ints w aP (List.replicate k 0)) :
    Calls Tryd.prog 12 #[.agg #[.int .i64 0, .int .i64 0, .slice none 0 0, .slice aP k cP, .slice none 0 0]] w fun e w' => Below w.heap.size w w' ∧ ((1048576 < 2 * k + 21 ∧ e = .returned (.tuple #[.string ⟨#[]⟩, .int .i64 12])) ∨ (2 * k + 21 ≤ 1048576 ∧ ∃ s : ByteArray, s.size = 2 * k + 21 ∧ e = .returned (.tuple #[.string s, .int .i64 0]))) := by
  have h := print_walk 0 0 (List.replicate k 0) [] [] none aP none 0 cP 0 w hm ht ⟨by omega, by omega⟩ ⟨by omega, by omega⟩ hP (fun i hi => by simp at hi) (fun i hi => by simp at hi) (by simp) (by simpa using hk) (by simp) (by simp) (by simp) (by rw [zeros_len]; omega)
  rw [List.length_replicate] at h
  refine h.mono ?_
  rintro e w' ⟨hb, h⟩
  refine ⟨hb, ?_⟩
  rw [zeros_len] at h
  rcases h with ⟨⟨l, hl, _⟩, _⟩ | ⟨_, ⟨h1, h2⟩ | ⟨h1, h2⟩⟩
  · simp at hl
  · exact .inl ⟨h1, h2⟩
  · exact .inr ⟨h1, _, by rw [size_bs, zeros_len], h2⟩
theorem zeros_ints {w : World} {g base n : Nat} (h : w.ownsRow base 3 1 (.slice (some ⟨g, 0, none⟩) n n) n (List.replicate n (.int .i64 0))) : Ints w (some ⟨g, 0, none⟩) (List.replicate n 0) := fun i hi => by
  have hi' : i < n := by simpa using hi
  have := h.cells (g := g) rfl i (.int .i64 0) (by simp [hi'])
  rw [Addr.add_lit, Nat.zero_add] at this
  refine ⟨g, 0, rfl, World.block_lt_of_cell? w _ this, ?_, by simp, by simp⟩
  rw [Nat.zero_add, this]
  simp
set_option maxRecDepth 100000 in
set_option maxHeartbeats 8000000 in
theorem big_law (n : Int) (w : World) (hm : HasMax w) (ht : HasTab w) (h0 : 0 ≤ n) (h1 : n ≤ 255) : Calls Tryd.prog 6 #[.int .u8 n] w fun e w' => e = .returned (.bool true) ∧ Below w.heap.size w w' := by
  obtain ⟨N, hN⟩ : ∃ N : Nat, (1048574 : Int) + n % 5 = N := ⟨(1048574 + n % 5).toNat, by omega⟩
  have hN1 : N ≤ 1048578 := by omega
  have hN2 : 1048574 ≤ N := by omega
  obtain ⟨s, hs, hsz, hsb⟩ := zeros_text N
  have HS := Lib.hid hs
  have HSB : Hid (∀ j, j < s.size → byteAt s j ≠ 10) := Lib.hid (fun j hj => hsb j (by omega))
  have HM := Lib.hid hm
  have HT := Lib.hid ht
  have HSZ := Lib.hid hsz
  clear hs hsb hm ht hsz
  go_enter Tryd.func6, Tryd.ntmps6
  go_upto_region 2 with (at_make; go_must (refine wpl_make _ rfl _ _ 53 5 rfl .u8 1 Tryd.underlying53 (by kernel_rfl) .i64 .i64 _ _ N rfl rfl (by omega) (by omega) (by omega) (by unfold maxLen; omega) ?_); intro w1 ho1 hg1)
  have kc : (convert 53 9 (.slice (some ⟨w.heap.size, 0, none⟩) N N)).run Tryd.prog w1 = .ok (.string s) w1 := by
    rw [HS.out]
    refine zeros_conv w1 w.heap.size N fun j hj => ?_
    have := ho1.cells (g := w.heap.size) rfl j (.int .u8 0) (by simp [hj])
    rw [Addr.add_lit, Nat.zero_add] at this
    exact this
  have hb1 : Below w.heap.size w w1 := (Below.refl _ _).grown hg1 (Nat.le_refl _) (by simp)
  have HB1 := Lib.hid hb1
  clear ho1 hg1 hb1
  by_cases hbig : 1048576 < N
  · have hbi : (1048576 : Int) < N := by omega
    go_wp2_with (first
      | (go_at_call 15; (with_reducible refine (parse_big s _ (by rw [HSZ.out]; exact hbig)).mono ?_); rintro e w2 ⟨rfl, hb2⟩; have HB2 := Lib.hid (below_next HB1.out hb2 (Nat.le_refl _)); clear hb2)
      | (go_at_call 17; (with_reducible refine (alike_zero _).mono ?_); rintro e w3 ⟨rfl, hb3⟩; have HB3 := Lib.hid (below_next ((HB2.out.alloc HB2.out.size _)) hb3 (by simp)); clear hb3)
      | (go_at_call 7; (with_reducible refine (live_scr _ (HM.out.below HB3.out) (HT.out.below HB3.out)).mono ?_); rintro e w4 ⟨rfl, hb4⟩; have HB4 := Lib.hid (below_next HB3.out hb4 (Nat.le_refl _)); clear hb4))
    go_ret
    exact ⟨rfl, HB4.out⟩
  · have hbi : ¬ (1048576 : Int) < N := by omega
    obtain ⟨M, hM⟩ : ∃ M : Nat, (524276 : Int) + n % 4 = M := ⟨(524276 + n % 4).toNat, by omega⟩
    have hM' : n % 4 + (524276 : Int) = M := by omega
    have hM1 : M ≤ 524279 := by omega
    have hM2 : 524276 ≤ M := by omega
    go_upto_region 8 with (first
      | (go_at_call 15; (with_reducible refine (parse_none s _ (HM.out.below HB1.out) (by rw [HSZ.out]; omega) (by rw [HSZ.out]; omega) HSB.out).mono ?_); rintro e w2 ⟨rfl, hb2⟩; have HB2 := Lib.hid (below_next HB1.out hb2 (Nat.le_refl _)); clear hb2))
    have HB3 : Hid (Below w.heap.size w (w2.alloc (.cells #[.int .i64 0, .int .i64 0, .slice none 0 0, .slice none 0 0, .slice none 0 0] 36))) := Lib.hid (HB2.out.alloc HB2.out.size _)
    by_cases hl : 1048576 < 2 * M + 21
    · have hl2 : (1048576 : Int) < 2 * M + 21 := by omega
      go_wp2_with (first
        | (at_make; go_must (refine wpl_make _ rfl _ _ 34 3 rfl .i64 8 Tryd.underlying34 (by kernel_rfl) .i64 .i64 _ _ M rfl rfl rfl rfl (by omega) (by unfold maxLen; omega) ?_); intro w3 ho3 hg3; rw [show (w2.alloc (.cells #[.int .i64 0, .int .i64 0, .slice none 0 0, .slice none 0 0, .slice none 0 0] 36)).heap.size = w2.heap.size + 1 by simp] at ho3; have HB4 := Lib.hid (HB3.out.grown hg3 HB3.out.size (by simp)); have HP := Lib.hid (zeros_ints ho3); clear ho3 hg3)
        | (go_at_call 12; (with_reducible refine (print_zeros M (by omega) _ _ _ (HM.out.below HB4.out) (HT.out.below HB4.out) HP.out).mono ?_); rintro e w4 ⟨hb4, hpr⟩; have HB5 := Lib.hid (below_next HB4.out hb4 (Nat.le_refl _)); clear hb4; obtain ⟨-, rfl⟩ := hpr.resolve_right (fun h => by omega); clear hpr)
        | (go_at_call 7; (with_reducible refine (live_scr _ (HM.out.below HB5.out) (HT.out.below HB5.out)).mono ?_); rintro e w5 ⟨rfl, hb5⟩; have HB6 := Lib.hid (below_next HB5.out hb5 (Nat.le_refl _)); clear hb5))
      go_ret
      exact ⟨rfl, HB6.out⟩
    · have hl2 : decide ((1048576 : Int) < 2 * (M : Int) + 21) = false := decide_eq_false (by omega)
      have HL := Lib.hid hl
      clear hl
      go_wp2_with (first
        | (at_make; go_must (refine wpl_make _ rfl _ _ 34 3 rfl .i64 8 Tryd.underlying34 (by kernel_rfl) .i64 .i64 _ _ M rfl rfl rfl rfl (by omega) (by unfold maxLen; omega) ?_); intro w3 ho3 hg3; rw [show (w2.alloc (.cells #[.int .i64 0, .int .i64 0, .slice none 0 0, .slice none 0 0, .slice none 0 0] 36)).heap.size = w2.heap.size + 1 by simp] at ho3; have HB4 := Lib.hid (HB3.out.grown hg3 HB3.out.size (by simp)); have HP := Lib.hid (zeros_ints ho3); clear ho3 hg3)
        | (go_at_call 12; (with_reducible refine (print_zeros M (by omega) _ _ _ (HM.out.below HB4.out) (HT.out.below HB4.out) HP.out).mono ?_); rintro e w4 ⟨hb4, hpr⟩; have HB5 := Lib.hid (below_next HB4.out hb4 (Nat.le_refl _)); clear hb4; obtain ⟨-, t, htz, rfl⟩ := hpr.resolve_left (fun h => HL.out h.1); have htz2 : ((t.size : Int) == 2 * (M : Int) + 21) = true := (by have : (t.size : Int) = 2 * M + 21 := (by omega); simpa using this); clear htz hpr)
        | (go_at_call 7; (with_reducible refine (live_scr _ (HM.out.below HB5.out) (HT.out.below HB5.out)).mono ?_); rintro e w5 ⟨rfl, hb5⟩; have HB6 := Lib.hid (below_next HB5.out hb5 (Nat.le_refl _)); clear hb5))
      go_ret
      exact ⟨rfl, HB6.out⟩
end Go.Proofs.YtplhmcmfdcklaaaDoor.Lex
