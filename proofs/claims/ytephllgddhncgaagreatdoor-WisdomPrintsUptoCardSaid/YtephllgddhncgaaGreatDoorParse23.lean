/- dtext.Parse. -/
import Derived.Test.YtephllgddhncgaaGreatDoorNodeT23
import Derived.Test.YtephllgddhncgaaGreatDoorLexT
import Derived.Test.YtephllgddhncgaaGreatDoorGText
namespace Go.Proofs.YtephllgddhncgaaGreatDoor.Lex
open Go.RowKit
set_option linter.unusedSimpArgs false
set_option linter.unusedVariables false
/-! ### The tokens that the program makes -/
def txtOf (s : ByteArray) (x : Tok) : List UInt8 := (s.data.toList.drop x.2.1).take (x.2.2 - x.2.1)
theorem ext_bs (s : ByteArray) (a b : Nat) : s.extract a b = bs ((s.data.toList.drop a).take (b - a)) := by
  apply ByteArray.ext
  rw [ByteArray.data_extract]
  apply Array.toList_inj.1
  simp [bs]
theorem kdL_text {s : ByteArray} {a i : Nat} (ha : a < i) (hi : i ≤ s.size) : kdL ((s.data.toList.drop a).take (i - a)) = kb s (i - 1) := by
  have hl : s.data.toList.length = s.size := by simp
  have e : (s.data.toList.drop a).take (i - a) = (s.data.toList.drop a).take (i - 1 - a) ++ [s.data.toList.getD (i - 1) 0] := by
    rw [show i - a = (i - 1 - a) + 1 by omega, List.take_succ_eq_append_getElem (by rw [List.length_drop]; omega), List.getElem_drop, List.getD_eq_getElem?_getD]
    congr 2
    rw [List.getElem?_eq_getElem (by omega : i - 1 < s.data.toList.length)]
    simp only [Option.getD_some]
    congr 1
    omega
  rw [e, kdL_snoc]
  rfl
theorem toks_tokL (s : ByteArray) : ∀ i, i ≤ s.size → (∀ m, m < i → kb s m ≠ 0) → (toks s i).map (txtOf s) = tokL (s.data.toList.take i)
  | 0, _, _ => by simp [toks, tokL]
  | i + 1, hi, h => by
    have ih := toks_tokL s i (by omega) fun m hm => h m (by omega)
    have hl : s.data.toList.length = s.size := by simp
    have hb : s.data.toList.take (i + 1) = s.data.toList.take i ++ [s.data.toList.getD i 0] := by
      rw [List.take_succ_eq_append_getElem (by omega), List.getD_eq_getElem?_getD, List.getElem?_eq_getElem (by omega : i < s.data.toList.length)]
      rfl
    have hone : (s.data.toList.drop i).take (i + 1 - i) = [s.data.toList.getD i 0] := by
      rw [show i + 1 - i = 0 + 1 by omega, List.take_succ_eq_append_getElem (by rw [List.length_drop]; omega), List.getElem_drop, List.getD_eq_getElem?_getD, List.getElem?_eq_getElem (by omega : i < s.data.toList.length)]
      simp
    have hlast : kdL ((tokL (s.data.toList.take i)).getLastD []) = lastK s i := by
      rw [← ih]
      rcases Nat.eq_zero_or_pos i with rfl | hp
      · rfl
      · have hc := toks_chained (s := s) i fun m hm => h m (by omega)
        rcases List.eq_nil_or_concat (toks s i) with h0 | ⟨l, x, hl2⟩
        · exact absurd h0 (toks_ne hp)
        · rw [List.concat_eq_append] at hl2
          rw [hl2] at hc ⊢
          obtain ⟨b, _, h2, h3, h4⟩ := chained_last hc
          rw [List.map_append, List.map_singleton, List.getLastD_concat]
          have := kdL_text (s := s) (a := x.2.1) (i := i) (by omega) (by omega)
          rw [txtOf, h4, this]
          obtain ⟨j, rfl⟩ : ∃ j, i = j + 1 := ⟨i - 1, by omega⟩
          rfl
    rw [hb, tokL, List.foldl_append, ← tokL, List.foldl_cons, List.foldl_nil]
    by_cases hn : kb s i = 3 ∨ kb s i ≠ lastK s i
    · rw [toks_new hn, List.map_append, ih, addB, if_pos (by rw [hlast]; exact hn), List.map_singleton, txtOf, hone]
    · rw [toks_more hn, List.map_append, List.map_singleton, addB, if_neg (by rw [hlast]; exact hn), ← ih]
      have hp : 0 < i := by
        rcases Nat.eq_zero_or_pos i with rfl | hp
        · exact absurd (.inr (h 0 (by omega))) hn
        · exact hp
      have hc := toks_chained (s := s) i fun m hm => h m (by omega)
      rcases List.eq_nil_or_concat (toks s i) with h0 | ⟨l, x, hl2⟩
      · exact absurd h0 (toks_ne hp)
      · rw [List.concat_eq_append] at hl2
        rw [hl2] at hc ⊢
        obtain ⟨b, _, h2, h3, h4⟩ := chained_last hc
        rw [List.map_append, List.map_singleton, List.dropLast_concat, List.dropLast_concat, List.getLastD_concat, List.getLastD_concat]
        congr 2
        simp only [txtOf]
        rw [h4, show i + 1 - x.2.1 = (i - x.2.1) + 1 by omega, List.take_succ_eq_append_getElem (by rw [List.length_drop]; omega), List.getElem_drop, List.getD_eq_getElem?_getD, List.getElem?_eq_getElem (by omega : i < s.data.toList.length)]
        simp only [Option.getD_some]
        congr 3
        omega
theorem kinds_all (s : ByteArray) : (s.data.toList.all fun b => kd b.toNat != 0) = true ↔ ∀ m, m < s.size → kb s m ≠ 0 := by
  have hl : s.data.toList.length = s.size := by simp
  rw [List.all_eq_true]
  constructor
  · intro h m hm
    have := h (s.data.toList[m]'(by omega)) (List.getElem_mem _)
    unfold kb
    rw [List.getD_eq_getElem?_getD, List.getElem?_eq_getElem (by omega : m < s.data.toList.length)]
    simpa using this
  · intro h b hb
    obtain ⟨m, hm, rfl⟩ := List.mem_iff_getElem.1 hb
    have := h m (by omega)
    unfold kb at this
    rw [List.getD_eq_getElem?_getD, List.getElem?_eq_getElem hm] at this
    simpa using this
theorem tokCells_get (s : ByteArray) (l : List Tok) (i : Nat) (x : Tok) (h : l[i]? = some x) : (tokCells s l)[i * 3]? = some (.int .i64 x.1) ∧ (tokCells s l)[i * 3 + 1]? = some (.string (s.extract x.2.1 x.2.2)) ∧ (tokCells s l)[i * 3 + 2]? = some (.int .i64 x.2.1) := by
  induction l generalizing i with
  | nil => simp at h
  | cons y l ih =>
    cases i with
    | zero => obtain rfl : y = x := by simpa using h
              exact ⟨rfl, rfl, rfl⟩
    | succ i =>
      have := ih i (by simpa using h)
      rw [show tokCells s (y :: l) = [.int .i64 y.1, .string (s.extract y.2.1 y.2.2), .int .i64 y.2.1] ++ tokCells s l by simp [tokCells]]
      rw [List.getElem?_append_right (by simp; omega), List.getElem?_append_right (by simp; omega), List.getElem?_append_right (by simp; omega)]
      simp only [List.length_cons, List.length_nil]
      rw [show (i + 1) * 3 - (0 + 1 + 1 + 1) = i * 3 by omega, show (i + 1) * 3 + 1 - (0 + 1 + 1 + 1) = i * 3 + 1 by omega, show (i + 1) * 3 + 2 - (0 + 1 + 1 + 1) = i * 3 + 2 by omega]
      exact this
theorem toks_mem {s : ByteArray} {w : World} {B : Nat} {a : Option Addr} {n c : Nat} (h : w.ownsRow B 133 3 (.slice a n c) (toks s s.size).length (tokCells s (toks s s.size))) (hall : ∀ m, m < s.size → kb s m ≠ 0) :
    n = (tokL s.data.toList).length ∧ ∀ (r : Nat), w.heap.size ≤ r → Toks w r a (tokL s.data.toList) := by
  have hl : s.data.toList.length = s.size := by simp
  have e := toks_tokL s s.size (Nat.le_refl _) hall
  rw [List.take_of_length_le (by omega)] at e
  obtain ⟨a', c', hv⟩ := own_val h
  cases hv
  refine ⟨by rw [← e, List.length_map], fun r hr i x hx => ?_⟩
  rw [← e, List.getElem?_map, Option.map_eq_some_iff] at hx
  obtain ⟨t, ht, rfl⟩ := hx
  have hpos : 0 < (toks s s.size).length := by have := (List.getElem?_eq_some_iff.1 ht).1; omega
  obtain ⟨g, cp, hv, hbg, hgl, _⟩ := own_some h hpos
  cases hv
  obtain ⟨p0, p1, p2⟩ := tokCells_get s _ i t ht
  rw [ext_bs] at p1
  exact ⟨g, t.1, t.2.1, rfl, by omega, hgl, (own_cell h p0).1, (own_cell h p1).1, (own_cell h p2).1⟩
/-! ### What Parse tells -/
def zeroD : DescV := .mk 0 0 []
def parseD (s : List UInt8) : Int × DescV := if 4096 < s.length then (12, zeroD) else match treeT s with
  | none => (10, zeroD)
  | some d => if bigD d = true then (12, zeroD) else (0, d)
mutual
theorem nodes_tok : ∀ d : DescV, d.nodes ≤ (tokD d).length
  | .mk k n l => by rw [DescV.nodes, tokD]; have := nodes_tokR l; simp only [List.length_cons]; omega
theorem nodes_tokR : ∀ l : List DescV, DescV.nodesL l ≤ (tokR l).length
  | [] => by simp [DescV.nodesL]
  | d :: l => by rw [DescV.nodesL, tokR]; have := nodes_tok d; have := nodes_tokK l; simp only [List.length_cons, List.length_append]; omega
theorem nodes_tokK : ∀ l : List DescV, DescV.nodesL l ≤ (tokK l).length
  | [] => by simp [DescV.nodesL]
  | d :: l => by rw [DescV.nodesL, tokK]; have := nodes_tok d; have := nodes_tokK l; simp only [List.length_cons, List.length_append]; omega
end
theorem tree_nodes {s : List UInt8} {d : DescV} (h : treeT s = some d) : d.nodes ≤ s.length := by
  obtain ⟨ho, e⟩ := textD_iff.1 (treeT_iff.1 h)
  have e2 : tokL s = tokD d := by rw [← e, tokL, fold_tok d [] ho (by decide)]; rfl
  have := tokL_len s
  rw [e2] at this
  exact Nat.le_trans (nodes_tok d) this
def ParsePost (s : List UInt8) (w : World) (e : Ending) (w' : World) : Prop :=
  ∃ a m c, e = .returned (.tuple #[.agg #[.int .i64 (parseD s).2.kind, .int .i64 (parseD s).2.n, .slice a m c], .int .i64 (parseD s).1]) ∧ RowOf (descRd 16384) 3 40 (From w.heap.size) w' a m c (parseD s).2.kids ∧ Below w.heap.size w w'
theorem parse_post_bad {s : List UInt8} {w w' : World} {k : Int} (h : parseD s = (k, zeroD)) (hb : Below w.heap.size w w') : ParsePost s w (.returned (.tuple #[.agg #[.int .i64 0, .int .i64 0, .slice none 0 0], .int .i64 k])) w' :=
  ⟨none, 0, 0, by rw [h]; rfl, by rw [h]; exact RowOf.empty _ _ _ _ _, hb⟩
theorem toks_u (s : ByteArray) (w : World) (hs : s.size ≤ 8192) : Calls Tryz.prog 73 #[.string s] w fun e w' => Below w.heap.size w w' ∧ ∃ (la : Option Addr) (lc : Nat) (T : List (List UInt8)) (c : Int), e = .returned (.tuple #[.slice la T.length lc, .int .i64 c]) ∧
    T.length ≤ s.size ∧ (∀ x ∈ T, x.length ≤ 8192) ∧ treeT s.data.toList = (match nodeT (s.size + 2) T with | some (d, []) => some d | _ => none) ∧ (c = 0 ∨ (c = 10 ∧ T = [])) ∧ ∀ r, w'.heap.size ≤ r → Toks w' r la T := by
  have hl : s.data.toList.length = s.size := by simp
  refine (lexToks s w hs).mono fun e w' h => ?_
  rcases h with ⟨⟨m, hm, hz⟩, rfl, hb⟩ | ⟨hall, v, rfl, ho, hb⟩
  · refine ⟨hb, none, 0, [], 10, rfl, by simp, by simp, ?_, .inr ⟨rfl, rfl⟩, fun r _ i x hx => by simp at hx⟩
    rw [treeT, if_neg (fun h => (kinds_all s).1 h m hm hz)]
    rfl
  · obtain ⟨a, c, rfl⟩ := own_val ho
    obtain ⟨hn, ht⟩ := toks_mem ho hall
    rw [hn]
    refine ⟨hb, a, c, tokL s.data.toList, 0, rfl, by have := tokL_len s.data.toList; omega, fun x hx => ?_, ?_, .inl rfl, ht⟩
    · have h1 := tokL_flat s.data.toList
      have h2 : x.length ≤ (tokL s.data.toList).flatten.length := by
        obtain ⟨l1, l2, e⟩ := List.append_of_mem hx
        rw [e]
        simp only [List.flatten_append, List.flatten_cons, List.length_append]
        omega
      rw [h1] at h2
      omega
    · rw [treeT, if_pos ((kinds_all s).2 hall), hl]
      rfl
set_option maxRecDepth 100000 in
set_option maxHeartbeats 4000000 in
theorem parse_any (s : ByteArray) (w : World) (hs : s.size ≤ maxLen) (hm : HasMax w) : Calls Tryz.prog 48 #[.string s] w (ParsePost s.data.toList w) := by
  have hl : s.data.toList.length = s.size := by simp
  obtain ⟨W0, hW0⟩ : ∃ W0, W0 = w.alloc (.cells #[.int .i64 0, .int .i64 0, .slice none 0 0] 42) := ⟨_, rfl⟩
  have hb0 : Below w.heap.size w W0 := by rw [hW0]; exact (Below.refl _ _).alloc (Nat.le_refl _) _
  have g0 : W0.heap[w.heap.size]? = some (.cells #[.int .i64 0, .int .i64 0, .slice none 0 0] 42 (0, 0)) := by rw [hW0]; exact heap_alloc_new w _
  have HB0 := Lib.hid hb0
  have HG0 := Lib.hid g0
  unfold maxLen at hs
  by_cases hbig : 4096 < s.size
  · have HP : Hid (parseD s.data.toList = (12, zeroD)) := Lib.hid (by rw [parseD, if_pos (by omega)])
    have hbig' : (4096 : Int) < (s.size : Int) := by omega
    have c0 := cell_at (o := 0) g0 rfl
    have c1 := cell_at (o := 1) g0 rfl
    have c2 := cell_at (o := 2) g0 rfl
    have f0 := free_at (o := 0) g0
    have f1 := free_at (o := 1) g0
    have f2 := free_at (o := 2) g0
    clear hbig hb0 g0 hm hl
    go_enter Tryz.func48, Tryz.ntmps48
    go_upto_region 1 with fail
    rw [← hW0]
    clear hW0
    go_wp2_with fail
    refine bodyPost_ret (v := .tuple #[.agg #[.int .i64 0, .int .i64 0, .slice none 0 0], .int .i64 12]) (by simp [results, Tryz.results48, go_sem, *]) rfl ?_
    exact parse_post_bad HP.out (((HB0.out.setCell (Nat.le_refl _) _).setCell (Nat.le_refl _) _).setCell (Nat.le_refl _) _)
  · have hbig' : ¬ (4096 : Int) < (s.size : Int) := by omega
    have hs2 : s.size ≤ 4096 := by omega
    have HM := Lib.hid hm
    have HTK := Lib.hid (toks_u s W0 (by omega))
    have HPD : Hid (parseD s.data.toList = match treeT s.data.toList with | none => (10, zeroD) | some d => if bigD d = true then (12, zeroD) else (0, d)) := Lib.hid (by rw [parseD, if_neg (by omega)])
    have HTN : Hid (∀ d, treeT s.data.toList = some d → d.nodes ≤ 4096) := Lib.hid fun d h => by have := tree_nodes h; omega
    clear hbig hb0 g0 hm hl
    go_enter Tryz.func48, Tryz.ntmps48
    go_upto_region 1 with fail
    rw [← hW0]
    clear hW0
    go_upto_region 4 with (go_at_call 73; (with_reducible refine HTK.out.mono ?_); rintro e w1 ⟨hb1, la, lc, T, c, rfl, hT, hTx, htree, hc, htk⟩; have HB1 := Lib.hid (HB0.out.trans (hb1.mono HB0.out.size)); have HG1 := Lib.hid ((hb1.block _ (Array.getElem?_eq_some_iff.1 HG0.out).1).trans HG0.out); have HTX := Lib.hid hTx; have HTREE := Lib.hid htree; have HC := Lib.hid hc; have HTKS := Lib.hid htk; clear hb1 hTx htree hc htk)
    obtain ⟨ok0, hok0⟩ : ∃ ok0, (c == 0) = ok0 := ⟨_, rfl⟩
    have HOK0 : Hid (ok0 = false → T.length ≤ 0) := Lib.hid fun h => by
      subst h
      rcases HC.out with rfl | ⟨_, rfl⟩
      · simp at hok0
      · exact Nat.le_refl _
    have hz1 : w.heap.size < w1.heap.size := (Array.getElem?_eq_some_iff.1 HG1.out).1
    obtain ⟨W2, hW2⟩ : ∃ W2, W2 = w1.alloc (.cells #[.slice la T.length lc, .int .i64 0, .bool ok0] 121) := ⟨_, rfl⟩
    have hb12 : Below w1.heap.size w1 W2 := by rw [hW2]; exact (Below.refl _ _).alloc (Nat.le_refl _) _
    have g2 : W2.heap[w1.heap.size]? = some (.cells #[.slice la T.length lc, .int .i64 ((0 : Nat) : Int), .bool ok0] 121 (0, 0)) := by rw [hW2]; exact heap_alloc_new w1 _
    have HR2 : Hid (RdC W2 w1.heap.size la T.length lc 0 ok0) := Lib.hid g2
    have HB2 := Lib.hid (HB1.out.trans (hb12.mono HB1.out.size))
    have HG2 := Lib.hid ((hb12.block _ hz1).trans HG1.out)
    have HND := Lib.hid (node_all (s.size + 2) w1.heap.size la lc T 0 ok0 W2 g2 ((HTKS.out _ (Nat.le_refl _)).keep (Bt.of_below hb12 (Nat.le_refl _))) (by omega) HTX.out (by omega) (by omega) (by rw [List.drop_zero]; omega) HOK0.out (HM.out.below HB2.out) (by obtain ⟨m, hm⟩ := HM.out; have h1 := World.block_lt_of_cell? w _ hm; have h2 : 0 < w.heap.size := h1; omega))
    go_upto_region 5 with fail
    rw [← hW2]
    clear hW2 g2 hb12
    go_upto_region 6 with (go_at_call 74; (with_reducible refine HND.out.mono ?_); rintro e w3 ⟨hb3, k3, n3, a3, m3, c3, at3, ok3, rfl, ha3, hr3, hm3⟩; have HB3 := Lib.hid hb3; have HR3 := Lib.hid hr3; have HM3 := Lib.hid hm3; have HA3 := Lib.hid ha3; clear hb3 hr3 hm3 ha3)
    have hz2 : W2.heap.size ≤ w3.heap.size := HB3.out.fix.size
    have hz12 : w1.heap.size < W2.heap.size := (Array.getElem?_eq_some_iff.1 HR2.out).1
    have hBZ : Below w.heap.size w w3 := HB2.out.trans (HB3.out.below.mono (by omega))
    have HBZ := Lib.hid hBZ
    have g3 : w3.heap[w.heap.size]? = some (.cells #[.int .i64 0, .int .i64 0, .slice none 0 0] 42 (0, 0)) := (HB3.out.below.block _ (by omega)).trans HG2.out
    obtain ⟨W4, hW4⟩ : ∃ W4, W4 = w3.alloc (.cells #[.int .i64 k3, .int .i64 n3, .slice a3 m3 c3] 42) := ⟨_, rfl⟩
    have hb34 : Below w3.heap.size w3 W4 := by rw [hW4]; exact (Below.refl _ _).alloc (Nat.le_refl _) _
    have g4 : W4.heap[w3.heap.size]? = some (.cells #[.int .i64 k3, .int .i64 n3, .slice a3 m3 c3] 42 (0, 0)) := by rw [hW4]; exact heap_alloc_new w3 _
    have HR4 := Lib.hid (HR3.out.below hb34)
    have HG4 := Lib.hid ((hb34.block _ (Array.getElem?_eq_some_iff.1 g3).1).trans g3)
    have HV4 := Lib.hid g4
    have HB34 := Lib.hid hb34
    have HB4 := Lib.hid (hBZ.trans (hb34.mono hBZ.size))
    rw [← hW4]
    clear hW4 hBZ g3 hb34 g4
    have q1 : W4.cell? ⟨w1.heap.size, 1, none⟩ = some (.int .i64 (at3 : Int)) := cell_at (o := 1) HR4.out rfl
    have q2 : W4.cell? ⟨w1.heap.size, 2, none⟩ = some (.bool ok3) := cell_at (o := 2) HR4.out rfl
    have c0 := cell_at (o := 0) HG4.out rfl
    have c1 := cell_at (o := 1) HG4.out rfl
    have c2 := cell_at (o := 2) HG4.out rfl
    have f0 := free_at (o := 0) HG4.out
    have f1 := free_at (o := 1) HG4.out
    have f2 := free_at (o := 2) HG4.out
    have v0 := cell_at (o := 0) HV4.out rfl
    have v1 := cell_at (o := 1) HV4.out rfl
    have v2 := cell_at (o := 2) HV4.out rfl
    have n1 : ¬ w3.heap.size = w.heap.size := by omega
    have n2 : ¬ w.heap.size = w3.heap.size := by omega
    cases hnt : nodeT (s.size + 2) (T.drop 0) with
    | none =>
      have hm := HM3.out
      rw [hnt] at hm
      obtain rfl : ok3 = false := hm
      have HP : Hid (parseD s.data.toList = (10, zeroD)) := Lib.hid (by rw [HPD.out, HTREE.out]; rw [List.drop_zero] at hnt; rw [hnt])
      clear hnt
      go_wp2_with fail
      refine bodyPost_ret (v := .tuple #[.agg #[.int .i64 0, .int .i64 0, .slice none 0 0], .int .i64 10]) (by simp [results, Tryz.results48, go_sem, *]) rfl ?_
      exact parse_post_bad HP.out (((HB4.out.setCell (Nat.le_refl _) _).setCell (Nat.le_refl _) _).setCell (Nat.le_refl _) _)
    | some q =>
      obtain ⟨d, R⟩ := q
      have hm := HM3.out
      rw [hnt] at hm
      obtain ⟨rfl, rfl, rfl, rfl, hrow⟩ := hm
      rw [List.drop_zero] at hnt
      have HROW := Lib.hid (hrow.keep (descRd_ok _) (Fix.of_below HB34.out))
      by_cases hlt : at3 < T.length
      · have hlt' : decide ((at3 : Int) < (T.length : Int)) = true := decide_eq_true (by omega)
        have HP : Hid (parseD s.data.toList = (10, zeroD)) := Lib.hid (by rw [HPD.out, HTREE.out, hnt, List.drop_eq_getElem_cons hlt])
        clear hnt hlt' hrow
        go_wp2_with fail
        refine bodyPost_ret (v := .tuple #[.agg #[.int .i64 0, .int .i64 0, .slice none 0 0], .int .i64 10]) (by simp [results, Tryz.results48, go_sem, *]) rfl ?_
        exact parse_post_bad HP.out (((HB4.out.setCell (Nat.le_refl _) _).setCell (Nat.le_refl _) _).setCell (Nat.le_refl _) _)
      · have hlt' : decide ((at3 : Int) < (T.length : Int)) = false := decide_eq_false (by omega)
        have htd : treeT s.data.toList = some d := by rw [HTREE.out, hnt, List.drop_of_length_le (by omega)]
        have hnd := HTN.out d htd
        rw [DescV.nodes_kids] at hnd
        have HBG := Lib.hid (big_any (s.size + 2) _ d.kind d.n d.kids a3 m3 c3 W4 HROW.out (by omega))
        rw [← DescV.eta d] at HBG
        have HPB : Hid (parseD s.data.toList = if bigD d = true then (12, zeroD) else (0, d)) := Lib.hid (by rw [HPD.out, htd])
        clear hnt hlt' hrow htd hnd
        generalize hbg : bigD d = bg at *
        have HBGE := Lib.hid hbg
        clear hbg
        cases bg with
        | true =>
          have HP : Hid (parseD s.data.toList = (12, zeroD)) := HPB
          go_wp2_with (go_at_call 64; (with_reducible refine HBG.out.mono ?_); rintro e w5 ⟨rfl, hb5⟩; have HB5 := Lib.hid (HB4.out.trans (hb5.mono HB4.out.size)); have HG5 := Lib.hid ((hb5.block _ (Array.getElem?_eq_some_iff.1 HG4.out).1).trans HG4.out); clear hb5 c0 c1 c2 f0 f1 f2 v0 v1 v2 q1 q2; have c0 := cell_at (o := 0) HG5.out rfl; have c1 := cell_at (o := 1) HG5.out rfl; have c2 := cell_at (o := 2) HG5.out rfl; have f0 := free_at (o := 0) HG5.out; have f1 := free_at (o := 1) HG5.out; have f2 := free_at (o := 2) HG5.out)
          refine bodyPost_ret (v := .tuple #[.agg #[.int .i64 0, .int .i64 0, .slice none 0 0], .int .i64 12]) (by simp [results, Tryz.results48, go_sem, *]) rfl ?_
          exact parse_post_bad HP.out (((HB5.out.setCell (Nat.le_refl _) _).setCell (Nat.le_refl _) _).setCell (Nat.le_refl _) _)
        | false =>
          have HP : Hid (parseD s.data.toList = (0, d)) := HPB
          go_wp2_with (go_at_call 64; (with_reducible refine HBG.out.mono ?_); rintro e w5 ⟨rfl, hb5⟩; have HB5 := Lib.hid (HB4.out.trans (hb5.mono HB4.out.size)); have HB45 := Lib.hid hb5; have HG5 := Lib.hid ((hb5.block _ (Array.getElem?_eq_some_iff.1 HG4.out).1).trans HG4.out); have HV5 := Lib.hid ((hb5.block _ (Array.getElem?_eq_some_iff.1 HV4.out).1).trans HV4.out); clear hb5 c0 c1 c2 f0 f1 f2 v0 v1 v2 q1 q2; have c0 := cell_at (o := 0) HG5.out rfl; have c1 := cell_at (o := 1) HG5.out rfl; have c2 := cell_at (o := 2) HG5.out rfl; have f0 := free_at (o := 0) HG5.out; have f1 := free_at (o := 1) HG5.out; have f2 := free_at (o := 2) HG5.out; have v0 := cell_at (o := 0) HV5.out rfl; have v1 := cell_at (o := 1) HV5.out rfl; have v2 := cell_at (o := 2) HV5.out rfl)
          refine bodyPost_ret (v := .tuple #[.agg #[.int .i64 d.kind, .int .i64 d.n, .slice a3 m3 c3], .int .i64 0]) (by simp [results, Tryz.results48, go_sem, *]) rfl ?_
          have fxs : ∀ (o : Nat) (u : Value) (W : World), Fix (From W2.heap.size) W (W.setCell ⟨w.heap.size, o, none⟩ u) := fun o u W => Fix.setCell W _ u fun hf => by have : W2.heap.size ≤ w.heap.size := hf; omega
          refine ⟨a3, m3, c3, by rw [HP.out], ?_, ((HB5.out.setCell (Nat.le_refl _) _).setCell (Nat.le_refl _) _).setCell (Nat.le_refl _) _⟩
          rw [HP.out]
          exact (((HROW.out.keep (descRd_ok _) (Fix.of_below HB45.out)).keep (descRd_ok _) (((fxs _ _ _).trans (fxs _ _ _)).trans (fxs _ _ _))).mono (descRd_ok _) (fun q _ hq => by have hq' : W2.heap.size ≤ q := hq; show w.heap.size ≤ q; omega)).imp fun _ _ h => descRd_mono (by omega) h
end Go.Proofs.YtephllgddhncgaaGreatDoor.Lex
