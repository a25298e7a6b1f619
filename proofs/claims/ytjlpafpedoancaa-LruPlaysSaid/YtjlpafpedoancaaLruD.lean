/- The reference's Del of a key that is there. -/
import Derived.Test.YtjlpafpedoancaaLruR
namespace Go.Proofs.Ytjlpafpedoancaa.Ring
set_option linter.unusedSimpArgs false
set_option linter.unusedVariables false
open Go.RowKit
theorem step_app {P : Program} {w : World} {ops : Array Oper} {o : Oper} {a : Act} {K : Act → World → Prop} {Q : Exit → Act → World → Prop} {E0 : Prop} (hgd : o.guard = none) (s x : Operand) (t : TypeId)
    (ho : o.op = .call { callee := .builtin .append, args := #[s, x], argTypes := #[t, t] })
    {base : Nat} {e : TypeId} {size bytes : Nat} (E : Elem P t e size bytes)
    (v : Value) (n : Nat) (xs : List Value) (hs : a.eval s = v) (ad : Option Addr) (m c : Nat) (news : List Value) (hx : a.eval x = .slice ad m c)
    (hown : w.ownsRow base e size v n xs) (hsrc : Src w ad m c size news)
    (h63 : n + m ≤ maxLen) (hbytes : (n + m) * bytes ≤ 140737488355328) (hbase : base ≤ w.heap.size)
    (h : ∀ v' w', w'.ownsRow base e size v' (n + m) (xs ++ news) → w.grownBy w' v.ownBlock → K (a.put o.dst v') w') :
    if Region.wanted o (yielded ops a.tmps) = true then Oper.wp P o a w K Q else E0 := by
  have hw : Region.wanted o (yielded ops a.tmps) = true := by simp [Region.wanted, hgd]
  rw [if_pos hw]
  obtain ⟨z, hi, hzs⟩ := E.row
  obtain ⟨i, hi, hz0, hz1, hz2⟩ := info_parts hi
  cases ad with
  | some ad => exact wp_append_own w s x t ho base e i z size bytes E.ht hi hz0 hz1 hz2 hzs E.pos v n xs hs hown ad m c news hx hsrc.len (hsrc.at_ ad rfl) hsrc.one h63 hbytes hbase fun v' w' h1 h2 _ => h v' w' h1 h2
  | none =>
    obtain ⟨rfl, rfl⟩ := hsrc.nil rfl
    have hn : news = [] := List.eq_nil_of_length_eq_zero (by have := hsrc.len; omega)
    subst hn
    have hrun := run_append_owned_none (P := P) (w := w) base t o.type e i size E.ht hi v n xs hown
    unfold Oper.wp
    simp [execOp, ho, resolve, invoke, builtin, hs, hx, hrun, Result.andThen]
    exact h v w (by simpa using hown) (grown_refl _ _)
theorem IRow.src_take {w : World} {b off n c : Nat} {zs : List Int} (h : IRow w (some ⟨b, off, none⟩) n c zs) (i : Nat) (hi : i ≤ n) : Src w (some ⟨b, off, none⟩) i c 1 ((zs.take i).map (Value.int .i64)) := by
  refine ⟨by have := h.len; simp; omega, by simp, fun x hx j u hu => ?_, ints_oneCell _ _⟩
  cases hx
  have hj := (List.getElem?_eq_some_iff.1 hu).1
  simp only [List.length_map, List.length_take] at hj
  obtain ⟨b', o', e1, _, hc⟩ := h.row.at_ (by omega)
  cases e1
  rw [Addr.add_lit]
  refine hc j u ?_
  rw [← hu, List.getElem?_map, List.getElem?_map, List.getElem?_take, if_pos (by omega)]
theorem IRow.src_drop {w : World} {b off n c : Nat} {zs : List Int} (h : IRow w (some ⟨b, off, none⟩) n c zs) (i : Nat) (hi : i ≤ n) : Src w (some ⟨b, off + i, none⟩) (n - i) (c - i) 1 ((zs.drop i).map (Value.int .i64)) := by
  refine ⟨by have := h.len; simp; omega, by simp, fun x hx j u hu => ?_, ints_oneCell _ _⟩
  cases hx
  have hj := (List.getElem?_eq_some_iff.1 hu).1
  simp only [List.length_map, List.length_drop] at hj
  obtain ⟨b', o', e1, _, hc⟩ := h.row.at_ (by have := h.len; omega)
  cases e1
  rw [Addr.add_lit, Nat.add_assoc]
  refine hc (i + j) u ?_
  rw [← hu, List.getElem?_map, List.getElem?_map, List.getElem?_drop]
theorem IRow.src_end {w : World} {b off n c : Nat} (h : n = c) : Src w (some ⟨b, off, none⟩) (n - c) 0 1 [] := by
  subst h
  exact ⟨by simp, by simp, by simp, by simp⟩
theorem IRow.grown {w w' : World} {b off n c N : Nat} {zs : List Int} (h : IRow w (some ⟨b, off, none⟩) n c zs) (hn : 0 < n) (hg : w.grownBy w' (some N)) (hN : b < N) : IRow w' (some ⟨b, off, none⟩) n c zs :=
  h.of_same fun x hx _ => by
    cases hx
    obtain ⟨cur, f, hc⟩ := h.block _ rfl hn
    exact hg.block b (Array.getElem?_eq_some_iff.1 hc).1 (by simp; omega)
theorem below_set2 {B : Nat} {w w' : World} (h : Below B w w') (p : Addr) (u : Value) : Below B (w.setCell p u) (w'.setCell p u) := by
  refine ⟨h.os, h.tape, h.output, by simpa [World.setCell] using h.size, fun k hk => ?_⟩
  simp only [World.setCell, Array.getElem?_modify, h.block k hk]
theorem del_leaf {w w3 : World} {X o N n' n'' c3 B : Nat} {a3 : Option Addr} {cells : Array Value} {T : TypeId} {xs : List Value} {zs : List Int} (lx : X < B) (hB3 : Below B w w3) (hX : w3.heap[X]? = some (.cells cells T (0, 0)))
    (hown : w3.ownsRow B 3 1 (.slice a3 N c3) N xs) (hN : N = n') (hN2 : n'' = n') (hxs : xs = zs.map (Value.int .i64)) :
    ∃ a' c', (w3.setCell ⟨X, o, none⟩ (.slice a3 n'' c3)).heap[X]? = some (.cells (cells.setIfInBounds o (.slice a' n' c')) T (0, 0)) ∧ IRow (w3.setCell ⟨X, o, none⟩ (.slice a3 n'' c3)) a' n' c' zs ∧ Below B (w.setCell ⟨X, o, none⟩ (.slice a' n' c')) (w3.setCell ⟨X, o, none⟩ (.slice a3 n'' c3)) := by
  subst hN hN2 hxs
  exact ⟨a3, c3, heap_set_at _ hX, IRow.of_own (ownsRow_setCell_below hown lx _), below_set2 hB3 _ _⟩
theorem IRow.set1 {w : World} {a : Option Addr} {n c Y : Nat} {zs : List Int} {x : Array Value} {T : TypeId} (h : IRow w a n c zs) (hx : w.heap[Y]? = some (.cells x T (0, 0))) (hT : T ≠ 3) (o : Nat) (u : Value) : IRow (w.setCell ⟨Y, o, none⟩ u) a n c zs :=
  h.of_same fun x' hx' hn' => by
    obtain ⟨cur, f, hcc⟩ := h.block x' hx' hn'
    have hne : ¬ Y = x'.block := fun e1 => by
      rw [← e1, hx] at hcc
      simp only [Option.some.injEq, Obj.cells.injEq] at hcc
      exact hT hcc.2.1
    simp only [World.setCell, Array.getElem?_modify]
    rw [if_neg hne]
theorem IRow.set3 {w : World} {a : Option Addr} {n c Y : Nat} {zs : List Int} {x : Array Value} {T : TypeId} (h : IRow w a n c zs) (hx : w.heap[Y]? = some (.cells x T (0, 0))) (hT : T ≠ 3) (o o' o'' : Nat) (u u' u'' : Value) : IRow (((w.setCell ⟨Y, o, none⟩ u).setCell ⟨Y, o', none⟩ u').setCell ⟨Y, o'', none⟩ u'') a n c zs :=
  ((h.set1 hx hT o u).set1 (heap_set_at _ hx) hT o' u').set1 (heap_set_at _ (heap_set_at _ hx)) hT o'' u''
set_option maxHeartbeats 4000000 in
theorem rdel_yes (w : World) (room : Int) (a b : Option Addr) (n c m d : Nat) (A C : List Kv) (k v : Int) (h : IRow w a n c ((A ++ (k, v) :: C).map (·.1))) (h2 : IRow w b m d ((A ++ (k, v) :: C).map (·.2))) (hA : k ∉ A.map (·.1)) (hn : n ≤ 1000000) :
    Calls Try.prog 42 #[.agg #[.int .i64 room, .slice a n c, .slice b m d], .int .i64 k] w fun e w' => ∃ a' c' b' d', e = .returned (RL room a' (n - 1) c' b' (m - 1) d') ∧ IRow w' a' (n - 1) c' ((A ++ C).map (·.1)) ∧ IRow w' b' (m - 1) d' ((A ++ C).map (·.2)) ∧ Below w.heap.size w w' := by
  have hl := h.len
  have hl2 := h2.len
  simp only [List.length_map, List.length_append, List.length_cons] at hl hl2
  have hAn : A.length < n := by omega
  have hAm : A.length < m := by omega
  have hAI : (A.length : Int) < (m : Int) := by omega
  have hAJ : (A.length : Int) < (n : Int) := by omega
  have hA0 : (0 : Int) ≤ (A.length : Int) := by omega
  have hle := h.row.le
  have hle2 := h2.row.le
  have hmx := h.row.max
  have hmx2 := h2.row.max
  unfold maxLen at hmx hmx2
  simp only [List.map_append, List.map_cons] at h h2
  have HP := Lib.hid (show ∀ W, IRow W a n c (A.map (·.1) ++ k :: C.map (·.1)) → Calls Try.prog 69 #[.agg #[.int .i64 room, .slice a n c, .slice b m d], .int .i64 k] W fun e w' => e = .returned (.int .i64 A.length) ∧ Below W.heap.size W w' from fun W hW => by
    simpa using place_yes W room a b n c m d (A.map (·.1)) (C.map (·.1)) k hW hA)
  obtain ⟨b1, o1, rfl, -⟩ := h.row.at_ (by omega)
  obtain ⟨b2, o2, rfl, -⟩ := h2.row.at_ (by omega)
  have H := Lib.hid h
  have H2 := Lib.hid h2
  have HL := Lib.hid hl
  have HL2 := Lib.hid hl2
  clear h h2 hl hl2 hA
  go_enter Try.func42, Try.ntmps42
  go_wp2_with (go_at_call 69; (with_reducible refine (HP.out _ (H.out.below (((Below.refl _ _).alloc (Nat.le_refl _) _).alloc (by simp) _))).mono ?_); rintro e w' ⟨rfl, hb⟩; have hBB := (((Below.refl w.heap.size w).alloc (Nat.le_refl _) _).alloc (by simp) _).trans (hb.mono (by simp; omega)); have ⟨hc, hf⟩ := bcell hb; have hz := hb.size)
  have hbox : w'.heap[w.heap.size]? = some (.cells #[.int .i64 room, .slice (some ⟨b1, o1, none⟩) n c, .slice (some ⟨b2, o2, none⟩) m d] 53 (0, 0)) := (hb.block w.heap.size (by simp only [World.size_alloc]; omega)).trans (by simp only [heap_alloc_iff, World.size_alloc]; rw [if_neg (by omega), if_pos trivial])
  have hres : ∃ x, w'.heap[w.heap.size + 1]? = some (.cells x 53 (0, 0)) ∧ x.size = 3 := ⟨_, (hb.block (w.heap.size + 1) (by simp only [World.size_alloc]; omega)).trans (by simp only [heap_alloc_iff, World.size_alloc]; rw [if_pos trivial]), rfl⟩
  have HK := Lib.hid (H.out.below hBB)
  have HV := Lib.hid (H2.out.below hBB)
  have HBB := Lib.hid hBB
  have HBOX := Lib.hid hbox
  have HRES := Lib.hid hres
  have g1 : w'.cell? ⟨w.heap.size, 1, none⟩ = some (.slice (some ⟨b1, o1, none⟩) n c) := cell_at hbox rfl
  have f1 : w'.frozen? ⟨w.heap.size, 1, none⟩ = false := free_at hbox
  have gA : ∀ o, (w'.alloc o).cell? ⟨w.heap.size, 1, none⟩ = some (.slice (some ⟨b1, o1, none⟩) n c) := fun o => cell_at (((MapKept.heap_alloc w' o).2 _ (Array.getElem?_eq_some_iff.1 hbox).1).trans hbox) rfl
  have lx : w.heap.size < w'.heap.size := (Array.getElem?_eq_some_iff.1 hbox).1
  have nb2 : b1 < w'.heap.size := by
    obtain ⟨_, _, e1, hlt, _⟩ := HK.out.row.at_ (by omega)
    cases e1; exact hlt
  have nb1 : ¬ b1 = w.heap.size := by
    obtain ⟨_, _, e1, hlt, _⟩ := H.out.row.at_ (by omega)
    cases e1; omega
  have nc2 : b2 < w'.heap.size := by
    obtain ⟨_, _, e1, hlt, _⟩ := HV.out.row.at_ (by omega)
    cases e1; exact hlt
  have nc1 : ¬ b2 = w.heap.size := by
    obtain ⟨_, _, e1, hlt, _⟩ := H2.out.row.at_ (by omega)
    cases e1; omega
  clear hbox hres hBB hb hc hf hz HP H H2
  generalize hX : w.heap.size = X at *
  have HX := Lib.hid hX
  clear hX
  have s1 : IntKind.i64.wrap ((A.length : Int) + 1) = (A.length : Int) + 1 := IntWalk.i64_in _ (by omega)
  have s2 : (0 : Int) ≤ (A.length : Int) + 1 := by omega
  have s3 : ((A.length : Int) + 1).toNat = A.length + 1 := by omega
  have s4 : (A.length : Int) + 1 ≤ (n : Int) := by omega
  have s5 : A.length ≤ c := by omega
  have s6 : A.length + 1 ≤ n := by omega
  have s7 : A.length ≤ d := by omega
  have s8 : A.length + 1 ≤ m := by omega
  go_upto_region 4 with (fail)
  go_cut [] (fun wx => ∃ a' c', wx.heap[X]? = some (.cells (#[.int .i64 room, .slice (some ⟨b1, o1, none⟩) n c, .slice (some ⟨b2, o2, none⟩) m d].setIfInBounds 1 (.slice a' (n - 1) c')) 53 (0, 0)) ∧ IRow wx a' (n - 1) c' ((A ++ C).map (·.1)) ∧ Below w'.heap.size (w'.setCell ⟨X, 1, none⟩ (.slice a' (n - 1) c')) wx)
  case first =>
    by_cases hc1 : c = A.length + 1
    · have hn1 : n = A.length + 1 := by omega
      have hC : C = [] := List.eq_nil_of_length_eq_zero (by have := HL.out; have := HL2.out; omega)
      subst hc1 hn1 hC
      have s9 : (A.length : Int) ≤ ((A.length + 1 : Nat) : Int) := by omega
      have s10 : (A.length : Int) + 1 ≤ ((A.length + 1 : Nat) : Int) := by omega
      have s11 : (A.length : Int) ≤ (A.length : Int) + 1 := by omega
      go_region_law (first | (refine step_app rfl (.tmp 12) (.tmp 16) 30 rfl elem (.slice (some ⟨w'.heap.size, 0, none⟩) 0 0) 0 [] (by simp [Act.eval, Act.put]) (some ⟨b1, o1, none⟩) A.length (A.length + 1) _ (by simp [Act.eval, Act.put]) (World.ownsRow_made w' #[] 0 (Nat.le_refl _) (Nat.zero_le _) (by simp)).drew ((HK.out.below ((Below.refl _ _).alloc (Nat.le_refl _) _).drew).src_take A.length (by omega)) (by unfold maxLen; omega) (by omega) (by simp) ?_; intro v2 w2 hown2 hg2; have hK2 := (HK.out.below ((Below.refl _ _).alloc (Nat.le_refl _) (.cells #[] 3)).drew).grown (by omega) hg2 nb2; have HX2 := Lib.hid ((hg2.block X (by simp; omega) (by intro e9; simp [Value.ownBlock] at e9; omega)).trans (show ((w'.alloc (.cells #[] 3)).drew).heap[X]? = _ from ((MapKept.heap_alloc w' _).2 X lx).trans HBOX.out)); have k2 : w2.cell? ⟨X, 1, none⟩ = some (.slice (some ⟨b1, o1, none⟩) (A.length + 1) (A.length + 1)) := (cell_at HX2.out rfl)) | (refine step_app rfl (.tmp 17) (.tmp 22) 30 rfl elem _ _ _ (by simp [Act.eval, Act.put]) (some ⟨b1, o1, none⟩) 0 0 [] (by simp [Act.eval, Act.put]) hown2 ⟨rfl, by simp, by simp, by simp⟩ (by unfold maxLen; omega) (by omega) (by have := hg2.size; simp at this ⊢; omega) ?_; obtain ⟨a2, c2, rfl, hr2⟩ := Row.of_owns hown2; clear hr2; intro v3 w3 hown3 hg3; obtain ⟨a3, c3, rfl, hr3⟩ := Row.of_owns hown3; clear hr3; have HX3 := Lib.hid ((hg3.block X (Array.getElem?_eq_some_iff.1 HX2.out).1 (fun e9 => by (have h9 := own_lt hown2 X e9.symm; omega))).trans HX2.out); have k3 : w3.cell? ⟨X, 1, none⟩ = some (.slice (some ⟨b1, o1, none⟩) (A.length + 1) (A.length + 1)) := (cell_at HX3.out rfl); have j3 : w3.frozen? ⟨X, 1, none⟩ = false := free_at HX3.out; have hB2 := ((Below.refl w'.heap.size w').alloc (Nat.le_refl _) (.cells #[] 3)).drew.grown hg2 (by simp) (by intro k9 h9; cases h9; exact Nat.le_refl _); have hB3 := hB2.grown hg3 hB2.size (fun k9 h9 => own_lt hown2 k9 h9)))
      all_goals (go_wp2_with fail; go_meet)
      all_goals exact del_leaf (o := 1) lx hB3 HX3.out hown3 (by omega) (by omega) (by simp [List.drop_append, List.take_append])
    · go_region_law (first | (refine step_app rfl (.tmp 12) (.tmp 16) 30 rfl elem (.slice (some ⟨w'.heap.size, 0, none⟩) 0 0) 0 [] (by simp [Act.eval, Act.put]) (some ⟨b1, o1, none⟩) A.length c _ (by simp [Act.eval, Act.put]) (World.ownsRow_made w' #[] 0 (Nat.le_refl _) (Nat.zero_le _) (by simp)).drew ((HK.out.below ((Below.refl _ _).alloc (Nat.le_refl _) _).drew).src_take A.length (by omega)) (by unfold maxLen; omega) (by omega) (by simp) ?_; intro v2 w2 hown2 hg2; have hK2 := (HK.out.below ((Below.refl _ _).alloc (Nat.le_refl _) (.cells #[] 3)).drew).grown (by omega) hg2 nb2; have HX2 := Lib.hid ((hg2.block X (by simp; omega) (by intro e9; simp [Value.ownBlock] at e9; omega)).trans (show ((w'.alloc (.cells #[] 3)).drew).heap[X]? = _ from ((MapKept.heap_alloc w' _).2 X lx).trans HBOX.out)); have k2 : w2.cell? ⟨X, 1, none⟩ = some (.slice (some ⟨b1, o1, none⟩) n c) := (cell_at HX2.out rfl)) | (refine step_app rfl (.tmp 17) (.tmp 22) 30 rfl elem _ _ _ (by simp [Act.eval, Act.put]) (some ⟨b1, o1 + (A.length + 1), none⟩) (n - (A.length + 1)) (c - (A.length + 1)) _ (by simp [Act.eval, Act.put, hc1]) hown2 (hK2.src_drop (A.length + 1) (by omega)) (by unfold maxLen; omega) (by omega) (by have := hg2.size; simp at this ⊢; omega) ?_; obtain ⟨a2, c2, rfl, hr2⟩ := Row.of_owns hown2; clear hr2; intro v3 w3 hown3 hg3; obtain ⟨a3, c3, rfl, hr3⟩ := Row.of_owns hown3; clear hr3; have HX3 := Lib.hid ((hg3.block X (Array.getElem?_eq_some_iff.1 HX2.out).1 (fun e9 => by (have h9 := own_lt hown2 X e9.symm; omega))).trans HX2.out); have k3 : w3.cell? ⟨X, 1, none⟩ = some (.slice (some ⟨b1, o1, none⟩) n c) := (cell_at HX3.out rfl); have j3 : w3.frozen? ⟨X, 1, none⟩ = false := free_at HX3.out; have hB2 := ((Below.refl w'.heap.size w').alloc (Nat.le_refl _) (.cells #[] 3)).drew.grown hg2 (by simp) (by intro k9 h9; cases h9; exact Nat.le_refl _); have hB3 := hB2.grown hg3 hB2.size (fun k9 h9 => own_lt hown2 k9 h9)))
      all_goals (go_wp2_with fail; go_meet)
      all_goals exact del_leaf (o := 1) lx hB3 HX3.out hown3 (by omega) (by omega) (by simp [List.drop_append, List.take_append])
  case rest =>
    obtain ⟨a', c', hbx, hK', hB⟩ := hcut
    have lx5 : X < wc.heap.size := (Array.getElem?_eq_some_iff.1 hbx).1
    have HK5 := Lib.hid (IRow.below (w := w'.setCell ⟨X, 1, none⟩ (.slice a' (n - 1) c')) (HV.out.of_same fun x hx _ => by
      cases hx
      simp only [World.setCell, Array.getElem?_modify]
      rw [if_neg (fun e1 => nc1 e1.symm)]) (by simpa [World.setCell] using hB))
    have nb5 : b2 < wc.heap.size := Nat.lt_of_lt_of_le nc2 (by simpa [World.setCell] using hB.size)
    have HRES5 := Lib.hid (show ∃ x, wc.heap[X + 1]? = some (.cells x 53 (0, 0)) ∧ x.size = 3 by
      obtain ⟨x, hx, hx3⟩ := HRES.out
      refine ⟨x, (hB.block (X + 1) ?_).trans ?_, hx3⟩
      · exact (Array.getElem?_eq_some_iff.1 hx).1
      · simp only [World.setCell, Array.getElem?_modify]
        rw [if_neg (by omega), hx])
    have HBB5 := Lib.hid ((HBB.out.setCell (p := ⟨X, 1, none⟩) (Nat.le_refl _) (.slice a' (n - 1) c')).trans (hB.mono (Nat.le_of_lt lx)))
    have HBOX5 := Lib.hid (show wc.heap[X]? = some (.cells #[.int .i64 room, .slice a' (n - 1) c', .slice (some ⟨b2, o2, none⟩) m d] 53 (0, 0)) from hbx)
    have HIR := Lib.hid (show ∀ v, IRow (wc.setCell ⟨X, 2, none⟩ v) a' (n - 1) c' ((A ++ C).map (·.1)) from fun v => hK'.of_same fun x' hx' hn' => by
      obtain ⟨cur, f, hcc⟩ := hK'.block x' hx' hn'
      have hne : x'.block ≠ X := fun e1 => by
        rw [e1, hbx] at hcc
        simp at hcc
      simp only [World.setCell, Array.getElem?_modify]
      rw [if_neg (fun e1 => hne e1.symm)])
    have HC5 := Lib.hid hB
    have g51 : wc.cell? ⟨X, 2, none⟩ = some (.slice (some ⟨b2, o2, none⟩) m d) := cell_at HBOX5.out rfl
    have f51 : wc.frozen? ⟨X, 2, none⟩ = false := free_at HBOX5.out
    have g5A : ∀ o, (wc.alloc o).cell? ⟨X, 2, none⟩ = some (.slice (some ⟨b2, o2, none⟩) m d) := fun o => cell_at (((MapKept.heap_alloc wc o).2 _ lx5).trans HBOX5.out) rfl
    have hm6 : m ≤ 1000000 := by have := HL.out; have := HL2.out; omega
    have s54 : (A.length : Int) + 1 ≤ (m : Int) := by omega
    clear hbx hK' hB g1 f1 gA s4
    go_upto_region 5 with (fail)
    go_cut [] (fun wx => ∃ b' d', wx.heap[X]? = some (.cells (#[.int .i64 room, .slice a' (n - 1) c', .slice (some ⟨b2, o2, none⟩) m d].setIfInBounds 2 (.slice b' (m - 1) d')) 53 (0, 0)) ∧ IRow wx b' (m - 1) d' ((A ++ C).map (·.2)) ∧ Below wc.heap.size (wc.setCell ⟨X, 2, none⟩ (.slice b' (m - 1) d')) wx)
    case first =>
      by_cases hd1 : d = A.length + 1
      · have hm1 : m = A.length + 1 := by omega
        have hC : C = [] := List.eq_nil_of_length_eq_zero (by have := HL.out; have := HL2.out; omega)
        subst hd1 hm1 hC
        have s9 : (A.length : Int) ≤ ((A.length + 1 : Nat) : Int) := by omega
        have s10 : (A.length : Int) + 1 ≤ ((A.length + 1 : Nat) : Int) := by omega
        have s11 : (A.length : Int) ≤ (A.length : Int) + 1 := by omega
        go_region_law (first | (refine step_app rfl (.tmp 25) (.tmp 29) 30 rfl elem (.slice (some ⟨wc.heap.size, 0, none⟩) 0 0) 0 [] (by simp [Act.eval, Act.put]) (some ⟨b2, o2, none⟩) A.length (A.length + 1) _ (by simp [Act.eval, Act.put]) (World.ownsRow_made wc #[] 0 (Nat.le_refl _) (Nat.zero_le _) (by simp)).drew ((HK5.out.below ((Below.refl _ _).alloc (Nat.le_refl _) _).drew).src_take A.length (by omega)) (by unfold maxLen; omega) (by omega) (by simp) ?_; intro v2 w2 hown2 hg2; have hK2 := (HK5.out.below ((Below.refl _ _).alloc (Nat.le_refl _) (.cells #[] 3)).drew).grown (by omega) hg2 nb5; have HX2 := Lib.hid ((hg2.block X (by simp; omega) (by intro e9; simp [Value.ownBlock] at e9; omega)).trans (show ((wc.alloc (.cells #[] 3)).drew).heap[X]? = _ from ((MapKept.heap_alloc wc _).2 X lx5).trans HBOX5.out)); have k2 : w2.cell? ⟨X, 2, none⟩ = some (.slice (some ⟨b2, o2, none⟩) (A.length + 1) (A.length + 1)) := (cell_at HX2.out rfl)) | (refine step_app rfl (.tmp 30) (.tmp 35) 30 rfl elem _ _ _ (by simp [Act.eval, Act.put]) (some ⟨b2, o2, none⟩) 0 0 [] (by simp [Act.eval, Act.put]) hown2 ⟨rfl, by simp, by simp, by simp⟩ (by unfold maxLen; omega) (by omega) (by have := hg2.size; simp at this ⊢; omega) ?_; obtain ⟨a2, c2, rfl, hr2⟩ := Row.of_owns hown2; clear hr2; intro v3 w3 hown3 hg3; obtain ⟨a3, c3, rfl, hr3⟩ := Row.of_owns hown3; clear hr3; have HX3 := Lib.hid ((hg3.block X (Array.getElem?_eq_some_iff.1 HX2.out).1 (fun e9 => by (have h9 := own_lt hown2 X e9.symm; omega))).trans HX2.out); have k3 : w3.cell? ⟨X, 2, none⟩ = some (.slice (some ⟨b2, o2, none⟩) (A.length + 1) (A.length + 1)) := (cell_at HX3.out rfl); have j3 : w3.frozen? ⟨X, 2, none⟩ = false := free_at HX3.out; have hB2 := ((Below.refl wc.heap.size wc).alloc (Nat.le_refl _) (.cells #[] 3)).drew.grown hg2 (by simp) (by intro k9 h9; cases h9; exact Nat.le_refl _); have hB3 := hB2.grown hg3 hB2.size (fun k9 h9 => own_lt hown2 k9 h9)))
        all_goals (go_wp2_with fail; go_meet)
        all_goals exact del_leaf (o := 2) lx5 hB3 HX3.out hown3 (by omega) (by omega) (by simp [List.drop_append, List.take_append])
      · skip
        go_region_law (first | (refine step_app rfl (.tmp 25) (.tmp 29) 30 rfl elem (.slice (some ⟨wc.heap.size, 0, none⟩) 0 0) 0 [] (by simp [Act.eval, Act.put]) (some ⟨b2, o2, none⟩) A.length d _ (by simp [Act.eval, Act.put]) (World.ownsRow_made wc #[] 0 (Nat.le_refl _) (Nat.zero_le _) (by simp)).drew ((HK5.out.below ((Below.refl _ _).alloc (Nat.le_refl _) _).drew).src_take A.length (by omega)) (by unfold maxLen; omega) (by omega) (by simp) ?_; intro v2 w2 hown2 hg2; have hK2 := (HK5.out.below ((Below.refl _ _).alloc (Nat.le_refl _) (.cells #[] 3)).drew).grown (by omega) hg2 nb5; have HX2 := Lib.hid ((hg2.block X (by simp; omega) (by intro e9; simp [Value.ownBlock] at e9; omega)).trans (show ((wc.alloc (.cells #[] 3)).drew).heap[X]? = _ from ((MapKept.heap_alloc wc _).2 X lx5).trans HBOX5.out)); have k2 : w2.cell? ⟨X, 2, none⟩ = some (.slice (some ⟨b2, o2, none⟩) m d) := (cell_at HX2.out rfl)) | (refine step_app rfl (.tmp 30) (.tmp 35) 30 rfl elem _ _ _ (by simp [Act.eval, Act.put]) (some ⟨b2, o2 + (A.length + 1), none⟩) (m - (A.length + 1)) (d - (A.length + 1)) _ (by simp [Act.eval, Act.put, hd1]) hown2 (hK2.src_drop (A.length + 1) (by omega)) (by unfold maxLen; omega) (by omega) (by have := hg2.size; simp at this ⊢; omega) ?_; obtain ⟨a2, c2, rfl, hr2⟩ := Row.of_owns hown2; clear hr2; intro v3 w3 hown3 hg3; obtain ⟨a3, c3, rfl, hr3⟩ := Row.of_owns hown3; clear hr3; have HX3 := Lib.hid ((hg3.block X (Array.getElem?_eq_some_iff.1 HX2.out).1 (fun e9 => by (have h9 := own_lt hown2 X e9.symm; omega))).trans HX2.out); have k3 : w3.cell? ⟨X, 2, none⟩ = some (.slice (some ⟨b2, o2, none⟩) m d) := (cell_at HX3.out rfl); have j3 : w3.frozen? ⟨X, 2, none⟩ = false := free_at HX3.out; have hB2 := ((Below.refl wc.heap.size wc).alloc (Nat.le_refl _) (.cells #[] 3)).drew.grown hg2 (by simp) (by intro k9 h9; cases h9; exact Nat.le_refl _); have hB3 := hB2.grown hg3 hB2.size (fun k9 h9 => own_lt hown2 k9 h9)))
        all_goals (go_wp2_with fail; go_meet)
        all_goals exact del_leaf (o := 2) lx5 hB3 HX3.out hown3 (by omega) (by omega) (by simp [List.drop_append, List.take_append])
    case rest =>
      obtain ⟨b', d', hbx, hK', hB⟩ := hcut
      have lX := HRES5.out
      obtain ⟨x, hx, hx3⟩ := lX
      have lX1 := (Array.getElem?_eq_some_iff.1 hx).1
      have hx6 : wc.heap[X + 1]? = some (.cells x 53 (0, 0)) := by
        rw [hB.block (X + 1) lX1]
        simp only [World.setCell, Array.getElem?_modify]
        rw [if_neg (by omega), hx]
      obtain ⟨x0, x1, x2, rfl⟩ : ∃ x0 x1 x2, x = #[x0, x1, x2] := by
        rcases x with ⟨⟨⟩ | ⟨x0, ⟨⟩ | ⟨x1, ⟨⟩ | ⟨x2, ⟨⟩ | ⟨x3, x4⟩⟩⟩⟩⟩ <;> simp at hx3
        exact ⟨_, _, _, rfl⟩
      have HI6 := Lib.hid ((HIR.out (.slice b' (m - 1) d')).below (by simpa [World.setCell] using hB))
      have HJ6 := Lib.hid hK'
      have HB6 := Lib.hid ((HBB5.out.setCell (p := ⟨X, 2, none⟩) (Nat.le_refl _) (.slice b' (m - 1) d')).trans (hB.mono (Nat.le_of_lt lx5)))
      have c0 : wc.cell? ⟨X, 0, none⟩ = some (.int .i64 room) := cell_at hbx rfl
      have c1 : wc.cell? ⟨X, 1, none⟩ = some (.slice a' (n - 1) c') := cell_at hbx rfl
      have c2 : wc.cell? ⟨X, 2, none⟩ = some (.slice b' (m - 1) d') := cell_at hbx rfl
      have r0 : wc.cell? ⟨X + 1, 0, none⟩ = some x0 := cell_at hx6 rfl
      have r1 : wc.cell? ⟨X + 1, 1, none⟩ = some x1 := cell_at hx6 rfl
      have r2 : wc.cell? ⟨X + 1, 2, none⟩ = some x2 := cell_at hx6 rfl
      have q0 : wc.frozen? ⟨X + 1, 0, none⟩ = false := free_at hx6
      have q1 : wc.frozen? ⟨X + 1, 1, none⟩ = false := free_at hx6
      have q2 : wc.frozen? ⟨X + 1, 2, none⟩ = false := free_at hx6
      clear hB hx hx3 lX1 g51 f51 g5A s54 hbx hK'
      go_wp2_with fail
      have hX' := HX.out
      refine bodyPost_ret (v := .agg #[.int .i64 room, .slice a' (n - 1) c', .slice b' (m - 1) d']) (by simp [results, Try.results42, go_sem, r0, r1, r2]) rfl ⟨_, _, _, _, rfl, ?_, ?_, ?_⟩
      · exact HI6.out.set3 hx6 (by decide) _ _ _ _ _ _
      · exact HJ6.out.set3 hx6 (by decide) _ _ _ _ _ _
      · rw [hX']
        exact ((HB6.out.setCell (p := ⟨X + 1, 0, none⟩) (by simp) _).setCell (p := ⟨X + 1, 1, none⟩) (by simp) _).setCell (p := ⟨X + 1, 2, none⟩) (by simp) _
end Go.Proofs.Ytjlpafpedoancaa.Ring
