/- console.Loads. -/
import Derived.Test.YtpjdcooflheoeaaDoorIter47
import Derived.Test.YtpjdcooflheoeaaDoorLook47
import Derived.RegionTactic
namespace Go.Proofs.YtpjdcooflheoeaaDoor.Lex
open Go.RowKit Go.Shelf
set_option linter.unusedSimpArgs false
set_option linter.unusedVariables false
set_option maxHeartbeats 2000000 in
set_option maxRecDepth 100000 in
theorem bstr_oth (b C : Nat) (l : List UInt8) (w : World) (h : Bld w b C l) (h0 : l ≠ []) :
    Calls Tryd.prog 11 #[.pointer (some ⟨b, 0, none⟩)] w fun e w' => e = .returned (.string (bs l)) ∧ Below C w w' ∧ Lib.OthersKept 5 (some b) w w' := by
  obtain ⟨p, v, hbk, hown, hne⟩ : ∃ p, BAt b C p (Lib.byteCells l) w := by
    rcases h with h | h
    · exact ⟨_, h⟩
    · exact ⟨_, h⟩
  have hl0 : l.length ≠ 0 := by simpa using h0
  rw [Lib.byteCells_length] at hown
  obtain ⟨g, cap, cur, rfl, hbg, hg, hnc, hcm, hcs, htake⟩ : ∃ g cap cur, v = .slice (some ⟨g, 0, none⟩) l.length cap ∧ C ≤ g ∧ w.heap[g]? = some (.cells cur 5 (0, 0)) ∧ l.length ≤ cap ∧ cap ≤ maxLen ∧ cur.size = cap * 1 ∧ cur.toList.take (l.length * 1) = Lib.byteCells l := by
    rcases hown.2 with ⟨_, hz⟩ | ⟨g, cap, cur, hv, r⟩
    · exact absurd hz hl0
    · exact ⟨g, cap, cur, hv, r⟩
  have c1 : w.drew.cell? ⟨b, 1, none⟩ = some (.slice (some ⟨g, 0, none⟩) l.length cap) := by
    have : w.drew.heap[b]? = some (.cells #[p, .slice (some ⟨g, 0, none⟩) l.length cap] 34 (0, 0)) := hbk
    rw [Lib.cell_of_heap this]; rfl
  have hSD : (Builtin.unsafeSliceData_ #[30] 50 #[.slice (some ⟨g, 0, none⟩) l.length cap]).run Tryd.prog w.drew = .ok (.pointer (some ⟨g, 0, none⟩)) w.drew :=
    Lib.run_unsafeSliceData_row _ _ _ _ _ _ (by omega)
  have hUS : (Builtin.unsafeString_ #[50, 3] 9 #[.pointer (some ⟨g, 0, none⟩), .int .i64 l.length]).run Tryd.prog w.drew = .ok (.string ⟨l.toArray⟩) (w.drew.freeze ⟨g, 0, none⟩ l.length) := by
    refine Lib.run_unsafeString_row w.drew 50 3 9 5 Tryd.underlying50 (by kernel_rfl) g cur.size (by have hg' : w.drew.heap[g]? = some (.cells cur 5 (0, 0)) := hg; simp [World.shape?, hg']) l h0 (by omega) (by unfold maxLen at hcm; omega) ?_
    intro j x hx
    exact hown.cells (g := g) rfl j (.int .u8 x.toNat) (by simp [Lib.byteCells, hx])
  have HB : Hid (Below C w (w.drew.freeze ⟨g, 0, none⟩ l.length)) := Lib.hid (Lib.below_freeze (Below.drew (Below.refl C w)) (p := ⟨g, 0, none⟩) hbg _)
  have HO : Hid (Lib.OthersKept 5 (some b) w (w.drew.freeze ⟨g, 0, none⟩ l.length)) := Lib.hid ((Lib.OthersKept.refl 5 (some b) w).drew.freeze ⟨g, 0, none⟩ l.length ⟨cur, (0, 0), hg⟩)
  clear hbk hown hne hg hnc hcm hcs htake h h0 hbg hl0
  go_enter Tryd.func11, Tryd.ntmps11
  go_wp2
  go_region
  all_goals (go_wp2; go_ret; exact ⟨rfl, HB.out, HO.out⟩)
set_option maxRecDepth 100000 in
theorem kindsF_any (a : Option Addr) (n cap : Nat) (w : World) : Calls Tryd.prog 13 #[.slice a n cap] w fun e w' => e = .returned (.func (.func 21) #[] #[.pointer (some ⟨w.heap.size, 0, none⟩)]) ∧ w' = w.alloc (.cells #[.slice a n cap] 23) := by
  go_enter Tryd.func13, Tryd.ntmps13
  go_wp2_with fail
  go_ret
  exact ⟨rfl, rfl⟩
/-- Between two rounds: the page holds the lines of the kinds so far. -/
structure JK (w : World) (f : Nat → LoadV) (k : Nat) (W : World) : Prop where
  bld : Bld W w.heap.size (w.heap.size + 3) (textK f k)
  tell : W.heap[w.heap.size + 1]? = some (.cells #[.func (.func 9) #[.pointer (some ⟨w.heap.size, 0, none⟩)] #[]] 35 (0, 0))
  below : Below w.heap.size w W
  size : w.heap.size + 3 ≤ W.heap.size
  none : textK f k = [] → W.heap[w.heap.size]? = some (.cells #[.pointer none, .slice none 0 0] 34 (0, 0))
def KpK (W W' : World) : Prop := (∀ (b : Nat) (cs : Array Value), W.heap[b]? = some (Obj.cells cs 54 (0, 0)) → W'.heap[b]? = some (Obj.cells cs 54 (0, 0))) ∧ (HasNames W → HasNames W')
theorem Bld.cells {W W' : World} {b C : Nat} {l : List UInt8} (h : Bld W b C l) (hk : ∀ (k : Nat) (c : Array Value) (T : TypeId) (f : Nat × Nat), W.heap[k]? = some (.cells c T f) → W'.heap[k]? = some (.cells c T f)) : Bld W' b C l := by
  have one : ∀ {p}, BAt b C p (Lib.byteCells l) W → BAt b C p (Lib.byteCells l) W' := by
    rintro p ⟨v, h2, h3, h4⟩
    refine ⟨v, hk _ _ _ _ h2, ⟨h3.1, ?_⟩, h4⟩
    rcases h3.2 with hn | ⟨g, cap, cur, rfl, hbg, hg, rest⟩
    · exact .inl hn
    · exact .inr ⟨g, cap, cur, rfl, hbg, hk _ _ _ _ hg, rest⟩
  rcases h with h | h
  · exact .inl (one h)
  · exact .inr (one h)
theorem HasNames.cells {W W' : World} (h : HasNames W) (hk : ∀ (c : Array Value) (T : TypeId) (f : Nat × Nat), W.heap[0]? = some (.cells c T f) → W'.heap[0]? = some (.cells c T f)) : HasNames W' := by
  have hg : Tryd.prog.globalNamed "dulcimer/console.names" = some 0 := by kernel_rfl
  unfold HasNames World.var? at *
  rw [hg, Option.bind_some] at h ⊢
  split at h
  · next cs T f e =>
    rw [hk _ _ _ e]
    exact h
  · cases h
theorem put_cells {W : World} {l : Nat} {o o' : Obj} (hl : W.heap[l]? = some o) (ho : o.isCells = false) {k : Nat} {c : Array Value} {T : TypeId} {f : Nat × Nat} (h : W.heap[k]? = some (.cells c T f)) : (W.putObj l o').heap[k]? = some (.cells c T f) := by
  rw [World.putObj_heap_other fun e => ?_]
  · exact h
  · subst e
    rw [hl] at h
    cases h
    cases ho
theorem put_below {A W : World} {n l : Nat} {o' : Obj} (h : Below n A W) (hl : n ≤ l) (hn : n ≤ W.heap.size) : Below n A (W.putObj l o') := h.grown (grownBy_putObj' W l o') hn (fun k e => by cases e; exact hl)
attribute [local go_sem] Oper.semAt_some
set_option maxRecDepth 100000 in
set_option maxHeartbeats 8000000 in
theorem loads_any (l : List OpV) (a : Option Addr) (cap : Nat) (w : World) (hl : l.length ≤ 1048576) (ho : OpRow w a l) (ht : HasTab w) (hN : HasNames w) :
    Calls Tryd.prog 7 #[.slice a l.length cap] w fun e w' => e = .returned (.string (bs (textK (loadsV l) 8))) ∧ Below w.heap.size w w' := by
  refine (callsIn_wide (n := 5)).1 ?_
  refine callsIn_of_wp_marks Tryd.func7 rfl trivial ?_ rfl
  simp only [Tryd.ntmps7, List.size_toArray, List.length_cons, List.length_nil, Nat.reduceAdd, Nat.reduceSub, Array.replicate_succ, Array.replicate_zero, List.push_toArray, List.append_toArray, List.nil_append, List.cons_append]
  have HO := Lib.hid ho
  have HT := Lib.hid ht
  have HN := Lib.hid hN
  clear ho ht hN
  have gt : ((w.alloc (.cells #[.pointer none, .slice none 0 0] 34)).alloc (.cells #[Value.nilFunc] 35)).heap[w.heap.size + 1]? = some (.cells #[Value.nilFunc] 35 (0, 0)) := by
    have h2 := heap_alloc_new (w.alloc (.cells #[.pointer none, .slice none 0 0] 34)) (.cells #[Value.nilFunc] 35)
    rw [show (w.alloc (.cells #[.pointer none, .slice none 0 0] 34)).heap.size = w.heap.size + 1 by simp] at h2
    exact h2
  have tc : ((w.alloc (.cells #[.pointer none, .slice none 0 0] 34)).alloc (.cells #[Value.nilFunc] 35)).cell? ⟨w.heap.size + 1, 0, none⟩ = some Value.nilFunc := cell_at gt rfl
  have tf : ((w.alloc (.cells #[.pointer none, .slice none 0 0] 34)).alloc (.cells #[Value.nilFunc] 35)).frozen? ⟨w.heap.size + 1, 0, none⟩ = false := free_at gt
  have hrun : (store ⟨w.heap.size + 1, 0, none⟩ (.func (.func 9) #[.pointer (some ⟨w.heap.size, 0, none⟩)] #[])).run Tryd.prog ((w.alloc (.cells #[.pointer none, .slice none 0 0] 34)).alloc (.cells #[Value.nilFunc] 35)) = .ok () (((w.alloc (.cells #[.pointer none, .slice none 0 0] 34)).alloc (.cells #[Value.nilFunc] 35)).setCell ⟨w.heap.size + 1, 0, none⟩ (.func (.func 9) #[.pointer (some ⟨w.heap.size, 0, none⟩)] #[])) := by
    rw [run_store _ _ _ _ _ rfl, tc]
    simp only [tf]
    rfl
  have GT := Lib.hid gt
  clear gt
  gi_wp2
  refine ⟨trivial, ?_⟩
  refine (callsIn_wide.2 (kindsF_any a l.length cap _)).mono ?_
  rintro e w1 ⟨rfl, rfl⟩
  gi_wp2
  obtain ⟨W3, hW3⟩ : ∃ W3, W3 = (((w.alloc (.cells #[.pointer none, .slice none 0 0] 34)).alloc (.cells #[.func (.func 9) #[.pointer (some ⟨w.heap.size, 0, none⟩)] #[]] 35)).alloc (.cells #[.slice a l.length cap] 23)) := ⟨_, rfl⟩
  have hb3 : Below w.heap.size w W3 := by rw [hW3]; exact (((Below.refl _ _).alloc (Nat.le_refl _) _).alloc (by simp) _).alloc (by simp; omega) _
  have hz3 : W3.heap.size = w.heap.size + 3 := by rw [hW3]; simp
  have g0 : W3.heap[w.heap.size]? = some (.cells #[.pointer none, .slice none 0 0] 34 (0, 0)) := by
    rw [hW3, Lib.alloc_old _ _ _ (by simp; omega), Lib.alloc_old _ _ _ (by simp)]; exact heap_alloc_new w _
  have g1 : W3.heap[w.heap.size + 1]? = some (.cells #[.func (.func 9) #[.pointer (some ⟨w.heap.size, 0, none⟩)] #[]] 35 (0, 0)) := by
    rw [hW3, Lib.alloc_old _ _ _ (by simp)]
    have h2 := heap_alloc_new (w.alloc (.cells #[.pointer none, .slice none 0 0] 34)) (.cells #[.func (.func 9) #[.pointer (some ⟨w.heap.size, 0, none⟩)] #[]] 35)
    rw [show (w.alloc (.cells #[.pointer none, .slice none 0 0] 34)).heap.size = w.heap.size + 1 by simp] at h2
    exact h2
  have g2 : W3.heap[w.heap.size + 1 + 1]? = some (.cells #[.slice a l.length cap] 23 (0, 0)) := by
    rw [hW3]
    have h2 := heap_alloc_new ((w.alloc (.cells #[.pointer none, .slice none 0 0] 34)).alloc (.cells #[.func (.func 9) #[.pointer (some ⟨w.heap.size, 0, none⟩)] #[]] 35)) (.cells #[.slice a l.length cap] 23)
    rw [show ((w.alloc (.cells #[.pointer none, .slice none 0 0] 34)).alloc (.cells #[.func (.func 9) #[.pointer (some ⟨w.heap.size, 0, none⟩)] #[]] 35)).heap.size = w.heap.size + 1 + 1 by simp] at h2
    exact h2
  have hbl : Bld W3 w.heap.size (w.heap.size + 3) [] := .inl ⟨_, g0, World.ownsRow_nil _ _ _ _, by simp [Value.ownBlock]⟩
  have hnl := HN.out.lt
  rw [← hW3]
  clear hW3 tc tf hrun GT
  refine wp_rangeAll (α := Nat × Nat) rfl (by omega) (gf := 21) (lb := #[.pointer (some ⟨w.heap.size + 1 + 1, 0, none⟩)]) rfl trivial (enters_of Tryd.func21 (by kernel_rfl) rfl) encsK (fun x => rfl)
    (JK w (loadsV l)) (OkK (loadsV l)) KpK (fun k => k = 0 ∨ (loadsV l k).c = 0) 8 ?h0 ?hKt ?hKp ?hJs ?hJb ?hJp ?hOp ?hseq (fun x => { tmps := #[.slice a l.length cap, undef, .string ⟨#[]⟩, .pointer (some ⟨w.heap.size, 0, none⟩), .pointer (some ⟨w.heap.size + 1, 0, none⟩), .string (bs (nameK47 x.1)), .slice (some ⟨x.2, 0, none⟩) 4 4, .agg #[.pointer none, .slice none 0 0], .pointer (some ⟨w.heap.size, 0, none⟩), .pointer (some ⟨w.heap.size, 0, none⟩), .func (.func 9) #[.pointer (some ⟨w.heap.size, 0, none⟩)] #[], .slice a l.length cap, .func (.func 21) #[] #[.pointer (some ⟨w.heap.size + 1 + 1, 0, none⟩)], .string (bs (nameK47 x.1)), .slice (some ⟨x.2, 0, none⟩) 4 4, undef, undef, undef, undef, undef, undef, undef, undef], defers := [] }) ?assign ?body ?done
  case h0 => exact ⟨hbl, g1, hb3, by omega, fun _ => g0⟩
  case hKt => exact fun A B C h1 h2 => ⟨fun b cs h => h2.1 b cs (h1.1 b cs h), fun h => h2.2 (h1.2 h)⟩
  case hKp => exact fun W l o o' _ hl ho => ⟨fun b cs h => put_cells hl ho h, fun h => h.cells fun c T f e => put_cells hl ho e⟩
  case hJs =>
    intro k W hs hj
    have e : textK (loadsV l) (k + 1) = textK (loadsV l) k := by rw [textK_succ, lineK, if_pos hs, List.append_nil]
    exact ⟨by rw [e]; exact hj.bld, hj.tell, hj.below, hj.size, by rw [e]; exact hj.none⟩
  case hJb =>
    intro k W W' hj hb
    have hs := hj.size
    exact ⟨hj.bld.keep hb, (hb.block _ (by omega)).trans hj.tell, hj.below.trans (hb.mono (by omega)), Nat.le_trans hs hb.size, fun h => (hb.block _ (by omega)).trans (hj.none h)⟩
  case hJp =>
    intro k W lo o o' hj hl hlo hoc
    have hs := hj.size
    exact ⟨hj.bld.cells fun k c T f e => put_cells hlo hoc e, put_cells hlo hoc hj.tell, put_below hj.below (by omega) (by omega), by rw [World.putObj_size]; exact hs, fun h => put_cells hlo hoc (hj.none h)⟩
  case hOp =>
    intro k x W lo o o' hk hl hlo hoc
    exact ⟨hk.1, hk.2.1, hk.2.2.1, put_cells hlo hoc hk.2.2.2⟩
  case hseq =>
    intro L K W hb hKb hKs hY h0
    have hB := (hb.block _ (by omega)).trans g2
    have hbW := hb3.trans (hb.mono (by omega))
    exact kinds1_seq l a cap (w.heap.size + 1 + 1) L _ K KpK W hl hB (HO.out.keep hbW) (HN.out.below hbW) hKb hKs (fun i x W1 hi hK hok => hY i x W1 hi hK hok) h0 (fun W W' h => h.2) (fun W W' h => h.1)
  case assign =>
    intro lo x W K hK
    dsimp only [encsK]
    gi_wp2
    exact hK
  case body =>
    intro lo k x W hk hj hok
    obtain ⟨x1, ad⟩ := x
    obtain ⟨hx1, hk8, hns, hg8⟩ := hok
    dsimp only at hx1 hg8
    subst hx1
    have tc := cell_at (o := 0) hj.tell rfl
    have HJ := Lib.hid hj
    have HG8 := Lib.hid hg8
    have hsz := hj.size
    have hft := (loadsV_fits l.length l x1 rfl).1
    obtain ⟨csb, hblk⟩ : ∃ cs, W.heap[w.heap.size]? = some (Obj.cells cs 34 (0, 0)) := by
      rcases hj.bld with ⟨v, h, _⟩ | ⟨v, h, _⟩
      · exact ⟨_, h⟩
      · exact ⟨_, h⟩
    have keepT : ∀ (W' : World), But w.heap.size (w.heap.size + 3) W W' → ∀ (k : Nat) (c : Array Value) (T : TypeId), T ≠ 34 → T ≠ 5 → W.heap[k]? = some (Obj.cells c T (0, 0)) → W'.heap[k]? = some (Obj.cells c T (0, 0)) := fun W' hu k c T h1 h2 h =>
      hu.oth k _ h (fun e => by cases e; rw [hblk] at h; cases h; exact h1 rfl) (fun c' fz e => by cases e; exact h2 rfl)
    have hbe : ∀ W', But w.heap.size (w.heap.size + 3) W W' → Below w.heap.size w W' := fun W' hu => hj.below.trans (hu.below (Nat.le_refl _) (by omega))
    have hints : ∀ W', But w.heap.size (w.heap.size + 3) W W' → Ints W' (some ⟨ad, 0, none⟩) (numsK (loadsV l x1)) := fun W' hu i hi => by
      have g := keepT W' hu ad _ 3 (by decide) (by decide) hg8
      have hlt := (Array.getElem?_eq_some_iff.1 g).1
      have h1 := hft.c
      have h2 := hft.e
      have h3 := hft.n
      have h4 := hft.l0
      have h5 := hft.l1
      have hi4 : i < 4 := hi
      rcases (by omega : i = 0 ∨ i = 1 ∨ i = 2 ∨ i = 3) with rfl | rfl | rfl | rfl
      · exact ⟨ad, 0, rfl, hlt, cell_at g rfl, by show _ ≤ (((loadsV l x1).c : Nat) : Int); omega, by show (((loadsV l x1).c : Nat) : Int) ≤ _; omega⟩
      · exact ⟨ad, 0, rfl, hlt, cell_at g rfl, by show _ ≤ (((loadsV l x1).e : Nat) : Int); omega, by show (((loadsV l x1).e : Nat) : Int) ≤ _; omega⟩
      · exact ⟨ad, 0, rfl, hlt, cell_at g rfl, by show _ ≤ (((loadsV l x1).n : Nat) : Int); omega, by show (((loadsV l x1).n : Nat) : Int) ≤ _; omega⟩
      · exact ⟨ad, 0, rfl, hlt, cell_at g rfl, by show _ ≤ (loadsV l x1).l; omega, by show (loadsV l x1).l ≤ _; omega⟩
    have htl := textK_len (f := loadsV l) (B := l.length) (fun k => (loadsV_fits l.length l k rfl).1) (by omega) x1 (by omega)
    have hnl := nameK47_len hk8
    have HP := Lib.hid (pline_any w.heap.size (w.heap.size + 3) (textK (loadsV l) x1) (nameK47 x1) (numsK (loadsV l x1)) (some ⟨ad, 0, none⟩) 4 W hj.bld (by omega) (HT.out.below hj.below) (fun W' hu => HT.out.below (hbe W' hu)) hints (by simp [numsK]) (by omega) (by omega))
    have HKT := Lib.hid keepT
    have HBE := Lib.hid hbe
    have HBK := Lib.hid hblk
    clear hj hg8 keepT hbe hints hblk
    gi_wp2
    refine ⟨trivial, ?_⟩
    refine (CallsIn.inRound lo (callsIn_wide.2 HP.out)).mono ?_
    rintro e W' ⟨rfl, hbl', hu⟩
    have HBL' := Lib.hid hbl'
    have HU := Lib.hid hu
    clear hbl' hu
    gi_wp2
    have hu := HU.out
    have hne : lineK x1 (loadsV l x1) = glue (nameK47 x1 :: (numsK (loadsV l x1)).map Lib.itoa) ++ [10] := by rw [lineK, if_neg hns]
    refine ⟨⟨hu.size, fun k o hk ho => hu.oth k o hk (fun e => ?_) (fun c fz e => ?_)⟩, ⟨fun b cs h => HKT.out W' hu b cs _ (by decide) (by decide) h, fun h => h.cells fun c T f e => ?_⟩, ⟨?_, HKT.out W' hu _ _ _ (by decide) (by decide) HJ.out.tell, HBE.out W' hu, Nat.le_trans hsz hu.size, fun h => ?_⟩⟩
    · cases e
      rw [HBK.out] at hk
      cases hk
      cases ho
    · subst e
      cases ho
    · exact (hu.block 0 (by omega) (by omega)).trans e
    · rw [textK_succ, hne]
      exact HBL'.out
    · rw [textK_succ, hne] at h
      simp at h
  case done =>
    intro D W hD hj hdf
    have HJ := Lib.hid hj
    have HD := Lib.hid hdf
    have hsz := hj.size
    clear hj hdf
    gi_wp2
    refine ⟨trivial, ?_⟩
    by_cases hT : textK (loadsV l) 8 = []
    · refine (callsIn_wide.2 (bstr_new _ _ W (HJ.out.none hT))).mono ?_
      rintro e W' ⟨rfl, rfl⟩
      gi_wp2
      have hK0 : W.drew.heap[D]? = some (.deferred (some [])) := HD.out
      refine ⟨by simp, .inl ⟨_, _, rfl, run_takeDeferred hK0, ?_⟩⟩
      exact ⟨_, results_tmp rfl _ _ _, by rw [hT]; rfl, put_below (Below.drew HJ.out.below) (by omega) (by show w.heap.size ≤ W.heap.size; omega)⟩
    · refine (callsIn_wide.2 (bstr_oth _ _ _ W HJ.out.bld hT)).mono ?_
      rintro e W' ⟨rfl, hb', hoth⟩
      have HB' := Lib.hid hb'
      have HOT := Lib.hid hoth
      clear hb' hoth
      gi_wp2
      have hne : (some D : Option Nat) ≠ some w.heap.size := fun e => by cases e; omega
      have hK0 : W'.heap[D]? = some (.deferred (some [])) := HOT.out D _ HD.out hne (fun c fz e => by cases e)
      have hB0 : Below w.heap.size w W' := HJ.out.below.trans (HB'.out.mono (by omega))
      have hz0 : w.heap.size ≤ W'.heap.size := hB0.size
      refine ⟨by simp, .inl ⟨_, _, rfl, run_takeDeferred hK0, ?_⟩⟩
      exact ⟨_, results_tmp rfl _ _ _, rfl, put_below hB0 (by omega) hz0⟩
end Go.Proofs.YtpjdcooflheoeaaDoor.Lex
