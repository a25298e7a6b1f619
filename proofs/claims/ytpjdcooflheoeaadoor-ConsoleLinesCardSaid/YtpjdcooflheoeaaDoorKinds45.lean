/- load: by kinds. -/
import Derived.Test.YtpjdcooflheoeaaDoorSum45
import Derived.Test.YtpjdcooflheoeaaDoorHeldZ
import Derived.RegionTactic
import Derived.Deep.RegionHeldLaw
namespace Go.Proofs.YtpjdcooflheoeaaDoor.Lex
open Go.RowKit
set_option linter.unusedSimpArgs false
set_option linter.unusedVariables false
/-- A call's kind; 0: it has none. -/
def kdV (o : OpV) : Nat := if 1 ≤ o.ki ∧ o.ki ≤ 7 then o.ki.toNat else 0
theorem kdV_lt (o : OpV) : kdV o < 8 := by unfold kdV; split <;> omega
theorem oneV_fits (o : OpV) : (oneV o).Fits 1 := by
  unfold oneV
  have := lastV_in o.fr o.til
  split
  · exact ⟨by simp, by simp, by simp, by simp, by simp⟩
  · refine ⟨by simp, ?_, by simp, this.1, this.2⟩
    simp only
    split <;> omega
theorem oneV_c (o : OpV) : (oneV o).c = 1 := by unfold oneV; split <;> rfl
/-- The load of a kind. -/
def loadsV (l : List OpV) (k : Nat) : LoadV := l.foldl (fun s o => if kdV o = k then addV s (oneV o) else s) zeroV
theorem loadsV_snoc (l : List OpV) (o : OpV) (k : Nat) : loadsV (l ++ [o]) k = if kdV o = k then addV (loadsV l k) (oneV o) else loadsV l k := by
  simp only [loadsV, List.foldl_append, List.foldl_cons, List.foldl_nil]
theorem Fits_mono {x : LoadV} {A B : Nat} (h : x.Fits A) (hab : A ≤ B) : x.Fits B := ⟨by have := h.c; omega, by have := h.e; omega, by have := h.n; omega, h.l0, h.l1⟩
theorem loadsV_fits : ∀ (n : Nat) (l : List OpV) (k : Nat), l.length = n → (loadsV l k).Fits n ∧ (loadsV l k = zeroV ∨ 1 ≤ (loadsV l k).c)
  | 0, l, k, h => by
    obtain rfl : l = [] := List.eq_nil_of_length_eq_zero h
    exact ⟨⟨by simp [loadsV], by simp [loadsV], by simp [loadsV], by simp [loadsV], by simp [loadsV]⟩, .inl rfl⟩
  | n + 1, l, k, h => by
    have hne : l ≠ [] := fun e => by rw [e] at h; cases h
    have hd := List.dropLast_concat_getLast hne
    have hl : l.dropLast.length = n := by rw [List.length_dropLast]; omega
    obtain ⟨h1, h2⟩ := loadsV_fits n l.dropLast k hl
    rw [← hd, loadsV_snoc]
    split
    · exact ⟨addV_fits h1 (oneV_fits _), .inr (by show 1 ≤ (loadsV l.dropLast k).c + (oneV _).c; rw [oneV_c]; omega)⟩
    · exact ⟨Fits_mono h1 (by omega), h2⟩
/-- What a slice of calls shows. -/
def OpRow (w : World) (a : Option Addr) (l : List OpV) : Prop := ∀ i (h : i < l.length), ∃ g off, a = some ⟨g, off, none⟩ ∧ g < w.heap.size ∧ w.rangeAt g (off + i * 19) (l[i]'h).cells ∧ (l[i]'h).Ok
theorem range_keep {w w' : World} {g o : Nat} {cs : List Value} (h : w.rangeAt g o cs) (hg : g < w.heap.size) (hb : Below w.heap.size w w') : w'.rangeAt g o cs := fun j v hj => (hb.cell (p := ⟨g, o + j, none⟩) hg).trans (h j v hj)
theorem OpRow.keep {w w' : World} {a : Option Addr} {l : List OpV} (h : OpRow w a l) (hb : Below w.heap.size w w') : OpRow w' a l := fun i hi => by
  obtain ⟨g, off, h1, h2, h3, h4⟩ := h i hi
  exact ⟨g, off, h1, Nat.lt_of_lt_of_le h2 hb.size, range_keep h3 h2 hb, h4⟩
/-- Eight loads in a block. -/
def Tab8 (W : World) (B : Nat) (f : Nat → LoadV) : Prop := ∃ cs : Array Value, W.heap[B]? = some (.cells cs 55 (0, 0)) ∧ cs.size = 32 ∧ ∀ i, i < 8 →
  cs[i * 4]? = some (.int .i64 (f i).c) ∧ cs[i * 4 + 1]? = some (.int .i64 (f i).e) ∧ cs[i * 4 + 2]? = some (.int .i64 (f i).n) ∧ cs[i * 4 + 3]? = some (.int .i64 (f i).l)
theorem Tab8.keep {W W' : World} {B : Nat} {f : Nat → LoadV} (h : Tab8 W B f) (hb : Below W.heap.size W W') : Tab8 W' B f := by
  obtain ⟨cs, h1, h2, h3⟩ := h
  exact ⟨cs, (hb.block _ (Array.getElem?_eq_some_iff.1 h1).1).trans h1, h2, h3⟩
theorem Tab8.get {W : World} {B : Nat} {f : Nat → LoadV} (h : Tab8 W B f) {k : Nat} (hk : k < 8) :
    W.cell? ⟨B, k * 4, none⟩ = some (.int .i64 (f k).c) ∧ W.cell? ⟨B, k * 4 + 1, none⟩ = some (.int .i64 (f k).e) ∧ W.cell? ⟨B, k * 4 + 2, none⟩ = some (.int .i64 (f k).n) ∧ W.cell? ⟨B, k * 4 + 3, none⟩ = some (.int .i64 (f k).l) ∧ ∀ o, W.frozen? ⟨B, o, none⟩ = false := by
  obtain ⟨cs, h1, h2, h3⟩ := h
  obtain ⟨a, b, c, d⟩ := h3 k hk
  exact ⟨cell_at h1 a, cell_at h1 b, cell_at h1 c, cell_at h1 d, fun o => free_at h1⟩
theorem Tab8.set {W : World} {B : Nat} {f : Nat → LoadV} (h : Tab8 W B f) {k : Nat} (hk : k < 8) (x : LoadV) (g : Nat → LoadV) (hg : ∀ i, g i = if i = k then x else f i) :
    Tab8 ((((W.setCell ⟨B, k * 4, none⟩ (.int .i64 x.c)).setCell ⟨B, k * 4 + 1, none⟩ (.int .i64 x.e)).setCell ⟨B, k * 4 + 2, none⟩ (.int .i64 x.n)).setCell ⟨B, k * 4 + 3, none⟩ (.int .i64 x.l)) B g := by
  obtain ⟨cs, h1, h2, h3⟩ := h
  refine ⟨_, heap_set_at (o := k * 4 + 3) _ (heap_set_at (o := k * 4 + 2) _ (heap_set_at (o := k * 4 + 1) _ (heap_set_at (o := k * 4) _ h1))), by simpa using h2, fun i hi => ?_⟩
  obtain ⟨a, b, c, d⟩ := h3 i hi
  simp only [Array.getElem?_setIfInBounds, Array.size_setIfInBounds, h2]
  rw [hg i]
  by_cases e : i = k
  · subst e
    rw [if_pos rfl]
    refine ⟨?_, ?_, ?_, ?_⟩ <;> (repeat (first | rw [if_neg (by omega)] | (rw [if_pos (by omega)] <;> try rw [if_pos (by omega)])))
  · rw [if_neg e]
    refine ⟨?_, ?_, ?_, ?_⟩ <;> (repeat rw [if_neg (by omega)]) <;> assumption
theorem setCells_mid (b : Nat) (T : TypeId) (f : Nat × Nat) : ∀ (cs pre z : List Value) (W : World), W.heap[b]? = some (.cells (pre ++ z).toArray T f) → z.length = cs.length → (W.setCells b pre.length cs).heap[b]? = some (.cells (pre ++ cs).toArray T f)
  | [], pre, [], W, h, _ => h
  | v :: r, pre, u :: z, W, h, hl => by
    have h1 := heap_set_at (o := pre.length) v h
    have e : (pre ++ u :: z).toArray.setIfInBounds pre.length v = ((pre ++ [v]) ++ z).toArray := by simp
    rw [e] at h1
    have ih := setCells_mid b T f r (pre ++ [v]) z _ h1 (by simpa using hl)
    rw [List.length_append, List.length_singleton, List.append_assoc, List.singleton_append] at ih
    exact ih
theorem setCells_below {n b : Nat} {A : World} (hb : n ≤ b) : ∀ (cs : List Value) (o : Nat) (W : World), Below n A W → Below n A (W.setCells b o cs)
  | [], _, _, h => h
  | v :: r, o, W, h => setCells_below hb r (o + 1) _ (h.setCell (p := ⟨b, o, none⟩) hb v)
structure KSt (w : World) (l : List OpV) (wr : World) : Prop where
  r : ∃ cs, wr.heap[w.heap.size]? = some (.cells cs 55 (0, 0)) ∧ cs.size = 32
  o : Tab8 wr (w.heap.size + 1) (loadsV l)
  below : Below w.heap.size w wr
  size : w.heap.size + 2 ≤ wr.heap.size
set_option maxRecDepth 100000 in
set_option maxHeartbeats 8000000 in
theorem kinds_any (l : List OpV) (a : Option Addr) (cap : Nat) (w : World) (hl : l.length ≤ 1048576) (ho : OpRow w a l) :
    Calls Tryd.prog 22 #[.slice a l.length cap] w fun e w' => Below w.heap.size w w' ∧ ∃ cs : Array Value, e = .returned (.agg cs) ∧ cs.size = 32 ∧ ∀ i, i < 8 →
      cs[i * 4]? = some (.int .i64 (loadsV l i).c) ∧ cs[i * 4 + 1]? = some (.int .i64 (loadsV l i).e) ∧ cs[i * 4 + 2]? = some (.int .i64 (loadsV l i).n) ∧ cs[i * 4 + 3]? = some (.int .i64 (loadsV l i).l) := by
  have HO := Lib.hid ho
  clear ho
  go_enter Tryd.func22, Tryd.ntmps22
  go_wp2_with fail
  go_loopg [9] l.length (fun g iv wr => ∃ n : Nat, n ≤ l.length ∧ g = l.length - n ∧ iv = .int .i64 (n : Int) ∧ KSt w (l.take n) wr)
  case atStart =>
    refine ⟨0, by omega, rfl, rfl, ⟨_, (Lib.alloc_old _ _ _ (by simp)).trans (heap_alloc_new w _), rfl⟩, ⟨Array.replicate 32 (.int .i64 0), ?_, by simp, fun i hi => ?_⟩, ((Below.refl _ _).alloc (Nat.le_refl _) _).alloc (by simp) _, by simp⟩
    · have h2 := heap_alloc_new (w.alloc (.cells (Array.replicate 32 (.int .i64 0)) 55)) (.cells (Array.replicate 32 (.int .i64 0)) 55)
      rw [show (w.alloc (.cells (Array.replicate 32 (.int .i64 0)) 55)).heap.size = w.heap.size + 1 by simp] at h2
      exact h2
    · simp only [Array.getElem?_replicate]
      rw [if_pos (by omega), if_pos (by omega), if_pos (by omega), if_pos (by omega)]
      exact ⟨rfl, rfl, rfl, rfl⟩
  case round =>
    obtain ⟨n, hn, rfl, rfl, hst⟩ := hrel
    obtain ⟨wo, rfl⟩ : ∃ wo : World, wo = wr := ⟨_, rfl⟩
    have HST := Lib.hid hst
    have hzo := hst.size
    have hz0 : w.heap.size < wo.heap.size := by omega
    have hz1 : w.heap.size + 1 < wo.heap.size := by omega
    have hne : ¬ w.heap.size = w.heap.size + 1 := by omega
    by_cases hlt : n < l.length
    · obtain ⟨g, off, rfl, hg, hrg, hok⟩ := HO.out.keep hst.below n hlt
      have HTK := Lib.hid (List.take_succ_eq_append_getElem hlt)
      obtain ⟨hft, hz⟩ := loadsV_fits (l.take n).length (l.take n) (kdV (l[n]'hlt)) rfl
      have hft2 := Fits_mono hft (B := 1099511627776) (by rw [List.length_take]; omega)
      generalize l[n]'hlt = o at *
      have HSN : Hid (∀ i, loadsV (l.take (n + 1)) i = if i = kdV o then addV (loadsV (l.take n) (kdV o)) (oneV o) else loadsV (l.take n) i) := Lib.hid fun i => by
        rw [HTK.out, loadsV_snoc]
        by_cases e : kdV o = i
        · rw [if_pos e, if_pos e.symm, e]
        · rw [if_neg e, if_neg fun h => e h.symm]
      generalize hLV : loadsV (l.take n) (kdV o) = lv at *
      have HLV := Lib.hid hLV
      have HR := Lib.hid hrg
      have HOK := Lib.hid hok
      have HFT := Lib.hid hft2
      have HZZ := Lib.hid hz
      have one19 := hok.one
      have HONE := Lib.hid (fun W => one_any o W hok)
      have HSUM := Lib.hid (fun gb W hgb => sum_any lv (oneV o) gb W hgb hft2 (Fits_mono (oneV_fits o) (by omega)) hz (by rw [oneV_c]; omega))
      have HKT := Lib.hid (hst.o.get (kdV_lt o))
      generalize oneV o = ov at *
      by_cases hk : 1 ≤ o.ki ∧ o.ki ≤ 7
      · obtain ⟨hk1, hk7⟩ := hk
        have hkd : kdV o = o.ki.toNat := by unfold kdV; rw [if_pos ⟨hk1, hk7⟩]
        have hk8 : o.ki < 8 := by omega
        have hk0 : 0 ≤ o.ki := by omega
        have HKD := Lib.hid hkd
        clear hst hrg hok hft hft2 hz hLV hkd
        go_wp2_with (first
          | (refine wpList_load_mid rfl 72 _ rfl g (off + n * 19) rfl [o.x0, o.x1, .int .i64 o.ki, o.x3, o.x4, o.x5, o.x6, o.x7, o.x8, .int .i64 o.e, o.x10, o.x11, o.x12, o.x13, o.x14, o.x15, o.x16, .int .i64 o.fr, .int .i64 o.til] _ HR.out Tryd.underlying72 rfl (by kernel_rfl) ?_)
          | (refine wpList_store_new rfl 72 _ _ rfl wo.heap.size rfl [o.x0, o.x1, .int .i64 o.ki, o.x3, o.x4, o.x5, o.x6, o.x7, o.x8, .int .i64 o.e, o.x10, o.x11, o.x12, o.x13, o.x14, o.x15, o.x16, .int .i64 o.fr, .int .i64 o.til] rfl rfl rfl (by kernel_rfl) one19 ?_))
        obtain ⟨W6, hW6⟩ : ∃ W6, W6 = wo.alloc (.cells #[o.x0, o.x1, .int .i64 o.ki, o.x3, o.x4, o.x5, o.x6, o.x7, o.x8, .int .i64 o.e, o.x10, o.x11, o.x12, o.x13, o.x14, o.x15, o.x16, .int .i64 o.fr, .int .i64 o.til] 72) := ⟨_, rfl⟩
        have hb6 : Below wo.heap.size wo W6 := by rw [hW6]; exact (Below.refl _ _).alloc (Nat.le_refl _) _
        have g6 : W6.heap[wo.heap.size]? = some (.cells #[o.x0, o.x1, .int .i64 o.ki, o.x3, o.x4, o.x5, o.x6, o.x7, o.x8, .int .i64 o.e, o.x10, o.x11, o.x12, o.x13, o.x14, o.x15, o.x16, .int .i64 o.fr, .int .i64 o.til] 72 (0, 0)) := by rw [hW6]; exact heap_alloc_new wo _
        have hz6 : wo.heap.size < W6.heap.size := by rw [hW6]; simp
        have HR6 : Hid (∀ W, Below W6.heap.size W6 W → W.rangeAt wo.heap.size 0 [o.x0, o.x1, .int .i64 o.ki, o.x3, o.x4, o.x5, o.x6, o.x7, o.x8, .int .i64 o.e, o.x10, o.x11, o.x12, o.x13, o.x14, o.x15, o.x16, .int .i64 o.fr, .int .i64 o.til]) := Lib.hid fun W hb j v hj => by rw [Nat.zero_add]; exact cell_at ((hb.block _ hz6).trans g6) (by simpa using hj)
        have HT6 : Hid (∀ W, Below W6.heap.size W6 W → Tab8 W (w.heap.size + 1) (loadsV (l.take n))) := Lib.hid fun W hb => HST.out.o.keep (hb6.trans (hb.mono hb6.size))
        have hbz := Below.refl W6.heap.size W6
        have HTT : Hid (∀ W, Below W6.heap.size W6 W → ((W.cell? ⟨w.heap.size + 1, o.ki.toNat * 4, none⟩ = some (.int .i64 lv.c) ∧ W.cell? ⟨w.heap.size + 1, o.ki.toNat * 4 + 1, none⟩ = some (.int .i64 lv.e) ∧ W.cell? ⟨w.heap.size + 1, o.ki.toNat * 4 + 2, none⟩ = some (.int .i64 lv.n) ∧ W.cell? ⟨w.heap.size + 1, o.ki.toNat * 4 + 3, none⟩ = some (.int .i64 lv.l)) ∧ W.rangeAt wo.heap.size 0 [o.x0, o.x1, .int .i64 o.ki, o.x3, o.x4, o.x5, o.x6, o.x7, o.x8, .int .i64 o.e, o.x10, o.x11, o.x12, o.x13, o.x14, o.x15, o.x16, .int .i64 o.fr, .int .i64 o.til])) := Lib.hid fun W hb => by
          obtain ⟨z0, z1, z2, z3, zf⟩ := (HT6.out W hb).get (kdV_lt o)
          rw [HLV.out, HKD.out] at z0 z1 z2 z3
          exact ⟨⟨z0, z1, z2, z3⟩, HR6.out W hb⟩
        have HTT0 := Lib.hid (HTT.out W6.drew hbz.drew)
        rw [← hW6]
        clear hW6 g6
        refine wp_region_z (fun W => ((W.cell? ⟨w.heap.size + 1, o.ki.toNat * 4, none⟩ = some (.int .i64 lv.c) ∧ W.cell? ⟨w.heap.size + 1, o.ki.toNat * 4 + 1, none⟩ = some (.int .i64 lv.e) ∧ W.cell? ⟨w.heap.size + 1, o.ki.toNat * 4 + 2, none⟩ = some (.int .i64 lv.n) ∧ W.cell? ⟨w.heap.size + 1, o.ki.toNat * 4 + 3, none⟩ = some (.int .i64 lv.l)) ∧ W.rangeAt wo.heap.size 0 [o.x0, o.x1, .int .i64 o.ki, o.x3, o.x4, o.x5, o.x6, o.x7, o.x8, .int .i64 o.e, o.x10, o.x11, o.x12, o.x13, o.x14, o.x15, o.x16, .int .i64 o.fr, .int .i64 o.til])) 9 (by kernel_rfl) ?_
        change wpZ _ _ _ _ _ _ 10 #[false, false, false, false, false, false, false, false, false, false] _ _
        (refine wpZ_take (i := 0) (v := ?_) rfl (by kernel_rfl) (by kernel_rfl) (by kernel_rfl) (by kernel_rfl) (fun _ _ _ h => h) HTT0.out (Or.inl ⟨by rfl, ?_⟩) ?_; rotate_left 1; (focus (intro w0 hw0; (try dsimp only at hw0); obtain ⟨⟨s0, s1, s2, s3⟩, -⟩ := hw0; go_simp; try with_reducible rfl)); simp only [Act.put, List.getElem_toArray, List.getElem_cons_zero, List.getElem_cons_succ, List.setIfInBounds_toArray, List.set_cons_zero, List.set_cons_succ])
        (refine wpZ_take (i := 1) (v := ?_) rfl (by kernel_rfl) (by kernel_rfl) (by kernel_rfl) (by kernel_rfl) (fun _ _ _ h => h) HTT0.out (Or.inl ⟨by rfl, ?_⟩) ?_; rotate_left 1; (focus (intro w0 hw0; (try dsimp only at hw0); obtain ⟨⟨s0, s1, s2, s3⟩, -⟩ := hw0; go_simp; try with_reducible rfl)); simp only [Act.put, List.getElem_toArray, List.getElem_cons_zero, List.getElem_cons_succ, List.setIfInBounds_toArray, List.set_cons_zero, List.set_cons_succ])
        (refine wpZ_take (i := 2) (v := ?_) rfl (by kernel_rfl) (by kernel_rfl) (by kernel_rfl) (by kernel_rfl) (fun _ _ _ h => h) HTT0.out (Or.inl ⟨by rfl, ?_⟩) ?_; rotate_left 1; (focus (intro w0 hw0; (try dsimp only at hw0); obtain ⟨⟨s0, s1, s2, s3⟩, -⟩ := hw0; go_simp; try with_reducible rfl)); simp only [Act.put, List.getElem_toArray, List.getElem_cons_zero, List.getElem_cons_succ, List.setIfInBounds_toArray, List.set_cons_zero, List.set_cons_succ])
        (refine wpZ_take (i := 3) (v := ?_) rfl (by kernel_rfl) (by kernel_rfl) (by kernel_rfl) (by kernel_rfl) (fun _ _ _ h => h) HTT0.out (Or.inl ⟨by rfl, ?_⟩) ?_; rotate_left 1; (focus (intro w0 hw0; (try dsimp only at hw0); obtain ⟨⟨s0, s1, s2, s3⟩, -⟩ := hw0; go_simp; try with_reducible rfl)); simp only [Act.put, List.getElem_toArray, List.getElem_cons_zero, List.getElem_cons_succ, List.setIfInBounds_toArray, List.set_cons_zero, List.set_cons_succ])
        refine wpZ_take (i := 4) (v := .agg #[o.x0, o.x1, .int .i64 o.ki, o.x3, o.x4, o.x5, o.x6, o.x7, o.x8, .int .i64 o.e, o.x10, o.x11, o.x12, o.x13, o.x14, o.x15, o.x16, .int .i64 o.fr, .int .i64 o.til]) rfl (by kernel_rfl) (by kernel_rfl) (by kernel_rfl) (by kernel_rfl) (fun _ _ _ h => h) HTT0.out (yieldsIf_load_mid (by rfl) 72 _ rfl wo.heap.size 0 rfl [o.x0, o.x1, .int .i64 o.ki, o.x3, o.x4, o.x5, o.x6, o.x7, o.x8, .int .i64 o.e, o.x10, o.x11, o.x12, o.x13, o.x14, o.x15, o.x16, .int .i64 o.fr, .int .i64 o.til] _ (fun W h => h.2) Tryd.underlying72 rfl (by kernel_rfl)) ?_
        simp only [Act.put, List.getElem_toArray, List.getElem_cons_zero, List.getElem_cons_succ, List.setIfInBounds_toArray, List.set_cons_zero, List.set_cons_succ]
        refine wpZ_ready (rs := [5]) (by kernel_rfl) (by simp) ?_
        refine ReadyZ.cons rfl (fun K hK => ?_) ReadyZ.nil
        go_simp
        refine (HONE.out _).mono ?_
        rintro e w7 ⟨rfl, hb7⟩
        have hb7z : Below W6.heap.size W6 w7 := hbz.drew.trans (hb7.mono (Nat.le_refl _))
        have HTT7 := Lib.hid (HTT.out w7 hb7z)
        refine hK.out _ _ (.inr HTT7.out) ?_
        clear hK K hb7
        try simp only [Act.put, List.getElem_toArray, List.getElem_cons_zero, List.getElem_cons_succ, List.setIfInBounds_toArray, List.set_cons_zero, List.set_cons_succ]
        refine wpZ_ready (rs := [6]) (by kernel_rfl) (by simp) ?_
        refine ReadyZ.cons rfl (fun K hK => ?_) ReadyZ.nil
        go_simp
        obtain ⟨W8, hW8⟩ : ∃ W8, W8 = w7.alloc (.cells #[.int .i64 lv.c, .int .i64 lv.e, .int .i64 lv.n, .int .i64 lv.l, .int .i64 ov.c, .int .i64 ov.e, .int .i64 ov.n, .int .i64 ov.l] 54) := ⟨_, rfl⟩
        have hb8z : Below W6.heap.size W6 W8 := by rw [hW8]; exact hb7z.alloc hb7z.size _
        have HTT8 := Lib.hid (HTT.out W8 hb8z)
        have HS8 := Lib.hid (HSUM.out w7.heap.size W8 (by rw [hW8]; exact heap_alloc_new w7 _))
        rw [← hW8]
        refine hK.out _ _ (.inr HTT8.out) ?_
        clear hK K hW8
        try simp only [Act.put, List.getElem_toArray, List.getElem_cons_zero, List.getElem_cons_succ, List.setIfInBounds_toArray, List.set_cons_zero, List.set_cons_succ]
        refine wpZ_ready (rs := [7]) (by kernel_rfl) (by simp) ?_
        refine ReadyZ.cons rfl (fun K hK => ?_) ReadyZ.nil
        go_simp
        refine HS8.out.mono ?_
        rintro e w9 ⟨rfl, hb9⟩
        have hb9z : Below W6.heap.size W6 w9 := hb8z.trans (hb9.mono hb8z.size)
        have HTT9 := Lib.hid (HTT.out w9 hb9z)
        refine hK.out _ _ (.inr HTT9.out) ?_
        clear hK K hb9
        try simp only [Act.put, List.getElem_toArray, List.getElem_cons_zero, List.getElem_cons_succ, List.setIfInBounds_toArray, List.set_cons_zero, List.set_cons_succ]
        (refine wpZ_take (i := 8) (v := ?_) rfl (by kernel_rfl) (by kernel_rfl) (by kernel_rfl) (by kernel_rfl) (fun _ _ _ h => h) HTT9.out (Or.inl ⟨by rfl, ?_⟩) ?_; rotate_left 1; (focus (intro w0 hw0; (try dsimp only at hw0); obtain ⟨⟨s0, s1, s2, s3⟩, -⟩ := hw0; go_simp; try with_reducible rfl)); simp only [Act.put, List.getElem_toArray, List.getElem_cons_zero, List.getElem_cons_succ, List.setIfInBounds_toArray, List.set_cons_zero, List.set_cons_succ])
        refine wpZ_ready (rs := [9]) (by kernel_rfl) (by simp) ?_
        refine ReadyZ.cons rfl (fun K hK => ?_) ReadyZ.nil
        obtain ⟨⟨t0, t1, t2, t3⟩, -⟩ := HTT9.out
        have HT9 := Lib.hid (HT6.out w9 hb9z)
        have zf := (HT9.out.get (kdV_lt o)).2.2.2.2
        have f0 := zf (o.ki.toNat * 4)
        have f1 := zf (o.ki.toNat * 4 + 1)
        have f2 := zf (o.ki.toNat * 4 + 2)
        have f3 := zf (o.ki.toNat * 4 + 3)
        clear zf
        go_simp
        refine hK.out _ _ (.inl rfl) ?_
        clear hK K t0 t1 t2 t3 f0 f1 f2 f3
        try simp only [Act.put, List.getElem_toArray, List.getElem_cons_zero, List.getElem_cons_succ, List.setIfInBounds_toArray, List.set_cons_zero, List.set_cons_succ]
        refine wpZ_done (by kernel_rfl) ?_ _
        have HZ9 : Hid (Below wo.heap.size wo w9) := Lib.hid (hb6.trans (hb9z.mono hb6.size))
        go_wp2_with fail
        go_roundg (l.length - (n + 1))
        case measure => omega
        case rel =>
          refine ⟨n + 1, by omega, rfl, by go_num, ?_, ?_, ?_, ?_⟩
          · obtain ⟨cs, h1, h2⟩ := HST.out.r
            exact ⟨cs, by rw [Below.heap_setCell _ _ _ _ hne, Below.heap_setCell _ _ _ _ hne, Below.heap_setCell _ _ _ _ hne, Below.heap_setCell _ _ _ _ hne]; exact (HZ9.out.block _ hz0).trans h1, h2⟩
          · have h := HT9.out.set (kdV_lt o) (addV lv ov) _ HSN.out
            rw [HKD.out] at h
            exact h
          · have hB : Below w.heap.size w w9 := HST.out.below.trans (HZ9.out.mono (by omega))
            exact (((hB.setCell (by show w.heap.size ≤ w.heap.size + 1; omega) _).setCell (by show w.heap.size ≤ w.heap.size + 1; omega) _).setCell (by show w.heap.size ≤ w.heap.size + 1; omega) _).setCell (by show w.heap.size ≤ w.heap.size + 1; omega) _
          · have := HZ9.out.size
            simp
            omega
      · have hkd : kdV o = 0 := by unfold kdV; rw [if_neg hk]
        by_cases hk1 : o.ki < 1
        · have HKD := Lib.hid hkd
          clear hst hrg hok hft hft2 hz hLV hkd
          go_wp2_with (first
            | (refine wpList_load_mid rfl 72 _ rfl g (off + n * 19) rfl [o.x0, o.x1, .int .i64 o.ki, o.x3, o.x4, o.x5, o.x6, o.x7, o.x8, .int .i64 o.e, o.x10, o.x11, o.x12, o.x13, o.x14, o.x15, o.x16, .int .i64 o.fr, .int .i64 o.til] _ HR.out Tryd.underlying72 rfl (by kernel_rfl) ?_)
            | (refine wpList_store_new rfl 72 _ _ rfl wo.heap.size rfl [o.x0, o.x1, .int .i64 o.ki, o.x3, o.x4, o.x5, o.x6, o.x7, o.x8, .int .i64 o.e, o.x10, o.x11, o.x12, o.x13, o.x14, o.x15, o.x16, .int .i64 o.fr, .int .i64 o.til] rfl rfl rfl (by kernel_rfl) one19 ?_))
          obtain ⟨W6, hW6⟩ : ∃ W6, W6 = wo.alloc (.cells #[o.x0, o.x1, .int .i64 o.ki, o.x3, o.x4, o.x5, o.x6, o.x7, o.x8, .int .i64 o.e, o.x10, o.x11, o.x12, o.x13, o.x14, o.x15, o.x16, .int .i64 o.fr, .int .i64 o.til] 72) := ⟨_, rfl⟩
          have hb6 : Below wo.heap.size wo W6 := by rw [hW6]; exact (Below.refl _ _).alloc (Nat.le_refl _) _
          have g6 : W6.heap[wo.heap.size]? = some (.cells #[o.x0, o.x1, .int .i64 o.ki, o.x3, o.x4, o.x5, o.x6, o.x7, o.x8, .int .i64 o.e, o.x10, o.x11, o.x12, o.x13, o.x14, o.x15, o.x16, .int .i64 o.fr, .int .i64 o.til] 72 (0, 0)) := by rw [hW6]; exact heap_alloc_new wo _
          have hz6 : wo.heap.size < W6.heap.size := by rw [hW6]; simp
          have HR6 : Hid (∀ W, Below W6.heap.size W6 W → W.rangeAt wo.heap.size 0 [o.x0, o.x1, .int .i64 o.ki, o.x3, o.x4, o.x5, o.x6, o.x7, o.x8, .int .i64 o.e, o.x10, o.x11, o.x12, o.x13, o.x14, o.x15, o.x16, .int .i64 o.fr, .int .i64 o.til]) := Lib.hid fun W hb j v hj => by rw [Nat.zero_add]; exact cell_at ((hb.block _ hz6).trans g6) (by simpa using hj)
          have HT6 : Hid (∀ W, Below W6.heap.size W6 W → Tab8 W (w.heap.size + 1) (loadsV (l.take n))) := Lib.hid fun W hb => HST.out.o.keep (hb6.trans (hb.mono hb6.size))
          have hbz := Below.refl W6.heap.size W6
          have HTT : Hid (∀ W, Below W6.heap.size W6 W → ((W.cell? ⟨w.heap.size + 1, 0, none⟩ = some (.int .i64 lv.c) ∧ W.cell? ⟨w.heap.size + 1, 1, none⟩ = some (.int .i64 lv.e) ∧ W.cell? ⟨w.heap.size + 1, 2, none⟩ = some (.int .i64 lv.n) ∧ W.cell? ⟨w.heap.size + 1, 3, none⟩ = some (.int .i64 lv.l)) ∧ W.rangeAt wo.heap.size 0 [o.x0, o.x1, .int .i64 o.ki, o.x3, o.x4, o.x5, o.x6, o.x7, o.x8, .int .i64 o.e, o.x10, o.x11, o.x12, o.x13, o.x14, o.x15, o.x16, .int .i64 o.fr, .int .i64 o.til])) := Lib.hid fun W hb => by
            obtain ⟨z0, z1, z2, z3, zf⟩ := (HT6.out W hb).get (kdV_lt o)
            rw [HLV.out, HKD.out] at z0 z1 z2 z3
            simp only [Nat.zero_mul, Nat.zero_add] at z0 z1 z2 z3
            exact ⟨⟨z0, z1, z2, z3⟩, HR6.out W hb⟩
          have HTT0 := Lib.hid (HTT.out W6.drew hbz.drew)
          rw [← hW6]
          clear hW6 g6
          refine wp_region_z (fun W => ((W.cell? ⟨w.heap.size + 1, 0, none⟩ = some (.int .i64 lv.c) ∧ W.cell? ⟨w.heap.size + 1, 1, none⟩ = some (.int .i64 lv.e) ∧ W.cell? ⟨w.heap.size + 1, 2, none⟩ = some (.int .i64 lv.n) ∧ W.cell? ⟨w.heap.size + 1, 3, none⟩ = some (.int .i64 lv.l)) ∧ W.rangeAt wo.heap.size 0 [o.x0, o.x1, .int .i64 o.ki, o.x3, o.x4, o.x5, o.x6, o.x7, o.x8, .int .i64 o.e, o.x10, o.x11, o.x12, o.x13, o.x14, o.x15, o.x16, .int .i64 o.fr, .int .i64 o.til])) 9 (by kernel_rfl) ?_
          change wpZ _ _ _ _ _ _ 10 #[false, false, false, false, false, false, false, false, false, false] _ _
          (refine wpZ_take (i := 0) (v := ?_) rfl (by kernel_rfl) (by kernel_rfl) (by kernel_rfl) (by kernel_rfl) (fun _ _ _ h => h) HTT0.out (Or.inl ⟨by rfl, ?_⟩) ?_; rotate_left 1; (focus (intro w0 hw0; (try dsimp only at hw0); obtain ⟨⟨s0, s1, s2, s3⟩, -⟩ := hw0; go_simp; try with_reducible rfl)); simp only [Act.put, List.getElem_toArray, List.getElem_cons_zero, List.getElem_cons_succ, List.setIfInBounds_toArray, List.set_cons_zero, List.set_cons_succ])
          (refine wpZ_take (i := 1) (v := ?_) rfl (by kernel_rfl) (by kernel_rfl) (by kernel_rfl) (by kernel_rfl) (fun _ _ _ h => h) HTT0.out (Or.inl ⟨by rfl, ?_⟩) ?_; rotate_left 1; (focus (intro w0 hw0; (try dsimp only at hw0); obtain ⟨⟨s0, s1, s2, s3⟩, -⟩ := hw0; go_simp; try with_reducible rfl)); simp only [Act.put, List.getElem_toArray, List.getElem_cons_zero, List.getElem_cons_succ, List.setIfInBounds_toArray, List.set_cons_zero, List.set_cons_succ])
          (refine wpZ_take (i := 2) (v := ?_) rfl (by kernel_rfl) (by kernel_rfl) (by kernel_rfl) (by kernel_rfl) (fun _ _ _ h => h) HTT0.out (Or.inl ⟨by rfl, ?_⟩) ?_; rotate_left 1; (focus (intro w0 hw0; (try dsimp only at hw0); obtain ⟨⟨s0, s1, s2, s3⟩, -⟩ := hw0; go_simp; try with_reducible rfl)); simp only [Act.put, List.getElem_toArray, List.getElem_cons_zero, List.getElem_cons_succ, List.setIfInBounds_toArray, List.set_cons_zero, List.set_cons_succ])
          (refine wpZ_take (i := 3) (v := ?_) rfl (by kernel_rfl) (by kernel_rfl) (by kernel_rfl) (by kernel_rfl) (fun _ _ _ h => h) HTT0.out (Or.inl ⟨by rfl, ?_⟩) ?_; rotate_left 1; (focus (intro w0 hw0; (try dsimp only at hw0); obtain ⟨⟨s0, s1, s2, s3⟩, -⟩ := hw0; go_simp; try with_reducible rfl)); simp only [Act.put, List.getElem_toArray, List.getElem_cons_zero, List.getElem_cons_succ, List.setIfInBounds_toArray, List.set_cons_zero, List.set_cons_succ])
          refine wpZ_take (i := 4) (v := .agg #[o.x0, o.x1, .int .i64 o.ki, o.x3, o.x4, o.x5, o.x6, o.x7, o.x8, .int .i64 o.e, o.x10, o.x11, o.x12, o.x13, o.x14, o.x15, o.x16, .int .i64 o.fr, .int .i64 o.til]) rfl (by kernel_rfl) (by kernel_rfl) (by kernel_rfl) (by kernel_rfl) (fun _ _ _ h => h) HTT0.out (yieldsIf_load_mid (by rfl) 72 _ rfl wo.heap.size 0 rfl [o.x0, o.x1, .int .i64 o.ki, o.x3, o.x4, o.x5, o.x6, o.x7, o.x8, .int .i64 o.e, o.x10, o.x11, o.x12, o.x13, o.x14, o.x15, o.x16, .int .i64 o.fr, .int .i64 o.til] _ (fun W h => h.2) Tryd.underlying72 rfl (by kernel_rfl)) ?_
          simp only [Act.put, List.getElem_toArray, List.getElem_cons_zero, List.getElem_cons_succ, List.setIfInBounds_toArray, List.set_cons_zero, List.set_cons_succ]
          refine wpZ_ready (rs := [5]) (by kernel_rfl) (by simp) ?_
          refine ReadyZ.cons rfl (fun K hK => ?_) ReadyZ.nil
          go_simp
          refine (HONE.out _).mono ?_
          rintro e w7 ⟨rfl, hb7⟩
          have hb7z : Below W6.heap.size W6 w7 := hbz.drew.trans (hb7.mono (Nat.le_refl _))
          have HTT7 := Lib.hid (HTT.out w7 hb7z)
          refine hK.out _ _ (.inr HTT7.out) ?_
          clear hK K hb7
          try simp only [Act.put, List.getElem_toArray, List.getElem_cons_zero, List.getElem_cons_succ, List.setIfInBounds_toArray, List.set_cons_zero, List.set_cons_succ]
          refine wpZ_ready (rs := [6]) (by kernel_rfl) (by simp) ?_
          refine ReadyZ.cons rfl (fun K hK => ?_) ReadyZ.nil
          go_simp
          obtain ⟨W8, hW8⟩ : ∃ W8, W8 = w7.alloc (.cells #[.int .i64 lv.c, .int .i64 lv.e, .int .i64 lv.n, .int .i64 lv.l, .int .i64 ov.c, .int .i64 ov.e, .int .i64 ov.n, .int .i64 ov.l] 54) := ⟨_, rfl⟩
          have hb8z : Below W6.heap.size W6 W8 := by rw [hW8]; exact hb7z.alloc hb7z.size _
          have HTT8 := Lib.hid (HTT.out W8 hb8z)
          have HS8 := Lib.hid (HSUM.out w7.heap.size W8 (by rw [hW8]; exact heap_alloc_new w7 _))
          rw [← hW8]
          refine hK.out _ _ (.inr HTT8.out) ?_
          clear hK K hW8
          try simp only [Act.put, List.getElem_toArray, List.getElem_cons_zero, List.getElem_cons_succ, List.setIfInBounds_toArray, List.set_cons_zero, List.set_cons_succ]
          refine wpZ_ready (rs := [7]) (by kernel_rfl) (by simp) ?_
          refine ReadyZ.cons rfl (fun K hK => ?_) ReadyZ.nil
          go_simp
          refine HS8.out.mono ?_
          rintro e w9 ⟨rfl, hb9⟩
          have hb9z : Below W6.heap.size W6 w9 := hb8z.trans (hb9.mono hb8z.size)
          have HTT9 := Lib.hid (HTT.out w9 hb9z)
          refine hK.out _ _ (.inr HTT9.out) ?_
          clear hK K hb9
          try simp only [Act.put, List.getElem_toArray, List.getElem_cons_zero, List.getElem_cons_succ, List.setIfInBounds_toArray, List.set_cons_zero, List.set_cons_succ]
          (refine wpZ_take (i := 8) (v := ?_) rfl (by kernel_rfl) (by kernel_rfl) (by kernel_rfl) (by kernel_rfl) (fun _ _ _ h => h) HTT9.out (Or.inl ⟨by rfl, ?_⟩) ?_; rotate_left 1; (focus (intro w0 hw0; (try dsimp only at hw0); obtain ⟨⟨s0, s1, s2, s3⟩, -⟩ := hw0; go_simp; try with_reducible rfl)); simp only [Act.put, List.getElem_toArray, List.getElem_cons_zero, List.getElem_cons_succ, List.setIfInBounds_toArray, List.set_cons_zero, List.set_cons_succ])
          refine wpZ_ready (rs := [9]) (by kernel_rfl) (by simp) ?_
          refine ReadyZ.cons rfl (fun K hK => ?_) ReadyZ.nil
          obtain ⟨⟨t0, t1, t2, t3⟩, -⟩ := HTT9.out
          have HT9 := Lib.hid (HT6.out w9 hb9z)
          have zf := (HT9.out.get (kdV_lt o)).2.2.2.2
          have f0 := zf (0)
          have f1 := zf (1)
          have f2 := zf (2)
          have f3 := zf (3)
          clear zf
          go_simp
          refine hK.out _ _ (.inl rfl) ?_
          clear hK K t0 t1 t2 t3 f0 f1 f2 f3
          try simp only [Act.put, List.getElem_toArray, List.getElem_cons_zero, List.getElem_cons_succ, List.setIfInBounds_toArray, List.set_cons_zero, List.set_cons_succ]
          refine wpZ_done (by kernel_rfl) ?_ _
          have HZ9 : Hid (Below wo.heap.size wo w9) := Lib.hid (hb6.trans (hb9z.mono hb6.size))
          go_wp2_with fail
          go_roundg (l.length - (n + 1))
          case measure => omega
          case rel =>
            refine ⟨n + 1, by omega, rfl, by go_num, ?_, ?_, ?_, ?_⟩
            · obtain ⟨cs, h1, h2⟩ := HST.out.r
              exact ⟨cs, by rw [Below.heap_setCell _ _ _ _ hne, Below.heap_setCell _ _ _ _ hne, Below.heap_setCell _ _ _ _ hne, Below.heap_setCell _ _ _ _ hne]; exact (HZ9.out.block _ hz0).trans h1, h2⟩
            · have h := HT9.out.set (kdV_lt o) (addV lv ov) _ HSN.out
              rw [HKD.out] at h
              simp only [Nat.zero_mul, Nat.zero_add] at h
              exact h
            · have hB : Below w.heap.size w w9 := HST.out.below.trans (HZ9.out.mono (by omega))
              exact (((hB.setCell (by show w.heap.size ≤ w.heap.size + 1; omega) _).setCell (by show w.heap.size ≤ w.heap.size + 1; omega) _).setCell (by show w.heap.size ≤ w.heap.size + 1; omega) _).setCell (by show w.heap.size ≤ w.heap.size + 1; omega) _
            · have := HZ9.out.size
              simp
              omega
        · have hk7 : 7 < o.ki := by omega
          have HKD := Lib.hid hkd
          clear hst hrg hok hft hft2 hz hLV hkd
          go_wp2_with (first
            | (refine wpList_load_mid rfl 72 _ rfl g (off + n * 19) rfl [o.x0, o.x1, .int .i64 o.ki, o.x3, o.x4, o.x5, o.x6, o.x7, o.x8, .int .i64 o.e, o.x10, o.x11, o.x12, o.x13, o.x14, o.x15, o.x16, .int .i64 o.fr, .int .i64 o.til] _ HR.out Tryd.underlying72 rfl (by kernel_rfl) ?_)
            | (refine wpList_store_new rfl 72 _ _ rfl wo.heap.size rfl [o.x0, o.x1, .int .i64 o.ki, o.x3, o.x4, o.x5, o.x6, o.x7, o.x8, .int .i64 o.e, o.x10, o.x11, o.x12, o.x13, o.x14, o.x15, o.x16, .int .i64 o.fr, .int .i64 o.til] rfl rfl rfl (by kernel_rfl) one19 ?_))
          obtain ⟨W6, hW6⟩ : ∃ W6, W6 = wo.alloc (.cells #[o.x0, o.x1, .int .i64 o.ki, o.x3, o.x4, o.x5, o.x6, o.x7, o.x8, .int .i64 o.e, o.x10, o.x11, o.x12, o.x13, o.x14, o.x15, o.x16, .int .i64 o.fr, .int .i64 o.til] 72) := ⟨_, rfl⟩
          have hb6 : Below wo.heap.size wo W6 := by rw [hW6]; exact (Below.refl _ _).alloc (Nat.le_refl _) _
          have g6 : W6.heap[wo.heap.size]? = some (.cells #[o.x0, o.x1, .int .i64 o.ki, o.x3, o.x4, o.x5, o.x6, o.x7, o.x8, .int .i64 o.e, o.x10, o.x11, o.x12, o.x13, o.x14, o.x15, o.x16, .int .i64 o.fr, .int .i64 o.til] 72 (0, 0)) := by rw [hW6]; exact heap_alloc_new wo _
          have hz6 : wo.heap.size < W6.heap.size := by rw [hW6]; simp
          have HR6 : Hid (∀ W, Below W6.heap.size W6 W → W.rangeAt wo.heap.size 0 [o.x0, o.x1, .int .i64 o.ki, o.x3, o.x4, o.x5, o.x6, o.x7, o.x8, .int .i64 o.e, o.x10, o.x11, o.x12, o.x13, o.x14, o.x15, o.x16, .int .i64 o.fr, .int .i64 o.til]) := Lib.hid fun W hb j v hj => by rw [Nat.zero_add]; exact cell_at ((hb.block _ hz6).trans g6) (by simpa using hj)
          have HT6 : Hid (∀ W, Below W6.heap.size W6 W → Tab8 W (w.heap.size + 1) (loadsV (l.take n))) := Lib.hid fun W hb => HST.out.o.keep (hb6.trans (hb.mono hb6.size))
          have hbz := Below.refl W6.heap.size W6
          have HTT : Hid (∀ W, Below W6.heap.size W6 W → ((W.cell? ⟨w.heap.size + 1, 0, none⟩ = some (.int .i64 lv.c) ∧ W.cell? ⟨w.heap.size + 1, 1, none⟩ = some (.int .i64 lv.e) ∧ W.cell? ⟨w.heap.size + 1, 2, none⟩ = some (.int .i64 lv.n) ∧ W.cell? ⟨w.heap.size + 1, 3, none⟩ = some (.int .i64 lv.l)) ∧ W.rangeAt wo.heap.size 0 [o.x0, o.x1, .int .i64 o.ki, o.x3, o.x4, o.x5, o.x6, o.x7, o.x8, .int .i64 o.e, o.x10, o.x11, o.x12, o.x13, o.x14, o.x15, o.x16, .int .i64 o.fr, .int .i64 o.til])) := Lib.hid fun W hb => by
            obtain ⟨z0, z1, z2, z3, zf⟩ := (HT6.out W hb).get (kdV_lt o)
            rw [HLV.out, HKD.out] at z0 z1 z2 z3
            simp only [Nat.zero_mul, Nat.zero_add] at z0 z1 z2 z3
            exact ⟨⟨z0, z1, z2, z3⟩, HR6.out W hb⟩
          have HTT0 := Lib.hid (HTT.out W6.drew hbz.drew)
          rw [← hW6]
          clear hW6 g6
          refine wp_region_z (fun W => ((W.cell? ⟨w.heap.size + 1, 0, none⟩ = some (.int .i64 lv.c) ∧ W.cell? ⟨w.heap.size + 1, 1, none⟩ = some (.int .i64 lv.e) ∧ W.cell? ⟨w.heap.size + 1, 2, none⟩ = some (.int .i64 lv.n) ∧ W.cell? ⟨w.heap.size + 1, 3, none⟩ = some (.int .i64 lv.l)) ∧ W.rangeAt wo.heap.size 0 [o.x0, o.x1, .int .i64 o.ki, o.x3, o.x4, o.x5, o.x6, o.x7, o.x8, .int .i64 o.e, o.x10, o.x11, o.x12, o.x13, o.x14, o.x15, o.x16, .int .i64 o.fr, .int .i64 o.til])) 9 (by kernel_rfl) ?_
          change wpZ _ _ _ _ _ _ 10 #[false, false, false, false, false, false, false, false, false, false] _ _
          (refine wpZ_take (i := 0) (v := ?_) rfl (by kernel_rfl) (by kernel_rfl) (by kernel_rfl) (by kernel_rfl) (fun _ _ _ h => h) HTT0.out (Or.inl ⟨by rfl, ?_⟩) ?_; rotate_left 1; (focus (intro w0 hw0; (try dsimp only at hw0); obtain ⟨⟨s0, s1, s2, s3⟩, -⟩ := hw0; go_simp; try with_reducible rfl)); simp only [Act.put, List.getElem_toArray, List.getElem_cons_zero, List.getElem_cons_succ, List.setIfInBounds_toArray, List.set_cons_zero, List.set_cons_succ])
          (refine wpZ_take (i := 1) (v := ?_) rfl (by kernel_rfl) (by kernel_rfl) (by kernel_rfl) (by kernel_rfl) (fun _ _ _ h => h) HTT0.out (Or.inl ⟨by rfl, ?_⟩) ?_; rotate_left 1; (focus (intro w0 hw0; (try dsimp only at hw0); obtain ⟨⟨s0, s1, s2, s3⟩, -⟩ := hw0; go_simp; try with_reducible rfl)); simp only [Act.put, List.getElem_toArray, List.getElem_cons_zero, List.getElem_cons_succ, List.setIfInBounds_toArray, List.set_cons_zero, List.set_cons_succ])
          (refine wpZ_take (i := 2) (v := ?_) rfl (by kernel_rfl) (by kernel_rfl) (by kernel_rfl) (by kernel_rfl) (fun _ _ _ h => h) HTT0.out (Or.inl ⟨by rfl, ?_⟩) ?_; rotate_left 1; (focus (intro w0 hw0; (try dsimp only at hw0); obtain ⟨⟨s0, s1, s2, s3⟩, -⟩ := hw0; go_simp; try with_reducible rfl)); simp only [Act.put, List.getElem_toArray, List.getElem_cons_zero, List.getElem_cons_succ, List.setIfInBounds_toArray, List.set_cons_zero, List.set_cons_succ])
          (refine wpZ_take (i := 3) (v := ?_) rfl (by kernel_rfl) (by kernel_rfl) (by kernel_rfl) (by kernel_rfl) (fun _ _ _ h => h) HTT0.out (Or.inl ⟨by rfl, ?_⟩) ?_; rotate_left 1; (focus (intro w0 hw0; (try dsimp only at hw0); obtain ⟨⟨s0, s1, s2, s3⟩, -⟩ := hw0; go_simp; try with_reducible rfl)); simp only [Act.put, List.getElem_toArray, List.getElem_cons_zero, List.getElem_cons_succ, List.setIfInBounds_toArray, List.set_cons_zero, List.set_cons_succ])
          refine wpZ_take (i := 4) (v := .agg #[o.x0, o.x1, .int .i64 o.ki, o.x3, o.x4, o.x5, o.x6, o.x7, o.x8, .int .i64 o.e, o.x10, o.x11, o.x12, o.x13, o.x14, o.x15, o.x16, .int .i64 o.fr, .int .i64 o.til]) rfl (by kernel_rfl) (by kernel_rfl) (by kernel_rfl) (by kernel_rfl) (fun _ _ _ h => h) HTT0.out (yieldsIf_load_mid (by rfl) 72 _ rfl wo.heap.size 0 rfl [o.x0, o.x1, .int .i64 o.ki, o.x3, o.x4, o.x5, o.x6, o.x7, o.x8, .int .i64 o.e, o.x10, o.x11, o.x12, o.x13, o.x14, o.x15, o.x16, .int .i64 o.fr, .int .i64 o.til] _ (fun W h => h.2) Tryd.underlying72 rfl (by kernel_rfl)) ?_
          simp only [Act.put, List.getElem_toArray, List.getElem_cons_zero, List.getElem_cons_succ, List.setIfInBounds_toArray, List.set_cons_zero, List.set_cons_succ]
          refine wpZ_ready (rs := [5]) (by kernel_rfl) (by simp) ?_
          refine ReadyZ.cons rfl (fun K hK => ?_) ReadyZ.nil
          go_simp
          refine (HONE.out _).mono ?_
          rintro e w7 ⟨rfl, hb7⟩
          have hb7z : Below W6.heap.size W6 w7 := hbz.drew.trans (hb7.mono (Nat.le_refl _))
          have HTT7 := Lib.hid (HTT.out w7 hb7z)
          refine hK.out _ _ (.inr HTT7.out) ?_
          clear hK K hb7
          try simp only [Act.put, List.getElem_toArray, List.getElem_cons_zero, List.getElem_cons_succ, List.setIfInBounds_toArray, List.set_cons_zero, List.set_cons_succ]
          refine wpZ_ready (rs := [6]) (by kernel_rfl) (by simp) ?_
          refine ReadyZ.cons rfl (fun K hK => ?_) ReadyZ.nil
          go_simp
          obtain ⟨W8, hW8⟩ : ∃ W8, W8 = w7.alloc (.cells #[.int .i64 lv.c, .int .i64 lv.e, .int .i64 lv.n, .int .i64 lv.l, .int .i64 ov.c, .int .i64 ov.e, .int .i64 ov.n, .int .i64 ov.l] 54) := ⟨_, rfl⟩
          have hb8z : Below W6.heap.size W6 W8 := by rw [hW8]; exact hb7z.alloc hb7z.size _
          have HTT8 := Lib.hid (HTT.out W8 hb8z)
          have HS8 := Lib.hid (HSUM.out w7.heap.size W8 (by rw [hW8]; exact heap_alloc_new w7 _))
          rw [← hW8]
          refine hK.out _ _ (.inr HTT8.out) ?_
          clear hK K hW8
          try simp only [Act.put, List.getElem_toArray, List.getElem_cons_zero, List.getElem_cons_succ, List.setIfInBounds_toArray, List.set_cons_zero, List.set_cons_succ]
          refine wpZ_ready (rs := [7]) (by kernel_rfl) (by simp) ?_
          refine ReadyZ.cons rfl (fun K hK => ?_) ReadyZ.nil
          go_simp
          refine HS8.out.mono ?_
          rintro e w9 ⟨rfl, hb9⟩
          have hb9z : Below W6.heap.size W6 w9 := hb8z.trans (hb9.mono hb8z.size)
          have HTT9 := Lib.hid (HTT.out w9 hb9z)
          refine hK.out _ _ (.inr HTT9.out) ?_
          clear hK K hb9
          try simp only [Act.put, List.getElem_toArray, List.getElem_cons_zero, List.getElem_cons_succ, List.setIfInBounds_toArray, List.set_cons_zero, List.set_cons_succ]
          (refine wpZ_take (i := 8) (v := ?_) rfl (by kernel_rfl) (by kernel_rfl) (by kernel_rfl) (by kernel_rfl) (fun _ _ _ h => h) HTT9.out (Or.inl ⟨by rfl, ?_⟩) ?_; rotate_left 1; (focus (intro w0 hw0; (try dsimp only at hw0); obtain ⟨⟨s0, s1, s2, s3⟩, -⟩ := hw0; go_simp; try with_reducible rfl)); simp only [Act.put, List.getElem_toArray, List.getElem_cons_zero, List.getElem_cons_succ, List.setIfInBounds_toArray, List.set_cons_zero, List.set_cons_succ])
          refine wpZ_ready (rs := [9]) (by kernel_rfl) (by simp) ?_
          refine ReadyZ.cons rfl (fun K hK => ?_) ReadyZ.nil
          obtain ⟨⟨t0, t1, t2, t3⟩, -⟩ := HTT9.out
          have HT9 := Lib.hid (HT6.out w9 hb9z)
          have zf := (HT9.out.get (kdV_lt o)).2.2.2.2
          have f0 := zf (0)
          have f1 := zf (1)
          have f2 := zf (2)
          have f3 := zf (3)
          clear zf
          go_simp
          refine hK.out _ _ (.inl rfl) ?_
          clear hK K t0 t1 t2 t3 f0 f1 f2 f3
          try simp only [Act.put, List.getElem_toArray, List.getElem_cons_zero, List.getElem_cons_succ, List.setIfInBounds_toArray, List.set_cons_zero, List.set_cons_succ]
          refine wpZ_done (by kernel_rfl) ?_ _
          have HZ9 : Hid (Below wo.heap.size wo w9) := Lib.hid (hb6.trans (hb9z.mono hb6.size))
          go_wp2_with fail
          go_roundg (l.length - (n + 1))
          case measure => omega
          case rel =>
            refine ⟨n + 1, by omega, rfl, by go_num, ?_, ?_, ?_, ?_⟩
            · obtain ⟨cs, h1, h2⟩ := HST.out.r
              exact ⟨cs, by rw [Below.heap_setCell _ _ _ _ hne, Below.heap_setCell _ _ _ _ hne, Below.heap_setCell _ _ _ _ hne, Below.heap_setCell _ _ _ _ hne]; exact (HZ9.out.block _ hz0).trans h1, h2⟩
            · have h := HT9.out.set (kdV_lt o) (addV lv ov) _ HSN.out
              rw [HKD.out] at h
              simp only [Nat.zero_mul, Nat.zero_add] at h
              exact h
            · have hB : Below w.heap.size w w9 := HST.out.below.trans (HZ9.out.mono (by omega))
              exact (((hB.setCell (by show w.heap.size ≤ w.heap.size + 1; omega) _).setCell (by show w.heap.size ≤ w.heap.size + 1; omega) _).setCell (by show w.heap.size ≤ w.heap.size + 1; omega) _).setCell (by show w.heap.size ≤ w.heap.size + 1; omega) _
            · have := HZ9.out.size
              simp
              omega
    · obtain rfl : n = l.length := by omega
      obtain ⟨cs0, h1, h2⟩ := hst.r
      obtain ⟨cs, h3, h4, h5⟩ := hst.o
      have HC := Lib.hid h5
      have HRR := Lib.hid h1
      have HOO := Lib.hid h3
      have HBW := Lib.hid hst.below
      clear hst h1 h3 h5
      have hth : wo.there w.heap.size 0 cs.size := fun j hj => by
        rw [Nat.zero_add]
        have : (cs0[j]?).isSome = true := by rw [Array.getElem?_eq_getElem (by omega)]; rfl
        obtain ⟨u, hu⟩ := Option.isSome_iff_exists.1 this
        exact ⟨by rw [cell_at (o := j) HRR.out hu]; rfl, free_at (o := j) HRR.out⟩
      have HTH := Lib.hid hth
      have hsz : (Tryd.prog.info? 55).map (·.size) = some cs.size := by rw [h4]; kernel_rfl
      have HSZ := Lib.hid hsz
      have hone : cs.all (·.oneCell') = true := by
        refine Array.all_eq_true.2 fun j hj => ?_
        have hq := HC.out (j / 4) (by omega)
        rcases (by omega : j = j / 4 * 4 ∨ j = j / 4 * 4 + 1 ∨ j = j / 4 * 4 + 2 ∨ j = j / 4 * 4 + 3) with e | e | e | e
        · have := hq.1; rw [← e, Array.getElem?_eq_getElem hj] at this; rw [Option.some.inj this]; rfl
        · have := hq.2.1; rw [← e, Array.getElem?_eq_getElem hj] at this; rw [Option.some.inj this]; rfl
        · have := hq.2.2.1; rw [← e, Array.getElem?_eq_getElem hj] at this; rw [Option.some.inj this]; rfl
        · have := hq.2.2.2; rw [← e, Array.getElem?_eq_getElem hj] at this; rw [Option.some.inj this]; rfl
      have HON := Lib.hid hone
      clear hth hsz hone
      go_wp2_with (first
        | (refine wpList_load_row rfl 55 _ rfl (w.heap.size + 1) rfl _ cs _ _ HOO.out Tryd.underlying55 rfl HSZ.out ?_)
        | (refine wpList_store_mid rfl 55 _ _ rfl w.heap.size 0 cs rfl rfl HTH.out HSZ.out HON.out ?_))
      have hfin : (wo.setCells w.heap.size 0 cs.toList).heap[w.heap.size]? = some (.cells cs 55 (0, 0)) := by
        have := setCells_mid w.heap.size 55 (0, 0) cs.toList [] cs0.toList wo (by simpa using HRR.out) (by simp; omega)
        simpa using this
      refine bodyPost_ret (results_cell_row rfl _ _ w.heap.size 55 cs (0, 0) _ rfl hfin Tryd.underlying55 rfl HSZ.out) rfl ⟨setCells_below (Nat.le_refl _) _ _ _ HBW.out, cs, rfl, h4, ?_⟩
      have := HC.out
      rw [List.take_length] at this
      exact this
end Go.Proofs.YtpjdcooflheoeaaDoor.Lex
