/- The reference's sort of entries. -/
import Derived.Test.YtephllgddhncgaaGreatDoorGRow
import Derived.Test.YtephllgddhncgaaGreatDoorGSrt
import Derived.Test.YtephllgddhncgaaGreatDoorRef24
import Derived.Test.YtephllgddhncgaaGreatDoorHeldZ
import Derived.Deep.DeepCutAuto
import Derived.Deep.CutBlock
namespace Go.Proofs.YtephllgddhncgaaGreatDoor.Stab
open Go Go.RowKit
set_option linter.unusedSimpArgs false
set_option linter.unusedVariables false
/-- A row of entries, its cells as entries' cells. -/
structure Row24 (k : Nat) (F : Foot) (w : World) (a : Option Addr) (l : List EntryV) (L : List EC) : Prop where
  len : L.length = l.length
  at_ : ∀ (i : Nat) e, L[i]? = some e → ∃ b o x, a = some ⟨b, o, none⟩ ∧ b < w.heap.size ∧ l[i]? = some x ∧ EntOf k F w e x ∧ ∀ j v, e.cells[j]? = some v → w.cell? ⟨b, o + i * 5 + j, none⟩ = some v
theorem row24 {k : Nat} {F : Foot} {w : World} {a : Option Addr} {n cap : Nat} {l : List EntryV} (h : RowOf (entryRd k) 5 56 F w a n cap l) : ∃ L, Row24 k F w a l L := by
  obtain ⟨L, h1, h2⟩ := list_choose (Q := fun i e => ∃ b o x, a = some ⟨b, o, none⟩ ∧ b < w.heap.size ∧ l[i]? = some x ∧ EntOf k F w e x ∧ ∀ j v, e.cells[j]? = some v → w.cell? ⟨b, o + i * 5 + j, none⟩ = some v) l.length fun i hi => by
    obtain ⟨b, o, cs, e1, e2, hf, h3, h4, h5⟩ := h.at_ i _ (List.getElem?_eq_getElem hi)
    obtain ⟨c1, c2, rfl, ⟨c3, c4, rfl, ⟨rfl, w1⟩, rfl, w2⟩, hd⟩ := h5
    obtain ⟨da, dm, dc, rfl, _⟩ := descRd_cells' hd
    exact ⟨⟨_, _, _, _, da, dm, dc⟩, b, o, _, e1, e2, List.getElem?_eq_getElem hi, ⟨rfl, rfl, w1, w2, hd⟩, h4⟩
  exact ⟨L, h1, h2⟩
theorem Row24.get {k : Nat} {F : Foot} {w : World} {a : Option Addr} {l : List EntryV} {L : List EC} (h : Row24 k F w a l L) {i : Nat} {e : EC} (hi : L[i]? = some e) : ∃ b o, a = some ⟨b, o, none⟩ ∧ b < w.heap.size ∧
    w.cell? ⟨b, o + i * 5, none⟩ = some (.int .i64 e.kn) ∧ w.cell? ⟨b, o + i * 5 + 1, none⟩ = some (.int .i64 e.kd) ∧ w.cell? ⟨b, o + i * 5 + 2, none⟩ = some (.int .i64 e.dk) ∧ w.cell? ⟨b, o + i * 5 + 3, none⟩ = some (.int .i64 e.dn) ∧ w.cell? ⟨b, o + i * 5 + 4, none⟩ = some (.slice e.da e.dm e.dc) := by
  obtain ⟨b, o, x, h1, h2, _, _, h5⟩ := h.at_ i e hi
  exact ⟨b, o, h1, h2, h5 0 _ rfl, h5 1 _ rfl, h5 2 _ rfl, h5 3 _ rfl, h5 4 _ rfl⟩
theorem Row24.sorted {k : Nat} {F : Foot} {w : World} {a : Option Addr} {l : List EntryV} {L L' : List EC} (h : Row24 k F w a l L) (hs : Srt (fun x y => decide (cfE x y < 0)) L') (sm : Same (fun x y => decide (cfE x y < 0)) L L') :
    L'.length = (sortE l).length ∧ ∀ (i : Nat) x, (sortE l)[i]? = some x → ∃ e, L'[i]? = some e ∧ EntOf k F w e x := by
  obtain ⟨g1, g2⟩ := isort_spec (ord_by ltK_ord fun x : EntryV => x.1) l
  have hz1 : (L.zip l).map Prod.fst = L := List.map_fst_zip (by rw [h.len]; omega)
  have hz2 : (L.zip l).map Prod.snd = l := List.map_snd_zip (by rw [h.len]; omega)
  have hmem : ∀ z ∈ L.zip l, EntOf k F w z.1 z.2 := fun z hz => by
    obtain ⟨i, hi⟩ := List.getElem?_of_mem hz
    rw [List.getElem?_zip_eq_some] at hi
    obtain ⟨_, _, x, _, _, h1, h2, _⟩ := h.at_ i _ hi.1
    rw [hi.2] at h1
    cases h1
    exact h2
  obtain ⟨Z, e1, e2, e3⟩ := pair_sort (k := ltK) ltK_ord (ka := fun x : EC => (x.kn, x.kd)) (kb := fun x : EntryV => x.1) (Z := L.zip l) (fun z hz => by rw [(hmem z hz).kn, (hmem z hz).kd]) hs (by rw [hz1]; exact sm) g1 (by rw [hz2]; exact g2)
  refine ⟨by rw [← e1]; show _ = (isort _ l).length; rw [← e2, List.length_map, List.length_map], fun i x hx => ?_⟩
  have hx' : (Z.map Prod.snd)[i]? = some x := by rw [e2]; exact hx
  rw [List.getElem?_map, Option.map_eq_some_iff] at hx'
  obtain ⟨z, hz, rfl⟩ := hx'
  exact ⟨z.1, by rw [← e1, List.getElem?_map, hz]; rfl, hmem z (e3 z (List.mem_of_getElem? hz))⟩
/-- The first part and the rest of a row of one's own, as what is appended. -/
theorem own_parts {w : World} {B : Nat} {e : TypeId} {size : Nat} {v : Value} {m : Nat} {xs : List Value} (h : w.ownsRow B e size v m xs) (h1 : ∀ u ∈ xs, u.oneCell' = true) {k : Nat} (hk : k ≤ m) :
    ∃ a cap, v = .slice a m cap ∧ m ≤ cap ∧ Src w a k cap size (xs.take (k * size)) ∧ Src w (if cap = k then a else a.map (·.add (k * size))) (m - k) (cap - k) size (xs.drop (k * size)) := by
  have hsp : k * size ≤ m * size := Nat.mul_le_mul_right _ hk
  have hsub : m * size - k * size = (m - k) * size := (Nat.sub_mul _ _ _).symm
  rcases h.2 with ⟨rfl, rfl⟩ | ⟨g, cap, cur, rfl, hb, hg, hle, hmx, hs, ht⟩
  · obtain rfl : k = 0 := by omega
    have hx : xs = [] := List.eq_nil_of_length_eq_zero (by rw [h.1]; simp)
    subst hx
    exact ⟨none, 0, rfl, Nat.le_refl _, ⟨by simp, fun _ => ⟨rfl, rfl⟩, fun x hx => by simp at hx, by simp⟩, ⟨by simp, fun _ => ⟨rfl, rfl⟩, fun x hx => by simp at hx, by simp⟩⟩
  · have hcell := fun j u hu => h.cells (g := g) rfl j u hu
    refine ⟨_, cap, rfl, hle, ⟨by rw [List.length_take, h.1]; omega, by simp, fun x hx j u hu => ?_, fun u hu => h1 u (List.mem_of_mem_take hu)⟩, ⟨by rw [List.length_drop, h.1, hsub], ?_, fun x hx j u hu => ?_, fun u hu => h1 u (List.mem_of_mem_drop hu)⟩⟩
    · cases hx
      have hj := (List.getElem?_eq_some_iff.1 hu).1
      rw [List.length_take] at hj
      rw [List.getElem?_take_of_lt (by omega)] at hu
      exact hcell j u hu
    · split <;> simp
    · rw [List.getElem?_drop] at hu
      have := hcell _ u hu
      split at hx
      · next hc =>
        have hl := (List.getElem?_eq_some_iff.1 hu).1
        rw [h.1] at hl
        have hmk : m = k := by omega
        subst hmk
        omega
      · cases hx
        rw [Addr.add_lit] at this
        rw [Deep.add_add, Addr.add_lit]
        exact this
section
variable {P : Program} {ops : Array Oper} {S : World → Prop}
theorem yieldsIf_slice_h {op : Oper} {a : Act} (hw : Region.wanted op (yielded ops a.tmps) = true) (t : TypeId) (x h : Operand) (ho : op.op = .slice t x none (some h) none) (ht : P.underlying t = some (.slice (P.elem t)))
    {ad : Option Addr} {m cap k : Nat} (hx : a.eval x = .slice ad m cap) (hh : a.eval h = .int .i64 (k : Int)) (hk : k ≤ cap) {s : Nat} (hsz : ∀ w, (sizeOf (P.elem t)).run P w = .ok s w) : YieldsIf P ops S op (.slice ad k cap) a :=
  .inl ⟨hw, fun w _ => by
    have hr := run_slice_h (w := w) (P := P) t ad m cap ht .i64 (k : Int) (by omega) (by omega)
    have e : sliced ad 0 (k : Int).toNat cap s = .slice ad k cap := by
      unfold sliced
      rw [Int.toNat_natCast, Nat.sub_zero, Nat.sub_zero]
      split
      · rfl
      · cases ad <;> simp [Addr.add]
    unfold execOp
    simp only [ho, Option.map_some, Option.map_none, hx, hh, Sem.run_bind, Sem.run_pure, run_sliceAt_slice (h := ht), hr, Result.andThen_ok, hsz, e]⟩
theorem yieldsIf_slice_l {op : Oper} {a : Act} (hw : Region.wanted op (yielded ops a.tmps) = true) (t : TypeId) (x h : Operand) (ho : op.op = .slice t x (some h) none none) (ht : P.underlying t = some (.slice (P.elem t)))
    {ad : Option Addr} {m cap k : Nat} (hx : a.eval x = .slice ad m cap) (hh : a.eval h = .int .i64 (k : Int)) (hk : k ≤ m) {s : Nat} (hsz : ∀ w, (sizeOf (P.elem t)).run P w = .ok s w) : YieldsIf P ops S op (.slice (if cap = k then ad else ad.map (·.add (k * s))) (m - k) (cap - k)) a :=
  .inl ⟨hw, fun w _ => by
    have hr := run_slice_l (w := w) (P := P) t ad m cap ht .i64 (k : Int) (by omega) (by omega)
    have e : sliced ad (k : Int).toNat m cap s = .slice (if cap = k then ad else ad.map (·.add (k * s))) (m - k) (cap - k) := by
      unfold sliced
      rw [Int.toNat_natCast]
    unfold execOp
    simp only [ho, Option.map_some, Option.map_none, hx, hh, Sem.run_bind, Sem.run_pure, run_sliceAt_slice (h := ht), hr, Result.andThen_ok, hsz, e]⟩
end
theorem entElem24 : Elem Tryz.prog 22 44 5 56 := ⟨Tryz.underlying22, ⟨.agg #[.int .i64 0, .int .i64 0, .int .i64 0, .int .i64 0, .slice none 0 0], by kernel_rfl, rfl⟩, by omega⟩
theorem cellsOf_one (L : List EC) : ∀ u ∈ cellsOf L, u.oneCell' = true := by
  intro u hu
  unfold cellsOf at hu
  rw [List.mem_flatten] at hu
  obtain ⟨cs, hcs, hu⟩ := hu
  obtain ⟨e, _, rfl⟩ := List.mem_map.1 hcs
  exact cells_one e u hu
theorem drop_cons {α : Type} {l : List α} {i : Nat} {y : α} (h : l[i]? = some y) : l.drop i = y :: l.drop (i + 1) := by
  obtain ⟨hi, rfl⟩ := List.getElem?_eq_some_iff.1 h
  exact List.drop_eq_getElem_cons hi
theorem take_last {α : Type} {l : List α} {i : Nat} {y : α} (h : l[i]? = some y) : (l.take (i + 1)).getLast? = some y := by
  obtain ⟨hi, rfl⟩ := List.getElem?_eq_some_iff.1 h
  rw [List.take_succ_eq_append_getElem hi, List.getLast?_append]
  rfl
theorem cellsOf_app (A B : List EC) : cellsOf (A ++ B) = cellsOf A ++ cellsOf B := by simp [cellsOf]
theorem cellsOf_take (L : List EC) (j : Nat) : (cellsOf L).take (j * 5) = cellsOf (L.take j) := by
  by_cases h : j ≤ L.length
  · conv => lhs; rw [← List.take_append_drop j L, cellsOf_app]
    rw [List.take_left']
    rw [cellsOf_len, List.length_take, Nat.min_eq_left h]
  · rw [List.take_of_length_le (by rw [cellsOf_len]; omega), List.take_of_length_le (by omega)]
theorem cellsOf_drop (L : List EC) (j : Nat) : (cellsOf L).drop (j * 5) = cellsOf (L.drop j) := by
  by_cases h : j ≤ L.length
  · conv => lhs; rw [← List.take_append_drop j L, cellsOf_app]
    rw [List.drop_left']
    rw [cellsOf_len, List.length_take, Nat.min_eq_left h]
  · rw [List.drop_of_length_le (by rw [cellsOf_len]; omega), List.drop_of_length_le (by omega)]
    rfl
/-- A row that is being put together: behind all that was there. -/
structure Own24 (w wo W : World) (v : Value) (n : Nat) (xs : List Value) : Prop where
  row : W.ownsRow w.heap.size 44 5 v n xs
  new : ∀ g, v.ownBlock = some g → wo.heap.size ≤ g
/-- One entry by itself in a block of its own, of no row. -/
structure Tmp24 (wo W : World) (x : EC) (g : Nat) : Prop where
  at_ : W.heap[g]? = some (.cells #[.int .i64 x.kn, .int .i64 x.kd, .int .i64 x.dk, .int .i64 x.dn, .slice x.da x.dm x.dc] 44 (0, 0))
  new : wo.heap.size ≤ g
theorem Tmp24.src {wo W : World} {x : EC} {g : Nat} (h : Tmp24 wo W x g) : Src W (some ⟨g, 0, none⟩) 1 1 5 x.cells := by
  refine ⟨rfl, by simp, fun y hy j u hu => ?_, cells_one x⟩
  cases hy
  rw [Addr.add_lit, Nat.zero_add]
  exact cell_at h.at_ (by simpa [EC.cells] using hu)
theorem new0 {w wo W : World} (h : w.heap.size ≤ wo.heap.size) (hb : Below wo.heap.size wo W) : Below wo.heap.size wo (W.alloc (.cells #[] 44)) ∧ Own24 w wo (W.alloc (.cells #[] 44)) (.slice (some ⟨W.heap.size, 0, none⟩) 0 0) 0 [] ∧
    ∀ x g, Tmp24 wo W x g → Tmp24 wo (W.alloc (.cells #[] 44)) x g ∧ some g ≠ (Value.slice (some ⟨W.heap.size, 0, none⟩) 0 0).ownBlock := by
  have hz := hb.size
  refine ⟨hb.alloc hz _, ⟨World.ownsRow_made W #[] 0 (by omega) (Nat.zero_le _) (by simp), fun g hg => by simp [Value.ownBlock] at hg; omega⟩, fun x g ht => ?_⟩
  have hg := (Array.getElem?_eq_some_iff.1 ht.at_).1
  exact ⟨⟨by rw [Lib.alloc_old _ _ _ hg]; exact ht.at_, ht.new⟩, by simp [Value.ownBlock]; omega⟩
theorem new9 {w wo W : World} (x : EC) (hb : Below wo.heap.size wo W) : Below wo.heap.size wo (W.alloc (.cells #[.int .i64 x.kn, .int .i64 x.kd, .int .i64 x.dk, .int .i64 x.dn, .slice x.da x.dm x.dc] 44)) ∧
    Tmp24 wo (W.alloc (.cells #[.int .i64 x.kn, .int .i64 x.kd, .int .i64 x.dk, .int .i64 x.dn, .slice x.da x.dm x.dc] 44)) x W.heap.size ∧
    ∀ v n xs, Own24 w wo W v n xs → Own24 w wo (W.alloc (.cells #[.int .i64 x.kn, .int .i64 x.kd, .int .i64 x.dk, .int .i64 x.dn, .slice x.da x.dm x.dc] 44)) v n xs ∧ some W.heap.size ≠ v.ownBlock := by
  have hz := hb.size
  refine ⟨hb.alloc hz _, ⟨heap_alloc_new _ _, hz⟩, fun v n xs ho => ⟨⟨own_below ho.row ((Below.refl _ _).alloc (Nat.le_refl _) _), ho.new⟩, fun e => ?_⟩⟩
  have := (ho.row.lt _ e.symm).2
  omega
/-- An append onto the row that is being put together. -/
theorem app24 {w wo W : World} {ops : Array Oper} {o : Oper} {a : Act} {K : Act → World → Prop} {Q : Exit → Act → World → Prop} {E0 : Prop} (hgd : o.guard = none) (s x : Operand)
    (ho : o.op = .call { callee := .builtin .append, args := #[s, x], argTypes := #[22, 22] }) (v : Value) (n : Nat) (xs : List Value) (hs : a.eval s = v) (ad : Option Addr) (m c : Nat) (news : List Value) (hx : a.eval x = .slice ad m c)
    (hww : w.heap.size ≤ wo.heap.size) (hb : Below wo.heap.size wo W) (hown : Own24 w wo W v n xs) (hsrc : Src W ad m c 5 news) (hbytes : (n + m) * 56 ≤ 140737488355328)
    (h : ∀ v' W', Below wo.heap.size wo W' → Own24 w wo W' v' (n + m) (xs ++ news) → (∀ y g, Tmp24 wo W y g ∧ some g ≠ v.ownBlock → Tmp24 wo W' y g ∧ some g ≠ v'.ownBlock) → K (a.put o.dst v') W') :
    if Region.wanted o (yielded ops a.tmps) = true then Oper.wp Tryz.prog o a W K Q else E0 := by
  have hz := hb.size
  cases ad with
  | some ad =>
    refine step_appT hgd s x 22 ho entElem24 v n xs hs ad m c news hx hown.row hsrc (by unfold maxLen; omega) hbytes (by omega) fun v' W' h1 h2 h3 => h v' W' (hb.grown h2 hz hown.new) ⟨h1, fun g hg => ?_⟩ fun y g ht => ?_
    · rcases h3 with e | e
      · exact hown.new g (by rw [← e]; exact hg)
      · rw [e] at hg; cases hg; exact hz
    · have hg := (Array.getElem?_eq_some_iff.1 ht.1.at_).1
      refine ⟨⟨(h2.block g hg ht.2).trans ht.1.at_, ht.1.new⟩, fun e => ?_⟩
      rcases h3 with e2 | e2
      · exact ht.2 (e.trans e2)
      · rw [e2] at e; cases e; omega
  | none =>
    have hw : Region.wanted o (yielded ops a.tmps) = true := by simp [Region.wanted, hgd]
    rw [if_pos hw]
    obtain ⟨z, hi, hzs⟩ := entElem24.row
    obtain ⟨i, hi, hz0, hz1, hz2⟩ := info_parts hi
    obtain ⟨rfl, rfl⟩ := hsrc.nil rfl
    have hn : news = [] := List.eq_nil_of_length_eq_zero (by have := hsrc.len; omega)
    subst hn
    have hrun := run_append_owned_none (P := Tryz.prog) (w := W) w.heap.size 22 o.type 44 i 5 entElem24.ht hi v n xs hown.row
    unfold Oper.wp
    simp [execOp, ho, resolve, invoke, builtin, hs, hx, hrun, Result.andThen]
    exact h v W hb (by simpa using hown) (fun y g h => h)
def RSortPost (k n : Nat) (l : List EntryV) (w : World) (e : Ending) (w' : World) : Prop :=
  ∃ a c, e = .returned (.slice a n c) ∧ RowOf (entryRd k) 5 56 All w' a n c (sortE l) ∧ Below w.heap.size w w'
set_option maxRecDepth 100000 in
set_option maxHeartbeats 4000000 in
theorem rsort_any (k : Nat) (l : List EntryV) (a : Option Addr) (n cap : Nat) (w : World) (hn : n ≤ 1099511627776) (hl : RowOf (entryRd k) 5 56 All w a n cap l) :
    Calls Tryz.prog 13 #[.slice a n cap] w (RSortPost k n l w) := by
  obtain ⟨L, hL⟩ := row24 hl
  have HLN : Hid (L.length = n) := Lib.hid (hL.len.trans hl.len)
  have HL := Lib.hid hL
  have HLL := Lib.hid hl
  clear hl hL
  go_enter Tryz.func13, Tryz.ntmps13
  go_upto_region 3 with fail
  go_loopg [3, 4] n (fun g ov iv wr => ∃ (i : Nat) (out : List EC), i ≤ n ∧ g = n - i ∧ iv = .int .i64 i ∧ out.length = i ∧ wr.ownsRow w.heap.size 44 5 ov i (cellsOf out) ∧ Srt (fun x y => decide (cfE x y < 0)) out ∧ Same (fun x y => decide (cfE x y < 0)) (L.take i) out ∧ Below w.heap.size w wr)
  case atStart => exact ⟨0, [], by omega, rfl, rfl, rfl, World.ownsRow_nil _ _ _ _, List.Pairwise.nil, by rw [List.take_zero]; exact Same.refl _, Below.refl _ _⟩
  case round =>
    obtain ⟨i, out, hi, rfl, rfl, hol, hown, hsrt, hsame, hB⟩ := hrel
    obtain ⟨wo, rfl⟩ : ∃ wo : World, wo = wr := ⟨_, rfl⟩
    have HOL := Lib.hid hol
    have HOWN := Lib.hid hown
    have HSRT := Lib.hid hsrt
    have HSAME := Lib.hid hsame
    have HB := Lib.hid hB
    obtain ⟨oa, oc, hov, _⟩ := own_parts hown (cellsOf_one out) (Nat.zero_le i)
    subst hov
    clear hol hown hsrt hsame hB
    by_cases hlt : i < n
    · have hlti : (i : Int) < (n : Int) := by omega
      obtain ⟨x, hx⟩ : ∃ x, L[i]? = some x := ⟨_, List.getElem?_eq_getElem (by rw [HLN.out]; exact hlt)⟩
      have HX := Lib.hid hx
      obtain ⟨b, o, rfl, hbw, x0, x1, x2, x3, x4⟩ := HL.out.get hx
      have HXC : Hid (∀ W, Below w.heap.size w W → W.cell? ⟨b, o + i * 5, none⟩ = some (.int .i64 x.kn) ∧ W.cell? ⟨b, o + i * 5 + 1, none⟩ = some (.int .i64 x.kd) ∧ W.cell? ⟨b, o + i * 5 + 2, none⟩ = some (.int .i64 x.dk) ∧ W.cell? ⟨b, o + i * 5 + 3, none⟩ = some (.int .i64 x.dn) ∧ W.cell? ⟨b, o + i * 5 + 4, none⟩ = some (.slice x.da x.dm x.dc)) := Lib.hid fun W hb => by
        have e : ∀ o, W.cell? ⟨b, o, none⟩ = w.cell? ⟨b, o, none⟩ := fun o => hb.cell (p := ⟨b, o, none⟩) hbw
        simp only [e]
        exact ⟨x0, x1, x2, x3, x4⟩
      clear hx x0 x1 x2 x3 x4
      go_upto_block 2 with fail
      go_cut [5] from 14 to 31 (fun kv wx => ∃ j : Nat, j ≤ i ∧ kv = .int .i64 j ∧ (∀ y ∈ out.drop j, cfE x y < 0) ∧ (∀ y, (out.take j).getLast? = some y → ¬ cfE x y < 0) ∧ Below wo.heap.size wo wx)
      case first =>
        go_wp2_with fail
        go_loopg [5] i (fun g kv wr => ∃ j : Nat, j ≤ i ∧ j = g ∧ kv = .int .i64 j ∧ (∀ y ∈ out.drop j, cfE x y < 0) ∧ Below wo.heap.size wo wr)
        case atStart => exact ⟨i, by omega, rfl, rfl, by rw [List.drop_of_length_le (by rw [HOL.out]; omega)]; simp, Below.refl _ _⟩
        case round =>
          obtain ⟨j, hji, rfl, rfl, hlow, hB1⟩ := hrel
          obtain ⟨w1, rfl⟩ : ∃ w1 : World, w1 = wr := ⟨_, rfl⟩
          have HLOW := Lib.hid hlow
          have HB1 := Lib.hid hB1
          clear hlow hB1
          by_cases hj0 : j = 0
          · subst hj0
            go_upto_region 6 with fail
            go_quiet (fail)
            go_wp2_with fail
            go_meet
            exact ⟨0, Nat.zero_le _, rfl, HLOW.out, by simp, by first | exact HB1.out.drew | exact HB1.out | exact below_drewN HB1.out _⟩
          · have hji0 : (0 : Int) < (j : Int) := by omega
            obtain ⟨jm, hjm, hjm'⟩ : ∃ jm, j ≤ jm + 1 ∧ jm + 1 ≤ j := ⟨j - 1, by omega, by omega⟩
            have wj : IntKind.i64.wrap ((j : Int) - 1) = (jm : Int) := wrapS (n := j) (m := 1) (i := jm) (by omega) (by omega)
            have HJ : Hid (j = jm + 1) := Lib.hid (by omega)
            obtain ⟨y, hy⟩ : ∃ y, out[jm]? = some y := ⟨_, List.getElem?_eq_getElem (by rw [HOL.out]; omega)⟩
            obtain ⟨g, rfl⟩ : ∃ g, oa = some ⟨g, 0, none⟩ := by
              rcases HOWN.out.2 with ⟨_, h0⟩ | ⟨g, _, _, hv, _⟩
              · omega
              · cases hv; exact ⟨g, rfl⟩
            have hg := (HOWN.out.lt g rfl).2
            have hcell : ∀ t v, y.cells[t]? = some v → wo.cell? ⟨g, jm * 5 + t, none⟩ = some v := fun t v hv => by
              have h := HOWN.out.cells (g := g) rfl (jm * 5 + t) v (cellsOf_get hy hv)
              rw [Addr.add_lit, Nat.zero_add] at h
              exact h
            have HK4 : Hid (∀ W, Below wo.heap.size wo W → W.cell? ⟨b, o + i * 5, none⟩ = some (.int .i64 x.kn) ∧ W.cell? ⟨b, o + i * 5 + 1, none⟩ = some (.int .i64 x.kd) ∧ W.cell? ⟨g, jm * 5, none⟩ = some (.int .i64 y.kn) ∧ W.cell? ⟨g, jm * 5 + 1, none⟩ = some (.int .i64 y.kd)) := Lib.hid fun W hb => by
              obtain ⟨x0, x1, _⟩ := HXC.out W (HB.out.trans (hb.mono HB.out.size))
              have e : ∀ t, W.cell? ⟨g, t, none⟩ = wo.cell? ⟨g, t, none⟩ := fun t => hb.cell (p := ⟨g, t, none⟩) hg
              exact ⟨x0, x1, (e _).trans (hcell 0 _ rfl), (e _).trans (hcell 1 _ rfl)⟩
            have HLT : Hid (ltK (x.kn, x.kd) (y.kn, y.kd) = decide (cfE x y < 0)) := Lib.hid rfl
            have jmi : (jm : Int) < (i : Int) := by omega
            have jm0 : (0 : Int) ≤ (jm : Int) := by omega
            have hbz := HB1.out
            have hj0n : 0 < j := by omega
            have hj0b : decide (0 < j) = true := by simpa using hj0n
            have HY := Lib.hid hy
            clear hcell hg hy
            by_cases hcf : cfE x y < 0
            · have hcb : decide (cfE x y < 0) = true := by simpa using hcf
              have HCF := Lib.hid hcf
              clear hcf
              go_upto_region 6 with fail
              go_region_held3 (fun W => W.cell? ⟨b, o + i * 5, none⟩ = some (.int .i64 x.kn) ∧ W.cell? ⟨b, o + i * 5 + 1, none⟩ = some (.int .i64 x.kd) ∧ W.cell? ⟨g, jm * 5, none⟩ = some (.int .i64 y.kn) ∧ W.cell? ⟨g, jm * 5 + 1, none⟩ = some (.int .i64 y.kd)) ((refine HK4.out _ ?_; ((repeat' (first | with_reducible assumption | with_reducible refine Below.drew ?_ | (with_reducible refine Below.alloc ?_ ?_ _))) <;> first | assumption | (simp; done) | (simp; omega))))
                ((go_at_call 31; (with_reducible refine (ahead_any _ _ _ _ _).mono ?_); rintro e w2 ⟨rfl, hb2⟩; rw [HLT.out]; have hb2z : Below wo.heap.size wo w2 := Below.trans (show Below wo.heap.size wo _ by ((repeat' (first | with_reducible assumption | with_reducible refine Below.drew ?_ | (with_reducible refine Below.alloc ?_ ?_ _))) <;> first | assumption | (simp; done) | (simp; omega))) (hb2.mono (Below.size (show Below wo.heap.size wo _ by ((repeat' (first | with_reducible assumption | with_reducible refine Below.drew ?_ | (with_reducible refine Below.alloc ?_ ?_ _))) <;> first | assumption | (simp; done) | (simp; omega))))); clear hb2))
              all_goals
                have HB2 : Hid (Below wo.heap.size wo w2) := Lib.hid (by assumption)
                go_wp2_with fail
                go_roundg jm
                case measure => omega
                case rel =>
                  refine ⟨jm, by omega, rfl, rfl, fun z hz => ?_, HB2.out⟩
                  rw [drop_cons HY.out, ← HJ.out] at hz
                  rcases List.mem_cons.1 hz with rfl | hz
                  · exact HCF.out
                  · exact HLOW.out z hz
            · have hcb : decide (cfE x y < 0) = false := by simpa using hcf
              have HCF := Lib.hid hcf
              clear hcf
              go_upto_region 6 with fail
              go_region_held3 (fun W => W.cell? ⟨b, o + i * 5, none⟩ = some (.int .i64 x.kn) ∧ W.cell? ⟨b, o + i * 5 + 1, none⟩ = some (.int .i64 x.kd) ∧ W.cell? ⟨g, jm * 5, none⟩ = some (.int .i64 y.kn) ∧ W.cell? ⟨g, jm * 5 + 1, none⟩ = some (.int .i64 y.kd)) ((refine HK4.out _ ?_; ((repeat' (first | with_reducible assumption | with_reducible refine Below.drew ?_ | (with_reducible refine Below.alloc ?_ ?_ _))) <;> first | assumption | (simp; done) | (simp; omega))))
                ((go_at_call 31; (with_reducible refine (ahead_any _ _ _ _ _).mono ?_); rintro e w2 ⟨rfl, hb2⟩; rw [HLT.out]; have hb2z : Below wo.heap.size wo w2 := Below.trans (show Below wo.heap.size wo _ by ((repeat' (first | with_reducible assumption | with_reducible refine Below.drew ?_ | (with_reducible refine Below.alloc ?_ ?_ _))) <;> first | assumption | (simp; done) | (simp; omega))) (hb2.mono (Below.size (show Below wo.heap.size wo _ by ((repeat' (first | with_reducible assumption | with_reducible refine Below.drew ?_ | (with_reducible refine Below.alloc ?_ ?_ _))) <;> first | assumption | (simp; done) | (simp; omega))))); clear hb2))
              all_goals
                have HB2 : Hid (Below wo.heap.size wo w2) := Lib.hid (by assumption)
                go_wp2_with fail
                go_meet
                refine ⟨j, hji, rfl, HLOW.out, fun z hz => ?_, HB2.out⟩
                rw [HJ.out, take_last HY.out] at hz
                cases hz
                exact HCF.out
      case rest =>
        obtain ⟨j, hji, rfl, hlow, hhi, hB1⟩ := hcut
        obtain ⟨w1, rfl⟩ : ∃ w1 : World, w1 = wc := ⟨_, rfl⟩
        have HB0 : Hid (Below wo.heap.size wo w1.drew) := Lib.hid hB1.drew
        have HXT : Hid (∀ W, Below wo.heap.size wo W → W.cell? ⟨b, o + i * 5, none⟩ = some (.int .i64 x.kn) ∧ W.cell? ⟨b, o + i * 5 + 1, none⟩ = some (.int .i64 x.kd) ∧ W.cell? ⟨b, o + i * 5 + 2, none⟩ = some (.int .i64 x.dk) ∧ W.cell? ⟨b, o + i * 5 + 3, none⟩ = some (.int .i64 x.dn) ∧ W.cell? ⟨b, o + i * 5 + 4, none⟩ = some (.slice x.da x.dm x.dc)) := Lib.hid fun W hb => HXC.out W (HB.out.trans (hb.mono HB.out.size))
        obtain ⟨oa', oc', hv, hjc, hsr1, hsr2⟩ := own_parts HOWN.out (cellsOf_one out) hji
        cases hv
        have HSR1 : Hid (∀ W, Below wo.heap.size wo W → Src W oa j oc 5 ((cellsOf out).take (j * 5))) := Lib.hid fun W hb => by
          obtain ⟨oa2, oc2, hv2, _, h1, _⟩ := own_parts (own_below HOWN.out hb) (cellsOf_one out) hji
          cases hv2
          exact h1
        have HSR2 : Hid (∀ W, Below wo.heap.size wo W → Src W (if oc = j then oa else oa.map (·.add (j * 5))) (i - j) (oc - j) 5 ((cellsOf out).drop (j * 5))) := Lib.hid fun W hb => by
          obtain ⟨oa2, oc2, hv2, _, _, h2⟩ := own_parts (own_below HOWN.out hb) (cellsOf_one out) hji
          cases hv2
          exact h2
        have HSLH : Hid (j ≤ oc) := Lib.hid (by omega)
        have hT0 := Lib.hid (HXT.out w1.drew HB0.out)
        have HRM := Lib.hid HLL.out.room
        have HFIN : Hid (∀ (v : Value) (W : World), Own24 w wo W v (0 + j + 1 + (i - j)) (([] ++ (cellsOf out).take (j * 5)) ++ x.cells ++ (cellsOf out).drop (j * 5)) → Below wo.heap.size wo W → ∃ out' : List EC, out'.length = i + 1 ∧ W.ownsRow w.heap.size 44 5 v (i + 1) (cellsOf out') ∧ Srt (fun x y => decide (cfE x y < 0)) out' ∧ Same (fun x y => decide (cfE x y < 0)) (L.take (i + 1)) out' ∧ Below w.heap.size w W) := Lib.hid fun v W ho hb => by
          have e : ([] ++ (cellsOf out).take (j * 5)) ++ x.cells ++ (cellsOf out).drop (j * 5) = cellsOf (out.take j ++ x :: out.drop j) := by
            rw [cellsOf_take, cellsOf_drop]
            simp [cellsOf]
          have hs := HSRT.out
          rw [← List.take_append_drop j out] at hs
          obtain ⟨g1, g2⟩ := insert_step cfE_ord (x := x) hs (fun y hy => by simpa using hhi y hy) (fun y hy => by simpa using hlow y hy)
          rw [List.take_append_drop] at g2
          have ho' := ho.row
          rw [e, show 0 + j + 1 + (i - j) = i + 1 by omega] at ho'
          refine ⟨_, by rw [List.length_append, List.length_cons, List.length_take, List.length_drop, HOL.out]; omega, ho', g1, ?_, HB.out.trans (hb.mono HB.out.size)⟩
          refine Same.trans ?_ g2
          obtain ⟨hi2, hx2⟩ := List.getElem?_eq_some_iff.1 HX.out
          rw [List.take_succ_eq_append_getElem hi2, hx2]
          exact HSAME.out.append (Same.refl _)
        have i0' : (0 : Int) ≤ (i : Int) := by omega
        generalize hoa2 : (if oc = j then oa else oa.map (·.add (j * 5))) = oa2 at *
        have HOA2 := Lib.hid hoa2
        clear hlow hhi hB1 hsr1 hsr2 hoa2 hjc
        go_upto_region 8 with fail
        refine Lex.wp_region_z (fun W => W.cell? ⟨b, o + i * 5, none⟩ = some (.int .i64 x.kn) ∧ W.cell? ⟨b, o + i * 5 + 1, none⟩ = some (.int .i64 x.kd) ∧ W.cell? ⟨b, o + i * 5 + 2, none⟩ = some (.int .i64 x.dk) ∧ W.cell? ⟨b, o + i * 5 + 3, none⟩ = some (.int .i64 x.dn) ∧ W.cell? ⟨b, o + i * 5 + 4, none⟩ = some (.slice x.da x.dm x.dc)) 15 (by kernel_rfl) ?_
        change Lex.wpZ _ _ _ _ _ _ 16 #[false, false, false, false, false, false, false, false, false, false, false, false, false, false, false, false] _ w1.drew
        generalize w1.drew = wd at *
        (refine Lex.wpZ_take (i := 1) (v := ?_) rfl (by kernel_rfl) (by kernel_rfl) (by kernel_rfl) (by kernel_rfl) (fun _ _ _ h => h) hT0.out (Or.inl ⟨by rfl, ?_⟩) ?_; rotate_left 1; (focus (intro w0 hw0; (try dsimp only at hw0); obtain ⟨s0, s1, s2, s3, s4⟩ := hw0; go_simp; try with_reducible rfl)); simp only [Act.put, List.getElem_toArray, List.getElem_cons_zero, List.getElem_cons_succ, List.setIfInBounds_toArray, List.set_cons_zero, List.set_cons_succ])
        (refine Lex.wpZ_take (i := 2) (v := ?_) rfl (by kernel_rfl) (by kernel_rfl) (by kernel_rfl) (by kernel_rfl) (fun _ _ _ h => h) hT0.out (Or.inl ⟨by rfl, ?_⟩) ?_; rotate_left 1; (focus (intro w0 hw0; (try dsimp only at hw0); obtain ⟨s0, s1, s2, s3, s4⟩ := hw0; go_simp; try with_reducible rfl)); simp only [Act.put, List.getElem_toArray, List.getElem_cons_zero, List.getElem_cons_succ, List.setIfInBounds_toArray, List.set_cons_zero, List.set_cons_succ])
        refine Lex.wpZ_take (i := 3) (v := .slice oa j oc) rfl (by kernel_rfl) (by kernel_rfl) (by kernel_rfl) (by kernel_rfl) (fun _ _ _ h => h) hT0.out (yieldsIf_slice_h rfl 22 _ _ rfl Tryz.underlying22 rfl rfl HSLH.out (s := 5) (fun w => by kernel_rfl)) ?_
        simp only [Act.put, List.getElem_toArray, List.getElem_cons_zero, List.getElem_cons_succ, List.setIfInBounds_toArray, List.set_cons_zero, List.set_cons_succ]
        (refine Lex.wpZ_take (i := 5) (v := ?_) rfl (by kernel_rfl) (by kernel_rfl) (by kernel_rfl) (by kernel_rfl) (fun _ _ _ h => h) hT0.out (Or.inl ⟨by rfl, ?_⟩) ?_; rotate_left 1; (focus (intro w0 hw0; (try dsimp only at hw0); obtain ⟨s0, s1, s2, s3, s4⟩ := hw0; go_simp; try with_reducible rfl)); simp only [Act.put, List.getElem_toArray, List.getElem_cons_zero, List.getElem_cons_succ, List.setIfInBounds_toArray, List.set_cons_zero, List.set_cons_succ])
        (refine Lex.wpZ_take (i := 6) (v := ?_) rfl (by kernel_rfl) (by kernel_rfl) (by kernel_rfl) (by kernel_rfl) (fun _ _ _ h => h) hT0.out (Or.inl ⟨by rfl, ?_⟩) ?_; rotate_left 1; (focus (intro w0 hw0; (try dsimp only at hw0); obtain ⟨s0, s1, s2, s3, s4⟩ := hw0; go_simp; try with_reducible rfl)); simp only [Act.put, List.getElem_toArray, List.getElem_cons_zero, List.getElem_cons_succ, List.setIfInBounds_toArray, List.set_cons_zero, List.set_cons_succ])
        (refine Lex.wpZ_take (i := 7) (v := ?_) rfl (by kernel_rfl) (by kernel_rfl) (by kernel_rfl) (by kernel_rfl) (fun _ _ _ h => h) hT0.out (Or.inl ⟨by rfl, ?_⟩) ?_; rotate_left 1; (focus (intro w0 hw0; (try dsimp only at hw0); obtain ⟨s0, s1, s2, s3, s4⟩ := hw0; go_simp; try with_reducible rfl)); simp only [Act.put, List.getElem_toArray, List.getElem_cons_zero, List.getElem_cons_succ, List.setIfInBounds_toArray, List.set_cons_zero, List.set_cons_succ])
        (refine Lex.wpZ_take (i := 8) (v := ?_) rfl (by kernel_rfl) (by kernel_rfl) (by kernel_rfl) (by kernel_rfl) (fun _ _ _ h => h) hT0.out (Or.inl ⟨by rfl, ?_⟩) ?_; rotate_left 1; (focus (intro w0 hw0; (try dsimp only at hw0); obtain ⟨s0, s1, s2, s3, s4⟩ := hw0; go_simp; try with_reducible rfl)); simp only [Act.put, List.getElem_toArray, List.getElem_cons_zero, List.getElem_cons_succ, List.setIfInBounds_toArray, List.set_cons_zero, List.set_cons_succ])
        (refine Lex.wpZ_take (i := 11) (v := ?_) rfl (by kernel_rfl) (by kernel_rfl) (by kernel_rfl) (by kernel_rfl) (fun _ _ _ h => h) hT0.out (Or.inl ⟨by rfl, ?_⟩) ?_; rotate_left 1; (focus (intro w0 hw0; (try dsimp only at hw0); obtain ⟨s0, s1, s2, s3, s4⟩ := hw0; go_simp; try with_reducible rfl)); simp only [Act.put, List.getElem_toArray, List.getElem_cons_zero, List.getElem_cons_succ, List.setIfInBounds_toArray, List.set_cons_zero, List.set_cons_succ])
        (refine Lex.wpZ_take (i := 12) (v := ?_) rfl (by kernel_rfl) (by kernel_rfl) (by kernel_rfl) (by kernel_rfl) (fun _ _ _ h => h) hT0.out (Or.inl ⟨by rfl, ?_⟩) ?_; rotate_left 1; (focus (intro w0 hw0; (try dsimp only at hw0); obtain ⟨s0, s1, s2, s3, s4⟩ := hw0; go_simp; try with_reducible rfl)); simp only [Act.put, List.getElem_toArray, List.getElem_cons_zero, List.getElem_cons_succ, List.setIfInBounds_toArray, List.set_cons_zero, List.set_cons_succ])
        refine Lex.wpZ_take (i := 13) (v := .slice oa2 (i - j) (oc - j)) rfl (by kernel_rfl) (by kernel_rfl) (by kernel_rfl) (by kernel_rfl) (fun _ _ _ h => h) hT0.out (by rw [← HOA2.out]; exact yieldsIf_slice_l rfl 22 _ _ rfl Tryz.underlying22 rfl rfl hji (s := 5) (fun w => by kernel_rfl)) ?_
        simp only [Act.put, List.getElem_toArray, List.getElem_cons_zero, List.getElem_cons_succ, List.setIfInBounds_toArray, List.set_cons_zero, List.set_cons_succ]
        refine Lex.wpZ_ready (rs := [0, 9]) (by kernel_rfl) (by simp) ?_
        refine Lex.ReadyZ.cons rfl (fun K hK => ?_) (Lex.ReadyZ.cons rfl (fun K hK => ?_) Lex.ReadyZ.nil)
        · skip
          go_simp
          obtain ⟨b0, o0, k0⟩ := new0 HB.out.size HB0.out
          clear k0
          refine hK.out _ _ (.inr (HXT.out _ b0)) ?_
          clear hK K
          try simp only [Act.put, List.getElem_toArray, List.getElem_cons_zero, List.getElem_cons_succ, List.setIfInBounds_toArray, List.set_cons_zero, List.set_cons_succ]
          generalize World.alloc wd (.cells #[] 44) = z0 at *
          refine Lex.wpZ_ready (rs := [4, 9]) (by kernel_rfl) (by simp) ?_
          refine Lex.ReadyZ.cons rfl (fun K hK => ?_) (Lex.ReadyZ.cons rfl (fun K hK => ?_) Lex.ReadyZ.nil)
          · skip
            refine app24 rfl _ _ rfl _ _ _ rfl _ _ _ _ rfl HB.out.size b0 o0 (HSR1.out _ b0) (by have := HRM.out; omega) ?_
            intro v4 y4 b4 o4 k4
            clear k4
            refine hK.out _ _ (.inr (HXT.out _ b4)) ?_
            clear hK K
            try simp only [Act.put, List.getElem_toArray, List.getElem_cons_zero, List.getElem_cons_succ, List.setIfInBounds_toArray, List.set_cons_zero, List.set_cons_succ]
            refine Lex.wpZ_ready (rs := [9]) (by kernel_rfl) (by simp) ?_
            refine Lex.ReadyZ.cons rfl (fun K hK => ?_) Lex.ReadyZ.nil
            go_simp
            obtain ⟨b9, t9, k9⟩ := new9 (w := w) x b4
            obtain ⟨o9, n9⟩ := k9 _ _ _ o4
            clear k9
            refine hK.out _ _ (.inr (HXT.out _ b9)) ?_
            clear hK K
            try simp only [Act.put, List.getElem_toArray, List.getElem_cons_zero, List.getElem_cons_succ, List.setIfInBounds_toArray, List.set_cons_zero, List.set_cons_succ]
            generalize World.alloc y4 (.cells #[.int .i64 x.kn, .int .i64 x.kd, .int .i64 x.dk, .int .i64 x.dn, .slice x.da x.dm x.dc] 44) = z9 at *
            refine Lex.wpZ_ready (rs := [10]) (by kernel_rfl) (by simp) ?_
            refine Lex.ReadyZ.cons rfl (fun K hK => ?_) Lex.ReadyZ.nil
            refine app24 rfl _ _ rfl _ _ _ rfl _ _ _ _ rfl HB.out.size b9 o9 t9.src (by have := HRM.out; omega) ?_
            intro vt yt bt ot kt
            clear kt
            refine hK.out _ _ (.inr (HXT.out _ bt)) ?_
            clear hK K
            try simp only [Act.put, List.getElem_toArray, List.getElem_cons_zero, List.getElem_cons_succ, List.setIfInBounds_toArray, List.set_cons_zero, List.set_cons_succ]
            refine Lex.wpZ_ready (rs := [14]) (by kernel_rfl) (by simp) ?_
            refine Lex.ReadyZ.cons rfl (fun K hK => ?_) Lex.ReadyZ.nil
            refine app24 rfl _ _ rfl _ _ _ rfl _ _ _ _ rfl HB.out.size bt ot (HSR2.out _ bt) (by have := HRM.out; omega) ?_
            intro vu yu bu ou ku
            clear ku
            refine hK.out _ _ (.inr (HXT.out _ bu)) ?_
            clear hK K
            try simp only [Act.put, List.getElem_toArray, List.getElem_cons_zero, List.getElem_cons_succ, List.setIfInBounds_toArray, List.set_cons_zero, List.set_cons_succ]
            refine Lex.wpZ_ready (rs := [15]) (by kernel_rfl) (by simp) ?_
            refine Lex.ReadyZ.cons rfl (fun K hK => ?_) Lex.ReadyZ.nil
            go_simp
            refine hK.out _ _ (.inl rfl) ?_
            clear hK K
            try simp only [Act.put, List.getElem_toArray, List.getElem_cons_zero, List.getElem_cons_succ, List.setIfInBounds_toArray, List.set_cons_zero, List.set_cons_succ]
            refine Lex.wpZ_done (by kernel_rfl) ?_ _
            have HOU := Lib.hid ou
            have HBU := Lib.hid bu
            clear ou bu
            go_wp2_with fail
            go_roundg (n - (i + 1))
            case measure => omega
            case rel =>
              obtain ⟨out2, q1, q2, q3, q4, q5⟩ := HFIN.out _ _ HOU.out HBU.out
              exact ⟨i + 1, out2, by omega, rfl, by go_num, q1, q2, q3, q4, q5⟩
          · skip
            go_simp
            obtain ⟨b9, t9, k9⟩ := new9 (w := w) x b0
            obtain ⟨o9, n9⟩ := k9 _ _ _ o0
            clear k9
            refine hK.out _ _ (.inr (HXT.out _ b9)) ?_
            clear hK K
            try simp only [Act.put, List.getElem_toArray, List.getElem_cons_zero, List.getElem_cons_succ, List.setIfInBounds_toArray, List.set_cons_zero, List.set_cons_succ]
            generalize World.alloc z0 (.cells #[.int .i64 x.kn, .int .i64 x.kd, .int .i64 x.dk, .int .i64 x.dn, .slice x.da x.dm x.dc] 44) = z9 at *
            refine Lex.wpZ_ready (rs := [4]) (by kernel_rfl) (by simp) ?_
            refine Lex.ReadyZ.cons rfl (fun K hK => ?_) Lex.ReadyZ.nil
            refine app24 rfl _ _ rfl _ _ _ rfl _ _ _ _ rfl HB.out.size b9 o9 (HSR1.out _ b9) (by have := HRM.out; omega) ?_
            intro v4 y4 b4 o4 k4
            obtain ⟨t4, n4⟩ := k4 x _ ⟨t9, n9⟩
            clear k4
            refine hK.out _ _ (.inr (HXT.out _ b4)) ?_
            clear hK K
            try simp only [Act.put, List.getElem_toArray, List.getElem_cons_zero, List.getElem_cons_succ, List.setIfInBounds_toArray, List.set_cons_zero, List.set_cons_succ]
            refine Lex.wpZ_ready (rs := [10]) (by kernel_rfl) (by simp) ?_
            refine Lex.ReadyZ.cons rfl (fun K hK => ?_) Lex.ReadyZ.nil
            refine app24 rfl _ _ rfl _ _ _ rfl _ _ _ _ rfl HB.out.size b4 o4 t4.src (by have := HRM.out; omega) ?_
            intro vt yt bt ot kt
            clear kt
            refine hK.out _ _ (.inr (HXT.out _ bt)) ?_
            clear hK K
            try simp only [Act.put, List.getElem_toArray, List.getElem_cons_zero, List.getElem_cons_succ, List.setIfInBounds_toArray, List.set_cons_zero, List.set_cons_succ]
            refine Lex.wpZ_ready (rs := [14]) (by kernel_rfl) (by simp) ?_
            refine Lex.ReadyZ.cons rfl (fun K hK => ?_) Lex.ReadyZ.nil
            refine app24 rfl _ _ rfl _ _ _ rfl _ _ _ _ rfl HB.out.size bt ot (HSR2.out _ bt) (by have := HRM.out; omega) ?_
            intro vu yu bu ou ku
            clear ku
            refine hK.out _ _ (.inr (HXT.out _ bu)) ?_
            clear hK K
            try simp only [Act.put, List.getElem_toArray, List.getElem_cons_zero, List.getElem_cons_succ, List.setIfInBounds_toArray, List.set_cons_zero, List.set_cons_succ]
            refine Lex.wpZ_ready (rs := [15]) (by kernel_rfl) (by simp) ?_
            refine Lex.ReadyZ.cons rfl (fun K hK => ?_) Lex.ReadyZ.nil
            go_simp
            refine hK.out _ _ (.inl rfl) ?_
            clear hK K
            try simp only [Act.put, List.getElem_toArray, List.getElem_cons_zero, List.getElem_cons_succ, List.setIfInBounds_toArray, List.set_cons_zero, List.set_cons_succ]
            refine Lex.wpZ_done (by kernel_rfl) ?_ _
            have HOU := Lib.hid ou
            have HBU := Lib.hid bu
            clear ou bu
            go_wp2_with fail
            go_roundg (n - (i + 1))
            case measure => omega
            case rel =>
              obtain ⟨out2, q1, q2, q3, q4, q5⟩ := HFIN.out _ _ HOU.out HBU.out
              exact ⟨i + 1, out2, by omega, rfl, by go_num, q1, q2, q3, q4, q5⟩
        · skip
          go_simp
          obtain ⟨b9, t9, k9⟩ := new9 (w := w) x HB0.out
          clear k9
          refine hK.out _ _ (.inr (HXT.out _ b9)) ?_
          clear hK K
          try simp only [Act.put, List.getElem_toArray, List.getElem_cons_zero, List.getElem_cons_succ, List.setIfInBounds_toArray, List.set_cons_zero, List.set_cons_succ]
          generalize World.alloc wd (.cells #[.int .i64 x.kn, .int .i64 x.kd, .int .i64 x.dk, .int .i64 x.dn, .slice x.da x.dm x.dc] 44) = z9 at *
          refine Lex.wpZ_ready (rs := [0]) (by kernel_rfl) (by simp) ?_
          refine Lex.ReadyZ.cons rfl (fun K hK => ?_) Lex.ReadyZ.nil
          go_simp
          obtain ⟨b0, o0, k0⟩ := new0 HB.out.size b9
          obtain ⟨t0, n0⟩ := k0 x _ t9
          clear k0
          refine hK.out _ _ (.inr (HXT.out _ b0)) ?_
          clear hK K
          try simp only [Act.put, List.getElem_toArray, List.getElem_cons_zero, List.getElem_cons_succ, List.setIfInBounds_toArray, List.set_cons_zero, List.set_cons_succ]
          generalize World.alloc z9 (.cells #[] 44) = z0 at *
          refine Lex.wpZ_ready (rs := [4]) (by kernel_rfl) (by simp) ?_
          refine Lex.ReadyZ.cons rfl (fun K hK => ?_) Lex.ReadyZ.nil
          refine app24 rfl _ _ rfl _ _ _ rfl _ _ _ _ rfl HB.out.size b0 o0 (HSR1.out _ b0) (by have := HRM.out; omega) ?_
          intro v4 y4 b4 o4 k4
          obtain ⟨t4, n4⟩ := k4 x _ ⟨t0, n0⟩
          clear k4
          refine hK.out _ _ (.inr (HXT.out _ b4)) ?_
          clear hK K
          try simp only [Act.put, List.getElem_toArray, List.getElem_cons_zero, List.getElem_cons_succ, List.setIfInBounds_toArray, List.set_cons_zero, List.set_cons_succ]
          refine Lex.wpZ_ready (rs := [10]) (by kernel_rfl) (by simp) ?_
          refine Lex.ReadyZ.cons rfl (fun K hK => ?_) Lex.ReadyZ.nil
          refine app24 rfl _ _ rfl _ _ _ rfl _ _ _ _ rfl HB.out.size b4 o4 t4.src (by have := HRM.out; omega) ?_
          intro vt yt bt ot kt
          clear kt
          refine hK.out _ _ (.inr (HXT.out _ bt)) ?_
          clear hK K
          try simp only [Act.put, List.getElem_toArray, List.getElem_cons_zero, List.getElem_cons_succ, List.setIfInBounds_toArray, List.set_cons_zero, List.set_cons_succ]
          refine Lex.wpZ_ready (rs := [14]) (by kernel_rfl) (by simp) ?_
          refine Lex.ReadyZ.cons rfl (fun K hK => ?_) Lex.ReadyZ.nil
          refine app24 rfl _ _ rfl _ _ _ rfl _ _ _ _ rfl HB.out.size bt ot (HSR2.out _ bt) (by have := HRM.out; omega) ?_
          intro vu yu bu ou ku
          clear ku
          refine hK.out _ _ (.inr (HXT.out _ bu)) ?_
          clear hK K
          try simp only [Act.put, List.getElem_toArray, List.getElem_cons_zero, List.getElem_cons_succ, List.setIfInBounds_toArray, List.set_cons_zero, List.set_cons_succ]
          refine Lex.wpZ_ready (rs := [15]) (by kernel_rfl) (by simp) ?_
          refine Lex.ReadyZ.cons rfl (fun K hK => ?_) Lex.ReadyZ.nil
          go_simp
          refine hK.out _ _ (.inl rfl) ?_
          clear hK K
          try simp only [Act.put, List.getElem_toArray, List.getElem_cons_zero, List.getElem_cons_succ, List.setIfInBounds_toArray, List.set_cons_zero, List.set_cons_succ]
          refine Lex.wpZ_done (by kernel_rfl) ?_ _
          have HOU := Lib.hid ou
          have HBU := Lib.hid bu
          clear ou bu
          go_wp2_with fail
          go_roundg (n - (i + 1))
          case measure => omega
          case rel =>
            obtain ⟨out2, q1, q2, q3, q4, q5⟩ := HFIN.out _ _ HOU.out HBU.out
            exact ⟨i + 1, out2, by omega, rfl, by go_num, q1, q2, q3, q4, q5⟩
    · obtain rfl : i = n := by omega
      have hlti : ¬ (i : Int) < (i : Int) := by omega
      go_wp2_with fail
      go_ret
      have hsame := HSAME.out
      rw [List.take_of_length_le (by rw [HLN.out]; omega)] at hsame
      obtain ⟨hlen, hget⟩ := HL.out.sorted HSRT.out hsame
      obtain ⟨a2, c2, hv2, hrow⟩ := RowOf.of_owns (r := entryRd k) (bytes := 56) (F := All) HOWN.out (by omega) (show (sortE l).length = i by rw [← hlen, HOL.out]) HLL.out.room (fun b _ => trivial) (fun t x hx => by
        obtain ⟨e, he, hE⟩ := hget t x hx
        have hcs : ((cellsOf out).drop (t * 5)).take 5 = e.cells := by
          rw [cellsOf_drop, drop_cons he]
          exact List.take_left' rfl
        rw [hcs]
        exact ⟨rfl, (hE.keep (Fix.of_below HB.out)).entry⟩)
      cases hv2
      exact ⟨_, _, rfl, hrow, HB.out⟩
end Go.Proofs.YtephllgddhncgaaGreatDoor.Stab
