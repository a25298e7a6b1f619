/- A call's line taken. -/
import Derived.Test.YtplhmcmfdcklaaaDoorTake
import Derived.RegionTactic
import Derived.Deep.RegionHeldLaw
import Derived.Test.YtplhmcmfdcklaaaDoorHeldZ
namespace Go.Proofs.YtplhmcmfdcklaaaDoor.Lex
open Go.RowKit
set_option linter.unusedSimpArgs false
set_option linter.unusedVariables false
theorem step_appC {P : Program} {w : World} {ops : Array Oper} {o : Oper} {a : Act} {K : Act → World → Prop} {Q : Exit → Act → World → Prop} {E0 : Prop} (hgd : o.guard = none) (s x : Operand) (t : TypeId)
    (ho : o.op = .call { callee := .builtin .append, args := #[s, x], argTypes := #[t, t] })
    {base : Nat} {e : TypeId} {size bytes : Nat} (E : Elem P t e size bytes)
    (v : Value) (n : Nat) (xs : List Value) (hs : a.eval s = v) (ad : Option Addr) (m c : Nat) (news : List Value) (hx : a.eval x = .slice ad m c)
    (hown : w.ownsRow base e size v n xs) (hsrc : Src w ad m c size news)
    (h63 : n + m ≤ maxLen) (hbytes : (n + m) * bytes ≤ 140737488355328) (hbase : base ≤ w.heap.size)
    (h : ∀ v' w', w'.ownsRow base e size v' (n + m) (xs ++ news) → w.grownBy w' v.ownBlock → K (a.put o.dst v') w') :
    if Region.wanted o (yielded ops a.tmps) = true then Oper.wp P o a w K Q else E0 := by
  have hw : Region.wanted o (yielded ops a.tmps) = true := by simp [Region.wanted, hgd]
  rw [if_pos hw]
  obtain ⟨z, hi, hzs⟩ := E.row
  obtain ⟨i, hi, hz0, hz1, hz2⟩ := info_parts hi
  cases ad with
  | some ad => exact wp_append_own w s x t ho base e i z size bytes E.ht hi hz0 hz1 hz2 hzs E.pos v n xs hs hown ad m c news hx hsrc.len (hsrc.at_ ad rfl) hsrc.one h63 hbytes hbase fun v' w' h1 h2 _ => h v' w' h1 h2
  | none =>
    obtain ⟨rfl, rfl⟩ := hsrc.nil rfl
    have hn : news = [] := List.eq_nil_of_length_eq_zero (by have := hsrc.len; omega)
    subst hn
    have hrun := run_append_owned_none (P := P) (w := w) base t o.type e i size E.ht hi v n xs hown
    unfold Oper.wp
    simp [execOp, ho, resolve, invoke, builtin, hs, hx, hrun, Result.andThen]
    exact h v w (by simpa using hown) (grown_refl _ _)
theorem src_newC (W : World) (cs : List Value) (e : TypeId) (n : Nat) (h : cs.length = n) (h1 : ∀ u ∈ cs, u.oneCell' = true) : Src (W.alloc (.cells cs.toArray e)) (some ⟨W.heap.size, 0, none⟩) 1 1 n cs := by
  refine ⟨by omega, by simp, fun x hx j u hu => ?_, h1⟩
  cases hx
  rw [Addr.add_lit, Nat.zero_add]
  exact cell_at (heap_alloc_new W _) (by simpa using hu)
theorem one7 (a b d : Int) (t : ByteArray) (y z : Int) (ax : Option Addr) (n c : Nat) : ∀ u ∈ [Value.int .i64 a, .int .i64 b, .int .i64 d, .string t, .int .i64 y, .int .i64 z, .slice ax n c], u.oneCell' = true := by
  intro v hv
  simp at hv
  rcases hv with rfl | rfl | rfl | rfl | rfl | rfl | rfl <;> rfl
theorem callElemL : Elem Tryd.prog 55 28 7 80 := ⟨Tryd.underlying55, ⟨.agg #[.int .i64 0, .int .i64 0, .int .i64 0, .string ByteArray.empty, .int .i64 0, .int .i64 0, .slice none 0 0], by kernel_rfl, rfl⟩, by omega⟩
theorem addLast_some : ∀ {L : List (List CallV)} (h : L ≠ []) (c : CallV), addLast L c = some (L.dropLast ++ [L.getLast h ++ [c]])
  | [l], _, c => rfl
  | l :: m :: L, _, c => by
    have ih := addLast_some (L := m :: L) (by simp) c
    rw [addLast, ih]
    · simp
    · intro e; cases e
theorem own_apart {w : World} {B base size n size' n' b R gC M : Nat} {v : Value} {xs xs' : List Value} {e e' : TypeId} {cs : Array Value} {f : Nat × Nat} (h : w.ownsRow B e size v n xs) (hb : v.ownBlock = some b) (hR : w.heap[R]? = some (.cells cs 74 f)) (hC : w.ownsRow base e' size' (.slice (some ⟨gC, 0, none⟩) n' M) n' xs') (h1 : e ≠ 74) (h2 : e ≠ e') : b < w.heap.size ∧ b ≠ R ∧ b ≠ gC := by
  rcases h.2 with ⟨rfl, _⟩ | ⟨g, cap, cur, rfl, _, hg, _⟩
  · cases hb
  · cases hb
    refine ⟨(Array.getElem?_eq_some_iff.1 hg).1, fun e => ?_, fun e => ?_⟩
    · subst e
      rw [hR] at hg
      cases hg
      exact h1 rfl
    · rcases hC.2 with ⟨hv, _⟩ | ⟨g', cap', cur', hv, _, hg', _⟩
      · cases hv
      · cases hv
        subst e
        rw [hg'] at hg
        cases hg
        exact h2 rfl
theorem readPost_nget {ws : List (List UInt8)} {w w' : World} {e : Ending} (hp : ReadPost ws w e w') (h : readW ws = none) : Below w.heap.size w w' ∧ ∃ k n d t y z ax xm xc, e = .returned (.tuple #[.agg #[.int .i64 k, .int .i64 n, .int .i64 d, .string t, .int .i64 y, .int .i64 z, .slice ax xm xc], .bool false]) := by
  obtain ⟨hb, hm⟩ := hp
  rw [h] at hm
  exact ⟨hb, hm⟩
theorem readPost_get {ws : List (List UInt8)} {w w' : World} {e : Ending} {c : CallV} (hp : ReadPost ws w e w') (h : readW ws = some c) : Below w.heap.size w w' ∧ ∃ a cap, e = .returned (.tuple #[c.val a cap, .bool true]) ∧ U64T w' a c.xs ∧ c.xs.length ≤ cap ∧ (a = none → cap = 0) := by
  obtain ⟨hb, hm⟩ := hp
  rw [h] at hm
  exact ⟨hb, hm⟩
/-- A cell of an owned row, as its block holds it. -/
theorem own_in {w : World} {base : Nat} {e : TypeId} {size n : Nat} {v : Value} {xs : List Value} {a : Option Addr} {c : Nat} (hv : v = .slice a n c) (h : w.ownsRow base e size v n xs) (h0 : 0 < n) : ∃ (g : Nat) (cur : Array Value), a = some ⟨g, 0, none⟩ ∧ base ≤ g ∧ g < w.heap.size ∧ w.heap[g]? = some (.cells cur e (0, 0)) ∧ ∀ (i : Nat) (u : Value), xs[i]? = some u → cur[i]? = some u := by
  rcases h.2 with ⟨_, h1⟩ | ⟨g', cap', cur, h1, hb, hg, hn, hm, hs, ht⟩
  · omega
  · rw [hv] at h1
    cases h1
    refine ⟨g', cur, rfl, hb, (Array.getElem?_eq_some_iff.1 hg).1, hg, fun i u hi => ?_⟩
    have hi' := (List.getElem?_eq_some_iff.1 hi).1
    rw [h.1] at hi'
    rw [← ht, List.getElem?_take, if_pos hi'] at hi
    simpa using hi
/-- A row of calls and one more. -/
theorem CallT.add {w w' : World} {B B' : Nat} {v : Value} {a a' : Option Addr} {n c' : Nat} {l : List CallV} {csL : List Value} {c : CallV} {ax : Option Addr} {cx : Nat} {cL : Nat} (hn : l.length = n) (ho : w.ownsRow B 28 7 (.slice a n cL) n csL) (hT : CallT w w.heap.size a l) (hk : ∀ (g : Nat) (cs : Array Value) (f : Nat × Nat), w.heap[g]? = some (.cells cs 57 f) → w'.heap[g]? = w.heap[g]?)
    (hv : v = .slice a' (n + 1) c') (ho' : w'.ownsRow B' 28 7 v (n + 1) (csL ++ [.int .i64 c.kind, .int .i64 c.n, .int .i64 c.dir, .string c.text, .int .i64 c.who, .int .i64 c.at_, .slice ax c.xs.length cx]))
    (hx : U64T w' ax c.xs) (hxl : c.xs.length ≤ cx) (hxn : ax = none → cx = 0) : CallT w' w'.heap.size a' (l ++ [c]) := by
  have hcl : csL.length = n * 7 := ho.1
  obtain ⟨g', cur', ha', _, hlt', hg', hin'⟩ := own_in hv ho' (by omega)
  intro k hk1
  by_cases hkl : k < l.length
  · obtain ⟨g, off, cs, f, bx, dx, h1, hb, h2, c0, c1, c2, c3, c4, c5, c6, hu, h3⟩ := hT k hkl
    obtain ⟨g2, cur, ha, _, _, hg2, hin⟩ := own_in rfl ho (by omega)
    rw [ha] at h1
    cases h1
    rw [h2] at hg2
    cases hg2
    have back : ∀ (i : Nat) (u : Value), i < n * 7 → cs[i]? = some u → cur'[i]? = some u := fun i u hi hu => by
      refine hin' i u ?_
      rw [List.getElem?_append_left (by omega), List.getElem?_eq_getElem (by omega)]
      have := hin i _ (List.getElem?_eq_getElem (l := csL) (by omega))
      rw [hu] at this
      exact this.symm
    simp only [List.getElem_append_left hkl]
    simp only [Nat.zero_add] at c0 c1 c2 c3 c4 c5 c6
    refine ⟨g', 0, cur', _, bx, dx, ha', hlt', hg', ?_, ?_, ?_, ?_, ?_, ?_, ?_, fun i hi => ?_, h3⟩
    · exact by rw [Nat.zero_add]; exact back _ _ (by omega) c0
    · exact by rw [Nat.zero_add]; exact back _ _ (by omega) c1
    · exact by rw [Nat.zero_add]; exact back _ _ (by omega) c2
    · exact by rw [Nat.zero_add]; exact back _ _ (by omega) c3
    · exact by rw [Nat.zero_add]; exact back _ _ (by omega) c4
    · exact by rw [Nat.zero_add]; exact back _ _ (by omega) c5
    · exact by rw [Nat.zero_add]; exact back _ _ (by omega) c6
    · obtain ⟨gu, offu, csu, fu, u1, u2, u3⟩ := hu i hi
      exact ⟨gu, offu, csu, fu, u1, (hk gu csu fu u2).trans u2, u3⟩
  · have hke : k = n := by simp at hk1; omega
    subst hke
    have hel : (l ++ [c])[k]'hk1 = c := by simp [List.getElem_append_right, hn]
    rw [hel]
    have new : ∀ (j : Nat) (u : Value), [Value.int .i64 c.kind, .int .i64 c.n, .int .i64 c.dir, .string c.text, .int .i64 c.who, .int .i64 c.at_, .slice ax c.xs.length cx][j]? = some u → cur'[k * 7 + j]? = some u := fun j u hu => by
      refine hin' _ u ?_
      rw [List.getElem?_append_right (by omega), hcl, Nat.add_sub_cancel_left]
      exact hu
    refine ⟨g', 0, cur', _, ax, cx, ha', hlt', hg', ?_, ?_, ?_, ?_, ?_, ?_, ?_, hx, hxl, hxn⟩
    · exact by rw [Nat.zero_add]; exact new 0 _ rfl
    · exact by rw [Nat.zero_add]; exact new 1 _ rfl
    · exact by rw [Nat.zero_add]; exact new 2 _ rfl
    · exact by rw [Nat.zero_add]; exact new 3 _ rfl
    · exact by rw [Nat.zero_add]; exact new 4 _ rfl
    · exact by rw [Nat.zero_add]; exact new 5 _ rfl
    · exact by rw [Nat.zero_add]; exact new 6 _ rfl
/-- A cell of an owned row set. -/
theorem own_set {w : World} {base : Nat} {e : TypeId} {g n cap M : Nat} {xs : List Value} (h : w.ownsRow base e 1 (.slice (some ⟨g, 0, none⟩) n cap) n xs) (v : Value) : (w.setCell ⟨g, M, none⟩ v).ownsRow base e 1 (.slice (some ⟨g, 0, none⟩) n cap) n (xs.set M v) := by
  refine ⟨by rw [List.length_set]; exact h.1, ?_⟩
  rcases h.2 with ⟨h1, _⟩ | ⟨g', cap', cur, h1, hb, hg, hn, hm, hs, ht⟩
  · cases h1
  · cases h1
    refine .inr ⟨g, cap, cur.setIfInBounds M v, rfl, hb, heap_set_at (o := M) v hg, hn, hm, by simpa using hs, ?_⟩
    rw [Array.toList_setIfInBounds, List.take_set, ht]
/-- A row of another type is untouched by it. -/
theorem own_otherT {w : World} {base : Nat} {e T : TypeId} {size n gC M : Nat} {v u : Value} {xs : List Value} {cs : Array Value} {f : Nat × Nat} (h : w.ownsRow base e size v n xs) (hC : w.heap[gC]? = some (.cells cs T f)) (hT : e ≠ T) : (w.setCell ⟨gC, M, none⟩ u).ownsRow base e size v n xs := by
  refine ⟨h.1, ?_⟩
  rcases h.2 with hn | ⟨g, cap, cur, rfl, hbg, hg, rest⟩
  · exact .inl hn
  · refine .inr ⟨g, cap, cur, rfl, hbg, ?_, rest⟩
    rw [Below.heap_setCell _ _ _ _ (fun e => by
      have e' : g = gC := e
      subst e'
      rw [hg] at hC
      cases hC
      exact hT rfl)]
    exact hg
/-- The state behind a call's line. -/
theorem rs_call {W1 wA w5 w6 : World} {k : Nat} {S : ScrV} {c : CallV} {cells csL : List Value} {B gC cC LL cL M cx c6 : Nat} {aL ax a6 : Option Addr} {v6 vP vT : Value} (hne : S.clients ≠ []) (h1 : W1.heap.size < B) (h2A : B ≤ wA.heap.size) (hbC : W1.heap.size + 1 ≤ gC) (hgC : gC < wA.heap.size)
    (H3 : wA.ownsRow (W1.heap.size + 1) 55 1 (.slice (some ⟨gC, 0, none⟩) S.clients.length cC) S.clients.length cells)
    (H4 : ∀ (i : Nat) (h : i < S.clients.length), i + 1 < S.clients.length → ∃ a c, cells[i]? = some (.slice a (S.clients[i]'h).length c) ∧ CallT wA B a (S.clients[i]'h))
    (HM : S.clients.length = M + 1) (HLL : LL = (S.clients[S.clients.length - 1]'(by omega)).length) (HQ2 : wA.ownsRow B 28 7 (.slice aL LL cL) LL csL) (HQ3 : CallT wA wA.heap.size aL (S.clients[S.clients.length - 1]'(by omega)))
    (HBA : Below W1.heap.size W1 wA) (HB5 : Below wA.heap.size wA w5) (HX5 : U64T w5 ax c.xs) (hxl : c.xs.length ≤ cx) (hxn : ax = none → cx = 0) {o : Obj} (HG6 : (w5.alloc o).drew.grownBy w6 (Value.slice aL LL cL).ownBlock)
    (HO6 : w6.ownsRow B 28 7 v6 (LL + 1) (csL ++ [.int .i64 c.kind, .int .i64 c.n, .int .i64 c.dir, .string c.text, .int .i64 c.who, .int .i64 c.at_, .slice ax c.xs.length cx])) (HE6 : v6 = .slice a6 (LL + 1) c6)
    (HNL : ∀ b, (Value.slice aL LL cL).ownBlock = some b → b < wA.heap.size ∧ b ≠ W1.heap.size ∧ b ≠ gC)
    (HBX : wA.heap[W1.heap.size]? = some (.cells #[.int .i64 S.stripes, .int .i64 S.room, .slice (some ⟨gC, 0, none⟩) S.clients.length cC, vP, vT, .int .i64 ((k : Int) + 1)] 74 (0, 0))) (HPA : IntV wA vP S.picks) (HTA : IntV wA vT S.ticks) :
    RS W1 (w6.setCell ⟨gC, M, none⟩ (.slice a6 (LL + 1) c6)) (k + 1) { S with clients := S.clients.dropLast ++ [S.clients.getLast hne ++ [c]] } := by
  obtain ⟨wB, hwB⟩ : ∃ wB, wB = (w5.alloc o).drew := ⟨_, rfl⟩
  rw [← hwB] at HG6
  have h5B : Below w5.heap.size w5 wB := by rw [hwB]; exact ((Below.refl _ _).alloc (Nat.le_refl _) _).drew
  have hAB : Below wA.heap.size wA wB := HB5.trans (h5B.mono HB5.size)
  have hob : wB.ownsRow B 28 7 (.slice aL LL cL) LL csL := own_below HQ2 hAB
  have kAB : Kept B wA wB := Kept.of_below hAB
  have kB6 : Kept B wB w6 := Kept.of_grown HG6 hob (by decide) (by decide) (fun _ => Nat.le_refl _)
  have hRz : W1.heap.size < wA.heap.size := by omega
  have old : ∀ b, b < wA.heap.size → (∀ b', (Value.slice aL LL cL).ownBlock = some b' → b ≠ b') → w6.heap[b]? = wA.heap[b]? := fun b hb hn =>
    (HG6.block b (Nat.lt_of_lt_of_le hb hAB.size) (fun e => hn b e.symm rfl)).trans (hAB.block b hb)
  have eC := old gC hgC (fun b' hb => (HNL b' hb).2.2.symm)
  have eR := old W1.heap.size hRz (fun b' hb => (HNL b' hb).2.1.symm)
  obtain ⟨g', curC, hgg, _, _, hcurC, _⟩ := own_in rfl H3 (by omega)
  cases hgg
  have h6C : w6.heap[gC]? = some (.cells curC 55 (0, 0)) := eC.trans hcurC
  have k6F : ∀ B', Kept B' w6 (w6.setCell ⟨gC, M, none⟩ (.slice a6 (LL + 1) c6)) := fun B' => Kept.setCell h6C (by decide) (by decide) (fun e => absurd e (by decide))
  have kAF : Kept B wA (w6.setCell ⟨gC, M, none⟩ (.slice a6 (LL + 1) c6)) := (kAB.trans kB6).trans (k6F B)
  have hz6 : wB.heap.size ≤ w6.heap.size := HG6.size
  have hAz := hAB.size
  have hF : Below W1.heap.size W1 (w6.setCell ⟨gC, M, none⟩ (.slice a6 (LL + 1) c6)) :=
    ((HBA.trans (hAB.mono (by omega))).grown HG6 (by omega) (fun b hb => by have := own_lt hob b hb; omega)).setCell (by show W1.heap.size ≤ gC; omega) _
  have h3F : w6.ownsRow (W1.heap.size + 1) 55 1 (.slice (some ⟨gC, 0, none⟩) S.clients.length cC) S.clients.length cells := by
    refine ⟨H3.1, ?_⟩
    rcases H3.2 with ⟨q, _⟩ | ⟨g, cap, cur, q, hbg, hg, rest⟩
    · cases q
    · cases q
      exact .inr ⟨_, _, cur, rfl, hbg, eC.trans hg, rest⟩
  have hcl : cells.length = S.clients.length := by have := H3.1; omega
  have hlen : (S.clients.dropLast ++ [S.clients.getLast hne ++ [c]]).length = S.clients.length := by simp; omega
  have hgl : S.clients.getLast hne = S.clients[S.clients.length - 1]'(by omega) := List.getLast_eq_getElem hne
  have hLe : (S.clients.dropLast ++ [S.clients.getLast hne ++ [c]])[(S.clients.dropLast ++ [S.clients.getLast hne ++ [c]]).length - 1]'(by simp) = S.clients.getLast hne ++ [c] := by simp
  refine ⟨hF, .slice (some ⟨gC, 0, none⟩) S.clients.length cC, vP, vT, (Below.heap_setCell _ _ _ _ (by show W1.heap.size ≠ gC; omega)).trans (eR.trans HBX), HPA.keep kAF, HTA.keep kAF, ?_⟩
  unfold RC
  refine ⟨cells.set M (.slice a6 (LL + 1) c6), B, h1, by simp; omega, ?_, fun i hi hl => ?_, fun hi => ?_⟩
  · show World.ownsRow _ _ _ _ _ (S.clients.dropLast ++ [S.clients.getLast hne ++ [c]]).length _
    rw [hlen]
    exact own_set h3F _
  · have hl' : i + 1 < S.clients.length := by have := hl; simp only at this; omega
    have hiM : M ≠ i := by omega
    obtain ⟨a, c', e1, e2⟩ := H4 i (by omega) hl'
    have hel : (S.clients.dropLast ++ [S.clients.getLast hne ++ [c]])[i]'hi = S.clients[i]'(by omega) := by
      rw [List.getElem_append_left (by simp; omega), List.getElem_dropLast]
    simp only [hel]
    exact ⟨a, c', by rw [List.getElem?_set_ne hiM]; exact e1, e2.keep kAF⟩
  · simp only [hLe]
    refine ⟨a6, c6, csL ++ [.int .i64 c.kind, .int .i64 c.n, .int .i64 c.dir, .string c.text, .int .i64 c.who, .int .i64 c.at_, .slice ax c.xs.length cx], ?_, ?_, ?_⟩
    · simp only [hlen, HM, Nat.add_sub_cancel]
      rw [List.getElem?_set_self (by omega), List.length_append, hgl, ← HLL]
      rfl
    · rw [List.length_append, hgl, ← HLL]
      have := own_otherT (M := M) (u := .slice a6 (LL + 1) c6) HO6 h6C (by decide)
      rw [HE6] at this
      exact this
    · have hc := CallT.add (w := wB) (w' := w6) (by rw [HLL]) hob ((HQ3.keep (Kept.of_below hAB)).mono hAz) kB6.u64 HE6 HO6 ((HX5.keep h5B).kept kB6) hxl hxn
      rw [hgl]
      exact (hc.keep (k6F _)).mono (by simp)
set_option maxRecDepth 100000 in
set_option maxHeartbeats 8000000 in
/-- A call's line. -/
theorem take_call (W1 w : World) (k : Nat) (S : ScrV) (h : List UInt8) (rest : List (List UInt8)) (g off cap : Nat) (hk3 : 3 ≤ k) (hkm : k ≤ 1099511627776) (hS : RS W1 w k S) (c0 : w.cell? ⟨g, off, none⟩ = some (.string (bs h))) (hr : Txt w (some ⟨g, off + 1, none⟩) rest) (hcl : ¬ h = clientW) (hsh : Short rest) (hcap : rest.length + 1 ≤ cap) (hg : g ≠ W1.heap.size) (hL : S.clients.length ≤ 1099511627776)
    (hm : HasMax W1) (ht : HasTab W1) (he : HasErrs W1) (hlast : ∀ l ∈ S.clients, l.length ≤ 1099511627776) :
    Calls Tryd.prog 31 #[.pointer (some ⟨W1.heap.size, 0, none⟩), .slice (some ⟨g, off, none⟩) (rest.length + 1) cap] w (TakePost W1 (k + 1) (stepL k S (h :: rest))) := by
  obtain ⟨hB, vC, vP, vT, hbox, hP, hT, hC⟩ := hS
  obtain ⟨cells, B, h1, h2, h3, h4, h5⟩ := hC
  obtain ⟨aC, cC, rfl⟩ := own_slice h3
  have hrl := hsh.1
  have r5 := cell_at (o := 5) hbox rfl
  have f5 := free_at (o := 5) hbox
  have hm0 : ((rest.length : Int) + 1 == 0) = false := by
    simp only [beq_eq_false_iff_ne, ne_eq]
    omega
  have hk1 : ((k : Int) + 1 == 1) = false := by
    simp only [beq_eq_false_iff_ne, ne_eq]
    omega
  have hk2 : ((k : Int) + 1 == 2) = false := by
    simp only [beq_eq_false_iff_ne, ne_eq]
    omega
  have hk3' : ((k : Int) + 1 == 3) = false := by
    simp only [beq_eq_false_iff_ne, ne_eq]
    omega
  have hpt : ((bs h).toList == [99, 108, 105, 101, 110, 116]) = false := text_no hcl
  have c0' : (w.setCell ⟨W1.heap.size, 5, none⟩ (.int .i64 ((k : Int) + 1))).cell? ⟨g, off, none⟩ = some (.string (bs h)) := (World.cell?_of_block (a := ⟨g, off, none⟩) (Below.heap_setCell _ _ _ _ hg)).trans c0
  go_enter Tryd.func31, Tryd.ntmps31
  go_upto_region 5 with fail
  obtain ⟨wA, hwA⟩ : ∃ wA, wA = w.setCell ⟨W1.heap.size, 5, none⟩ (.int .i64 ((k : Int) + 1)) := ⟨_, rfl⟩
  have hA : ButR W1.heap.size w wA := by rw [hwA]; exact ButR.set _ _ _ _
  have hboxA := heap_set_at (o := 5) (.int .i64 ((k : Int) + 1)) hbox
  rw [← hwA] at hboxA c0' ⊢
  have hBA : Below W1.heap.size W1 wA := by rw [hwA]; exact hB.setCell (Nat.le_refl _) _
  have HK : Hid (Kept wA.heap.size w wA) := Lib.hid (hA.kept hbox)
  have HPA := Lib.hid (hP.keep HK.out)
  have HTA := Lib.hid (hT.keep HK.out)
  have h3A := hA.own (by omega) h3
  have h4A : ∀ (i : Nat) (h : i < S.clients.length), i + 1 < S.clients.length → ∃ a c, cells[i]? = some (.slice a (S.clients[i]'h).length c) ∧ CallT wA B a (S.clients[i]'h) := fun i hi hl => by
    obtain ⟨a, c, e1, e2⟩ := h4 i hi hl
    exact ⟨a, c, e1, e2.keep (hA.kept hbox)⟩
  have h5A : ∀ (h : 0 < S.clients.length), ∃ a c cs, cells[S.clients.length - 1]? = some (.slice a (S.clients[S.clients.length - 1]'(by omega)).length c) ∧ wA.ownsRow B 28 7 (.slice a (S.clients[S.clients.length - 1]'(by omega)).length c) (S.clients[S.clients.length - 1]'(by omega)).length cs ∧
      CallT wA wA.heap.size a (S.clients[S.clients.length - 1]'(by omega)) := fun hi => by
    obtain ⟨a, c, cs, e1, e2, e3⟩ := h5 hi
    exact ⟨a, c, cs, e1, hA.own h1 e2, (e3.keep (hA.kept hbox)).mono hA.size⟩
  have h2A : B ≤ wA.heap.size := Nat.le_trans h2 hA.size
  have H4 := Lib.hid h4A
  have H5 := Lib.hid h5A
  have H3 := Lib.hid h3A
  have HBA := Lib.hid hBA
  have HBX := Lib.hid hboxA
  have x5 := cell_at (o := 5) hboxA rfl
  have x2 := cell_at (o := 2) hboxA rfl
  have hRz : W1.heap.size < wA.heap.size := (Array.getElem?_eq_some_iff.1 hboxA).1
  have hRz1 : W1.heap.size + 1 ≤ wA.heap.size := hRz
  clear hwA h4A h5A h3A hBA hboxA
  have HRW := Lib.hid (read_core h rest g off cap wA c0' (hr.but hA (fun g' off' e => by cases e; exact hg)) hsh hcap (hm.below HBA.out) (ht.below HBA.out) (he.below HBA.out))
  have HLAST := Lib.hid hlast
  clear r5 f5 c0
  clear hP hT h3 h4 h5 h2 hA HK
  have HCL := Lib.hid hcl
  clear hB hbox hsh hcl hr hm ht he hlast
  cases hrw : readW (h :: rest) with
  | none =>
    have HST : Hid (stepL k S (h :: rest) = none) := Lib.hid (by
      simp only [stepL]
      rw [if_neg (by omega), if_neg (by omega), if_neg (by omega), if_neg HCL.out, hrw])
    go_wp2_with (go_at_call 49; (with_reducible refine HRW.out.mono ?_); rintro e w2 hp; obtain ⟨hb2, v1, v2, v3, v4, v5, v6, v7, v8, v9, rfl⟩ := readPost_nget hp hrw; have HB2 := Lib.hid hb2; obtain ⟨kc2, kf2⟩ := bcell hb2; have hR2 : W1.heap.size < w2.heap.size := Nat.lt_of_lt_of_le hRz hb2.size; clear hp hb2)
    go_ret
    exact takePost_no HST.out ⟨(HBA.out.trans (HB2.out.mono HBA.out.size)).alloc (Nat.le_trans HBA.out.size HB2.out.size) _, _, (Lib.alloc_old _ _ _ (Nat.lt_of_lt_of_le hRz HB2.out.size)).trans ((HB2.out.block _ hRz).trans HBX.out), rfl⟩
  | some c =>
    by_cases hL0 : S.clients = []
    · have HST : Hid (stepL k S (h :: rest) = none) := Lib.hid (by
        simp only [stepL]
        rw [if_neg (by omega), if_neg (by omega), if_neg (by omega), if_neg HCL.out, hrw, hL0]
        rfl)
      have hl0 : S.clients.length = 0 := by rw [hL0]; rfl
      rw [hl0] at x2
      go_wp2_with (go_at_call 49; (with_reducible refine HRW.out.mono ?_); rintro e w2 hp; obtain ⟨hb2, ax, cx, rfl, _⟩ := readPost_get hp hrw; have HB2 := Lib.hid hb2; obtain ⟨kc2, kf2⟩ := bcell hb2; have hR2 : W1.heap.size < w2.heap.size := Nat.lt_of_lt_of_le hRz hb2.size; clear hp hb2)
      go_ret
      exact takePost_no HST.out ⟨(HBA.out.trans (HB2.out.mono HBA.out.size)).alloc (Nat.le_trans HBA.out.size HB2.out.size) _, _, (Lib.alloc_old _ _ _ (Nat.lt_of_lt_of_le hRz HB2.out.size)).trans ((HB2.out.block _ hRz).trans HBX.out), rfl⟩
    · have hn0 : 0 < S.clients.length := by
        rcases Nat.eq_zero_or_pos S.clients.length with e | e
        · exact absurd (List.eq_nil_of_length_eq_zero e) hL0
        · exact e
      obtain ⟨aL, cL, csL, q1, q2, q3⟩ := H5.out hn0
      obtain ⟨gC, capC, eC, hbC, hgC, _, _⟩ := own_some H3.out hn0
      cases eC
      obtain ⟨LL, hLL⟩ : ∃ LL, LL = (S.clients[S.clients.length - 1]'(by omega)).length := ⟨_, rfl⟩
      rw [← hLL] at q1 q2
      have HLL := Lib.hid hLL
      have hLm : LL ≤ 1099511627776 := by rw [hLL]; exact HLAST.out _ (List.getElem_mem _)
      obtain ⟨M, hM⟩ : ∃ M, S.clients.length = M + 1 := ⟨S.clients.length - 1, by omega⟩
      have hMe : S.clients.length - 1 = M := by omega
      have x2' : wA.cell? ⟨W1.heap.size, 2, none⟩ = some (.slice (some ⟨gC, 0, none⟩) (M + 1) cC) := by rw [← hM]; exact x2
      clear x2
      have hMm : M + 1 ≤ 1099511627776 := by omega
      have q1' : cells[M]? = some (.slice aL LL cL) := by
        rw [← hMe]
        exact q1
      have HQ1 := Lib.hid q1'
      have qC := (own_cell (i := M) H3.out q1').1
      have qF := (own_cell (i := M) H3.out q1').2
      clear q1 q1'
      have HQ2 := Lib.hid q2
      have HQ3 := Lib.hid q3
      have hgR : ¬ gC = W1.heap.size := by omega
      have hn1 : (0 : Int) < (M : Int) + 1 := by omega
      clear hLL
      have HM := Lib.hid hM
      have HME := Lib.hid hMe
      clear hM hMe
      clear q2 q3 hL0
      go_upto_region 20 with (go_at_call 49; (with_reducible refine HRW.out.mono ?_); rintro e w2 hp; obtain ⟨hb2, ax, cx, rfl, hx, hxl, hxn⟩ := readPost_get hp hrw; have HB2 := Lib.hid hb2; have HX := Lib.hid hx; obtain ⟨kc2, kf2⟩ := bcell hb2; have hR2 : W1.heap.size < w2.heap.size := Nat.lt_of_lt_of_le hRz hb2.size; clear hp hb2 hx)
      obtain ⟨w5, hw5⟩ : ∃ w5, w5 = w2.alloc (.cells #[.int .i64 c.kind, .int .i64 c.n, .int .i64 c.dir, .string c.text, .int .i64 c.who, .int .i64 c.at_, .slice ax c.xs.length cx] 28) := ⟨_, rfl⟩
      rw [← hw5]
      have hb5 : Below w2.heap.size w2 w5 := by rw [hw5]; exact (Below.refl _ _).alloc (Nat.le_refl _) _
      have g5 : w5.heap[w2.heap.size]? = some (.cells #[.int .i64 c.kind, .int .i64 c.n, .int .i64 c.dir, .string c.text, .int .i64 c.who, .int .i64 c.at_, .slice ax c.xs.length cx] 28 (0, 0)) := by rw [hw5]; exact heap_alloc_new w2 _
      have HBA5 : Below wA.heap.size wA w5 := HB2.out.trans (hb5.mono HB2.out.size)
      have HB5 := Lib.hid HBA5
      have hz5 : wA.heap.size ≤ w5.heap.size := HBA5.size
      have b0 := cell_at (o := 0) g5 rfl
      have b1 := cell_at (o := 1) g5 rfl
      have b2 := cell_at (o := 2) g5 rfl
      have b3 := cell_at (o := 3) g5 rfl
      have b4 := cell_at (o := 4) g5 rfl
      have b5 := cell_at (o := 5) g5 rfl
      have b6 := cell_at (o := 6) g5 rfl
      have hgCz : gC < wA.heap.size := World.block_lt_of_cell? wA _ qC
      have xx2 := (HBA5.cell (p := ⟨W1.heap.size, 2, none⟩) hRz).trans x2'
      have qq := (HBA5.cell (p := ⟨gC, M, none⟩) hgCz).trans qC
      have qf := (HBA5.frozen (p := ⟨gC, M, none⟩) hgCz).trans qF
      have HX5 := Lib.hid (HX.out.keep hb5)
      clear hw5 hb5 HBA5 kc2 kf2 x2' x5 qC qF
      have hz25 : w2.heap.size < w5.heap.size := (Array.getElem?_eq_some_iff.1 g5).1
      have hzR5 : W1.heap.size < w5.heap.size := by omega
      have hzC5 : gC < w5.heap.size := by omega
      have HOW : Hid (∀ W, Below w5.heap.size w5 W → W.ownsRow B 28 7 (.slice aL LL cL) LL csL) := Lib.hid fun W hb => by
        have := own_below (own_below HQ2.out HB5.out) hb
        exact this
      have HSRC : Hid (∀ o : Obj, o = .cells #[.int .i64 c.kind, .int .i64 c.n, .int .i64 c.dir, .string c.text, .int .i64 c.who, .int .i64 c.at_, .slice ax c.xs.length cx] 28 → Src (w5.alloc o).drew (some ⟨w5.heap.size, 0, none⟩) 1 1 7 [.int .i64 c.kind, .int .i64 c.n, .int .i64 c.dir, .string c.text, .int .i64 c.who, .int .i64 c.at_, .slice ax c.xs.length cx]) := Lib.hid fun o ho => by
        subst ho
        have hs := src_newC w5 [.int .i64 c.kind, .int .i64 c.n, .int .i64 c.dir, .string c.text, .int .i64 c.who, .int .i64 c.at_, .slice ax c.xs.length cx] 28 7 rfl (one7 _ _ _ _ _ _ _ _ _)
        exact ⟨hs.len, hs.nil, hs.at_, hs.one⟩
      have HSS : Hid (∀ W, Below w5.heap.size w5 W → W.cell? ⟨W1.heap.size, 2, none⟩ = some (.slice (some ⟨gC, 0, none⟩) (M + 1) cC) ∧ W.cell? ⟨w2.heap.size, 0, none⟩ = some (.int .i64 c.kind) ∧ W.cell? ⟨w2.heap.size, 1, none⟩ = some (.int .i64 c.n) ∧ W.cell? ⟨w2.heap.size, 2, none⟩ = some (.int .i64 c.dir) ∧ W.cell? ⟨w2.heap.size, 3, none⟩ = some (.string c.text) ∧ W.cell? ⟨w2.heap.size, 4, none⟩ = some (.int .i64 c.who) ∧ W.cell? ⟨w2.heap.size, 5, none⟩ = some (.int .i64 c.at_) ∧ W.cell? ⟨w2.heap.size, 6, none⟩ = some (.slice ax c.xs.length cx)) := Lib.hid fun W hb => by
        have e : ∀ b o, b < w5.heap.size → W.cell? ⟨b, o, none⟩ = w5.cell? ⟨b, o, none⟩ := fun b o h => hb.cell (p := ⟨b, o, none⟩) h
        refine ⟨(e _ _ hzR5).trans xx2, (e _ _ hz25).trans b0, (e _ _ hz25).trans b1, (e _ _ hz25).trans b2, (e _ _ hz25).trans b3, (e _ _ hz25).trans b4, (e _ _ hz25).trans b5, (e _ _ hz25).trans b6⟩
      have HNL : Hid (∀ b, (Value.slice aL LL cL).ownBlock = some b → b < wA.heap.size ∧ b ≠ W1.heap.size ∧ b ≠ gC) := Lib.hid fun b hb => own_apart HQ2.out hb HBX.out H3.out (by decide) (by decide)
      have HSG : Hid (∀ (o : Obj) (w6 : World) (r : Option Nat), (w5.alloc o).drew.grownBy w6 r → (∀ b, r = some b → b < wA.heap.size ∧ b ≠ W1.heap.size ∧ b ≠ gC) → w6.cell? ⟨W1.heap.size, 2, none⟩ = some (.slice (some ⟨gC, 0, none⟩) (M + 1) cC) ∧ w6.cell? ⟨w2.heap.size, 0, none⟩ = some (.int .i64 c.kind) ∧ w6.cell? ⟨w2.heap.size, 1, none⟩ = some (.int .i64 c.n) ∧ w6.cell? ⟨w2.heap.size, 2, none⟩ = some (.int .i64 c.dir) ∧ w6.cell? ⟨w2.heap.size, 3, none⟩ = some (.string c.text) ∧ w6.cell? ⟨w2.heap.size, 4, none⟩ = some (.int .i64 c.who) ∧ w6.cell? ⟨w2.heap.size, 5, none⟩ = some (.int .i64 c.at_) ∧ w6.cell? ⟨w2.heap.size, 6, none⟩ = some (.slice ax c.xs.length cx)) := Lib.hid fun o w6 r hg hr => by
        have e : ∀ b o', b < w5.heap.size → (∀ b', r = some b' → b ≠ b') → w6.cell? ⟨b, o', none⟩ = w5.cell? ⟨b, o', none⟩ := fun b o' h hn => by
          have h1 := hg.block b (by simp; omega) (fun e => hn b e.symm rfl)
          have h2 : (w5.alloc o).drew.heap[b]? = w5.heap[b]? := Lib.alloc_old _ _ _ h
          exact World.cell?_of_block (a := ⟨b, o', none⟩) (h1.trans h2)
        obtain ⟨s1, s3, s4, s5, s6, s7, s8, s9⟩ := HSS.out w5 (Below.refl _ _)
        have hN : ∀ b', r = some b' → w2.heap.size ≠ b' := fun b' hb => by have := (hr b' hb).1; have := HB2.out.size; omega
        exact ⟨(e _ _ hzR5 (fun b' hb => (hr b' hb).2.1.symm)).trans s1, (e _ _ hz25 hN).trans s3, (e _ _ hz25 hN).trans s4, (e _ _ hz25 hN).trans s5, (e _ _ hz25 hN).trans s6, (e _ _ hz25 hN).trans s7, (e _ _ hz25 hN).trans s8, (e _ _ hz25 hN).trans s9⟩
      have HFR : Hid (∀ (o : Obj) (w6 : World) (r : Option Nat), (w5.alloc o).drew.grownBy w6 r → (∀ b, r = some b → b < wA.heap.size ∧ b ≠ W1.heap.size ∧ b ≠ gC) → w6.frozen? ⟨gC, M, none⟩ = false ∧ w6.cell? ⟨gC, M, none⟩ = some (.slice aL LL cL)) := Lib.hid fun o w6 r hg hr => by
        have h1 := hg.block gC (by simp; omega) (fun e => (hr gC e.symm).2.2 rfl)
        have h2 : (w5.alloc o).drew.heap[gC]? = w5.heap[gC]? := Lib.alloc_old _ _ _ hzC5
        exact ⟨(World.frozen?_of_block (a := ⟨gC, M, none⟩) (h1.trans h2)).trans qf, (World.cell?_of_block (a := ⟨gC, M, none⟩) (h1.trans h2)).trans qq⟩
      have HSW : Hid (∀ (W : World) (v : Value), W.cell? ⟨W1.heap.size, 2, none⟩ = some (.slice (some ⟨gC, 0, none⟩) (M + 1) cC) ∧ W.cell? ⟨w2.heap.size, 0, none⟩ = some (.int .i64 c.kind) ∧ W.cell? ⟨w2.heap.size, 1, none⟩ = some (.int .i64 c.n) ∧ W.cell? ⟨w2.heap.size, 2, none⟩ = some (.int .i64 c.dir) ∧ W.cell? ⟨w2.heap.size, 3, none⟩ = some (.string c.text) ∧ W.cell? ⟨w2.heap.size, 4, none⟩ = some (.int .i64 c.who) ∧ W.cell? ⟨w2.heap.size, 5, none⟩ = some (.int .i64 c.at_) ∧ W.cell? ⟨w2.heap.size, 6, none⟩ = some (.slice ax c.xs.length cx) → (W.setCell ⟨gC, M, none⟩ v).cell? ⟨W1.heap.size, 2, none⟩ = some (.slice (some ⟨gC, 0, none⟩) (M + 1) cC) ∧ (W.setCell ⟨gC, M, none⟩ v).cell? ⟨w2.heap.size, 0, none⟩ = some (.int .i64 c.kind) ∧ (W.setCell ⟨gC, M, none⟩ v).cell? ⟨w2.heap.size, 1, none⟩ = some (.int .i64 c.n) ∧ (W.setCell ⟨gC, M, none⟩ v).cell? ⟨w2.heap.size, 2, none⟩ = some (.int .i64 c.dir) ∧ (W.setCell ⟨gC, M, none⟩ v).cell? ⟨w2.heap.size, 3, none⟩ = some (.string c.text) ∧ (W.setCell ⟨gC, M, none⟩ v).cell? ⟨w2.heap.size, 4, none⟩ = some (.int .i64 c.who) ∧ (W.setCell ⟨gC, M, none⟩ v).cell? ⟨w2.heap.size, 5, none⟩ = some (.int .i64 c.at_) ∧ (W.setCell ⟨gC, M, none⟩ v).cell? ⟨w2.heap.size, 6, none⟩ = some (.slice ax c.xs.length cx)) := Lib.hid fun W v hs => by
        have e : ∀ b o', b ≠ gC → (W.setCell ⟨gC, M, none⟩ v).cell? ⟨b, o', none⟩ = W.cell? ⟨b, o', none⟩ := fun b o' h => World.cell?_of_block (a := ⟨b, o', none⟩) (Below.heap_setCell _ _ _ _ h)
        obtain ⟨s1, s3, s4, s5, s6, s7, s8, s9⟩ := hs
        have hR : W1.heap.size ≠ gC := fun e => hgR e.symm
        have hN : w2.heap.size ≠ gC := by have := HB2.out.size; omega
        exact ⟨(e _ _ hR).trans s1, (e _ _ hN).trans s3, (e _ _ hN).trans s4, (e _ _ hN).trans s5, (e _ _ hN).trans s6, (e _ _ hN).trans s7, (e _ _ hN).trans s8, (e _ _ hN).trans s9⟩
      have qqd : w5.drew.cell? ⟨gC, M, none⟩ = some (.slice aL LL cL) := qq
      have qqa : (w5.alloc (.cells #[.int .i64 c.kind, .int .i64 c.n, .int .i64 c.dir, .string c.text, .int .i64 c.who, .int .i64 c.at_, .slice ax c.xs.length cx] 28)).drew.cell? ⟨gC, M, none⟩ = some (.slice aL LL cL) := (World.cell?_of_block (a := ⟨gC, M, none⟩) (Lib.alloc_old _ _ _ hzC5)).trans qq
      have hbz5 := Below.refl w5.heap.size w5
      have hw2 : IntKind.i64.wrap ((M : Int) + 1 - 1) = M := by rw [IntKind.wrap_i64]; omega
      have hw3 : IntKind.i64.wrap (M : Int) = M := by rw [IntKind.wrap_i64]; omega
      have hlt1 : (M : Int) < (M : Int) + 1 := by omega
      have hle1 : (0 : Int) ≤ (M : Int) := by omega
      clear b0 b1 b2 b3 b4 b5 b6 xx2 g5
      have HTT : Hid (∀ W, Below w5.heap.size w5 W → W.cell? ⟨gC, M, none⟩ = some (.slice aL LL cL) ∧ W.cell? ⟨W1.heap.size, 2, none⟩ = some (.slice (some ⟨gC, 0, none⟩) (M + 1) cC) ∧ W.cell? ⟨w2.heap.size, 0, none⟩ = some (.int .i64 c.kind) ∧ W.cell? ⟨w2.heap.size, 1, none⟩ = some (.int .i64 c.n) ∧ W.cell? ⟨w2.heap.size, 2, none⟩ = some (.int .i64 c.dir) ∧ W.cell? ⟨w2.heap.size, 3, none⟩ = some (.string c.text) ∧ W.cell? ⟨w2.heap.size, 4, none⟩ = some (.int .i64 c.who) ∧ W.cell? ⟨w2.heap.size, 5, none⟩ = some (.int .i64 c.at_) ∧ W.cell? ⟨w2.heap.size, 6, none⟩ = some (.slice ax c.xs.length cx)) := Lib.hid fun W hb => ⟨(hb.cell (p := ⟨gC, M, none⟩) hzC5).trans qq, HSS.out W hb⟩
      have HTT0 := Lib.hid (HTT.out w5.drew hbz5.drew)
      have HTT1 := Lib.hid (HTT.out (w5.alloc (.cells #[.int .i64 c.kind, .int .i64 c.n, .int .i64 c.dir, .string c.text, .int .i64 c.who, .int .i64 c.at_, .slice ax c.xs.length cx] 28)).drew (by (repeat' (first | with_reducible assumption | with_reducible refine Below.drew ?_ | (with_reducible refine Below.alloc ?_ (by first | assumption | (simp; done) | (simp; omega)) _) | (with_reducible refine Below.setCell ?_ (by first | assumption | (simp; done) | (simp; omega)) _)))))
      refine wp_region_z (fun W => W.cell? ⟨gC, M, none⟩ = some (.slice aL LL cL) ∧ W.cell? ⟨W1.heap.size, 2, none⟩ = some (.slice (some ⟨gC, 0, none⟩) (M + 1) cC) ∧ W.cell? ⟨w2.heap.size, 0, none⟩ = some (.int .i64 c.kind) ∧ W.cell? ⟨w2.heap.size, 1, none⟩ = some (.int .i64 c.n) ∧ W.cell? ⟨w2.heap.size, 2, none⟩ = some (.int .i64 c.dir) ∧ W.cell? ⟨w2.heap.size, 3, none⟩ = some (.string c.text) ∧ W.cell? ⟨w2.heap.size, 4, none⟩ = some (.int .i64 c.who) ∧ W.cell? ⟨w2.heap.size, 5, none⟩ = some (.int .i64 c.at_) ∧ W.cell? ⟨w2.heap.size, 6, none⟩ = some (.slice ax c.xs.length cx)) 20 (by kernel_rfl) ?_
      change wpZ _ _ _ _ _ _ 21 #[false, false, false, false, false, false, false, false, false, false, false, false, false, false, false, false, false, false, false, false, false] _ _
      (refine wpZ_take (i := 0) (v := ?_) rfl (by kernel_rfl) (by kernel_rfl) (by kernel_rfl) (by kernel_rfl) (fun _ _ _ h => h) HTT0.out (Or.inl ⟨by rfl, ?_⟩) ?_; rotate_left 1; (focus (intro w0 hw0; (try dsimp only at hw0); obtain ⟨s0, s1, s3, s4, s5, s6, s7, s8, s9⟩ := hw0; go_simp; try with_reducible rfl)); simp only [Act.put, List.getElem_toArray, List.getElem_cons_zero, List.getElem_cons_succ, List.setIfInBounds_toArray, List.set_cons_zero, List.set_cons_succ])
      (refine wpZ_take (i := 1) (v := ?_) rfl (by kernel_rfl) (by kernel_rfl) (by kernel_rfl) (by kernel_rfl) (fun _ _ _ h => h) HTT0.out (Or.inl ⟨by rfl, ?_⟩) ?_; rotate_left 1; (focus (intro w0 hw0; (try dsimp only at hw0); obtain ⟨s0, s1, s3, s4, s5, s6, s7, s8, s9⟩ := hw0; go_simp; try with_reducible rfl)); simp only [Act.put, List.getElem_toArray, List.getElem_cons_zero, List.getElem_cons_succ, List.setIfInBounds_toArray, List.set_cons_zero, List.set_cons_succ])
      (refine wpZ_take (i := 2) (v := ?_) rfl (by kernel_rfl) (by kernel_rfl) (by kernel_rfl) (by kernel_rfl) (fun _ _ _ h => h) HTT0.out (Or.inl ⟨by rfl, ?_⟩) ?_; rotate_left 1; (focus (intro w0 hw0; (try dsimp only at hw0); obtain ⟨s0, s1, s3, s4, s5, s6, s7, s8, s9⟩ := hw0; go_simp; try with_reducible rfl)); simp only [Act.put, List.getElem_toArray, List.getElem_cons_zero, List.getElem_cons_succ, List.setIfInBounds_toArray, List.set_cons_zero, List.set_cons_succ])
      (refine wpZ_take (i := 3) (v := ?_) rfl (by kernel_rfl) (by kernel_rfl) (by kernel_rfl) (by kernel_rfl) (fun _ _ _ h => h) HTT0.out (Or.inl ⟨by rfl, ?_⟩) ?_; rotate_left 1; (focus (intro w0 hw0; (try dsimp only at hw0); obtain ⟨s0, s1, s3, s4, s5, s6, s7, s8, s9⟩ := hw0; go_simp; try with_reducible rfl)); simp only [Act.put, List.getElem_toArray, List.getElem_cons_zero, List.getElem_cons_succ, List.setIfInBounds_toArray, List.set_cons_zero, List.set_cons_succ])
      (refine wpZ_take (i := 4) (v := ?_) rfl (by kernel_rfl) (by kernel_rfl) (by kernel_rfl) (by kernel_rfl) (fun _ _ _ h => h) HTT0.out (Or.inl ⟨by rfl, ?_⟩) ?_; rotate_left 1; (focus (intro w0 hw0; (try dsimp only at hw0); obtain ⟨s0, s1, s3, s4, s5, s6, s7, s8, s9⟩ := hw0; go_simp; try with_reducible rfl)); simp only [Act.put, List.getElem_toArray, List.getElem_cons_zero, List.getElem_cons_succ, List.setIfInBounds_toArray, List.set_cons_zero, List.set_cons_succ])
      (refine wpZ_take (i := 5) (v := ?_) rfl (by kernel_rfl) (by kernel_rfl) (by kernel_rfl) (by kernel_rfl) (fun _ _ _ h => h) HTT0.out (Or.inl ⟨by rfl, ?_⟩) ?_; rotate_left 1; (focus (intro w0 hw0; (try dsimp only at hw0); obtain ⟨s0, s1, s3, s4, s5, s6, s7, s8, s9⟩ := hw0; go_simp; try with_reducible rfl)); simp only [Act.put, List.getElem_toArray, List.getElem_cons_zero, List.getElem_cons_succ, List.setIfInBounds_toArray, List.set_cons_zero, List.set_cons_succ])
      (refine wpZ_take (i := 6) (v := ?_) rfl (by kernel_rfl) (by kernel_rfl) (by kernel_rfl) (by kernel_rfl) (fun _ _ _ h => h) HTT0.out (Or.inl ⟨by rfl, ?_⟩) ?_; rotate_left 1; (focus (intro w0 hw0; (try dsimp only at hw0); obtain ⟨s0, s1, s3, s4, s5, s6, s7, s8, s9⟩ := hw0; go_simp; try with_reducible rfl)); simp only [Act.put, List.getElem_toArray, List.getElem_cons_zero, List.getElem_cons_succ, List.setIfInBounds_toArray, List.set_cons_zero, List.set_cons_succ])
      (refine wpZ_take (i := 7) (v := ?_) rfl (by kernel_rfl) (by kernel_rfl) (by kernel_rfl) (by kernel_rfl) (fun _ _ _ h => h) HTT0.out (Or.inl ⟨by rfl, ?_⟩) ?_; rotate_left 1; (focus (intro w0 hw0; (try dsimp only at hw0); obtain ⟨s0, s1, s3, s4, s5, s6, s7, s8, s9⟩ := hw0; go_simp; try with_reducible rfl)); simp only [Act.put, List.getElem_toArray, List.getElem_cons_zero, List.getElem_cons_succ, List.setIfInBounds_toArray, List.set_cons_zero, List.set_cons_succ])
      (refine wpZ_take (i := 8) (v := ?_) rfl (by kernel_rfl) (by kernel_rfl) (by kernel_rfl) (by kernel_rfl) (fun _ _ _ h => h) HTT0.out (Or.inl ⟨by rfl, ?_⟩) ?_; rotate_left 1; (focus (intro w0 hw0; (try dsimp only at hw0); obtain ⟨s0, s1, s3, s4, s5, s6, s7, s8, s9⟩ := hw0; go_simp; try with_reducible rfl)); simp only [Act.put, List.getElem_toArray, List.getElem_cons_zero, List.getElem_cons_succ, List.setIfInBounds_toArray, List.set_cons_zero, List.set_cons_succ])
      (refine wpZ_take (i := 9) (v := ?_) rfl (by kernel_rfl) (by kernel_rfl) (by kernel_rfl) (by kernel_rfl) (fun _ _ _ h => h) HTT0.out (Or.inl ⟨by rfl, ?_⟩) ?_; rotate_left 1; (focus (intro w0 hw0; (try dsimp only at hw0); obtain ⟨s0, s1, s3, s4, s5, s6, s7, s8, s9⟩ := hw0; go_simp; try with_reducible rfl)); simp only [Act.put, List.getElem_toArray, List.getElem_cons_zero, List.getElem_cons_succ, List.setIfInBounds_toArray, List.set_cons_zero, List.set_cons_succ])
      (refine wpZ_take (i := 10) (v := ?_) rfl (by kernel_rfl) (by kernel_rfl) (by kernel_rfl) (by kernel_rfl) (fun _ _ _ h => h) HTT0.out (Or.inl ⟨by rfl, ?_⟩) ?_; rotate_left 1; (focus (intro w0 hw0; (try dsimp only at hw0); obtain ⟨s0, s1, s3, s4, s5, s6, s7, s8, s9⟩ := hw0; go_simp; try with_reducible rfl)); simp only [Act.put, List.getElem_toArray, List.getElem_cons_zero, List.getElem_cons_succ, List.setIfInBounds_toArray, List.set_cons_zero, List.set_cons_succ])
      (refine wpZ_take (i := 11) (v := ?_) rfl (by kernel_rfl) (by kernel_rfl) (by kernel_rfl) (by kernel_rfl) (fun _ _ _ h => h) HTT0.out (Or.inl ⟨by rfl, ?_⟩) ?_; rotate_left 1; (focus (intro w0 hw0; (try dsimp only at hw0); obtain ⟨s0, s1, s3, s4, s5, s6, s7, s8, s9⟩ := hw0; go_simp; try with_reducible rfl)); simp only [Act.put, List.getElem_toArray, List.getElem_cons_zero, List.getElem_cons_succ, List.setIfInBounds_toArray, List.set_cons_zero, List.set_cons_succ])
      (refine wpZ_take (i := 12) (v := ?_) rfl (by kernel_rfl) (by kernel_rfl) (by kernel_rfl) (by kernel_rfl) (fun _ _ _ h => h) HTT0.out (Or.inl ⟨by rfl, ?_⟩) ?_; rotate_left 1; (focus (intro w0 hw0; (try dsimp only at hw0); obtain ⟨s0, s1, s3, s4, s5, s6, s7, s8, s9⟩ := hw0; go_simp; try with_reducible rfl)); simp only [Act.put, List.getElem_toArray, List.getElem_cons_zero, List.getElem_cons_succ, List.setIfInBounds_toArray, List.set_cons_zero, List.set_cons_succ])
      (refine wpZ_take (i := 13) (v := ?_) rfl (by kernel_rfl) (by kernel_rfl) (by kernel_rfl) (by kernel_rfl) (fun _ _ _ h => h) HTT0.out (Or.inl ⟨by rfl, ?_⟩) ?_; rotate_left 1; (focus (intro w0 hw0; (try dsimp only at hw0); obtain ⟨s0, s1, s3, s4, s5, s6, s7, s8, s9⟩ := hw0; go_simp; try with_reducible rfl)); simp only [Act.put, List.getElem_toArray, List.getElem_cons_zero, List.getElem_cons_succ, List.setIfInBounds_toArray, List.set_cons_zero, List.set_cons_succ])
      (refine wpZ_take (i := 14) (v := ?_) rfl (by kernel_rfl) (by kernel_rfl) (by kernel_rfl) (by kernel_rfl) (fun _ _ _ h => h) HTT0.out (Or.inl ⟨by rfl, ?_⟩) ?_; rotate_left 1; (focus (intro w0 hw0; (try dsimp only at hw0); obtain ⟨s0, s1, s3, s4, s5, s6, s7, s8, s9⟩ := hw0; go_simp; try with_reducible rfl)); simp only [Act.put, List.getElem_toArray, List.getElem_cons_zero, List.getElem_cons_succ, List.setIfInBounds_toArray, List.set_cons_zero, List.set_cons_succ])
      (refine wpZ_take (i := 15) (v := ?_) rfl (by kernel_rfl) (by kernel_rfl) (by kernel_rfl) (by kernel_rfl) (fun _ _ _ h => h) HTT0.out (Or.inl ⟨by rfl, ?_⟩) ?_; rotate_left 1; (focus (intro w0 hw0; (try dsimp only at hw0); obtain ⟨s0, s1, s3, s4, s5, s6, s7, s8, s9⟩ := hw0; go_simp; try with_reducible rfl)); simp only [Act.put, List.getElem_toArray, List.getElem_cons_zero, List.getElem_cons_succ, List.setIfInBounds_toArray, List.set_cons_zero, List.set_cons_succ])
      (refine wpZ_take (i := 16) (v := ?_) rfl (by kernel_rfl) (by kernel_rfl) (by kernel_rfl) (by kernel_rfl) (fun _ _ _ h => h) HTT0.out (Or.inl ⟨by rfl, ?_⟩) ?_; rotate_left 1; (focus (intro w0 hw0; (try dsimp only at hw0); obtain ⟨s0, s1, s3, s4, s5, s6, s7, s8, s9⟩ := hw0; go_simp; try with_reducible rfl)); simp only [Act.put, List.getElem_toArray, List.getElem_cons_zero, List.getElem_cons_succ, List.setIfInBounds_toArray, List.set_cons_zero, List.set_cons_succ])
      refine wpZ_ready (rs := [17]) (by kernel_rfl) (by simp) ?_
      refine ReadyZ.cons rfl (fun K hK => ?_) ReadyZ.nil
      go_simp
      refine hK.out _ _ (.inr HTT1.out) ?_
      clear hK K
      try simp only [Act.put, List.getElem_toArray, List.getElem_cons_zero, List.getElem_cons_succ, List.setIfInBounds_toArray, List.set_cons_zero, List.set_cons_succ]
      refine wpZ_ready (rs := [18]) (by kernel_rfl) (by simp) ?_
      refine ReadyZ.cons rfl (fun K hK => ?_) ReadyZ.nil
      refine step_appC rfl (.tmp 142) (.tmp 144) 55 rfl callElemL (.slice aL LL cL) LL csL (by simp [Act.eval, Act.put]) (some ⟨w5.heap.size, 0, none⟩) 1 1 [.int .i64 c.kind, .int .i64 c.n, .int .i64 c.dir, .string c.text, .int .i64 c.who, .int .i64 c.at_, .slice ax c.xs.length cx] (by simp [Act.eval, Act.put]) (HOW.out _ (by (repeat' (first | with_reducible assumption | with_reducible refine Below.drew ?_ | (with_reducible refine Below.alloc ?_ (by first | assumption | (simp; done) | (simp; omega)) _) | (with_reducible refine Below.setCell ?_ (by first | assumption | (simp; done) | (simp; omega)) _))))) (HSRC.out _ rfl) (by unfold maxLen; omega) (by omega) (by simp; omega) ?_
      intro v6 w6 ho6 hg6
      obtain ⟨a6, c6, e6⟩ := own_slice ho6
      have HS6 : w6.cell? ⟨W1.heap.size, 2, none⟩ = some (.slice (some ⟨gC, 0, none⟩) (M + 1) cC) ∧ w6.cell? ⟨w2.heap.size, 0, none⟩ = some (.int .i64 c.kind) ∧ w6.cell? ⟨w2.heap.size, 1, none⟩ = some (.int .i64 c.n) ∧ w6.cell? ⟨w2.heap.size, 2, none⟩ = some (.int .i64 c.dir) ∧ w6.cell? ⟨w2.heap.size, 3, none⟩ = some (.string c.text) ∧ w6.cell? ⟨w2.heap.size, 4, none⟩ = some (.int .i64 c.who) ∧ w6.cell? ⟨w2.heap.size, 5, none⟩ = some (.int .i64 c.at_) ∧ w6.cell? ⟨w2.heap.size, 6, none⟩ = some (.slice ax c.xs.length cx) := HSG.out _ _ _ hg6 HNL.out
      have zq6 := HFR.out _ _ _ hg6 HNL.out
      have z6 := zq6.1
      have zc6 := zq6.2
      clear zq6
      rw [e6]
      have HO6 := Lib.hid ho6
      have HG6 := Lib.hid hg6
      have HE6 := Lib.hid e6
      clear ho6 hg6 e6
      refine hK.out _ _ (.inr ⟨zc6, HS6⟩) ?_
      clear hK K
      try simp only [Act.put, List.getElem_toArray, List.getElem_cons_zero, List.getElem_cons_succ, List.setIfInBounds_toArray, List.set_cons_zero, List.set_cons_succ]
      have HTT6 := Lib.hid (And.intro zc6 HS6)
      (refine wpZ_take (i := 19) (v := ?_) rfl (by kernel_rfl) (by kernel_rfl) (by kernel_rfl) (by kernel_rfl) (fun _ _ _ h => h) HTT6.out (Or.inl ⟨by rfl, ?_⟩) ?_; rotate_left 1; (focus (intro w0 hw0; (try dsimp only at hw0); obtain ⟨s0, s1, s3, s4, s5, s6, s7, s8, s9⟩ := hw0; go_simp; try with_reducible rfl)); simp only [Act.put, List.getElem_toArray, List.getElem_cons_zero, List.getElem_cons_succ, List.setIfInBounds_toArray, List.set_cons_zero, List.set_cons_succ])
      refine wpZ_ready (rs := [20]) (by kernel_rfl) (by simp) ?_
      refine ReadyZ.cons rfl (fun K hK => ?_) ReadyZ.nil
      go_simp
      refine hK.out _ _ (.inl rfl) ?_
      clear hK K
      try simp only [Act.put, List.getElem_toArray, List.getElem_cons_zero, List.getElem_cons_succ, List.setIfInBounds_toArray, List.set_cons_zero, List.set_cons_succ]
      refine wpZ_done (by kernel_rfl) ?_ _
      all_goals (
        go_wp2_with fail
        go_ret
        have HRS : RS W1 (w6.setCell ⟨gC, M, none⟩ (.slice a6 (LL + 1) c6)) (k + 1) { S with clients := S.clients.dropLast ++ [S.clients.getLast (fun e => by rw [e] at hn0; simp at hn0) ++ [c]] } := by
          exact rs_call _ h1 h2A hbC hgC H3.out H4.out HM.out HLL.out HQ2.out HQ3.out HBA.out HB5.out HX5.out hxl hxn HG6.out HO6.out HE6.out HNL.out HBX.out HPA.out HTA.out
        have HST : stepL k S (h :: rest) = some { S with clients := S.clients.dropLast ++ [S.clients.getLast (fun e => by rw [e] at hn0; simp at hn0) ++ [c]] } := by
          simp only [stepL]
          rw [if_neg (by omega), if_neg (by omega), if_neg (by omega), if_neg HCL.out, hrw]
          simp only
          rw [addLast_some]
          rfl
        exact takePost_yes HST HRS)
end Go.Proofs.YtplhmcmfdcklaaaDoor.Lex
