/- wisdom.Parse. -/
import Derived.Test.YtephllgddhncgaaGreatDoorGWis
import Derived.Test.YtephllgddhncgaaGreatDoorGSrt
import Derived.Test.YtephllgddhncgaaGreatDoorGPar
import Derived.RegionTactic
namespace Go.Proofs.YtephllgddhncgaaGreatDoor.Lex
open Go.RowKit Go.Shelf Stab
set_option linter.unusedSimpArgs false
set_option linter.unusedVariables false
attribute [local go_sem] Oper.semAt_some
/-- Between two rounds: the entries so far, the keys seen, how many lines. -/
structure JW (w : World) (i : StW) (W : World) : Prop where
  row : ∃ v xs, W.heap[w.heap.size]? = some (.cells #[v] 22 (0, 0)) ∧ GroE 16385 (w.heap.size + 9) W v i.2.2 xs
  ln : W.heap[w.heap.size + 1]? = some (.cells #[.int .i64 0] 3 (0, 0))
  er : W.heap[w.heap.size + 1 + 1]? = some (.cells #[.int .i64 0] 25 (0, 0))
  at_ : W.heap[w.heap.size + 1 + 1 + 1]? = some (.cells #[.int .i64 i.1] 3 (0, 0))
  seen : Seen W (w.heap.size + 1 + 1 + 1 + 1) (i.2.2.map Prod.fst)
  mp : W.heap[w.heap.size + 1 + 1 + 1 + 1 + 1]? = some (.cells #[.map (some (w.heap.size + 1 + 1 + 1 + 1))] 60 (0, 0))
  below : Below w.heap.size w W
  size : w.heap.size + 7 ≤ W.heap.size
/-- What is left of it where a round returns. -/
structure JZ (w : World) (W : World) : Prop where
  row : ∃ a n c, W.heap[w.heap.size]? = some (.cells #[.slice a n c] 22 (0, 0))
  ln : W.heap[w.heap.size + 1]? = some (.cells #[.int .i64 0] 3 (0, 0))
  er : W.heap[w.heap.size + 1 + 1]? = some (.cells #[.int .i64 0] 25 (0, 0))
  below : Below w.heap.size w W
  size : w.heap.size + 7 ≤ W.heap.size
theorem JW.z {w W : World} {i : StW} (h : JW w i W) : JZ w W := by
  obtain ⟨v, xs, h1, h2⟩ := h.row
  obtain ⟨a, c, rfl⟩ := h2.slice
  exact ⟨⟨_, _, _, h1⟩, h.ln, h.er, h.below, h.size⟩
theorem JZ.keep {w W W' : World} (h : JZ w W) (hs : W.heap.size ≤ W'.heap.size) (hb : Below w.heap.size w W') (e : ∀ b, b < w.heap.size + 1 + 1 + 1 → W'.heap[b]? = W.heap[b]?) : JZ w W' := by
  have h7 := h.size
  obtain ⟨a, n, c, h1⟩ := h.row
  exact ⟨⟨a, n, c, (e _ (by omega)).trans h1⟩, (e _ (by omega)).trans h.ln, (e _ (by omega)).trans h.er, hb, by omega⟩
/-- Behind the round that returns. -/
structure ZW (w : World) (i : StW) (x : ByteArray × Bool) (W : World) : Prop where
  row : W.heap[w.heap.size]? = some (.cells #[.slice none 0 0] 22 (0, 0))
  ln : W.heap[w.heap.size + 1]? = some (.cells #[.int .i64 ((i.1 + 1 : Nat) : Int)] 3 (0, 0))
  er : W.heap[w.heap.size + 1 + 1]? = some (.cells #[.int .i64 (errW x)] 25 (0, 0))
  below : Below w.heap.size w W
  size : w.heap.size + 7 ≤ W.heap.size
theorem JW.keep {w W W' : World} {i : StW} (h : JW w i W) (hs : W.heap.size ≤ W'.heap.size) (hb : Below w.heap.size w W') (e : ∀ b, b < W.heap.size → b ≠ w.heap.size + 7 → b ≠ w.heap.size + 8 → W'.heap[b]? = W.heap[b]?) : JW w i W' := by
  have h7 := h.size
  obtain ⟨v, xs, h1, h2⟩ := h.row
  exact ⟨⟨v, xs, (e _ (by omega) (by omega) (by omega)).trans h1, h2.fix (entryRd_ok _) hs fun b h3 h4 => e b h4 (by omega) (by omega)⟩, (e _ (by omega) (by omega) (by omega)).trans h.ln, (e _ (by omega) (by omega) (by omega)).trans h.er, (e _ (by omega) (by omega) (by omega)).trans h.at_,
    h.seen.same (e _ (by omega) (by omega) (by omega)), (e _ (by omega) (by omega) (by omega)).trans h.mp, hb, by omega⟩
theorem JW.keepB {w W W' : World} {i : StW} (h : JW w i W) (hb : Below W.heap.size W W') : JW w i W' := h.keep hb.size (h.below.trans (hb.mono h.below.size)) fun b h1 _ _ => hb.block b h1
theorem ZW.keep {w W W' : World} {i : StW} {x : ByteArray × Bool} (h : ZW w i x W) (hs : W.heap.size ≤ W'.heap.size) (hb : Below w.heap.size w W') (e : ∀ b, b < W.heap.size → b ≠ w.heap.size + 7 → b ≠ w.heap.size + 8 → W'.heap[b]? = W.heap[b]?) : ZW w i x W' := by
  have h7 := h.size
  exact ⟨(e _ (by omega) (by omega) (by omega)).trans h.row, (e _ (by omega) (by omega) (by omega)).trans h.ln, (e _ (by omega) (by omega) (by omega)).trans h.er, hb, by omega⟩
/-- One line more. -/
theorem JW.tick {w W : World} {q p : Nat} {acc : List EntryV} (h : JW w (q, p, acc) W) (p' : Nat) : JW w (q + 1, p', acc) (W.setCell ⟨w.heap.size + 1 + 1 + 1, 0, none⟩ (.int .i64 ((q : Int) + 1))) := by
  obtain ⟨v, xs, h1, h2⟩ := h.row
  have hs := h.size
  have e : ∀ b, b ≠ w.heap.size + 1 + 1 + 1 → (W.setCell ⟨w.heap.size + 1 + 1 + 1, 0, none⟩ (.int .i64 ((q : Int) + 1))).heap[b]? = W.heap[b]? := fun b hb => Below.heap_setCell _ _ _ _ hb
  refine ⟨⟨v, xs, (e _ (by omega)).trans h1, h2.setCell (entryRd_ok _) (by show w.heap.size + 1 + 1 + 1 < w.heap.size + 9; omega) _⟩, (e _ (by omega)).trans h.ln, (e _ (by omega)).trans h.er, ?_, h.seen.same (e _ (by omega)), (e _ (by omega)).trans h.mp, h.below.setCell (by show w.heap.size ≤ w.heap.size + 1 + 1 + 1; omega) _, by simpa [World.setCell] using hs⟩
  have := heap_set_at (o := 0) (.int .i64 ((q : Int) + 1)) h.at_
  exact this
theorem KeepsLD.of_others {W W' : World} (h : KeepsOthers W W') : KeepsLD W W' := ⟨h.size, fun b o hb ho => h.same b o hb (by cases o <;> first | rfl | cases ho)⟩
theorem KeepsLD.of_below {W W' : World} (h : Below W.heap.size W W') : KeepsLD W W' := ⟨h.size, fun b o hb _ => (h.block b (Array.getElem?_eq_some_iff.1 hb).1).trans hb⟩
theorem KeepsLD.setCell (W : World) (a : Addr) (v : Value) : KeepsLD W (W.setCell a v) := .of_others (KeepsOthers.setCell W a v)
/-- The three results stored at a fault. -/
theorem ZW.of {w W : World} {q p' : Nat} {acc' : List EntryV} {x : ByteArray × Bool} {k : Int} (h : JZ w W) (hk : errW x = k) :
    ZW w (q, p', acc') x (((W.setCell ⟨w.heap.size, 0, none⟩ (.slice none 0 0)).setCell ⟨w.heap.size + 1, 0, none⟩ (.int .i64 ((q : Int) + 1))).setCell ⟨w.heap.size + 1 + 1, 0, none⟩ (.int .i64 k)) ∧
    KeepsLD W (((W.setCell ⟨w.heap.size, 0, none⟩ (.slice none 0 0)).setCell ⟨w.heap.size + 1, 0, none⟩ (.int .i64 ((q : Int) + 1))).setCell ⟨w.heap.size + 1 + 1, 0, none⟩ (.int .i64 k)) := by
  obtain ⟨a, n, c, h1⟩ := h.row
  have hs := h.size
  subst hk
  have e : ∀ (U : World) (a : Nat) (u : Value) (b : Nat), b ≠ a → (U.setCell ⟨a, 0, none⟩ u).heap[b]? = U.heap[b]? := fun U a u b hb => Below.heap_setCell _ _ _ _ hb
  have g0 := heap_set_at (o := 0) (.slice none 0 0) h1
  have g1 := heap_set_at (o := 0) (.int .i64 ((q : Int) + 1)) ((e W w.heap.size (.slice none 0 0) (w.heap.size + 1) (by omega)).trans h.ln)
  have g2 := heap_set_at (o := 0) (.int .i64 (errW x)) ((e (W.setCell ⟨w.heap.size, 0, none⟩ (.slice none 0 0)) (w.heap.size + 1) (.int .i64 ((q : Int) + 1)) (w.heap.size + 1 + 1) (by omega)).trans ((e W w.heap.size (.slice none 0 0) (w.heap.size + 1 + 1) (by omega)).trans h.er))
  refine ⟨⟨?_, ?_, g2, ((h.below.setCell (by show w.heap.size ≤ w.heap.size; omega) _).setCell (by show w.heap.size ≤ w.heap.size + 1; omega) _).setCell (by show w.heap.size ≤ w.heap.size + 1 + 1; omega) _, by simpa [World.setCell] using hs⟩, ((KeepsLD.setCell _ _ _).trans (KeepsLD.setCell _ _ _)).trans (KeepsLD.setCell _ _ _)⟩
  · exact (e _ _ _ _ (by omega)).trans ((e _ _ _ _ (by omega)).trans g0)
  · exact (e _ _ _ _ (by omega)).trans g1
theorem fine_rd {k : Nat} {F : Foot} {w : World} {kn kr dk dn : Int} {dl : List DescV} {a : Option Addr} {m c : Nat} (h : FineX ((kn, kr), .mk dk dn dl)) (hr : RowOf (descRd k) 3 40 F w a m c dl) :
    entryRd (k + 1) F w [.int .i64 kn, .int .i64 kr, .int .i64 dk, .int .i64 dn, .slice a m c] ((kn, kr), .mk dk dn dl) := by
  have h : forE kn kr (.mk dk dn dl) = 0 := h
  obtain ⟨h1, h2, h3, _, h5⟩ := forE_ok h
  have h6 : dn = kn := (forE_zero h).2.2.2.2
  rw [DescV.rightD, Bool.and_eq_true] at h5
  have hk := okH_iff.1 (nodeB_ok h5.1)
  have k1 : 1 ≤ dk := hk.1
  have k2 : dk ≤ 7 := hk.2.1
  have w1 : (Lit.int .i64 kn).wf = true := wf64 (by omega) (by omega)
  have w2 : (Lit.int .i64 kr).wf = true := wf64 (by omega) (by omega)
  have w3 : (Lit.int .i64 dk).wf = true := wf64 (by omega) (by omega)
  have w4 : (Lit.int .i64 dn).wf = true := wf64 (by omega) (by omega)
  exact ⟨[.int .i64 kn, .int .i64 kr], [.int .i64 dk, .int .i64 dn, .slice a m c], rfl, ⟨[.int .i64 kn], [.int .i64 kr], rfl, ⟨rfl, w1⟩, rfl, w2⟩, a, m, c, rfl, w3, w4, hr⟩
theorem own_slice {w : World} {base : Nat} {e : TypeId} {size n : Nat} {v : Value} {xs : List Value} (h : w.ownsRow base e size v n xs) : ∃ a c, v = .slice a n c := by
  rcases h.2 with ⟨q1, q2⟩ | ⟨g, cap, cur, q1, _⟩
  · rw [q2]; exact ⟨_, _, q1⟩
  · exact ⟨_, _, q1⟩
theorem append_cell {w Wd W2 W5 : World} {i : StW} {acc : List EntryV} {xs : List Value} {v : Value} {O : Obj} (h : JW w i Wd) (hv : Wd.heap[w.heap.size]? = some (.cells #[v] 22 (0, 0))) (hg : GroE 16385 (w.heap.size + 9) Wd v acc xs)
    (e2 : ∀ b, b ≠ w.heap.size + 1 + 1 + 1 + 1 → W2.heap[b]? = Wd.heap[b]?) (hz2 : W2.heap.size = Wd.heap.size) (hgr : (W2.alloc O).grownBy W5 v.ownBlock) : W5.heap[w.heap.size]? = some (.cells #[v] 22 (0, 0)) := by
  have hs := h.size
  have hzA : (W2.alloc O).heap.size = Wd.heap.size + 1 := by simp [hz2]
  refine (hgr.block _ (by omega) fun e => ?_).trans ((Lib.alloc_old _ _ _ (by omega)).trans ((e2 _ (by omega)).trans hv))
  have := own_lt hg.row _ e.symm
  omega
/-- One entry more. -/
theorem JW.push {w Wd W2 W5 : World} {q p p' : Nat} {acc : List EntryV} {x : EntryV} {cs xs : List Value} {v v' : Value} {s : ByteArray} (h : JW w (q + 1, p, acc) Wd) (hz : w.heap.size + 9 ≤ Wd.heap.size) (hg : GroE 16385 (w.heap.size + 9) Wd v acc xs)
    (e2 : ∀ b, b ≠ w.heap.size + 1 + 1 + 1 + 1 → W2.heap[b]? = Wd.heap[b]?) (hz2 : W2.heap.size = Wd.heap.size) (hb2 : Below w.heap.size w W2) (hs : Seen W2 (w.heap.size + 1 + 1 + 1 + 1) (acc.map Prod.fst ++ [x.1]))
    (hd : entryRd 16385 (fun b => w.heap.size + 9 ≤ b ∧ some b ≠ v.ownBlock) Wd cs x) (O : Obj)
    (ho : W5.ownsRow (w.heap.size + 9) 44 5 v' (acc.length + 1) (xs ++ cs)) (hgr : (W2.alloc O).grownBy W5 v.ownBlock) (hat : v'.ownBlock = v.ownBlock ∨ v'.ownBlock = some (W2.alloc O).heap.size) :
    JW w (q + 1, p', acc ++ [x]) (W5.setCell ⟨w.heap.size, 0, none⟩ v') ∧ KeepsLD Wd (W5.setCell ⟨w.heap.size, 0, none⟩ v') ∧ KpS (w.heap.size + 1 + 1 + 1 + 1 + 1 + 1) s Wd (W5.setCell ⟨w.heap.size, 0, none⟩ v') := by
  have hzA : (W2.alloc O).heap.size = Wd.heap.size + 1 := by simp [hz2]
  have hvB : ∀ b, v.ownBlock = some b → w.heap.size + 9 ≤ b ∧ b < Wd.heap.size := fun b hb => ⟨own_lt hg.row b hb, (hg.row.lt b hb).2⟩
  have eA : ∀ b, b < Wd.heap.size → b ≠ w.heap.size + 1 + 1 + 1 + 1 → (W2.alloc O).heap[b]? = Wd.heap[b]? := fun b h1 h2 => by
    rw [Lib.alloc_old _ _ _ (by omega)]
    exact e2 b h2
  have e5 : ∀ b, b < Wd.heap.size → b ≠ w.heap.size + 1 + 1 + 1 + 1 → some b ≠ v.ownBlock → W5.heap[b]? = Wd.heap[b]? := fun b h1 h2 h3 => (hgr.block b (by omega) h3).trans (eA b h1 h2)
  have e6 : ∀ b, b < Wd.heap.size → b ≠ w.heap.size + 1 + 1 + 1 + 1 → some b ≠ v.ownBlock → b ≠ w.heap.size → (W5.setCell ⟨w.heap.size, 0, none⟩ v').heap[b]? = Wd.heap[b]? := fun b h1 h2 h3 h4 => (Below.heap_setCell _ _ _ _ h4).trans (e5 b h1 h2 h3)
  have nv : ∀ b, b < w.heap.size + 9 → some b ≠ v.ownBlock := fun b hb e => by have := hvB b e.symm; omega
  have hsz := hgr.size
  have hgA : GroE 16385 (w.heap.size + 9) (W2.alloc O) v acc xs := hg.fix (entryRd_ok _) (by omega) fun b h1 h2 => eA b h2 (by omega)
  have hdA : entryRd 16385 (fun b => w.heap.size + 9 ≤ b ∧ some b ≠ v.ownBlock) (W2.alloc O) cs x := (entryRd_ok _).keep hd ⟨by omega, fun b h1 h2 => eA b h1 (by have := h2.1; omega)⟩
  have hg5 := Gro.add (entryRd_ok _) hgA hdA ho hgr hat
  obtain ⟨v0, xs0, hv0, _⟩ := h.row
  have gv := heap_set_at (o := 0) v' ((e5 w.heap.size (by omega) (by omega) (nv _ (by omega))).trans hv0)
  refine ⟨⟨⟨v', xs ++ cs, gv, hg5.setCell (entryRd_ok _) (by show w.heap.size < w.heap.size + 9; omega) _⟩, (e6 _ (by omega) (by omega) (nv _ (by omega)) (by omega)).trans h.ln, (e6 _ (by omega) (by omega) (nv _ (by omega)) (by omega)).trans h.er, (e6 _ (by omega) (by omega) (nv _ (by omega)) (by omega)).trans h.at_, ?_, (e6 _ (by omega) (by omega) (nv _ (by omega)) (by omega)).trans h.mp, ?_, ?_⟩, ?_, ?_⟩
  · rw [List.map_append]
    refine hs.same ((Below.heap_setCell _ _ _ _ (by show w.heap.size + 1 + 1 + 1 + 1 ≠ w.heap.size; omega)).trans ((hgr.block _ (by omega) (nv _ (by omega))).trans (Lib.alloc_old _ _ _ (by omega))))
  · refine Below.setCell ?_ (by show w.heap.size ≤ w.heap.size; omega) _
    exact (hb2.alloc (by omega) _).grown hgr (by omega) fun b hb => by have := hvB b hb; omega
  · show w.heap.size + 7 ≤ (W5.setCell _ _).heap.size
    simp [World.setCell]
    omega
  · refine KeepsLD.of (by simp [World.setCell]; omega) fun b hb => ?_
    by_cases h1 : b = w.heap.size + 1 + 1 + 1 + 1
    · obtain ⟨es, cl, hm, _⟩ := h.seen
      exact .inr ⟨_, by rw [h1]; exact hm, rfl⟩
    · by_cases h2 : some b = v.ownBlock
      · rcases hg.row.2 with ⟨hn, _⟩ | ⟨g, cap, cur, hvv, _, hgg, _⟩
        · rw [hn] at h2; simp [Value.ownBlock] at h2
        · rw [hvv] at h2
          simp [Value.ownBlock] at h2
          exact .inr ⟨_, by rw [h2]; exact hgg, rfl⟩
      · by_cases h3 : b = w.heap.size
        · exact .inr ⟨_, by rw [h3]; exact hv0, rfl⟩
        · exact .inl (e6 b hb h1 h2 h3)
  · exact fun hk => (e6 _ (by omega) (by omega) (nv _ (by omega)) (by omega)).trans hk
/-- An append, inside a fence, onto the call's own row; where the new row lies. -/
theorem wplIn_append_at {F : Fence} {n : Nat} {P : Program} {w : World} {ops : Array Oper} {rest : List Oper} {o : Oper} {a : Act} {Q : Exit → Act → World → Prop} (hgd : o.guard = none) (s x : Operand) (t : TypeId)
    (ho : o.op = .call { callee := .builtin .append, args := #[s, x], argTypes := #[t, t] })
    {base : Nat} {e : TypeId} {size bytes : Nat} (E : Elem P t e size bytes)
    (v : Value) (k : Nat) (xs : List Value) (hs : a.eval s = v) (ad : Addr) (m c : Nat) (news : List Value) (hx : a.eval x = .slice (some ad) m c)
    (hown : w.ownsRow base e size v k xs) (hsrc : Src w (some ad) m c size news)
    (h63 : k + m ≤ maxLen) (hbytes : (k + m) * bytes ≤ 140737488355328) (hbase : base ≤ w.heap.size)
    (h : ∀ v' w', w'.ownsRow base e size v' (k + m) (xs ++ news) → w.grownBy w' v.ownBlock → (v'.ownBlock = v.ownBlock ∨ v'.ownBlock = some w.heap.size) → wpListIn F n P ops Q rest (a.put o.dst v') w') : wpListIn F n P ops Q (o :: rest) a w := by
  refine wpListIn_plain hgd fun K hK' => ?_
  obtain ⟨z, hi, hzs⟩ := E.row
  obtain ⟨i, hi, hz0, hz1, hz2⟩ := info_parts hi
  obtain ⟨v', w', hr, h2, h3, h4, h5⟩ := run_append_own_at (P := P) w base t o.type e i z size bytes E.ht hi hz0 hz1 hz2 hzs E.pos v k xs hown ad m c news hsrc.len (hsrc.at_ ad rfl) hsrc.one h63 hbytes hbase
  unfold Oper.wpIn
  refine ⟨?_, ?_⟩
  · simp [Oper.about, ho, resolve, Target.leads, Sem.run_pure]
  · rw [Oper.semAt_plain F _ _ (by rw [ho]; intro c hc'; cases hc')]
    simp [execOp, ho, resolve, invoke, builtin, hs, hx, hr, Result.andThen]
    exact hK' _ _ (h v' w' h2 h3 h5)
theorem three_new (w : World) (a b : Value) : Below w.heap.size w (((w.alloc (.cells #[.slice none 0 0] 22)).alloc (.cells #[a] 3)).alloc (.cells #[b] 25)) ∧
    (((w.alloc (.cells #[.slice none 0 0] 22)).alloc (.cells #[a] 3)).alloc (.cells #[b] 25)).heap[w.heap.size]? = some (.cells #[.slice none 0 0] 22 (0, 0)) ∧
    (((w.alloc (.cells #[.slice none 0 0] 22)).alloc (.cells #[a] 3)).alloc (.cells #[b] 25)).heap[w.heap.size + 1]? = some (.cells #[a] 3 (0, 0)) ∧
    (((w.alloc (.cells #[.slice none 0 0] 22)).alloc (.cells #[a] 3)).alloc (.cells #[b] 25)).heap[w.heap.size + 1 + 1]? = some (.cells #[b] 25 (0, 0)) := by
  refine ⟨(((Below.refl _ _).alloc (Nat.le_refl _) _).alloc (by simp) _).alloc (by simp; omega) _, ?_, ?_, ?_⟩ <;> simp only [heap_alloc_iff, World.size_alloc] <;> simp
  all_goals omega
theorem hasPrefix_iff (s : List UInt8) : Lib.hasPrefix s (ByteArray.mk #[100, 117, 108, 99, 105, 109, 101, 114, 32, 49, 10]).data.toList = true ↔ headW <+: s := by
  unfold Lib.hasPrefix
  exact List.isPrefixOf_iff_prefix
/-- What wisdom.Parse gives. -/
def PPost (s : List UInt8) (w : World) (e : Ending) (w' : World) : Prop :=
  ∃ a c, e = .returned (.tuple #[.slice a (parseW s).2.2.length c, .int .i64 (parseW s).2.1, .int .i64 (parseW s).1]) ∧ RowOf (entryRd 16385) 5 56 (From w.heap.size) w' a (parseW s).2.2.length c (parseW s).2.2 ∧ Below w.heap.size w w'
set_option maxRecDepth 100000 in
set_option maxHeartbeats 8000000 in
theorem wparse (s : ByteArray) (w : World) (hx : HasMax w) : Calls Tryz.prog 10 #[.string s] w (PPost s.data.toList w) := by
  have HX := Lib.hid hx
  clear hx
  refine (callsIn_wide (n := 5)).1 ?_
  refine callsIn_of_wp_marks Tryz.func10 rfl trivial ?_ rfl
  simp only [Tryz.ntmps10, List.size_toArray, List.length_cons, List.length_nil, Nat.reduceAdd, Nat.reduceSub, Array.replicate_succ, Array.replicate_zero, List.push_toArray, List.append_toArray, List.nil_append, List.cons_append]
  by_cases hbig : 65536 < s.size
  · have HP : Hid (parseW s.data.toList = (12, 0, [])) := Lib.hid (by rw [parseW, if_pos (by simpa using hbig)])
    have hb' : (65536 : Int) < (s.size : Int) := by omega
    clear hbig
    gi_wp2
    obtain ⟨hbe, g0, g1, g2⟩ := three_new w (.int .i64 0) (.int .i64 12)
    generalize ((w.alloc (.cells #[.slice none 0 0] 22)).alloc (.cells #[.int .i64 0] 3)).alloc (.cells #[.int .i64 12] 25) = W1 at *
    have c0 : W1.cell? ⟨w.heap.size, 0, none⟩ = some (.slice none 0 0) := cell_at g0 rfl
    have c1 : W1.cell? ⟨w.heap.size + 1, 0, none⟩ = some (.int .i64 0) := cell_at g1 rfl
    have c2 : W1.cell? ⟨w.heap.size + 1 + 1, 0, none⟩ = some (.int .i64 12) := cell_at g2 rfl
    exact ⟨.tuple #[.slice none 0 0, .int .i64 0, .int .i64 12], by simp [results, Tryz.results10, go_sem, c0, c1, c2], none, 0, by rw [HP.out]; rfl, by rw [HP.out]; exact RowOf.empty _ _ _ _ _, hbe⟩
  · have hs : s.size ≤ 65536 := by omega
    have hb' : ¬ (65536 : Int) < (s.size : Int) := by omega
    clear hbig
    have hmk := fun W => (seen_new W).1
    by_cases hh : headW <+: s.data.toList
    · have HH := Lib.hid hh
      have HHP : Hid (Lib.hasPrefix s.data.toList (ByteArray.mk #[100, 117, 108, 99, 105, 109, 101, 114, 32, 49, 10]).data.toList = true) := Lib.hid (by rw [hasPrefix_iff]; exact hh)
      clear hh
      gi_wp2
      refine ⟨trivial, ?_⟩
      refine (callsIn_wide.2 (Tryz.strings_HasPrefix s _ _)).mono ?_
      rintro e w1 ⟨rfl, rfl⟩
      rw [HHP.out]
      gi_wp2
      refine ⟨trivial, ?_⟩
      refine (callsIn_wide.2 (linesF_any s _)).mono ?_
      rintro e w1 ⟨rfl, rfl⟩
      gi_wp2
      obtain ⟨W3, hW3⟩ : ∃ W3, W3 = (((((((w.alloc (.cells #[.slice none 0 0] 22)).alloc (.cells #[.int .i64 0] 3)).alloc (.cells #[.int .i64 0] 25)).alloc (.cells #[.int .i64 0] 3)).alloc (.map #[] 0)).alloc (.cells #[.map (some (w.heap.size + 1 + 1 + 1 + 1))] 60)).alloc (.cells #[.string s] 9)) := ⟨_, rfl⟩
      have hz3 : W3.heap.size = w.heap.size + 7 := by rw [hW3]; simp
      have hb3 : Below w.heap.size w W3 := by rw [hW3]; exact ((((((((Below.refl _ _).alloc (Nat.le_refl _) _).alloc (by simp) _).alloc (by simp; omega) _).alloc (by simp; omega) _).alloc (by simp; omega) _).alloc (by simp; omega) _).alloc (by simp; omega) _)
      have gs : W3.heap[w.heap.size]? = some (.cells #[.slice none 0 0] 22 (0, 0)) ∧ W3.heap[w.heap.size + 1]? = some (.cells #[.int .i64 0] 3 (0, 0)) ∧ W3.heap[w.heap.size + 1 + 1]? = some (.cells #[.int .i64 0] 25 (0, 0)) ∧ W3.heap[w.heap.size + 1 + 1 + 1]? = some (.cells #[.int .i64 0] 3 (0, 0)) ∧ W3.heap[w.heap.size + 1 + 1 + 1 + 1]? = some (.map #[] 0) ∧
          W3.heap[w.heap.size + 1 + 1 + 1 + 1 + 1]? = some (.cells #[.map (some (w.heap.size + 1 + 1 + 1 + 1))] 60 (0, 0)) ∧ W3.heap[w.heap.size + 1 + 1 + 1 + 1 + 1 + 1]? = some (.cells #[.string s] 9 (0, 0)) := by
        rw [hW3]
        simp only [heap_alloc_iff, World.size_alloc]
        refine ⟨?_, ?_, ?_, ?_, ?_, ?_, ?_⟩ <;> (repeat (first | rw [if_neg (by omega)])) <;> exact if_pos trivial
      obtain ⟨g0, g1, g2, g3, g4, g5, g6⟩ := gs
      rw [← hW3]
      clear hW3
      refine wp_rangeWalk (α := ByteArray × Bool) (σ := StW) rfl (by omega) (gf := 44) (lb := #[.pointer (some ⟨w.heap.size + 1 + 1 + 1 + 1 + 1 + 1, 0, none⟩)]) rfl trivial (enters_of Tryz.func44 (by kernel_rfl) rfl) (fun x => #[.string x.1, .bool x.2]) (fun x => rfl)
        nextW (JW w) (ZW w) (fun i x => AtW s i ∧ OkW s i x) (fun i => AtW s i ∧ i.2.1 = s.size) (KpS (w.heap.size + 1 + 1 + 1 + 1 + 1 + 1) s) (0, 0, []) ?h0 ?hKt ?hKp ?hJb ?hJp ?hZb ?hZp ?hseq (fun x => { tmps := #[.string s, undef, .pointer (some ⟨w.heap.size, 0, none⟩), .pointer (some ⟨w.heap.size + 1, 0, none⟩), .pointer (some ⟨w.heap.size + 1 + 1, 0, none⟩), .pointer (some ⟨w.heap.size + 1 + 1 + 1, 0, none⟩), .pointer (some ⟨w.heap.size + 1 + 1 + 1 + 1 + 1, 0, none⟩), .string x.1, .bool x.2, undef, undef, .bool false, .string s, .int .i64 s.size, .bool false, .bool false, .string s, .bool true, .bool false, .map (some (w.heap.size + 1 + 1 + 1 + 1)), .string s, .func (.func 44) #[] #[.pointer (some ⟨w.heap.size + 1 + 1 + 1 + 1 + 1 + 1, 0, none⟩)], .string x.1, .bool x.2, undef, undef, undef, undef, undef, undef, undef, undef, undef, undef, undef, undef, undef, undef, undef, undef, undef, undef, undef, undef, undef, undef, undef, undef, undef, undef, undef, undef, undef, undef, undef, undef, undef, undef, undef], defers := [] }) ?assign ?body ?done ?stop
      case h0 => exact ⟨⟨_, [], g0, Gro.nil _⟩, g1, g2, g3, ⟨#[], 0, g4, by simp, by simp, by simp, by simp, by simp⟩, g5, hb3, by omega⟩
      case hKt => exact fun A B C h1 h2 h => h2 (h1 h)
      case hKp => exact fun W lo o o' hle hl2 hl ho h => (World.putObj_heap_other (by omega)).trans h
      case hJb => exact fun i W W' hj hb => hj.keepB hb
      case hJp => exact fun i W lo o o' hj hl hl2 hlo hoc => hj.keep (by rw [World.putObj_size]; exact Nat.le_refl _) (putN_below hj.below (by omega) (by have := hj.below.size; omega)) fun b h1 h2 h3 => World.putObj_heap_other (by omega)
      case hZb => exact fun i x W W' hz hb => hz.keep hb.size (hz.below.trans (hb.mono hz.below.size)) fun b h1 _ _ => hb.block b h1
      case hZp => exact fun i x W lo o o' hj hl hl2 hlo hoc => hj.keep (by rw [World.putObj_size]; exact Nat.le_refl _) (putN_below hj.below (by omega) (by have := hj.below.size; omega)) fun b h1 h2 h3 => World.putObj_heap_other (by omega)
      case hseq =>
        intro L K Zk W hb hKb hZb hY h0
        exact lines1_any s hs HH.out L (w.heap.size + 1 + 1 + 1 + 1 + 1 + 1) _ K Zk hKb (fun m i x W1 hok hK => yieldN rfl m (hY i x W1 hok hK)) W h0 ((hb.block _ (by omega)).trans g6)
      case assign =>
        intro lo x W K hK
        dsimp only
        gi_wp2
        exact hK
      case body =>
        intro lo i x W hz hok hj
        obtain ⟨q, p, acc⟩ := i
        obtain ⟨t, b⟩ := x
        obtain ⟨hat, hokw⟩ := hok
        have hcnt : q ≤ 65536 := by have h1 : q ≤ p := hat.count; have h2 : p ≤ s.size := hat.pos; omega
        have hq64 : (q : Int) + 1 ≤ 9223372036854775807 := by omega
        have HJ := Lib.hid hj
        have HJA := Lib.hid (hj.tick p)
        have HAT := Lib.hid hat
        have HOK := Lib.hid hokw
        have t0 : W.cell? ⟨w.heap.size + 1 + 1 + 1, 0, none⟩ = some (.int .i64 q) := cell_at hj.at_ rfl
        have f0 : W.frozen? ⟨w.heap.size + 1 + 1 + 1, 0, none⟩ = false := free_at hj.at_
        have hkld := KeepsLD.setCell W ⟨w.heap.size + 1 + 1 + 1, 0, none⟩ (.int .i64 ((q : Int) + 1))
        have HKLD := Lib.hid hkld
        have HKPS : Hid (KpS (w.heap.size + 1 + 1 + 1 + 1 + 1 + 1) s W (W.setCell ⟨w.heap.size + 1 + 1 + 1, 0, none⟩ (.int .i64 ((q : Int) + 1)))) := Lib.hid fun h => (Below.heap_setCell _ _ _ _ (by show w.heap.size + 1 + 1 + 1 + 1 + 1 + 1 ≠ w.heap.size + 1 + 1 + 1; omega)).trans h
        have HZ0 : Hid (w.heap.size + 9 ≤ W.heap.size) := Lib.hid (by omega)
        clear hj hokw hkld hz
        by_cases hq : q = 0
        · subst hq
          have hbt : b = true := by
            cases b with
            | true => rfl
            | false => exact absurd rfl (atW_stop HH.out HAT.out HOK.out rfl).1
          subst hbt
          have hz0 := HAT.out.zero rfl
          cases hz0
          clear hat hq64 hcnt
          gi_wp2
          exact ⟨(1, 0 + t.size + 1, []), rfl, HKLD.out, HKPS.out, HJ.out.tick _⟩
        · have hq1 : ((q : Int) + 1 == 1) = false := by rw [beq_eq_false_iff_ne]; omega
          clear hat hcnt
          obtain ⟨Wa, hWa⟩ : ∃ Wa, Wa = W.setCell ⟨w.heap.size + 1 + 1 + 1, 0, none⟩ (.int .i64 ((q : Int) + 1)) := ⟨_, rfl⟩
          have HZ9 : Hid (w.heap.size + 9 ≤ Wa.heap.size) := Lib.hid (by rw [hWa]; simpa [World.setCell] using HZ0.out)
          rw [← hWa] at HJA HKLD HKPS
          have ta : Wa.cell? ⟨w.heap.size + 1 + 1 + 1, 0, none⟩ = some (.int .i64 ((q : Int) + 1)) := cell_at HJA.out.at_ rfl
          cases b with
          | false =>
            gi_wp2
            rw [← hWa]
            clear hWa
            obtain ⟨Wd, hWd⟩ : ∃ Wd, Wd = Wa.drew := ⟨_, rfl⟩
            have HJD : Hid (JW w (q + 1, p, acc) Wd) := Lib.hid (by rw [hWd]; exact HJA.out.keepB ((Below.refl _ _).drew))
            have HKD : Hid (KeepsLD Wa Wd) := Lib.hid (by rw [hWd]; exact .of_below ((Below.refl _ _).drew))
            obtain ⟨v, xs, hv1, hv2⟩ := HJD.out.row
            obtain ⟨sa, sc, rfl⟩ := hv2.slice
            have HRES := Lib.hid (ZW.of (q := q) (p' := p) (acc' := acc) (x := (t, false)) (k := 10) HJD.out.z rfl)
            have td : Wd.cell? ⟨w.heap.size + 1 + 1 + 1, 0, none⟩ = some (.int .i64 ((q : Int) + 1)) := cell_at HJD.out.at_ rfl
            have r0 : Wd.cell? ⟨w.heap.size, 0, none⟩ = some (.slice sa acc.length sc) := cell_at hv1 rfl
            have r1 : Wd.cell? ⟨w.heap.size + 1, 0, none⟩ = some (.int .i64 0) := cell_at HJD.out.ln rfl
            have r2 : Wd.cell? ⟨w.heap.size + 1 + 1, 0, none⟩ = some (.int .i64 0) := cell_at HJD.out.er rfl
            have f0' : Wd.frozen? ⟨w.heap.size, 0, none⟩ = false := free_at hv1
            have f1' : Wd.frozen? ⟨w.heap.size + 1, 0, none⟩ = false := free_at HJD.out.ln
            have f2' : Wd.frozen? ⟨w.heap.size + 1 + 1, 0, none⟩ = false := free_at HJD.out.er
            clear hv1 hv2
            refine wpIn_region_zi (fun U => U.cell? ⟨w.heap.size + 1 + 1 + 1, 0, none⟩ = some (.int .i64 ((q : Int) + 1))) 3 (by kernel_rfl) ?_
            change wpZIn _ _ _ _ _ _ _ _ 4 #[false, false, false, false] _ Wa.drew
            rw [← hWd]
            clear hWd
            (refine wpZIn_take (i := 0) (v := ?_) (by kernel_rfl) rfl (by kernel_rfl) (by kernel_rfl) (by kernel_rfl) (by kernel_rfl) (fun _ _ _ h => h) ⟨Or.inl ⟨by rfl, ?_⟩, fun _ => rfl⟩ td ?_; rotate_left 1; (focus (intro w0 hw0; (try dsimp only at hw0); go_simp; first | (with_reducible rfl) | skip)); (try simp only [Act.put, List.getElem_toArray, List.getElem_cons_zero, List.getElem_cons_succ, List.setIfInBounds_toArray, List.set_cons_zero, List.set_cons_succ]))
            (refine wpZIn_one (i := 1) (by kernel_rfl) ?_; refine wpOpIn_step rfl (fun K' hK' => ?_); go_simp)
            refine hK' _ _ ⟨.inr (by go_simp), ?_⟩
            clear hK' K'
            try simp only [Act.put, List.getElem_toArray, List.getElem_cons_zero, List.getElem_cons_succ, List.setIfInBounds_toArray, List.set_cons_zero, List.set_cons_succ]
            (refine wpZIn_one (i := 2) (by kernel_rfl) ?_; refine wpOpIn_step rfl (fun K' hK' => ?_); go_simp)
            refine hK' _ _ ⟨.inr (by go_simp), ?_⟩
            clear hK' K'
            try simp only [Act.put, List.getElem_toArray, List.getElem_cons_zero, List.getElem_cons_succ, List.setIfInBounds_toArray, List.set_cons_zero, List.set_cons_succ]
            (refine wpZIn_one (i := 3) (by kernel_rfl) ?_; refine wpOpIn_step rfl (fun K' hK' => ?_); go_simp)
            refine hK' _ _ ⟨.inl rfl, ?_⟩
            clear hK' K'
            try simp only [Act.put, List.getElem_toArray, List.getElem_cons_zero, List.getElem_cons_succ, List.setIfInBounds_toArray, List.set_cons_zero, List.set_cons_succ]
            refine wpZIn_done (by kernel_rfl) ?_ _
            gi_wp2
            exact ⟨rfl, HKLD.out.trans (HKD.out.trans HRES.out.2), HRES.out.1⟩
          | true =>
            have hts : t.size ≤ 1048576 := by have h1 := HOK.out.size.1; dsimp only at h1; omega
            have HNX : Hid (nextW (q, p, acc) (t, true) = if (parseE t.data.toList).1 ≠ 0 then none else if (parseE t.data.toList).2.1 ∈ acc.map Prod.fst then none else some (q + 1, p + t.size + 1, acc ++ [(parseE t.data.toList).2])) := Lib.hid (by
              unfold nextW
              rw [if_neg (by simp), if_neg hq])
            have HER : Hid (errW (t, true) = if (parseE t.data.toList).1 ≠ 0 then (parseE t.data.toList).1 else 11) := Lib.hid (by unfold errW; rw [if_neg (by simp)])
            have HFX : Hid ((parseE t.data.toList).1 = 0 → FineX (parseE t.data.toList).2) := Lib.hid fun h => (parseE_inv h).1
            have HEP := Lib.hid (eparse t Wa hts (HX.out.below (HJA.out.below)))
            unfold EPost at HEP
            generalize parseE t.data.toList = E at *
            obtain ⟨k, ⟨kn, kr⟩, d⟩ := E
            dsimp only at HNX HER HFX HEP
            clear hts
            by_cases hk : k = 0
            · have hfx := HFX.out hk
              subst hk
              have HFX0 := Lib.hid hfx
              clear hfx
              obtain ⟨dk, dn, dl⟩ := d
              simp only [DescV.kind, DescV.n, DescV.kids] at HEP
              obtain ⟨v, xs, hv1, hv2⟩ := HJA.out.row
              obtain ⟨sa, sc, rfl⟩ := hv2.slice
              have HV1 := Lib.hid hv1
              have HV2 := Lib.hid hv2
              clear hv1 hv2
              gi_wp2
              rw [← hWa]
              clear hWa
              refine ⟨trivial, ?_⟩
              refine (CallsIn.inRound lo (callsIn_wide.2 HEP.out)).mono ?_
              rintro e Wb ⟨a, m, c, rfl, hr, hb⟩
              have HBAB := Lib.hid hb
              have HR := Lib.hid hr
              clear hb hr
              gi_wp2
              obtain ⟨Wc, hWc⟩ : ∃ Wc, Wc = Wb.alloc (.cells #[.int .i64 kn, .int .i64 kr, .int .i64 dk, .int .i64 dn, .slice a m c] 44) := ⟨_, rfl⟩
              have hbc : Below Wb.heap.size Wb Wc := by rw [hWc]; exact (Below.refl _ _).alloc (Nat.le_refl _) _
              have hgc : Wc.heap[Wb.heap.size]? = some (.cells #[.int .i64 kn, .int .i64 kr, .int .i64 dk, .int .i64 dn, .slice a m c] 44 (0, 0)) := by rw [hWc]; exact heap_alloc_new Wb _
              rw [← hWc]
              clear hWc
              obtain ⟨Wd, hWd⟩ : ∃ Wd, Wd = Wc.drew := ⟨_, rfl⟩
              have hbd : Below Wb.heap.size Wb Wd := by rw [hWd]; exact hbc.drew
              have hgd : Wd.heap[Wb.heap.size]? = some (.cells #[.int .i64 kn, .int .i64 kr, .int .i64 dk, .int .i64 dn, .slice a m c] 44 (0, 0)) := by rw [hWd]; exact hgc
              have hba : Below Wa.heap.size Wa Wd := HBAB.out.trans (hbd.mono HBAB.out.size)
              have HJD := Lib.hid (HJA.out.keepB hba)
              have HLD := Lib.hid (HKLD.out.trans (KeepsLD.of_below hba))
              have HPD : Hid (KpS (w.heap.size + 1 + 1 + 1 + 1 + 1 + 1) s W Wd) := Lib.hid fun h => (hba.block _ (by have := HJA.out.size; omega)).trans (HKPS.out h)
              have HVD1 := Lib.hid ((hba.block _ (by have := HJA.out.size; omega)).trans HV1.out)
              have HVD2 := Lib.hid (HV2.out.below (entryRd_ok _) hba)
              have HZA : Hid (w.heap.size + 9 ≤ Wa.heap.size) := Lib.hid HZ9.out
              have HZB : Hid (w.heap.size + 9 ≤ Wb.heap.size) := Lib.hid (by have := HBAB.out.size; have := HZ9.out; omega)
              have HZD : Hid (w.heap.size + 9 ≤ Wd.heap.size) := Lib.hid (by have := hba.size; have := HZ9.out; omega)
              have HRD : Hid (entryRd 16385 (fun b => w.heap.size + 9 ≤ b ∧ some b ≠ (Value.slice sa acc.length sc).ownBlock) Wd [.int .i64 kn, .int .i64 kr, .int .i64 dk, .int .i64 dn, .slice a m c] ((kn, kr), .mk dk dn dl)) := Lib.hid (by
                refine (entryRd_ok _).mono (fine_rd HFX0.out (HR.out.keep (descRd_ok _) (Fix.of_below hbd))) fun b _ hf => ⟨by have := HZA.out; have hf' : Wa.heap.size ≤ b := hf; omega, fun e => ?_⟩
                have := (HV2.out.row.lt b e.symm).2
                have hf' : Wa.heap.size ≤ b := hf
                omega)
              have HSN := Lib.hid HJD.out.seen
              have m0 : Wd.cell? ⟨w.heap.size + 1 + 1 + 1 + 1 + 1, 0, none⟩ = some (.map (some (w.heap.size + 1 + 1 + 1 + 1))) := cell_at HJD.out.mp rfl
              have e0 : Wd.cell? ⟨Wb.heap.size, 0, none⟩ = some (.int .i64 kn) := cell_at hgd rfl
              have e1 : Wd.cell? ⟨Wb.heap.size, 1, none⟩ = some (.int .i64 kr) := cell_at hgd rfl
              have HGD := Lib.hid hgd
              clear hbc hgc hbd hgd hba
              by_cases hm : (kn, kr) ∈ acc.map Prod.fst
              · have HNX' : Hid (nextW (q, p, acc) (t, true) = none) := Lib.hid (by rw [HNX.out, if_neg (by simp), if_pos hm])
                have HER' : Hid (errW (t, true) = 11) := Lib.hid (by rw [HER.out, if_neg (by simp)])
                obtain ⟨W1, st, hme, ⟨es, cl, hW1⟩, hl0, hl1, hst⟩ := seen_yes HSN.out hm
                have k0 : (Instr.lookup 60 (.map (some (w.heap.size + 1 + 1 + 1 + 1))) (.agg #[.int .i64 kn, .int .i64 kr]) false).run Tryz.prog Wd = .ok (.int .i64 1) Wd := hl0 Wd rfl
                have k1 : (Instr.lookup 60 (.map (some (w.heap.size + 1 + 1 + 1 + 1))) (.agg #[.int .i64 kn, .int .i64 kr]) false).run Tryz.prog W1 = .ok (.int .i64 1) W1 := hl1 W1 rfl
                obtain ⟨es2, cl2, W2, hes, hW2, hl2⟩ := hst W1 rfl
                have k2 : (Instr.lookup 60 (.map (some (w.heap.size + 1 + 1 + 1 + 1))) (.agg #[.int .i64 kn, .int .i64 kr]) false).run Tryz.prog W2 = .ok (.int .i64 2) W2 := hl2 W2 rfl
                have hw1 : IntKind.i64.wrap 1 = 1 := by kernel_rfl
                have hw2 : IntKind.i64.wrap 2 = 2 := by kernel_rfl
                have HE1 : Hid ((∀ b, b ≠ w.heap.size + 1 + 1 + 1 + 1 → W1.heap[b]? = Wd.heap[b]?)) := Lib.hid fun b hb => by rw [hW1]; exact World.putObj_heap_other hb
                have HE2 : Hid ((∀ b, b ≠ w.heap.size + 1 + 1 + 1 + 1 → W2.heap[b]? = Wd.heap[b]?) ∧ W2.heap.size = Wd.heap.size) := Lib.hid ⟨fun b hb => by rw [hW2]; exact (World.putObj_heap_other hb).trans (HE1.out b hb), by rw [hW2, World.putObj_size, hW1, World.putObj_size]⟩
                have HB2 : Hid (Below w.heap.size w W2) := Lib.hid (by rw [hW2, hW1]; exact putN_below (putN_below HJD.out.below (by omega) HJD.out.below.size) (by omega) (by rw [World.putObj_size]; exact HJD.out.below.size))
                have HL2 : Hid (KeepsLD Wd W2) := Lib.hid (KeepsLD.of (by rw [HE2.out.2]; exact Nat.le_refl _) fun b hb => by
                  by_cases h1 : b = w.heap.size + 1 + 1 + 1 + 1
                  · obtain ⟨es0, cl0, hm0, _⟩ := HSN.out
                    exact .inr ⟨_, by rw [h1]; exact hm0, rfl⟩
                  · exact .inl (HE2.out.1 b h1))
                have hgd1 := (HE1.out Wb.heap.size (by have := HZB.out; omega)).trans HGD.out
                have hgd2 := (HE2.out.1 Wb.heap.size (by have := HZB.out; omega)).trans HGD.out
                have m1 : W1.cell? ⟨w.heap.size + 1 + 1 + 1 + 1 + 1, 0, none⟩ = some (.map (some (w.heap.size + 1 + 1 + 1 + 1))) := cell_at ((HE1.out _ (by omega)).trans HJD.out.mp) rfl
                have m2 : W2.cell? ⟨w.heap.size + 1 + 1 + 1 + 1 + 1, 0, none⟩ = some (.map (some (w.heap.size + 1 + 1 + 1 + 1))) := cell_at ((HE2.out.1 _ (by omega)).trans HJD.out.mp) rfl
                have e01 : W1.cell? ⟨Wb.heap.size, 0, none⟩ = some (.int .i64 kn) := cell_at hgd1 rfl
                have e11 : W1.cell? ⟨Wb.heap.size, 1, none⟩ = some (.int .i64 kr) := cell_at hgd1 rfl
                have e02 : W2.cell? ⟨Wb.heap.size, 0, none⟩ = some (.int .i64 kn) := cell_at hgd2 rfl
                have e12 : W2.cell? ⟨Wb.heap.size, 1, none⟩ = some (.int .i64 kr) := cell_at hgd2 rfl
                clear hW1 hW2 hl0 hl1 hst hl2 hgd1
                refine wpIn_region_zi (fun U => U.cell? ⟨w.heap.size + 1 + 1 + 1 + 1 + 1, 0, none⟩ = some (.map (some (w.heap.size + 1 + 1 + 1 + 1))) ∧ U.cell? ⟨Wb.heap.size, 0, none⟩ = some (.int .i64 kn) ∧ U.cell? ⟨Wb.heap.size, 1, none⟩ = some (.int .i64 kr) ∧ (Instr.lookup 60 (.map (some (w.heap.size + 1 + 1 + 1 + 1))) (.agg #[.int .i64 kn, .int .i64 kr]) false).run Tryz.prog U = .ok (.int .i64 1) U) 7 (by kernel_rfl) ?_
                change wpZIn _ _ _ _ _ _ _ _ 8 #[false, false, false, false, false, false, false, false] _ Wc.drew
                rw [← hWd]
                clear hWd
                have HS0 := Lib.hid (And.intro m0 (And.intro e0 (And.intro e1 k0)))
                have HS1 := Lib.hid (And.intro m1 (And.intro e01 (And.intro e11 k1)))
                (refine wpZIn_take (i := 0) (v := ?_) (by kernel_rfl) rfl (by kernel_rfl) (by kernel_rfl) (by kernel_rfl) (by kernel_rfl) (fun _ _ _ h => h) ⟨Or.inl ⟨by rfl, ?_⟩, fun _ => rfl⟩ HS0.out ?_; rotate_left 1; (focus (intro w0 hw0; (try dsimp only at hw0); obtain ⟨s0, s1, s2, s3⟩ := hw0; go_simp; first | (with_reducible rfl) | skip)); (try simp only [Act.put, List.getElem_toArray, List.getElem_cons_zero, List.getElem_cons_succ, List.setIfInBounds_toArray, List.set_cons_zero, List.set_cons_succ]))
                (refine wpZIn_take (i := 1) (v := ?_) (by kernel_rfl) rfl (by kernel_rfl) (by kernel_rfl) (by kernel_rfl) (by kernel_rfl) (fun _ _ _ h => h) ⟨Or.inl ⟨by rfl, ?_⟩, fun _ => rfl⟩ HS0.out ?_; rotate_left 1; (focus (intro w0 hw0; (try dsimp only at hw0); obtain ⟨s0, s1, s2, s3⟩ := hw0; go_simp; first | (with_reducible rfl) | skip)); (try simp only [Act.put, List.getElem_toArray, List.getElem_cons_zero, List.getElem_cons_succ, List.setIfInBounds_toArray, List.set_cons_zero, List.set_cons_succ]))
                (refine wpZIn_take (i := 2) (v := ?_) (by kernel_rfl) rfl (by kernel_rfl) (by kernel_rfl) (by kernel_rfl) (by kernel_rfl) (fun _ _ _ h => h) ⟨Or.inl ⟨by rfl, ?_⟩, fun _ => rfl⟩ HS0.out ?_; rotate_left 1; (focus (intro w0 hw0; (try dsimp only at hw0); obtain ⟨s0, s1, s2, s3⟩ := hw0; go_simp; first | (with_reducible rfl) | skip)); (try simp only [Act.put, List.getElem_toArray, List.getElem_cons_zero, List.getElem_cons_succ, List.setIfInBounds_toArray, List.set_cons_zero, List.set_cons_succ]))
                (refine wpZIn_take (i := 3) (v := ?_) (by kernel_rfl) rfl (by kernel_rfl) (by kernel_rfl) (by kernel_rfl) (by kernel_rfl) (fun _ _ _ h => h) ⟨Or.inl ⟨by rfl, ?_⟩, fun _ => rfl⟩ HS0.out ?_; rotate_left 1; (focus (intro w0 hw0; (try dsimp only at hw0); obtain ⟨s0, s1, s2, s3⟩ := hw0; go_simp; first | (with_reducible rfl) | skip)); (try simp only [Act.put, List.getElem_toArray, List.getElem_cons_zero, List.getElem_cons_succ, List.setIfInBounds_toArray, List.set_cons_zero, List.set_cons_succ]))
                (refine wpZIn_take (i := 4) (v := ?_) (by kernel_rfl) rfl (by kernel_rfl) (by kernel_rfl) (by kernel_rfl) (by kernel_rfl) (fun _ _ _ h => h) ⟨Or.inl ⟨by rfl, ?_⟩, fun _ => rfl⟩ HS0.out ?_; rotate_left 1; (focus (intro w0 hw0; (try dsimp only at hw0); obtain ⟨s0, s1, s2, s3⟩ := hw0; go_simp; first | (with_reducible rfl) | skip)); (try simp only [Act.put, List.getElem_toArray, List.getElem_cons_zero, List.getElem_cons_succ, List.setIfInBounds_toArray, List.set_cons_zero, List.set_cons_succ]))
                (refine wpZIn_one (i := 5) (by kernel_rfl) ?_; refine wpOpIn_step rfl (fun K' hK' => ?_); go_simp)
                refine hK' _ _ ⟨.inr HS1.out, ?_⟩
                clear hK' K'
                try simp only [Act.put, List.getElem_toArray, List.getElem_cons_zero, List.getElem_cons_succ, List.setIfInBounds_toArray, List.set_cons_zero, List.set_cons_succ]
                (refine wpZIn_one (i := 6) (by kernel_rfl) ?_; refine wpOpIn_step rfl (fun K' hK' => ?_); go_simp)
                refine hK' _ _ ⟨.inr HS1.out, ?_⟩
                clear hK' K'
                try simp only [Act.put, List.getElem_toArray, List.getElem_cons_zero, List.getElem_cons_succ, List.setIfInBounds_toArray, List.set_cons_zero, List.set_cons_succ]
                (refine wpZIn_one (i := 7) (by kernel_rfl) ?_; refine wpOpIn_step rfl (fun K' hK' => ?_); go_simp)
                refine hK' _ _ ⟨.inl rfl, ?_⟩
                clear hK' K'
                try simp only [Act.put, List.getElem_toArray, List.getElem_cons_zero, List.getElem_cons_succ, List.setIfInBounds_toArray, List.set_cons_zero, List.set_cons_succ]
                refine wpZIn_done (by kernel_rfl) ?_ _
                gi_wp2
                obtain ⟨We, hWe⟩ : ∃ We, We = W2.drew := ⟨_, rfl⟩
                have HLE : Hid (KeepsLD W2 We) := Lib.hid (by rw [hWe]; exact .of_below ((Below.refl _ _).drew))
                have HJZ : Hid (JZ w We) := Lib.hid (by rw [hWe]; exact HJD.out.z.keep (by show Wd.heap.size ≤ W2.heap.size; rw [HE2.out.2]; exact Nat.le_refl _) HB2.out.drew fun b hb => HE2.out.1 b (by omega))
                have td : We.cell? ⟨w.heap.size + 1 + 1 + 1, 0, none⟩ = some (.int .i64 ((q : Int) + 1)) := by rw [hWe]; exact cell_at ((HE2.out.1 _ (by omega)).trans HJD.out.at_) rfl
                obtain ⟨sa, sn, sc, hv1⟩ := HJZ.out.row
                have HRES := Lib.hid (ZW.of (q := q) (p' := p) (acc' := acc) (x := (t, true)) (k := 11) HJZ.out HER'.out)
                have r0 : We.cell? ⟨w.heap.size, 0, none⟩ = some (.slice sa sn sc) := cell_at hv1 rfl
                have r1 : We.cell? ⟨w.heap.size + 1, 0, none⟩ = some (.int .i64 0) := cell_at HJZ.out.ln rfl
                have r2 : We.cell? ⟨w.heap.size + 1 + 1, 0, none⟩ = some (.int .i64 0) := cell_at HJZ.out.er rfl
                have f0' : We.frozen? ⟨w.heap.size, 0, none⟩ = false := free_at hv1
                have f1' : We.frozen? ⟨w.heap.size + 1, 0, none⟩ = false := free_at HJZ.out.ln
                have f2' : We.frozen? ⟨w.heap.size + 1 + 1, 0, none⟩ = false := free_at HJZ.out.er
                clear hv1
                refine wpIn_region_zi (fun U => U.cell? ⟨w.heap.size + 1 + 1 + 1, 0, none⟩ = some (.int .i64 ((q : Int) + 1))) 3 (by kernel_rfl) ?_
                change wpZIn _ _ _ _ _ _ _ _ 4 #[false, false, false, false] _ W2.drew
                rw [← hWe]
                clear hWe
                (refine wpZIn_take (i := 0) (v := ?_) (by kernel_rfl) rfl (by kernel_rfl) (by kernel_rfl) (by kernel_rfl) (by kernel_rfl) (fun _ _ _ h => h) ⟨Or.inl ⟨by rfl, ?_⟩, fun _ => rfl⟩ td ?_; rotate_left 1; (focus (intro w0 hw0; (try dsimp only at hw0); go_simp; first | (with_reducible rfl) | skip)); (try simp only [Act.put, List.getElem_toArray, List.getElem_cons_zero, List.getElem_cons_succ, List.setIfInBounds_toArray, List.set_cons_zero, List.set_cons_succ]))
                (refine wpZIn_one (i := 1) (by kernel_rfl) ?_; refine wpOpIn_step rfl (fun K' hK' => ?_); go_simp)
                refine hK' _ _ ⟨.inr (by go_simp), ?_⟩
                clear hK' K'
                try simp only [Act.put, List.getElem_toArray, List.getElem_cons_zero, List.getElem_cons_succ, List.setIfInBounds_toArray, List.set_cons_zero, List.set_cons_succ]
                (refine wpZIn_one (i := 2) (by kernel_rfl) ?_; refine wpOpIn_step rfl (fun K' hK' => ?_); go_simp)
                refine hK' _ _ ⟨.inr (by go_simp), ?_⟩
                clear hK' K'
                try simp only [Act.put, List.getElem_toArray, List.getElem_cons_zero, List.getElem_cons_succ, List.setIfInBounds_toArray, List.set_cons_zero, List.set_cons_succ]
                (refine wpZIn_one (i := 3) (by kernel_rfl) ?_; refine wpOpIn_step rfl (fun K' hK' => ?_); go_simp)
                refine hK' _ _ ⟨.inl rfl, ?_⟩
                clear hK' K'
                try simp only [Act.put, List.getElem_toArray, List.getElem_cons_zero, List.getElem_cons_succ, List.setIfInBounds_toArray, List.set_cons_zero, List.set_cons_succ]
                refine wpZIn_done (by kernel_rfl) ?_ _
                gi_wp2
                exact ⟨HNX'.out, HLD.out.trans (HL2.out.trans (HLE.out.trans HRES.out.2)), HRES.out.1⟩
              · have HNX' : Hid (nextW (q, p, acc) (t, true) = some (q + 1, p + t.size + 1, acc ++ [((kn, kr), DescV.mk dk dn dl)])) := Lib.hid (by rw [HNX.out, if_neg (by simp), if_neg hm])
                obtain ⟨W1, st, hme, ⟨es, cl, hW1⟩, hl0, hl1, hst⟩ := seen_no HSN.out hm
                have k0 : (Instr.lookup 60 (.map (some (w.heap.size + 1 + 1 + 1 + 1))) (.agg #[.int .i64 kn, .int .i64 kr]) false).run Tryz.prog Wd = .ok (.int .i64 0) Wd := hl0 Wd rfl
                have k1 : (Instr.lookup 60 (.map (some (w.heap.size + 1 + 1 + 1 + 1))) (.agg #[.int .i64 kn, .int .i64 kr]) false).run Tryz.prog W1 = .ok (.int .i64 0) W1 := hl1 W1 rfl
                obtain ⟨es2, cl2, W2, hes, hW2, hsn2, hl2⟩ := hst W1 rfl
                have HSN2 := Lib.hid hsn2
                have k2 : (Instr.lookup 60 (.map (some (w.heap.size + 1 + 1 + 1 + 1))) (.agg #[.int .i64 kn, .int .i64 kr]) false).run Tryz.prog W2 = .ok (.int .i64 1) W2 := hl2 W2 rfl
                clear hsn2
                have hw1 : IntKind.i64.wrap 1 = 1 := by kernel_rfl
                have hw2 : IntKind.i64.wrap 2 = 2 := by kernel_rfl
                have HE1 : Hid ((∀ b, b ≠ w.heap.size + 1 + 1 + 1 + 1 → W1.heap[b]? = Wd.heap[b]?)) := Lib.hid fun b hb => by rw [hW1]; exact World.putObj_heap_other hb
                have HE2 : Hid ((∀ b, b ≠ w.heap.size + 1 + 1 + 1 + 1 → W2.heap[b]? = Wd.heap[b]?) ∧ W2.heap.size = Wd.heap.size) := Lib.hid ⟨fun b hb => by rw [hW2]; exact (World.putObj_heap_other hb).trans (HE1.out b hb), by rw [hW2, World.putObj_size, hW1, World.putObj_size]⟩
                have HB2 : Hid (Below w.heap.size w W2) := Lib.hid (by rw [hW2, hW1]; exact putN_below (putN_below HJD.out.below (by omega) HJD.out.below.size) (by omega) (by rw [World.putObj_size]; exact HJD.out.below.size))
                have HL2 : Hid (KeepsLD Wd W2) := Lib.hid (KeepsLD.of (by rw [HE2.out.2]; exact Nat.le_refl _) fun b hb => by
                  by_cases h1 : b = w.heap.size + 1 + 1 + 1 + 1
                  · obtain ⟨es0, cl0, hm0, _⟩ := HSN.out
                    exact .inr ⟨_, by rw [h1]; exact hm0, rfl⟩
                  · exact .inl (HE2.out.1 b h1))
                have hgd1 := (HE1.out Wb.heap.size (by have := HZB.out; omega)).trans HGD.out
                have hgd2 := (HE2.out.1 Wb.heap.size (by have := HZB.out; omega)).trans HGD.out
                have m1 : W1.cell? ⟨w.heap.size + 1 + 1 + 1 + 1 + 1, 0, none⟩ = some (.map (some (w.heap.size + 1 + 1 + 1 + 1))) := cell_at ((HE1.out _ (by omega)).trans HJD.out.mp) rfl
                have m2 : W2.cell? ⟨w.heap.size + 1 + 1 + 1 + 1 + 1, 0, none⟩ = some (.map (some (w.heap.size + 1 + 1 + 1 + 1))) := cell_at ((HE2.out.1 _ (by omega)).trans HJD.out.mp) rfl
                have e01 : W1.cell? ⟨Wb.heap.size, 0, none⟩ = some (.int .i64 kn) := cell_at hgd1 rfl
                have e11 : W1.cell? ⟨Wb.heap.size, 1, none⟩ = some (.int .i64 kr) := cell_at hgd1 rfl
                have e02 : W2.cell? ⟨Wb.heap.size, 0, none⟩ = some (.int .i64 kn) := cell_at hgd2 rfl
                have e12 : W2.cell? ⟨Wb.heap.size, 1, none⟩ = some (.int .i64 kr) := cell_at hgd2 rfl
                clear hW1 hW2 hl0 hl1 hst hl2 hgd1
                refine wpIn_region_zi (fun U => U.cell? ⟨w.heap.size + 1 + 1 + 1 + 1 + 1, 0, none⟩ = some (.map (some (w.heap.size + 1 + 1 + 1 + 1))) ∧ U.cell? ⟨Wb.heap.size, 0, none⟩ = some (.int .i64 kn) ∧ U.cell? ⟨Wb.heap.size, 1, none⟩ = some (.int .i64 kr) ∧ (Instr.lookup 60 (.map (some (w.heap.size + 1 + 1 + 1 + 1))) (.agg #[.int .i64 kn, .int .i64 kr]) false).run Tryz.prog U = .ok (.int .i64 0) U) 7 (by kernel_rfl) ?_
                change wpZIn _ _ _ _ _ _ _ _ 8 #[false, false, false, false, false, false, false, false] _ Wc.drew
                rw [← hWd]
                clear hWd
                have HS0 := Lib.hid (And.intro m0 (And.intro e0 (And.intro e1 k0)))
                have HS1 := Lib.hid (And.intro m1 (And.intro e01 (And.intro e11 k1)))
                (refine wpZIn_take (i := 0) (v := ?_) (by kernel_rfl) rfl (by kernel_rfl) (by kernel_rfl) (by kernel_rfl) (by kernel_rfl) (fun _ _ _ h => h) ⟨Or.inl ⟨by rfl, ?_⟩, fun _ => rfl⟩ HS0.out ?_; rotate_left 1; (focus (intro w0 hw0; (try dsimp only at hw0); obtain ⟨s0, s1, s2, s3⟩ := hw0; go_simp; first | (with_reducible rfl) | skip)); (try simp only [Act.put, List.getElem_toArray, List.getElem_cons_zero, List.getElem_cons_succ, List.setIfInBounds_toArray, List.set_cons_zero, List.set_cons_succ]))
                (refine wpZIn_take (i := 1) (v := ?_) (by kernel_rfl) rfl (by kernel_rfl) (by kernel_rfl) (by kernel_rfl) (by kernel_rfl) (fun _ _ _ h => h) ⟨Or.inl ⟨by rfl, ?_⟩, fun _ => rfl⟩ HS0.out ?_; rotate_left 1; (focus (intro w0 hw0; (try dsimp only at hw0); obtain ⟨s0, s1, s2, s3⟩ := hw0; go_simp; first | (with_reducible rfl) | skip)); (try simp only [Act.put, List.getElem_toArray, List.getElem_cons_zero, List.getElem_cons_succ, List.setIfInBounds_toArray, List.set_cons_zero, List.set_cons_succ]))
                (refine wpZIn_take (i := 2) (v := ?_) (by kernel_rfl) rfl (by kernel_rfl) (by kernel_rfl) (by kernel_rfl) (by kernel_rfl) (fun _ _ _ h => h) ⟨Or.inl ⟨by rfl, ?_⟩, fun _ => rfl⟩ HS0.out ?_; rotate_left 1; (focus (intro w0 hw0; (try dsimp only at hw0); obtain ⟨s0, s1, s2, s3⟩ := hw0; go_simp; first | (with_reducible rfl) | skip)); (try simp only [Act.put, List.getElem_toArray, List.getElem_cons_zero, List.getElem_cons_succ, List.setIfInBounds_toArray, List.set_cons_zero, List.set_cons_succ]))
                (refine wpZIn_take (i := 3) (v := ?_) (by kernel_rfl) rfl (by kernel_rfl) (by kernel_rfl) (by kernel_rfl) (by kernel_rfl) (fun _ _ _ h => h) ⟨Or.inl ⟨by rfl, ?_⟩, fun _ => rfl⟩ HS0.out ?_; rotate_left 1; (focus (intro w0 hw0; (try dsimp only at hw0); obtain ⟨s0, s1, s2, s3⟩ := hw0; go_simp; first | (with_reducible rfl) | skip)); (try simp only [Act.put, List.getElem_toArray, List.getElem_cons_zero, List.getElem_cons_succ, List.setIfInBounds_toArray, List.set_cons_zero, List.set_cons_succ]))
                (refine wpZIn_take (i := 4) (v := ?_) (by kernel_rfl) rfl (by kernel_rfl) (by kernel_rfl) (by kernel_rfl) (by kernel_rfl) (fun _ _ _ h => h) ⟨Or.inl ⟨by rfl, ?_⟩, fun _ => rfl⟩ HS0.out ?_; rotate_left 1; (focus (intro w0 hw0; (try dsimp only at hw0); obtain ⟨s0, s1, s2, s3⟩ := hw0; go_simp; first | (with_reducible rfl) | skip)); (try simp only [Act.put, List.getElem_toArray, List.getElem_cons_zero, List.getElem_cons_succ, List.setIfInBounds_toArray, List.set_cons_zero, List.set_cons_succ]))
                (refine wpZIn_one (i := 5) (by kernel_rfl) ?_; refine wpOpIn_step rfl (fun K' hK' => ?_); go_simp)
                refine hK' _ _ ⟨.inr HS1.out, ?_⟩
                clear hK' K'
                try simp only [Act.put, List.getElem_toArray, List.getElem_cons_zero, List.getElem_cons_succ, List.setIfInBounds_toArray, List.set_cons_zero, List.set_cons_succ]
                (refine wpZIn_one (i := 6) (by kernel_rfl) ?_; refine wpOpIn_step rfl (fun K' hK' => ?_); go_simp)
                refine hK' _ _ ⟨.inr HS1.out, ?_⟩
                clear hK' K'
                try simp only [Act.put, List.getElem_toArray, List.getElem_cons_zero, List.getElem_cons_succ, List.setIfInBounds_toArray, List.set_cons_zero, List.set_cons_succ]
                (refine wpZIn_one (i := 7) (by kernel_rfl) ?_; refine wpOpIn_step rfl (fun K' hK' => ?_); go_simp)
                refine hK' _ _ ⟨.inl rfl, ?_⟩
                clear hK' K'
                try simp only [Act.put, List.getElem_toArray, List.getElem_cons_zero, List.getElem_cons_succ, List.setIfInBounds_toArray, List.set_cons_zero, List.set_cons_succ]
                refine wpZIn_done (by kernel_rfl) ?_ _
                have e2' : W2.cell? ⟨Wb.heap.size, 2, none⟩ = some (.int .i64 dk) := cell_at hgd2 rfl
                have e3' : W2.cell? ⟨Wb.heap.size, 3, none⟩ = some (.int .i64 dn) := cell_at hgd2 rfl
                have e4' : W2.cell? ⟨Wb.heap.size, 4, none⟩ = some (.slice a m c) := cell_at hgd2 rfl
                have r0 : W2.cell? ⟨w.heap.size, 0, none⟩ = some (.slice sa acc.length sc) := cell_at ((HE2.out.1 _ (by omega)).trans HVD1.out) rfl
                have HG2 : Hid (GroE 16385 (w.heap.size + 9) W2 (.slice sa acc.length sc) acc xs) := Lib.hid (HVD2.out.fix (entryRd_ok _) (by rw [HE2.out.2]; exact Nat.le_refl _) fun b h1 _ => HE2.out.1 b (by omega))
                have HAL : Hid (acc.length ≤ 65536) := Lib.hid (by have h1 : acc.length ≤ q := HAT.out.len; have h2 : q ≤ p := HAT.out.count; have h3 : p ≤ s.size := HAT.out.pos; omega)
                have HZ2 : Hid (w.heap.size + 9 ≤ W2.heap.size) := Lib.hid (by rw [HE2.out.2]; exact HZD.out)
                clear hgd2
                gi_wp2_with (gi_at_builtin; refine wplIn_append_at rfl _ _ 22 rfl entElemG (.slice sa acc.length sc) _ xs rfl _ _ _ _ rfl (own_below HG2.out.row ((Below.refl _ _).alloc (Nat.le_refl _) _)) (src_new3 [.int .i64 kn, .int .i64 kr, .int .i64 dk, .int .i64 dn, .slice a m c] 44 5 rfl one5) (by have := HAL.out; unfold maxLen; omega) (by have := HAL.out; omega) (by have := HZ2.out; simp; omega) ?_; intro v' W5 ho hgr hat5; obtain ⟨va, vc, rfl⟩ := own_slice ho; have HO := Lib.hid ho; have HGR := Lib.hid hgr; have HAT5 := Lib.hid hat5; have hcell := append_cell HJD.out HVD1.out HVD2.out HE2.out.1 HE2.out.2 hgr; have q0 : W5.cell? ⟨w.heap.size, 0, none⟩ = some (.slice sa acc.length sc) := cell_at hcell rfl; have qf : W5.frozen? ⟨w.heap.size, 0, none⟩ = false := free_at hcell; clear ho hgr hat5 hcell)
                have HPU := Lib.hid (JW.push (p' := p + t.size + 1) (x := ((kn, kr), DescV.mk dk dn dl)) (s := s) HJD.out HZD.out HVD2.out HE2.out.1 HE2.out.2 HB2.out HSN2.out HRD.out _ HO.out HGR.out HAT5.out)
                exact ⟨_, HNX'.out, HLD.out.trans HPU.out.2.1, fun h => HPU.out.2.2 (HPD.out h), HPU.out.1⟩
            · have hkb : (k != 0) = true := by simpa using hk
              have HNX' : Hid (nextW (q, p, acc) (t, true) = none) := Lib.hid (by rw [HNX.out, if_pos hk])
              have HER' : Hid (errW (t, true) = k) := Lib.hid (by rw [HER.out, if_pos hk])
              gi_wp2
              rw [← hWa]
              clear hWa
              refine ⟨trivial, ?_⟩
              refine (CallsIn.inRound lo (callsIn_wide.2 HEP.out)).mono ?_
              rintro e Wb ⟨a, m, c, rfl, hr, hb⟩
              have HBAB := Lib.hid hb
              clear hb hr
              gi_wp2
              obtain ⟨Wc, hWc⟩ : ∃ Wc, Wc = Wb.alloc (.cells #[.int .i64 kn, .int .i64 kr, .int .i64 d.kind, .int .i64 d.n, .slice a m c] 44) := ⟨_, rfl⟩
              have hbc : Below Wb.heap.size Wb Wc := by rw [hWc]; exact (Below.refl _ _).alloc (Nat.le_refl _) _
              rw [← hWc]
              clear hWc
              obtain ⟨Wd, hWd⟩ : ∃ Wd, Wd = Wc.drew := ⟨_, rfl⟩
              have hba : Below Wa.heap.size Wa Wd := by rw [hWd]; exact (HBAB.out.trans (hbc.mono HBAB.out.size)).drew
              have HJD := Lib.hid (HJA.out.keepB hba)
              have HLD := Lib.hid (HKLD.out.trans (KeepsLD.of_below hba))
              have HJZ := Lib.hid HJD.out.z
              have td : Wd.cell? ⟨w.heap.size + 1 + 1 + 1, 0, none⟩ = some (.int .i64 ((q : Int) + 1)) := cell_at HJD.out.at_ rfl
              clear hbc hba
              obtain ⟨sa, sn, sc, hv1⟩ := HJZ.out.row
              have HRES := Lib.hid (ZW.of (q := q) (p' := p) (acc' := acc) (x := (t, true)) (k := k) HJZ.out HER'.out)
              have r0 : Wd.cell? ⟨w.heap.size, 0, none⟩ = some (.slice sa sn sc) := cell_at hv1 rfl
              have r1 : Wd.cell? ⟨w.heap.size + 1, 0, none⟩ = some (.int .i64 0) := cell_at HJZ.out.ln rfl
              have r2 : Wd.cell? ⟨w.heap.size + 1 + 1, 0, none⟩ = some (.int .i64 0) := cell_at HJZ.out.er rfl
              have f0' : Wd.frozen? ⟨w.heap.size, 0, none⟩ = false := free_at hv1
              have f1' : Wd.frozen? ⟨w.heap.size + 1, 0, none⟩ = false := free_at HJZ.out.ln
              have f2' : Wd.frozen? ⟨w.heap.size + 1 + 1, 0, none⟩ = false := free_at HJZ.out.er
              clear hv1
              refine wpIn_region_zi (fun U => U.cell? ⟨w.heap.size + 1 + 1 + 1, 0, none⟩ = some (.int .i64 ((q : Int) + 1))) 4 (by kernel_rfl) ?_
              change wpZIn _ _ _ _ _ _ _ _ 5 #[false, false, false, false, false] _ Wc.drew
              rw [← hWd]
              clear hWd
              (refine wpZIn_take (i := 0) (v := ?_) (by kernel_rfl) rfl (by kernel_rfl) (by kernel_rfl) (by kernel_rfl) (by kernel_rfl) (fun _ _ _ h => h) ⟨Or.inl ⟨by rfl, ?_⟩, fun _ => rfl⟩ td ?_; rotate_left 1; (focus (intro w0 hw0; (try dsimp only at hw0); go_simp; first | (with_reducible rfl) | skip)); (try simp only [Act.put, List.getElem_toArray, List.getElem_cons_zero, List.getElem_cons_succ, List.setIfInBounds_toArray, List.set_cons_zero, List.set_cons_succ]))
              (refine wpZIn_take (i := 1) (v := ?_) (by kernel_rfl) rfl (by kernel_rfl) (by kernel_rfl) (by kernel_rfl) (by kernel_rfl) (fun _ _ _ h => h) ⟨Or.inl ⟨by rfl, ?_⟩, fun _ => rfl⟩ td ?_; rotate_left 1; (focus (intro w0 hw0; (try dsimp only at hw0); go_simp; first | (with_reducible rfl) | skip)); (try simp only [Act.put, List.getElem_toArray, List.getElem_cons_zero, List.getElem_cons_succ, List.setIfInBounds_toArray, List.set_cons_zero, List.set_cons_succ]))
              (refine wpZIn_one (i := 2) (by kernel_rfl) ?_; refine wpOpIn_step rfl (fun K' hK' => ?_); go_simp)
              refine hK' _ _ ⟨.inr (by go_simp), ?_⟩
              clear hK' K'
              try simp only [Act.put, List.getElem_toArray, List.getElem_cons_zero, List.getElem_cons_succ, List.setIfInBounds_toArray, List.set_cons_zero, List.set_cons_succ]
              (refine wpZIn_one (i := 3) (by kernel_rfl) ?_; refine wpOpIn_step rfl (fun K' hK' => ?_); go_simp)
              refine hK' _ _ ⟨.inr (by go_simp), ?_⟩
              clear hK' K'
              try simp only [Act.put, List.getElem_toArray, List.getElem_cons_zero, List.getElem_cons_succ, List.setIfInBounds_toArray, List.set_cons_zero, List.set_cons_succ]
              (refine wpZIn_one (i := 4) (by kernel_rfl) ?_; refine wpOpIn_step rfl (fun K' hK' => ?_); go_simp)
              refine hK' _ _ ⟨.inl rfl, ?_⟩
              clear hK' K'
              try simp only [Act.put, List.getElem_toArray, List.getElem_cons_zero, List.getElem_cons_succ, List.setIfInBounds_toArray, List.set_cons_zero, List.set_cons_succ]
              refine wpZIn_done (by kernel_rfl) ?_ _
              gi_wp2
              exact ⟨HNX'.out, HLD.out.trans HRES.out.2, HRES.out.1⟩
      case done =>
        intro D i W hD hfin hj hdf
        obtain ⟨q, p, acc⟩ := i
        have HPW := Lib.hid (atW_fin HH.out hfin.1 hfin.2)
        have HAL : Hid (acc.length ≤ 65536) := Lib.hid (by have h1 : acc.length ≤ q := hfin.1.len; have h2 : q ≤ p := hfin.1.count; have h3 : p ≤ s.size := hfin.1.pos; omega)
        have HJ := Lib.hid hj
        have HD := Lib.hid hdf
        have hrow : ∃ v xs, W.heap[w.heap.size]? = some (.cells #[v] 22 (0, 0)) ∧ GroE 16385 (w.heap.size + 9) W v acc xs := hj.row
        obtain ⟨v, xs, hv1, hv2⟩ := hrow
        obtain ⟨va, vc, hva, hvr⟩ := hv2.rowOf (bytes := 56) (entryRd_ok _) (by omega) (by have := HAL.out; omega)
        subst hva
        have HRV := Lib.hid hvr
        have r0 : W.cell? ⟨w.heap.size, 0, none⟩ = some (.slice va acc.length vc) := cell_at hv1 rfl
        have HV1 := Lib.hid hv1
        clear hj hdf hv1 hv2 hvr hfin
        gi_wp2
        refine ⟨trivial, ?_⟩
        refine (callsIn_wide.2 (sort_any 16385 _ acc va acc.length vc W (by have := HAL.out; omega) HRV.out)).mono ?_
        rintro e W2 ⟨a2, c2, rfl, hr2, hb2⟩
        have HR2 := Lib.hid hr2
        have HB2 := Lib.hid hb2
        have hs7 := HJ.out.size
        have hq0 := (hb2.block w.heap.size (by omega)).trans HV1.out
        have hq1 := (hb2.block (w.heap.size + 1) (by omega)).trans HJ.out.ln
        have hq2 := (hb2.block (w.heap.size + 1 + 1) (by omega)).trans HJ.out.er
        have hD2 : W2.heap[D]? = some (.deferred (some [])) := (hb2.block D (Array.getElem?_eq_some_iff.1 HD.out).1).trans HD.out
        have HDD := Lib.hid hD2
        have HQ0 := Lib.hid hq0
        have HQ1 := Lib.hid hq1
        have HQ2 := Lib.hid hq2
        have HDL : Hid (w.heap.size + 7 ≤ D ∧ D < W.heap.size) := Lib.hid ⟨by omega, (Array.getElem?_eq_some_iff.1 HD.out).1⟩
        have r0' : W2.cell? ⟨w.heap.size, 0, none⟩ = some (.slice va acc.length vc) := cell_at hq0 rfl
        have r1' : W2.cell? ⟨w.heap.size + 1, 0, none⟩ = some (.int .i64 0) := cell_at hq1 rfl
        have r2' : W2.cell? ⟨w.heap.size + 1 + 1, 0, none⟩ = some (.int .i64 0) := cell_at hq2 rfl
        have f0' : W2.frozen? ⟨w.heap.size, 0, none⟩ = false := free_at hq0
        have f1' : W2.frozen? ⟨w.heap.size + 1, 0, none⟩ = false := free_at hq1
        have f2' : W2.frozen? ⟨w.heap.size + 1 + 1, 0, none⟩ = false := free_at hq2
        clear hr2 hb2 hq0 hq1 hq2 hD2 hs7
        gi_wp2
        have e : ∀ (U : World) (a : Nat) (u : Value) (b : Nat), b ≠ a → (U.setCell ⟨a, 0, none⟩ u).heap[b]? = U.heap[b]? := fun U a u b hb => Below.heap_setCell _ _ _ _ hb
        obtain ⟨hD7, hDW⟩ := HDL.out
        have hsz := HJ.out.size
        have hbs := HB2.out.size
        obtain ⟨U1, hU1⟩ : ∃ U1, U1 = W2.setCell ⟨w.heap.size, 0, none⟩ (.slice a2 acc.length c2) := ⟨_, rfl⟩
        obtain ⟨U2, hU2⟩ : ∃ U2, U2 = U1.setCell ⟨w.heap.size + 1, 0, none⟩ (.int .i64 0) := ⟨_, rfl⟩
        obtain ⟨Wf, hWf⟩ : ∃ Wf, Wf = U2.setCell ⟨w.heap.size + 1 + 1, 0, none⟩ (.int .i64 0) := ⟨_, rfl⟩
        have x0 : U1.heap[w.heap.size]? = some (.cells #[.slice a2 acc.length c2] 22 (0, 0)) := by rw [hU1]; exact heap_set_at (o := 0) (.slice a2 acc.length c2) HQ0.out
        have x1 : U2.heap[w.heap.size + 1]? = some (.cells #[.int .i64 0] 3 (0, 0)) := by rw [hU2]; exact heap_set_at (o := 0) (.int .i64 0) ((show U1.heap[w.heap.size + 1]? = _ by rw [hU1]; exact e _ _ _ _ (by omega)).trans HQ1.out)
        have x2 : Wf.heap[w.heap.size + 1 + 1]? = some (.cells #[.int .i64 0] 25 (0, 0)) := by rw [hWf]; exact heap_set_at (o := 0) (.int .i64 0) ((show U2.heap[w.heap.size + 1 + 1]? = _ by rw [hU2]; exact e _ _ _ _ (by omega)).trans ((show U1.heap[w.heap.size + 1 + 1]? = _ by rw [hU1]; exact e _ _ _ _ (by omega)).trans HQ2.out))
        have y1 : Wf.heap[w.heap.size + 1]? = some (.cells #[.int .i64 0] 3 (0, 0)) := by rw [hWf, e _ _ _ _ (by omega)]; exact x1
        have y0 : Wf.heap[w.heap.size]? = some (.cells #[.slice a2 acc.length c2] 22 (0, 0)) := by rw [hWf, e _ _ _ _ (by omega), hU2, e _ _ _ _ (by omega)]; exact x0
        have ed : ∀ b, w.heap.size + 7 ≤ b → Wf.heap[b]? = W2.heap[b]? := fun b hb => by rw [hWf, e _ _ _ _ (by omega), hU2, e _ _ _ _ (by omega), hU1, e _ _ _ _ (by omega)]
        have szf : Wf.heap.size = W2.heap.size := by rw [hWf, hU2, hU1]; simp [World.setCell]
        have bf : Below w.heap.size w Wf := by
          rw [hWf, hU2, hU1]
          exact (((HJ.out.below.trans (HB2.out.mono HJ.out.below.size)).setCell (by show w.heap.size ≤ w.heap.size; omega) _).setCell (by show w.heap.size ≤ w.heap.size + 1; omega) _).setCell (by show w.heap.size ≤ w.heap.size + 1 + 1; omega) _
        have hDf : Wf.heap[D]? = some (.deferred (some [])) := (ed D hD7).trans HDD.out
        rw [← hU1, ← hU2, ← hWf]
        have hlen := HR2.out.len
        have hPP : Below w.heap.size w (Wf.putObj D (.deferred none)) := putN_below bf (by omega) (by omega)
        have d0 : (Wf.putObj D (.deferred none)).cell? ⟨w.heap.size, 0, none⟩ = some (.slice a2 acc.length c2) := cell_at (putN_cells hDf rfl y0) rfl
        have d1 : (Wf.putObj D (.deferred none)).cell? ⟨w.heap.size + 1, 0, none⟩ = some (.int .i64 0) := cell_at (putN_cells hDf rfl y1) rfl
        have d2 : (Wf.putObj D (.deferred none)).cell? ⟨w.heap.size + 1 + 1, 0, none⟩ = some (.int .i64 0) := cell_at (putN_cells hDf rfl x2) rfl
        have hfx : Fix (From W.heap.size) W2 (Wf.putObj D (.deferred none)) := ⟨by rw [World.putObj_size]; omega, fun b h1 h2 => by
          have h2' : W.heap.size ≤ b := h2
          exact (World.putObj_heap_other (by omega)).trans (ed b (by omega))⟩
        have hRF := (HR2.out.keep (entryRd_ok _) hfx).mono (entryRd_ok _) (G := From w.heap.size) fun b _ hb => by
          have hb' : W.heap.size ≤ b := hb
          show w.heap.size ≤ b
          omega
        refine ⟨by simp, .inl ⟨_, _, rfl, run_takeDeferred hDf, ?_⟩⟩
        refine ⟨.tuple #[.slice a2 acc.length c2, .int .i64 0, .int .i64 0], by simp [results, Tryz.results10, go_sem, d0, d1, d2], a2, c2, ?_, ?_, hPP⟩
        · rw [HPW.out, ← hlen]
        · rw [HPW.out]
          dsimp only
          rw [hlen]
          exact hRF
      case stop =>
        intro D i x W hD hok hn hz hdf
        obtain ⟨q, p, acc⟩ := i
        have HPW := Lib.hid (atW_stop HH.out hok.1 hok.2 hn).2
        have HZ := Lib.hid hz
        have HD := Lib.hid hdf
        have hsz := hz.size
        have t0 : W.cell? ⟨w.heap.size, 0, none⟩ = some (.slice none 0 0) := cell_at hz.row rfl
        have t1 : W.cell? ⟨w.heap.size + 1, 0, none⟩ = some (.int .i64 ((q + 1 : Nat) : Int)) := cell_at hz.ln rfl
        have t2 : W.cell? ⟨w.heap.size + 1 + 1, 0, none⟩ = some (.int .i64 (errW x)) := cell_at hz.er rfl
        clear hz hdf hok hn
        gi_wp2
        refine ⟨by simp, .inl ⟨_, _, rfl, run_takeDeferred HD.out, ?_⟩⟩
        have hPP : Below w.heap.size w (W.putObj D (.deferred none)) := putN_below HZ.out.below (by omega) (by omega)
        have d0 : (W.putObj D (.deferred none)).cell? ⟨w.heap.size, 0, none⟩ = some (.slice none 0 0) := cell_at (putN_cells HD.out rfl HZ.out.row) rfl
        have d1 : (W.putObj D (.deferred none)).cell? ⟨w.heap.size + 1, 0, none⟩ = some (.int .i64 ((q + 1 : Nat) : Int)) := cell_at (putN_cells HD.out rfl HZ.out.ln) rfl
        have d2 : (W.putObj D (.deferred none)).cell? ⟨w.heap.size + 1 + 1, 0, none⟩ = some (.int .i64 (errW x)) := cell_at (putN_cells HD.out rfl HZ.out.er) rfl
        exact ⟨.tuple #[.slice none 0 0, .int .i64 ((q + 1 : Nat) : Int), .int .i64 (errW x)], by simp [results, Tryz.results10, go_sem, d0, d1, d2], none, 0, by rw [HPW.out]; rfl, by rw [HPW.out]; exact RowOf.empty _ _ _ _ _, hPP⟩
    · have HHP : Hid (Lib.hasPrefix s.data.toList (ByteArray.mk #[100, 117, 108, 99, 105, 109, 101, 114, 32, 49, 10]).data.toList = false) := Lib.hid (by
        cases hc : Lib.hasPrefix s.data.toList (ByteArray.mk #[100, 117, 108, 99, 105, 109, 101, 114, 32, 49, 10]).data.toList with
        | false => rfl
        | true => rw [hasPrefix_iff] at hc; exact absurd hc hh)
      have HP : Hid (parseW s.data.toList = (9, 1, [])) := Lib.hid (by rw [parseW, if_neg (by simpa using hs), if_neg hh])
      clear hh
      gi_wp2
      refine ⟨trivial, ?_⟩
      refine (callsIn_wide.2 (Tryz.strings_HasPrefix s _ _)).mono ?_
      rintro e w1 ⟨rfl, rfl⟩
      rw [HHP.out]
      gi_wp2
      obtain ⟨hbe, g0, g1, g2⟩ := three_new w (.int .i64 1) (.int .i64 9)
      generalize ((w.alloc (.cells #[.slice none 0 0] 22)).alloc (.cells #[.int .i64 1] 3)).alloc (.cells #[.int .i64 9] 25) = W1 at *
      have c0 : W1.cell? ⟨w.heap.size, 0, none⟩ = some (.slice none 0 0) := cell_at g0 rfl
      have c1 : W1.cell? ⟨w.heap.size + 1, 0, none⟩ = some (.int .i64 1) := cell_at g1 rfl
      have c2 : W1.cell? ⟨w.heap.size + 1 + 1, 0, none⟩ = some (.int .i64 9) := cell_at g2 rfl
      exact ⟨.tuple #[.slice none 0 0, .int .i64 1, .int .i64 9], by simp [results, Tryz.results10, go_sem, c0, c1, c2], none, 0, by rw [HP.out]; rfl, by rw [HP.out]; exact RowOf.empty _ _ _ _ _, hbe⟩
end Go.Proofs.YtephllgddhncgaaGreatDoor.Lex
