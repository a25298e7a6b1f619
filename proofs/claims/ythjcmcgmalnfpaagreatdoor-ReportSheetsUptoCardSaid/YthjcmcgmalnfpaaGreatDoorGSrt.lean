/- RowW, HeldS, SwapW, RotW, InsW, Sm1W, Sm2W, Sm3W: laid into one text. -/
import Derived.Test.YthjcmcgmalnfpaaGreatDoorGStab
import Derived.Test.YthjcmcgmalnfpaaGreatDoorGTree
import Derived.Test.YthjcmcgmalnfpaaGreatDoorRow
import Derived.Below
import Derived.Test.YthjcmcgmalnfpaaGreatDoorHeldZ
import Derived.BigRegion
import Derived.Test.YthjcmcgmalnfpaaGreatDoorPairH
import Derived.Deep.Cut
import Derived.Deep.LoopGhost
import Derived.Test.YthjcmcgmalnfpaaGreatDoorProg
import Derived.WalkKit
import Derived.Deep.RegionHeld3
/- A row of calls (19 cells each) in a block of its own: read, and changed, each as a whole. -/
namespace Go.Proofs.YthjcmcgmalnfpaaGreatDoor.StabW
open Go Go.RowKit Stab
set_option linter.unusedVariables false
/-- A call's cells. -/
structure WC where
  cells : List Value
  fr : Int
  len : cells.length = 19
  one : ∀ v ∈ cells, v.oneCell' = true
  at17 : cells[17]? = some (.int .i64 fr)
def WC.val (e : WC) : Value := .agg e.cells.toArray
structure Lies (L : List WC) (C : Array Value) : Prop where
  size : C.size = L.length * 19
  at_ : ∀ i e, L[i]? = some e → ∀ j v, e.cells[j]? = some v → C[i * 19 + j]? = some v
def setMany : Array Value → Nat → List Value → Array Value
  | C, _, [] => C
  | C, o, v :: r => setMany (C.setIfInBounds o v) (o + 1) r
theorem size_setMany : ∀ (cs : List Value) (C : Array Value) (o : Nat), (setMany C o cs).size = C.size
  | [], _, _ => rfl
  | v :: r, C, o => by rw [setMany, size_setMany r, Array.size_setIfInBounds]
theorem setMany_out : ∀ (cs : List Value) (C : Array Value) (o k : Nat), k < o ∨ o + cs.length ≤ k → (setMany C o cs)[k]? = C[k]?
  | [], _, _, _, _ => rfl
  | v :: r, C, o, k, h => by
    rw [setMany, setMany_out r _ _ _ (by simp only [List.length_cons] at h; omega), Array.getElem?_setIfInBounds, if_neg (by simp only [List.length_cons] at h; omega)]
theorem setMany_in : ∀ (cs : List Value) (C : Array Value) (o j : Nat) (v : Value), cs[j]? = some v → o + cs.length ≤ C.size → (setMany C o cs)[o + j]? = some v
  | [], _, _, _, _, h, _ => by simp at h
  | u :: r, C, o, 0, v, h, hs => by
    obtain rfl : u = v := by simpa using h
    simp only [List.length_cons] at hs
    rw [setMany, setMany_out _ _ _ _ (by omega), Array.getElem?_setIfInBounds, if_pos (by omega), if_pos (by omega)]
  | u :: r, C, o, j + 1, v, h, hs => by
    simp only [List.length_cons] at hs
    rw [setMany, show o + (j + 1) = (o + 1) + j by omega]
    exact setMany_in r _ _ _ _ (by simpa using h) (by rw [Array.size_setIfInBounds]; omega)
theorem setMany_mid : ∀ (cs pre z : List Value), z.length = cs.length → setMany (pre ++ z).toArray pre.length cs = (pre ++ cs).toArray
  | [], pre, [], _ => rfl
  | v :: r, pre, u :: z, h => by
    have e : (pre ++ u :: z).toArray.setIfInBounds pre.length v = ((pre ++ [v]) ++ z).toArray := by simp
    have ih := setMany_mid r (pre ++ [v]) z (by simpa using h)
    rw [List.length_append, List.length_singleton] at ih
    rw [setMany, e, ih, List.append_assoc, List.singleton_append]
theorem setMany_all (cs : List Value) (C : Array Value) (h : C.size = cs.length) : setMany C 0 cs = cs.toArray := by
  have := setMany_mid cs [] C.toList (by simpa using h)
  simpa using this
theorem heap_setCells : ∀ (cs : List Value) (W : World) (b o : Nat) (C : Array Value) (T : TypeId), W.heap[b]? = some (.cells C T (0, 0)) → (W.setCells b o cs).heap[b]? = some (.cells (setMany C o cs) T (0, 0))
  | [], _, _, _, _, _, h => h
  | v :: r, W, b, o, C, T, h => by
    rw [World.setCells, setMany]
    exact heap_setCells r _ b (o + 1) _ T (heap_set_at (o := o) v h)
theorem heap_setCells_all (cs : List Value) (W : World) (b : Nat) (C : Array Value) (T : TypeId) (h : W.heap[b]? = some (.cells C T (0, 0))) (hs : C.size = cs.length) : (W.setCells b 0 cs).heap[b]? = some (.cells cs.toArray T (0, 0)) := by
  rw [← setMany_all cs C hs]
  exact heap_setCells cs W b 0 C T h
theorem heap_setCells_ne : ∀ (cs : List Value) (W : World) (b o c : Nat), c ≠ b → (W.setCells b o cs).heap[c]? = W.heap[c]?
  | [], _, _, _, _, _ => rfl
  | v :: r, W, b, o, c, h => by
    rw [World.setCells, heap_setCells_ne r _ _ _ _ h, Below.heap_setCell _ _ _ _ h]
theorem size_setCells : ∀ (cs : List Value) (W : World) (b o : Nat), (W.setCells b o cs).heap.size = W.heap.size
  | [], _, _, _ => rfl
  | v :: r, W, b, o => by rw [World.setCells, size_setCells r, World.size_setCell]
theorem below_setCells : ∀ (cs : List Value) {B : Nat} {w W : World} (b o : Nat), Below B w W → B ≤ b → Below B w (W.setCells b o cs)
  | [], _, _, _, _, _, h, _ => h
  | v :: r, _, _, _, b, o, h, hB => by
    rw [World.setCells]
    exact below_setCells r b (o + 1) (h.setCell (p := ⟨b, o, none⟩) hB v) hB
theorem Lies.put {L : List WC} {C : Array Value} (h : Lies L C) {i : Nat} (hi : i < L.length) (e : WC) : Lies (L.set i e) (setMany C (i * 19) e.cells) := by
  have hs := h.size
  have hl := e.len
  refine ⟨by rw [size_setMany, List.length_set, hs], fun k x hx j v hv => ?_⟩
  have hj : j < 19 := by rw [← x.len]; exact (List.getElem?_eq_some_iff.1 hv).1
  rw [List.getElem?_set] at hx
  by_cases hk : i = k
  · subst hk
    rw [if_pos rfl, if_pos hi] at hx
    cases hx
    exact setMany_in _ _ _ _ _ hv (by rw [hl]; omega)
  · rw [if_neg hk] at hx
    rw [setMany_out _ _ _ _ (by rw [hl]; omega)]
    exact h.at_ k x hx j v hv
/-- While a row is sorted: it lies in block b; all else that was there is as it was. -/
structure St (B b : Nat) (W0 : World) (L : List WC) (W : World) : Prop where
  row : ∃ C T, W.heap[b]? = some (.cells C T (0, 0)) ∧ Lies L C
  below : Below B W0 W
  keep : ∀ x, x ≠ b → x < W0.heap.size → W.heap[x]? = W0.heap[x]?
theorem St.lt {B b : Nat} {W0 W : World} {L : List WC} (h : St B b W0 L W) : b < W.heap.size := by
  obtain ⟨C, T, g, _⟩ := h.row
  exact (Array.getElem?_eq_some_iff.1 g).1
theorem St.step {B b : Nat} {W0 W W' : World} {L : List WC} (h : St B b W0 L W) (hB : B ≤ b) (hb : Below W.heap.size W W') : St B b W0 L W' := by
  obtain ⟨C, T, g, hl⟩ := h.row
  have hz := h.lt
  exact ⟨⟨C, T, (hb.block _ hz).trans g, hl⟩, h.below.trans (hb.mono (by omega)), fun x hx hz => (hb.block _ (Nat.lt_of_lt_of_le hz h.below.size)).trans (h.keep x hx hz)⟩
theorem St.range {B b : Nat} {W0 W : World} {L : List WC} (h : St B b W0 L W) {i : Nat} {e : WC} (he : L[i]? = some e) : W.rangeAt b (i * 19) e.cells := by
  obtain ⟨C, T, g, hl⟩ := h.row
  exact fun j v hv => cell_at g (hl.at_ i e he j v hv)
theorem St.there {B b : Nat} {W0 W : World} {L : List WC} (h : St B b W0 L W) {i : Nat} (hi : i < L.length) : W.there b (i * 19) 19 := by
  obtain ⟨C, T, g, hl⟩ := h.row
  have hs := hl.size
  exact fun j hj => ⟨by rw [cell_at (o := i * 19 + j) g (Array.getElem?_eq_getElem (by omega))]; rfl, free_at g⟩
theorem St.thereW {B b : Nat} {W0 W : World} {L : List WC} (h : St B b W0 L W) {i : Nat} (hi : i < L.length) (e : WC) : W.there b (i * 19) e.cells.length := by
  rw [e.len]
  exact h.there hi
theorem St.put {B b : Nat} {W0 W : World} {L : List WC} (h : St B b W0 L W) (hB : B ≤ b) {i : Nat} (hi : i < L.length) (e : WC) : St B b W0 (L.set i e) (W.setCells b (i * 19) e.cells) := by
  obtain ⟨C, T, g, hl⟩ := h.row
  exact ⟨⟨_, T, heap_setCells _ _ _ _ _ _ g, hl.put hi e⟩, below_setCells _ _ _ h.below hB, fun x hx hz => (heap_setCells_ne _ _ _ _ _ hx).trans (h.keep x hx hz)⟩
theorem St.fix {B b : Nat} {W0 W : World} {L : List WC} (h : St B b W0 L W) {F : Foot} (hF : ∀ x, F x → x ≠ b) : Fix F W0 W := ⟨h.below.size, fun x hx hf => h.keep x (hF x hf) hx⟩
theorem St.drew {B b : Nat} {W0 W : World} {L : List WC} (h : St B b W0 L W) (hB : B ≤ b) : St B b W0 L W.drew := h.step hB ((Below.refl _ _).drew)
end Go.Proofs.YthjcmcgmalnfpaaGreatDoor.StabW
/- A region that draws its order, reads cells and stores into some of them: the cells' facts are kept by every operation but those that are named. -/
namespace Go.Proofs.YthjcmcgmalnfpaaGreatDoor.Lex
open Go
set_option linter.unusedVariables false
section
variable {P : Program} {ops : Array Oper} {Q : Exit → Act → World → Prop} {md : Region.Mode} {T : World → Prop} {Z : List Nat}
/-- Whatever order is picked, every operation but those of Z keeps T. -/
def wpS (P : Program) (md : Region.Mode) (ops : Array Oper) (Q : Exit → Act → World → Prop) (T : World → Prop) (Z : List Nat) : Nat → Array Bool → Act → World → Prop
  | 0, listed, a, w => Region.ready md ops listed = [] ∧ Q .normal a w
  | fuel + 1, listed, a, w =>
    (Region.ready md ops listed = [] → Q .normal a w) ∧
    ∀ i ∈ Region.ready md ops listed, wpOp P ops Q i (fun a' w' => (i ∈ Z ∨ (T w → T w')) ∧ wpS P md ops Q T Z fuel (listed.setIfInBounds i true) a' w') a w
theorem wpS_any : ∀ (fuel : Nat) (listed : Array Bool) (a : Act) (w : World), wpS P md ops Q T Z fuel listed a w → wpAny P md ops Q fuel listed a w
  | 0, _, _, _, h => h
  | fuel + 1, _, _, _, h => ⟨h.1, fun i hi => wpOp_mono (fun a' w' h' => wpS_any fuel _ a' w' h'.2) (h.2 i hi)⟩
/-- An operation that yields its value wherever S holds may be taken first: if S always holds, or if S is T and all of Z wait for it. -/
theorem wpS_first {S : World → Prop} {i : Nat} {oi : Oper} {v : Value} (hi : ops[i]? = some oi) (hz : (∀ w, S w) ∨ ((∀ w, T w ↔ S w) ∧ ∀ z ∈ Z, Region.waitsFor md ops z i = true)) (hsel : ∀ (j : Nat) (o : Oper) cs b, ops[j]? = some o → o.op ≠ .select cs b)
    (hQ : ∀ c a w, Q (.panic c) (a.put oi.dst v) w → Q (.panic c) a w) :
    ∀ (fuel : Nat) (listed : Array Bool) (a : Act) (w : World),
      (∀ j oj, ops[j]? = some oj → j ≠ i → listed.getD j true = false → (∀ e ∈ oj.after, Region.binds md e = true → e.on ≠ i) → oi.apart ops oj = true) →
      i ∈ Region.ready md ops listed → YieldsIf P ops S oi v a → S w →
      wpS P md ops Q T Z fuel (listed.setIfInBounds i true) (a.put oi.dst v) w → wpS P md ops Q T Z (fuel + 1) listed a w
  | 0, listed, a, w, _, hr, hy, hT, H => by
    refine ⟨fun h => (by rw [h] at hr; cases hr), fun j hj => ?_⟩
    by_cases hji : j = i
    · subst hji
      exact hy.wpOp hi hT ⟨.inr id, H⟩
    · have := ready_mono hj hji
      rw [H.1] at this
      cases this
  | fuel + 1, listed, a, w, hfree, hr, hy, hT, H => by
    refine ⟨fun h => (by rw [h] at hr; cases hr), fun j hj => ?_⟩
    by_cases hji : j = i
    · subst hji
      exact hy.wpOp hi hT ⟨.inr id, H⟩
    · have h1 := H.2 j (ready_mono hj hji)
      obtain ⟨hjun, oj, hoj, hall⟩ := mem_ready.1 hj
      have hnot : ∀ e ∈ oj.after, Region.binds md e = true → e.on ≠ i := fun e he hb heq => by
        have g1 := hall e he hb
        have g0 := (mem_ready.1 hr).1
        rw [heq] at g1
        rcases Nat.lt_or_ge i listed.size with h' | h'
        · simp [h'] at g0 g1
          rw [g0] at g1
          cases g1
        · simp [Array.getElem?_eq_none h'] at g1
      have h2 := wpOp_putIf hoj (hfree j oj hoj hji hjun hnot) (fun cs b => hsel i oi cs b hi) (fun cs b => hsel j oj cs b hoj) hQ hy h1
      have hfree' : ∀ k ok, ops[k]? = some ok → k ≠ i → (listed.setIfInBounds j true).getD k true = false →
          (∀ e ∈ ok.after, Region.binds md e = true → e.on ≠ i) → oi.apart ops ok = true := fun k ok hk hki hun hno => by
        refine hfree k ok hk hki ?_ hno
        by_cases hjk : j = k
        · subst hjk
          exact hjun
        · rw [getD_set_ne true hjk] at hun
          exact hun
      refine wpOp_mono (fun a' w' h3 => ?_) h2
      have hT' : S w' := by
        rcases hz with hz | ⟨he, hz⟩
        · exact hz w'
        · exact (he w').1 ((h3.2.1.resolve_left fun hjz => not_ready_z (hz j hjz) hr hj rfl) ((he w).2 hT))
      refine ⟨h3.2.1, wpS_first hi hz hsel hQ fuel (listed.setIfInBounds j true) a' w' hfree' (ready_mono hr (Ne.symm hji)) h3.1 hT' ?_⟩
      rw [Array.setIfInBounds_comm _ _ hji]
      exact h3.2.2
/-- What reads nothing may be taken first. -/
theorem wpS_pure {i : Nat} {oi : Oper} {v : Value} {fuel : Nat} {listed : Array Bool} {a : Act} {w : World} (hi : ops[i]? = some oi)
    (hs : Region.noSelect ops = true) (hf : Region.free md ops listed i = true) (hr : (Region.ready md ops listed).contains i = true)
    (hQ : ∀ c a w, Q (.panic c) (a.put oi.dst v) w → Q (.panic c) a w) (hy : YieldsIf P ops (fun _ => True) oi v a)
    (h : wpS P md ops Q T Z fuel (listed.setIfInBounds i true) (a.put oi.dst v) w) : wpS P md ops Q T Z (fuel + 1) listed a w :=
  wpS_first hi (.inl fun _ => trivial) (Region.noSelect_spec hs) hQ fuel listed a w (Region.free_spec hi hf) (by simpa using hr) hy trivial h
/-- What reads where T holds may be taken first, if all of Z wait for it. -/
theorem wpS_take {i : Nat} {oi : Oper} {v : Value} {fuel : Nat} {listed : Array Bool} {a : Act} {w : World} (hi : ops[i]? = some oi) (hz : (Z.all fun z => Region.waitsFor md ops z i) = true)
    (hs : Region.noSelect ops = true) (hf : Region.free md ops listed i = true) (hr : (Region.ready md ops listed).contains i = true)
    (hQ : ∀ c a w, Q (.panic c) (a.put oi.dst v) w → Q (.panic c) a w) (hT : T w) (hy : YieldsIf P ops T oi v a)
    (h : wpS P md ops Q T Z fuel (listed.setIfInBounds i true) (a.put oi.dst v) w) : wpS P md ops Q T Z (fuel + 1) listed a w :=
  wpS_first hi (.inr ⟨fun _ => Iff.rfl, fun z hz' => List.all_eq_true.1 hz z hz'⟩) (Region.noSelect_spec hs) hQ fuel listed a w (Region.free_spec hi hf) (by simpa using hr) hy hT h
/-- The one operation that may come up. -/
theorem wpS_one {i : Nat} {o : Oper} {fuel : Nat} {listed : Array Bool} {a : Act} {w : World} (hr : Region.ready md ops listed = [i]) (ho : ops[i]? = some o)
    (h : ∀ K' : Act → World → Prop, Shut (∀ a' w', (i ∈ Z ∨ (T w → T w')) → wpS P md ops Q T Z fuel (listed.setIfInBounds i true) a' w' → K' a' w') → if Region.wanted o (yielded ops a.tmps) = true then Oper.wp P o a w K' Q else K' (a.put o.dst undef) w) : wpS P md ops Q T Z (fuel + 1) listed a w :=
  ⟨fun h0 => absurd (hr.symm.trans h0) (by simp), fun j hj => by
    rw [hr, List.mem_singleton] at hj
    subst hj
    exact wpOp_step ho (fun K' hK => h K' (fun a w hT hW => hK a w ⟨hT, hW⟩))⟩
theorem wpS_done {listed : Array Bool} {a : Act} {w : World} (hr : Region.ready md ops listed = []) (h : Q .normal a w) : ∀ fuel, wpS P md ops Q T Z fuel listed a w
  | 0 => ⟨hr, h⟩
  | _ + 1 => ⟨fun _ => h, by rw [hr]; simp⟩
theorem wp_region_w {id : Nat} {a : Act} {w : World} (T : World → Prop) (Z : List Nat) (hm : P.follows .mixedOrders = true)
    (h : wpS P .any ops Q T Z ops.size (Array.replicate ops.size false) a w.drew) : (Code.region id ops true).wp P Q a w :=
  wp_region_any hm (wpS_any _ _ _ _ h)
end
end Go.Proofs.YthjcmcgmalnfpaaGreatDoor.Lex
/- Two blocks of a row of calls change places. -/
namespace Go.Proofs.YthjcmcgmalnfpaaGreatDoor.Lex
open Go
/-- A whole struct stored in a region that draws its order. -/
theorem step_store {P : Program} {w : World} {ops : Array Oper} {o : Oper} {a : Act} {K : Act → World → Prop} {Q : Exit → Act → World → Prop} {E0 : Prop} (hw : Region.wanted o (yielded ops a.tmps) = true) (ty : TypeId) (x y : Operand) (ho : o.op = .store ty x y)
    (b off : Nat) (hx : a.eval x = .pointer (some ⟨b, off, none⟩)) (cs : List Value) (hy : a.eval y = .agg cs.toArray) (ht : w.there b off cs.length) (hi : (P.info? ty).map (·.size) = some cs.length) (h1 : ∀ v ∈ cs, v.oneCell' = true)
    (h : K (a.put o.dst undef) (w.setCells b off cs)) : if Region.wanted o (yielded ops a.tmps) = true then Oper.wp P o a w K Q else E0 := by
  rw [if_pos hw]
  exact wp_store_mid ty x y ho b off cs.toArray hx hy (by simpa using ht) (by simpa using hi) (all_oneCell_toArray h1) (by simpa using h)
end Go.Proofs.YthjcmcgmalnfpaaGreatDoor.Lex
namespace Go.Proofs.YthjcmcgmalnfpaaGreatDoor.StabW
open Go Go.RowKit Stab
set_option linter.unusedSimpArgs false
set_option linter.unusedVariables false
theorem wrapN {n m i : Nat} (h : i = n + m) (hi : i < 4611686018427387904) : IntKind.i64.wrap ((n : Int) + (m : Int)) = (i : Int) := by
  subst h
  simp only [IntKind.wrap, IntKind.bits, IntKind.signed]
  simp
  omega
set_option maxRecDepth 100000 in
set_option maxHeartbeats 4000000 in
theorem swapr_any (B b : Nat) (W0 : World) (hB : B ≤ b) (L : List WC) (cap a c n : Nat) (v : Value) (hac : a + n ≤ c) (hcn : c + n ≤ L.length) (hl : L.length ≤ 1099511627776) (W : World) (hst : St B b W0 L W) :
    Calls Tryz.prog 101 #[.slice (some ⟨b, 0, none⟩) L.length cap, .int .i64 a, .int .i64 c, .int .i64 n, v] W fun e w' => e = .returned (.tuple #[]) ∧ ∃ L', Turned (sig a c n) L L' ∧ St B b W0 L' w' := by
  have HST := Lib.hid hst
  obtain ⟨N, hN⟩ : ∃ N, N = L.length := ⟨_, rfl⟩
  rw [← hN] at hcn hl ⊢
  have HN := Lib.hid hN
  have HAC := Lib.hid hac
  clear hst hN
  go_enter Tryz.func101, Tryz.ntmps101
  go_wp2_with fail
  go_loopg [10] n (fun g iv wr => ∃ k : Nat, ∃ L' : List WC, k ≤ n ∧ g = n - k ∧ iv = .int .i64 (k : Int) ∧ Turned (sig a c k) L L' ∧ St B b W0 L' wr)
  case atStart => exact ⟨0, L, by omega, rfl, rfl, ⟨rfl, fun t => by rw [sig_none]⟩, HST.out⟩
  case round =>
    obtain ⟨k, L', hk, rfl, rfl, ht, hs⟩ := hrel
    obtain ⟨wo, rfl⟩ : ∃ wo : World, wo = wr := ⟨_, rfl⟩
    have HT := Lib.hid ht
    have HS := Lib.hid hs
    clear ht hs
    by_cases hlt : k < n
    · obtain ⟨i, hi⟩ : ∃ i, i = a + k := ⟨_, rfl⟩
      obtain ⟨j, hj⟩ : ∃ j, j = c + k := ⟨_, rfl⟩
      have hlen : L'.length = N := by rw [HT.out.len, HN.out]
      have hiN : i < N := by omega
      have hjN : j < N := by omega
      have hij : i < j := by omega
      obtain ⟨x, hx⟩ : ∃ x, L'[i]? = some x := ⟨_, List.getElem?_eq_getElem (by omega)⟩
      obtain ⟨y, hy⟩ : ∃ y, L'[j]? = some y := ⟨_, List.getElem?_eq_getElem (by omega)⟩
      have wi : IntKind.i64.wrap ((a : Int) + (k : Int)) = (i : Int) := wrapN hi (by omega)
      have wj : IntKind.i64.wrap ((c : Int) + (k : Int)) = (j : Int) := wrapN hj (by omega)
      have i0 : (0 : Int) ≤ (i : Int) := by omega
      have j0 : (0 : Int) ≤ (j : Int) := by omega
      have iN : (i : Int) < (N : Int) := by omega
      have jN : (j : Int) < (N : Int) := by omega
      have HX := Lib.hid hx
      have HY := Lib.hid hy
      have HI := Lib.hid hi
      have HJ := Lib.hid hj
      have HLEN := Lib.hid hlen
      clear hx hy hi hj hlen
      go_upto_region 3 with fail
      obtain ⟨wd, hwd⟩ : ∃ wd, wd = World.drew wo := ⟨_, rfl⟩
      have HD0 : Hid (St B b W0 L' wd) := Lib.hid (by rw [hwd]; exact HS.out.drew hB)
      have HR1 : Hid (wd.rangeAt b (j * 19) y.cells ∧ wd.rangeAt b (i * 19) x.cells) := Lib.hid ⟨HD0.out.range HY.out, HD0.out.range HX.out⟩
      refine Lex.wp_region_w (fun W' => W'.rangeAt b (j * 19) y.cells ∧ W'.rangeAt b (i * 19) x.cells) [21, 23] (by kernel_rfl) ?_
      rw [← hwd]
      clear hwd
      change Lex.wpS _ _ _ _ _ _ 24 #[false, false, false, false, false, false, false, false, false, false, false, false, false, false, false, false, false, false, false, false, false, false, false, false] _ wd
      (refine Lex.wpS_pure (i := 0) (v := ?_) rfl (by kernel_rfl) (by kernel_rfl) (by kernel_rfl) (fun _ _ _ h => h) (Or.inl ⟨by rfl, ?_⟩) ?_; rotate_left 1; (focus (intro w0 hw0; clear hw0; go_simp; try with_reducible rfl)); simp only [Act.put, List.getElem_toArray, List.getElem_cons_zero, List.getElem_cons_succ, List.setIfInBounds_toArray, List.set_cons_zero, List.set_cons_succ])
      (refine Lex.wpS_pure (i := 1) (v := ?_) rfl (by kernel_rfl) (by kernel_rfl) (by kernel_rfl) (fun _ _ _ h => h) (Or.inl ⟨by rfl, ?_⟩) ?_; rotate_left 1; (focus (intro w0 hw0; clear hw0; go_simp; try with_reducible rfl)); simp only [Act.put, List.getElem_toArray, List.getElem_cons_zero, List.getElem_cons_succ, List.setIfInBounds_toArray, List.set_cons_zero, List.set_cons_succ])
      (refine Lex.wpS_pure (i := 2) (v := ?_) rfl (by kernel_rfl) (by kernel_rfl) (by kernel_rfl) (fun _ _ _ h => h) (Or.inl ⟨by rfl, ?_⟩) ?_; rotate_left 1; (focus (intro w0 hw0; clear hw0; go_simp; try with_reducible rfl)); simp only [Act.put, List.getElem_toArray, List.getElem_cons_zero, List.getElem_cons_succ, List.setIfInBounds_toArray, List.set_cons_zero, List.set_cons_succ])
      (refine Lex.wpS_pure (i := 3) (v := ?_) rfl (by kernel_rfl) (by kernel_rfl) (by kernel_rfl) (fun _ _ _ h => h) (Or.inl ⟨by rfl, ?_⟩) ?_; rotate_left 1; (focus (intro w0 hw0; clear hw0; go_simp; try with_reducible rfl)); simp only [Act.put, List.getElem_toArray, List.getElem_cons_zero, List.getElem_cons_succ, List.setIfInBounds_toArray, List.set_cons_zero, List.set_cons_succ])
      (refine Lex.wpS_pure (i := 8) (v := ?_) rfl (by kernel_rfl) (by kernel_rfl) (by kernel_rfl) (fun _ _ _ h => h) (Or.inl ⟨by rfl, ?_⟩) ?_; rotate_left 1; (focus (intro w0 hw0; clear hw0; go_simp; try with_reducible rfl)); simp only [Act.put, List.getElem_toArray, List.getElem_cons_zero, List.getElem_cons_succ, List.setIfInBounds_toArray, List.set_cons_zero, List.set_cons_succ])
      (refine Lex.wpS_pure (i := 9) (v := ?_) rfl (by kernel_rfl) (by kernel_rfl) (by kernel_rfl) (fun _ _ _ h => h) (Or.inl ⟨by rfl, ?_⟩) ?_; rotate_left 1; (focus (intro w0 hw0; clear hw0; go_simp; try with_reducible rfl)); simp only [Act.put, List.getElem_toArray, List.getElem_cons_zero, List.getElem_cons_succ, List.setIfInBounds_toArray, List.set_cons_zero, List.set_cons_succ])
      (refine Lex.wpS_pure (i := 10) (v := ?_) rfl (by kernel_rfl) (by kernel_rfl) (by kernel_rfl) (fun _ _ _ h => h) (Or.inl ⟨by rfl, ?_⟩) ?_; rotate_left 1; (focus (intro w0 hw0; clear hw0; go_simp; try with_reducible rfl)); simp only [Act.put, List.getElem_toArray, List.getElem_cons_zero, List.getElem_cons_succ, List.setIfInBounds_toArray, List.set_cons_zero, List.set_cons_succ])
      (refine Lex.wpS_pure (i := 11) (v := ?_) rfl (by kernel_rfl) (by kernel_rfl) (by kernel_rfl) (fun _ _ _ h => h) (Or.inl ⟨by rfl, ?_⟩) ?_; rotate_left 1; (focus (intro w0 hw0; clear hw0; go_simp; try with_reducible rfl)); simp only [Act.put, List.getElem_toArray, List.getElem_cons_zero, List.getElem_cons_succ, List.setIfInBounds_toArray, List.set_cons_zero, List.set_cons_succ])
      (refine Lex.wpS_pure (i := 12) (v := ?_) rfl (by kernel_rfl) (by kernel_rfl) (by kernel_rfl) (fun _ _ _ h => h) (Or.inl ⟨by rfl, ?_⟩) ?_; rotate_left 1; (focus (intro w0 hw0; clear hw0; go_simp; try with_reducible rfl)); simp only [Act.put, List.getElem_toArray, List.getElem_cons_zero, List.getElem_cons_succ, List.setIfInBounds_toArray, List.set_cons_zero, List.set_cons_succ])
      (refine Lex.wpS_take (i := 13) (v := .agg y.cells.toArray) rfl (by kernel_rfl) (by kernel_rfl) (by kernel_rfl) (by kernel_rfl) (fun _ _ _ h => h) HR1.out (yieldsIf_load_mid (by rfl) 58 _ rfl b (j * 19) rfl y.cells _ (fun W h => h.1) Tryz.underlying58 rfl (by rw [y.len]; kernel_rfl)) ?_; simp only [Act.put, List.getElem_toArray, List.getElem_cons_zero, List.getElem_cons_succ, List.setIfInBounds_toArray, List.set_cons_zero, List.set_cons_succ])
      (refine Lex.wpS_pure (i := 14) (v := ?_) rfl (by kernel_rfl) (by kernel_rfl) (by kernel_rfl) (fun _ _ _ h => h) (Or.inl ⟨by rfl, ?_⟩) ?_; rotate_left 1; (focus (intro w0 hw0; clear hw0; go_simp; try with_reducible rfl)); simp only [Act.put, List.getElem_toArray, List.getElem_cons_zero, List.getElem_cons_succ, List.setIfInBounds_toArray, List.set_cons_zero, List.set_cons_succ])
      (refine Lex.wpS_pure (i := 15) (v := ?_) rfl (by kernel_rfl) (by kernel_rfl) (by kernel_rfl) (fun _ _ _ h => h) (Or.inl ⟨by rfl, ?_⟩) ?_; rotate_left 1; (focus (intro w0 hw0; clear hw0; go_simp; try with_reducible rfl)); simp only [Act.put, List.getElem_toArray, List.getElem_cons_zero, List.getElem_cons_succ, List.setIfInBounds_toArray, List.set_cons_zero, List.set_cons_succ])
      (refine Lex.wpS_pure (i := 16) (v := ?_) rfl (by kernel_rfl) (by kernel_rfl) (by kernel_rfl) (fun _ _ _ h => h) (Or.inl ⟨by rfl, ?_⟩) ?_; rotate_left 1; (focus (intro w0 hw0; clear hw0; go_simp; try with_reducible rfl)); simp only [Act.put, List.getElem_toArray, List.getElem_cons_zero, List.getElem_cons_succ, List.setIfInBounds_toArray, List.set_cons_zero, List.set_cons_succ])
      (refine Lex.wpS_pure (i := 17) (v := ?_) rfl (by kernel_rfl) (by kernel_rfl) (by kernel_rfl) (fun _ _ _ h => h) (Or.inl ⟨by rfl, ?_⟩) ?_; rotate_left 1; (focus (intro w0 hw0; clear hw0; go_simp; try with_reducible rfl)); simp only [Act.put, List.getElem_toArray, List.getElem_cons_zero, List.getElem_cons_succ, List.setIfInBounds_toArray, List.set_cons_zero, List.set_cons_succ])
      (refine Lex.wpS_pure (i := 18) (v := ?_) rfl (by kernel_rfl) (by kernel_rfl) (by kernel_rfl) (fun _ _ _ h => h) (Or.inl ⟨by rfl, ?_⟩) ?_; rotate_left 1; (focus (intro w0 hw0; clear hw0; go_simp; try with_reducible rfl)); simp only [Act.put, List.getElem_toArray, List.getElem_cons_zero, List.getElem_cons_succ, List.setIfInBounds_toArray, List.set_cons_zero, List.set_cons_succ])
      (refine Lex.wpS_take (i := 19) (v := .agg x.cells.toArray) rfl (by kernel_rfl) (by kernel_rfl) (by kernel_rfl) (by kernel_rfl) (fun _ _ _ h => h) HR1.out (yieldsIf_load_mid (by rfl) 58 _ rfl b (i * 19) rfl x.cells _ (fun W h => h.2) Tryz.underlying58 rfl (by rw [x.len]; kernel_rfl)) ?_; simp only [Act.put, List.getElem_toArray, List.getElem_cons_zero, List.getElem_cons_succ, List.setIfInBounds_toArray, List.set_cons_zero, List.set_cons_succ])
      (refine Lex.wpS_pure (i := 4) (v := ?_) rfl (by kernel_rfl) (by kernel_rfl) (by kernel_rfl) (fun _ _ _ h => h) (Or.inl ⟨by rfl, ?_⟩) ?_; rotate_left 1; (focus (intro w0 hw0; clear hw0; go_simp; try with_reducible rfl)); simp only [Act.put, List.getElem_toArray, List.getElem_cons_zero, List.getElem_cons_succ, List.setIfInBounds_toArray, List.set_cons_zero, List.set_cons_succ])
      (refine Lex.wpS_pure (i := 5) (v := ?_) rfl (by kernel_rfl) (by kernel_rfl) (by kernel_rfl) (fun _ _ _ h => h) (Or.inl ⟨by rfl, ?_⟩) ?_; rotate_left 1; (focus (intro w0 hw0; clear hw0; go_simp; try with_reducible rfl)); simp only [Act.put, List.getElem_toArray, List.getElem_cons_zero, List.getElem_cons_succ, List.setIfInBounds_toArray, List.set_cons_zero, List.set_cons_succ])
      (refine Lex.wpS_pure (i := 6) (v := ?_) rfl (by kernel_rfl) (by kernel_rfl) (by kernel_rfl) (fun _ _ _ h => h) (Or.inl ⟨by rfl, ?_⟩) ?_; rotate_left 1; (focus (intro w0 hw0; clear hw0; go_simp; try with_reducible rfl)); simp only [Act.put, List.getElem_toArray, List.getElem_cons_zero, List.getElem_cons_succ, List.setIfInBounds_toArray, List.set_cons_zero, List.set_cons_succ])
      (refine Lex.wpS_pure (i := 7) (v := ?_) rfl (by kernel_rfl) (by kernel_rfl) (by kernel_rfl) (fun _ _ _ h => h) (Or.inl ⟨by rfl, ?_⟩) ?_; rotate_left 1; (focus (intro w0 hw0; clear hw0; go_simp; try with_reducible rfl)); simp only [Act.put, List.getElem_toArray, List.getElem_cons_zero, List.getElem_cons_succ, List.setIfInBounds_toArray, List.set_cons_zero, List.set_cons_succ])
      (refine Lex.wpS_pure (i := 20) (v := ?_) rfl (by kernel_rfl) (by kernel_rfl) (by kernel_rfl) (fun _ _ _ h => h) (Or.inl ⟨by rfl, ?_⟩) ?_; rotate_left 1; (focus (intro w0 hw0; clear hw0; go_simp; try with_reducible rfl)); simp only [Act.put, List.getElem_toArray, List.getElem_cons_zero, List.getElem_cons_succ, List.setIfInBounds_toArray, List.set_cons_zero, List.set_cons_succ])
      refine Lex.wpS_one (i := 21) (by kernel_rfl) rfl (fun K hK => ?_)
      refine Lex.step_store (by rfl) 58 _ _ rfl b (i * 19) rfl y.cells rfl (HD0.out.thereW (by rw [HLEN.out]; omega) y) (by rw [y.len]; kernel_rfl) y.one ?_
      refine hK.out _ _ (.inl (by simp)) ?_
      clear hK K
      try simp only [Act.put, List.getElem_toArray, List.getElem_cons_zero, List.getElem_cons_succ, List.setIfInBounds_toArray, List.set_cons_zero, List.set_cons_succ]
      obtain ⟨wy, hwy⟩ : ∃ wy, wy = wd.setCells b (i * 19) y.cells := ⟨_, rfl⟩
      rw [← hwy]
      have HD1 : Hid (St B b W0 (L'.set i y) wy) := Lib.hid (by rw [hwy]; exact HD0.out.put hB (by rw [HLEN.out]; omega) y)
      clear hwy
      (refine Lex.wpS_pure (i := 22) (v := ?_) rfl (by kernel_rfl) (by kernel_rfl) (by kernel_rfl) (fun _ _ _ h => h) (Or.inl ⟨by rfl, ?_⟩) ?_; rotate_left 1; (focus (intro w0 hw0; clear hw0; go_simp; try with_reducible rfl)); simp only [Act.put, List.getElem_toArray, List.getElem_cons_zero, List.getElem_cons_succ, List.setIfInBounds_toArray, List.set_cons_zero, List.set_cons_succ])
      refine Lex.wpS_one (i := 23) (by kernel_rfl) rfl (fun K hK => ?_)
      refine Lex.step_store (by rfl) 58 _ _ rfl b (j * 19) rfl x.cells rfl (HD1.out.thereW (by rw [List.length_set, HLEN.out]; omega) x) (by rw [x.len]; kernel_rfl) x.one ?_
      refine hK.out _ _ (.inl (by simp)) ?_
      clear hK K
      try simp only [Act.put, List.getElem_toArray, List.getElem_cons_zero, List.getElem_cons_succ, List.setIfInBounds_toArray, List.set_cons_zero, List.set_cons_succ]
      obtain ⟨W9, hW9⟩ : ∃ W9, W9 = wy.setCells b (j * 19) x.cells := ⟨_, rfl⟩
      rw [← hW9]
      have HS9 : Hid (St B b W0 ((L'.set i y).set j x) W9) := Lib.hid (by rw [hW9]; exact HD1.out.put hB (by rw [List.length_set, HLEN.out]; omega) x)
      clear hW9 HD0 HD1 HR1
      refine Lex.wpS_done (by kernel_rfl) ?_ _
      go_wp2_with fail
      go_roundg (n - (k + 1))
      case measure => omega
      case rel =>
        refine ⟨k + 1, (L'.set i y).set j x, by omega, rfl, by go_num, ?_, HS9.out⟩
        refine (HT.out.trans (turned_swap hij HX.out HY.out)).congr fun t => ?_
        rw [HI.out, HJ.out]
        exact sig_step (by have := HAC.out; omega)
    · obtain rfl : k = n := by omega
      go_wp2_with fail
      go_end0
      exact ⟨rfl, L', HT.out, HS.out⟩
end Go.Proofs.YthjcmcgmalnfpaaGreatDoor.StabW
/- Two sections of a row of calls change places. -/
namespace Go.Proofs.YthjcmcgmalnfpaaGreatDoor.StabW
open Go Go.RowKit Stab
set_option linter.unusedSimpArgs false
set_option linter.unusedVariables false
theorem wrapS {n m i : Nat} (h : n = i + m) (hi : n < 4611686018427387904) : IntKind.i64.wrap ((n : Int) - (m : Int)) = (i : Int) := by
  have e : (n : Int) - (m : Int) = ((i : Nat) : Int) + ((0 : Nat) : Int) := by omega
  rw [e]
  exact wrapN (by omega) (by omega)
set_option maxRecDepth 100000 in
set_option maxHeartbeats 4000000 in
theorem rot_any (B b : Nat) (W0 : World) (hB : B ≤ b) (L : List WC) (cap a m c : Nat) (v : Value) (ham : a < m) (hmc : m < c) (hcn : c ≤ L.length) (hl : L.length ≤ 1099511627776) (W : World) (hst : St B b W0 L W) :
    Calls Tryz.prog 90 #[.slice (some ⟨b, 0, none⟩) L.length cap, .int .i64 a, .int .i64 m, .int .i64 c, v] W fun e w' => e = .returned (.tuple #[]) ∧ ∃ L', Turned (rho a m c) L L' ∧ St B b W0 L' w' := by
  have HST := Lib.hid hst
  obtain ⟨N, hN⟩ : ∃ N, N = L.length := ⟨_, rfl⟩
  rw [← hN] at hcn hl ⊢
  have HN := Lib.hid hN
  have HSW : Hid (∀ (L' : List WC) (x y n : Nat) (W' : World), L'.length = N → x + n ≤ y → y + n ≤ N → St B b W0 L' W' → Calls Tryz.prog 101 #[.slice (some ⟨b, 0, none⟩) N cap, .int .i64 x, .int .i64 y, .int .i64 n, v] W' fun e w' => e = .returned (.tuple #[]) ∧ ∃ L'', Turned (sig x y n) L' L'' ∧ St B b W0 L'' w') := Lib.hid fun L' x y n W' h1 h2 h3 h4 => by
    have h := swapr_any B b W0 hB L' cap x y n v h2 (by omega) (by omega) W' h4
    rw [h1] at h
    exact h
  obtain ⟨i0, hi0, hi0'⟩ : ∃ i0, m ≤ i0 + a ∧ i0 + a ≤ m := ⟨m - a, by omega, by omega⟩
  obtain ⟨j0, hj0, hj0'⟩ : ∃ j0, c ≤ j0 + m ∧ j0 + m ≤ c := ⟨c - m, by omega, by omega⟩
  have w1 := wrapS (n := m) (m := a) (i := i0) (by omega) (by omega)
  have w2 := wrapS (n := c) (m := m) (i := j0) (by omega) (by omega)
  clear hst hN
  go_enter Tryz.func90, Tryz.ntmps90
  go_wp2_with fail
  clear w1 w2
  go_loopg [10, 11] (i0 + j0) (fun g iv jv wr => ∃ i j : Nat, ∃ L' : List WC, 1 ≤ i ∧ 1 ≤ j ∧ a + i ≤ m ∧ m + j ≤ c ∧ g = i + j ∧ iv = .int .i64 (i : Int) ∧ jv = .int .i64 (j : Int) ∧ L'.length = N ∧ (∀ t, L'[rho (m - i) m (m + j) t]? = L[rho a m c t]?) ∧ St B b W0 L' wr)
  case atStart => exact ⟨i0, j0, L, by omega, by omega, by omega, by omega, rfl, rfl, rfl, HN.out.symm, fun t => by rw [show m - i0 = a by omega, show m + j0 = c by omega], HST.out⟩
  case round =>
    obtain ⟨i, j, L', hi, hj, hai, hjc, rfl, rfl, rfl, hlen, hrho, hs⟩ := hrel
    obtain ⟨wo, rfl⟩ : ∃ wo : World, wo = wr := ⟨_, rfl⟩
    have HR := Lib.hid hrho
    have HS := Lib.hid hs
    have HLEN := Lib.hid hlen
    obtain ⟨mi, hmi, hmi'⟩ : ∃ mi, m ≤ mi + i ∧ mi + i ≤ m := ⟨m - i, by omega, by omega⟩
    have hmie : m - i = mi := by omega
    have wmi := wrapS (n := m) (m := i) (i := mi) (by omega) (by omega)
    have HMI := Lib.hid hmie
    clear hrho hs hlen hmie
    by_cases hij : i = j
    · subst hij
      go_wp2_with (go_at_call 101; (with_reducible refine (HSW.out L' mi m i _ HLEN.out (by omega) (by omega) HS.out).mono ?_); rintro e w9 ⟨rfl, L9, ht9, hs9⟩; have HT9 := Lib.hid ht9; have HS9 := Lib.hid hs9; clear ht9 hs9)
      go_end0
      refine ⟨rfl, L9, ⟨by rw [HT9.out.len, HLEN.out, HN.out], fun t => ?_⟩, HS9.out⟩
      rw [HT9.out.at_, ← HR.out t, HMI.out]
      congr 1
      have h := rho_last (i := i) (m := m) (t := t) (by omega)
      rw [HMI.out] at h
      exact h
    · have hne : ¬ (i : Int) = (j : Int) := by omega
      by_cases hlt : j < i
      · have hlt' : (j : Int) < (i : Int) := by omega
        obtain ⟨i2, hi2, hi2'⟩ : ∃ i2, i ≤ i2 + j ∧ i2 + j ≤ i := ⟨i - j, by omega, by omega⟩
        have wi2 := wrapS (n := i) (m := j) (i := i2) (by omega) (by omega)
        go_wp2_with (go_at_call 101; (with_reducible refine (HSW.out L' mi m j _ HLEN.out (by omega) (by omega) HS.out).mono ?_); rintro e w9 ⟨rfl, L9, ht9, hs9⟩; have HT9 := Lib.hid ht9; have HS9 := Lib.hid hs9; clear ht9 hs9)
        go_roundg (i2 + j)
        case measure => omega
        case rel =>
          refine ⟨i2, j, L9, by omega, hj, by omega, hjc, rfl, rfl, rfl, by rw [HT9.out.len, HLEN.out], fun t => ?_, HS9.out⟩
          rw [HT9.out.at_, ← HR.out t, HMI.out]
          congr 1
          have h := rho_left (i := i) (j := j) (m := m) (t := t) hlt (by omega)
          rw [HMI.out] at h
          rw [← h, show m - i2 = mi + j by omega]
      · have hlt' : ¬ (j : Int) < (i : Int) := by omega
        obtain ⟨j2, hj2, hj2'⟩ : ∃ j2, j ≤ j2 + i ∧ j2 + i ≤ j := ⟨j - i, by omega, by omega⟩
        have wj2 := wrapS (n := j) (m := i) (i := j2) (by omega) (by omega)
        obtain ⟨mj, hmj, hmj'⟩ : ∃ mj, mj ≤ m + j ∧ m + j ≤ mj := ⟨m + j, by omega, by omega⟩
        have wmj := wrapN (n := m) (m := j) (i := mj) (by omega) (by omega)
        obtain ⟨q, hq, hq'⟩ : ∃ q, mj ≤ q + i ∧ q + i ≤ mj := ⟨mj - i, by omega, by omega⟩
        have wq := wrapS (n := mj) (m := i) (i := q) (by omega) (by omega)
        have HJQ : Hid (m + j - i = q) := Lib.hid (by omega)
        have HJ2 : Hid (m + j2 = q) := Lib.hid (by omega)
        go_wp2_with (go_at_call 101; (with_reducible refine (HSW.out L' mi q i _ HLEN.out (by omega) (by omega) HS.out).mono ?_); rintro e w9 ⟨rfl, L9, ht9, hs9⟩; have HT9 := Lib.hid ht9; have HS9 := Lib.hid hs9; clear ht9 hs9)
        go_roundg (i + j2)
        case measure => omega
        case rel =>
          refine ⟨i, j2, L9, hi, by omega, hai, by omega, rfl, rfl, rfl, by rw [HT9.out.len, HLEN.out], fun t => ?_, HS9.out⟩
          rw [HT9.out.at_, ← HR.out t, HMI.out]
          congr 1
          have h := rho_right (i := i) (j := j) (m := m) (t := t) (by omega) (by omega)
          rw [HMI.out, HJQ.out] at h
          rw [← h, HJ2.out]
end Go.Proofs.YthjcmcgmalnfpaaGreatDoor.StabW
/- An insertion sort of a section of a row of calls. -/
namespace Go.Proofs.YthjcmcgmalnfpaaGreatDoor.StabW
open Go Go.RowKit Stab
set_option linter.unusedSimpArgs false
set_option linter.unusedVariables false
/-- What calls are held against each other by: a closure that gives cf. -/
structure CmpAt (cf : WC → WC → Int) : Prop where
  ord : Ord fun x y => decide (cf x y < 0)
  calls : ∀ (W : World) (x y : WC), Calls Tryz.prog 29 #[x.val, y.val] W fun e w' => e = .returned (.int .i64 (cf x y)) ∧ Below W.heap.size W w'
theorem srt_one {α : Type} {lt : α → α → Bool} {l : List α} {a : Nat} : Srt lt (sec l a (a + 1)) := by
  rw [sec, show a + 1 - a = 1 by omega]
  rcases l.drop a with _ | ⟨x, _⟩
  · simp [Srt]
  · simp [Srt]
set_option maxRecDepth 100000 in
set_option maxHeartbeats 4000000 in
theorem ins_any (B b : Nat) (W0 : World) (hB : B ≤ b) (cf : WC → WC → Int) (hcmp : CmpAt cf) (L : List WC) (cap a c : Nat) (hac : a ≤ c) (hcn : c ≤ L.length) (hl : L.length ≤ 1099511627776) (W : World) (hst : St B b W0 L W) :
    Calls Tryz.prog 64 #[.slice (some ⟨b, 0, none⟩) L.length cap, .int .i64 a, .int .i64 c, .func (.func 29) #[] #[]] W fun e w' => e = .returned (.tuple #[]) ∧ ∃ L', On (fun x y => decide (cf x y < 0)) a c L L' ∧ St B b W0 L' w' := by
  have HST := Lib.hid hst
  have HCMP := Lib.hid hcmp
  obtain ⟨N, hN⟩ : ∃ N, N = L.length := ⟨_, rfl⟩
  rw [← hN] at hcn hl ⊢
  have HN := Lib.hid hN
  obtain ⟨a1, ha1, ha1'⟩ : ∃ a1, a1 ≤ a + 1 ∧ a + 1 ≤ a1 := ⟨a + 1, by omega, by omega⟩
  have wa : IntKind.i64.wrap ((a : Int) + 1) = (a1 : Int) := wrapN (n := a) (m := 1) (i := a1) (by omega) (by omega)
  clear hst hN hcmp
  go_enter Tryz.func64, Tryz.ntmps64
  go_wp2_with fail
  clear wa
  go_loopg [8] (N + 1 - a1) (fun g iv wr => ∃ i : Nat, ∃ L' : List WC, a + 1 ≤ i ∧ i ≤ N + 1 ∧ g = N + 1 - i ∧ iv = .int .i64 (i : Int) ∧ (i ≤ c ∨ (i = a + 1 ∧ L' = L)) ∧ On (fun x y => decide (cf x y < 0)) a i L L' ∧ St B b W0 L' wr)
  case atStart =>
    refine ⟨a1, L, by omega, by omega, rfl, rfl, .inr ⟨by omega, rfl⟩, ?_, HST.out⟩
    rw [show a1 = a + 1 by omega]
    exact On.refl srt_one
  case round =>
    obtain ⟨i, L', hai, hiN, rfl, rfl, hor, hon, hs⟩ := hrel
    obtain ⟨wo, rfl⟩ : ∃ wo : World, wo = wr := ⟨_, rfl⟩
    have HON := Lib.hid hon
    have HS := Lib.hid hs
    have HOR := Lib.hid hor
    clear hon hs hor
    by_cases hic : i < c
    · have hici : (i : Int) < (c : Int) := by omega
      have hlen : L'.length = N := by rw [HON.out.len, HN.out]
      have HLEN := Lib.hid hlen
      obtain ⟨x, hx⟩ : ∃ x, L'[i]? = some x := ⟨_, List.getElem?_eq_getElem (by omega)⟩
      have HX := Lib.hid hx
      clear hlen hx
      go_wp2_with fail
      go_loopg [9] i (fun g jv wr => ∃ j : Nat, ∃ L1 : List WC, a ≤ j ∧ j ≤ i ∧ j = g ∧ jv = .int .i64 (j : Int) ∧ Turned (rho j i (i + 1)) L' L1 ∧ (j < i → ∀ y, L'[j]? = some y → cf x y < 0) ∧ St B b W0 L1 wr)
      case atStart => exact ⟨i, L', by omega, Nat.le_refl _, rfl, rfl, ⟨rfl, fun t => by rw [rho_none]⟩, fun h => by omega, HS.out⟩
      case round =>
        obtain ⟨j, L1, haj, hji, rfl, rfl, ht, hlow, hs1⟩ := hrel
        obtain ⟨w1, rfl⟩ : ∃ w1 : World, w1 = wr := ⟨_, rfl⟩
        have HT := Lib.hid ht
        have HLOW := Lib.hid hlow
        have HS1 := Lib.hid hs1
        have HSRT : Hid (Srt (fun x y => decide (cf x y < 0)) (sec L' a i)) := Lib.hid HON.out.srt
        clear ht hlow hs1
        have fin : Hid ((a < j → ∀ y, L'[j - 1]? = some y → decide (cf x y < 0) = false) → On (fun x y => decide (cf x y < 0)) a (i + 1) L L1) := Lib.hid fun h => HON.out.trans (by omega) (by omega) (one_right HCMP.out.ord HX.out haj hji HSRT.out h (fun h y hy => by simpa using HLOW.out h y hy) HT.out)
        by_cases hja : j = a
        · have hjai : ¬ (a : Int) < (j : Int) := by omega
          have FIN := Lib.hid (fin.out fun h => by omega)
          clear hja fin
          go_upto_region 4 with fail
          go_quiet (fail)
          go_wp2_with fail
          go_roundg (N + 1 - (i + 1))
          case measure => omega
          case rel => exact ⟨i + 1, L1, by omega, by omega, rfl, by go_num, .inl (by omega), FIN.out, HS1.out.step hB (by first | exact Below.refl _ _ | exact below_drewN (Below.refl _ _) _)⟩
        · have hjai : (a : Int) < (j : Int) := by omega
          obtain ⟨jm, hjm, hjm'⟩ : ∃ jm, j ≤ jm + 1 ∧ jm + 1 ≤ j := ⟨j - 1, by omega, by omega⟩
          have wj : IntKind.i64.wrap ((j : Int) - 1) = (jm : Int) := wrapS (n := j) (m := 1) (i := jm) (by omega) (by omega)
          have hl1 : L1.length = N := by rw [HT.out.len, HLEN.out]
          obtain ⟨y, hy⟩ : ∃ y, L1[jm]? = some y := ⟨_, List.getElem?_eq_getElem (by omega)⟩
          have hxj : L1[j]? = some x := by
            rw [HT.out.at_, ← HX.out]
            congr 1
            unfold rho
            rw [if_neg (by omega), if_pos (by omega)]
            omega
          have hyj : L'[jm]? = some y := by
            rw [← hy, HT.out.at_]
            congr 1
            unfold rho
            rw [if_pos (by omega)]
          have HY := Lib.hid hy
          have HXJ := Lib.hid hxj
          have HYJ := Lib.hid hyj
          have HL1 := Lib.hid hl1
          have HCL : Hid (∀ W', Below w1.heap.size w1 W' → Calls Tryz.prog 29 #[x.val, y.val] W' fun e w' => e = .returned (.int .i64 (cf x y)) ∧ Below w1.heap.size w1 w') := Lib.hid fun W' hb => (HCMP.out.calls W' x y).mono fun e w' h => ⟨h.1, hb.trans (h.2.mono hb.size)⟩
          unfold WC.val at HCL
          have HCC : Hid (∀ W', Below w1.heap.size w1 W' → W'.rangeAt b (j * 19) x.cells ∧ W'.rangeAt b (jm * 19) y.cells) := Lib.hid fun W' hb => ⟨(HS1.out.step hB hb).range hxj, (HS1.out.step hB hb).range hy⟩
          have hbz := Below.refl w1.heap.size w1
          have jN : (j : Int) < (N : Int) := by omega
          have jmN : (jm : Int) < (N : Int) := by omega
          have j0 : (0 : Int) ≤ (j : Int) := by omega
          have jm0 : (0 : Int) ≤ (jm : Int) := by omega
          clear hy hxj hyj hl1
          by_cases hcf : cf x y < 0
          · have hcb : decide (cf x y < 0) = true := by simpa using hcf
            clear fin
            go_upto_region 4 with fail
            obtain ⟨wd, hwd⟩ : ∃ wd, wd = World.drew w1 := ⟨_, rfl⟩
            have HSB : Hid (Below w1.heap.size w1 wd) := Lib.hid (by rw [hwd]; exact (Below.refl _ _).drew)
            refine wp_region_held (S := fun W => Below w1.heap.size w1 W) (by kernel_rfl) ?_
            change wpAnyH _ _ _ _ _ 17 #[false, false, false, false, false, false, false, false, false, false, false, false, false, false, false, false, false] _ (World.drew w1)
            rw [← hwd]
            clear hwd
            (refine wpAnyH_take (i := 0) (v := ?_) rfl (by kernel_rfl) (by kernel_rfl) (by kernel_rfl) (fun _ _ _ h => h) (Or.inl ⟨by rfl, ?_⟩) HSB.out ?_; rotate_left 1; (focus (intro w0 hw0; clear hw0; go_simp; try with_reducible rfl)); simp only [Act.put, List.getElem_toArray, List.getElem_cons_zero, List.getElem_cons_succ, List.setIfInBounds_toArray, List.set_cons_zero, List.set_cons_succ])
            (refine wpAnyH_take (i := 1) (v := ?_) rfl (by kernel_rfl) (by kernel_rfl) (by kernel_rfl) (fun _ _ _ h => h) (Or.inl ⟨by rfl, ?_⟩) HSB.out ?_; rotate_left 1; (focus (intro w0 hw0; clear hw0; go_simp; try with_reducible rfl)); simp only [Act.put, List.getElem_toArray, List.getElem_cons_zero, List.getElem_cons_succ, List.setIfInBounds_toArray, List.set_cons_zero, List.set_cons_succ])
            (refine wpAnyH_take (i := 2) (v := ?_) rfl (by kernel_rfl) (by kernel_rfl) (by kernel_rfl) (fun _ _ _ h => h) (Or.inl ⟨by rfl, ?_⟩) HSB.out ?_; rotate_left 1; (focus (intro w0 hw0; clear hw0; go_simp; try with_reducible rfl)); simp only [Act.put, List.getElem_toArray, List.getElem_cons_zero, List.getElem_cons_succ, List.setIfInBounds_toArray, List.set_cons_zero, List.set_cons_succ])
            (refine wpAnyH_take (i := 3) (v := ?_) rfl (by kernel_rfl) (by kernel_rfl) (by kernel_rfl) (fun _ _ _ h => h) (Or.inl ⟨by rfl, ?_⟩) HSB.out ?_; rotate_left 1; (focus (intro w0 hw0; clear hw0; go_simp; try with_reducible rfl)); simp only [Act.put, List.getElem_toArray, List.getElem_cons_zero, List.getElem_cons_succ, List.setIfInBounds_toArray, List.set_cons_zero, List.set_cons_succ])
            (refine wpAnyH_take (i := 4) (v := ?_) rfl (by kernel_rfl) (by kernel_rfl) (by kernel_rfl) (fun _ _ _ h => h) (Or.inl ⟨by rfl, ?_⟩) HSB.out ?_; rotate_left 1; (focus (intro w0 hw0; clear hw0; go_simp; try with_reducible rfl)); simp only [Act.put, List.getElem_toArray, List.getElem_cons_zero, List.getElem_cons_succ, List.setIfInBounds_toArray, List.set_cons_zero, List.set_cons_succ])
            (refine wpAnyH_take (i := 5) (v := ?_) rfl (by kernel_rfl) (by kernel_rfl) (by kernel_rfl) (fun _ _ _ h => h) (Or.inl ⟨by rfl, ?_⟩) HSB.out ?_; rotate_left 1; (focus (intro w0 hw0; clear hw0; go_simp; try with_reducible rfl)); simp only [Act.put, List.getElem_toArray, List.getElem_cons_zero, List.getElem_cons_succ, List.setIfInBounds_toArray, List.set_cons_zero, List.set_cons_succ])
            (refine wpAnyH_take (i := 6) (v := ?_) rfl (by kernel_rfl) (by kernel_rfl) (by kernel_rfl) (fun _ _ _ h => h) (Or.inl ⟨by rfl, ?_⟩) HSB.out ?_; rotate_left 1; (focus (intro w0 hw0; clear hw0; go_simp; try with_reducible rfl)); simp only [Act.put, List.getElem_toArray, List.getElem_cons_zero, List.getElem_cons_succ, List.setIfInBounds_toArray, List.set_cons_zero, List.set_cons_succ])
            (refine wpAnyH_take (i := 7) (v := ?_) rfl (by kernel_rfl) (by kernel_rfl) (by kernel_rfl) (fun _ _ _ h => h) (Or.inl ⟨by rfl, ?_⟩) HSB.out ?_; rotate_left 1; (focus (intro w0 hw0; clear hw0; go_simp; try with_reducible rfl)); simp only [Act.put, List.getElem_toArray, List.getElem_cons_zero, List.getElem_cons_succ, List.setIfInBounds_toArray, List.set_cons_zero, List.set_cons_succ])
            (refine wpAnyH_take (i := 8) (v := .agg x.cells.toArray) rfl (by kernel_rfl) (by kernel_rfl) (by kernel_rfl) (fun _ _ _ h => h) (yieldsIf_load_mid (by rfl) 58 _ rfl b (j * 19) rfl x.cells _ (fun W h => (HCC.out W h).1) Tryz.underlying58 rfl (by rw [x.len]; kernel_rfl)) HSB.out ?_; simp only [Act.put, List.getElem_toArray, List.getElem_cons_zero, List.getElem_cons_succ, List.setIfInBounds_toArray, List.set_cons_zero, List.set_cons_succ])
            (refine wpAnyH_take (i := 9) (v := ?_) rfl (by kernel_rfl) (by kernel_rfl) (by kernel_rfl) (fun _ _ _ h => h) (Or.inl ⟨by rfl, ?_⟩) HSB.out ?_; rotate_left 1; (focus (intro w0 hw0; clear hw0; go_simp; try with_reducible rfl)); simp only [Act.put, List.getElem_toArray, List.getElem_cons_zero, List.getElem_cons_succ, List.setIfInBounds_toArray, List.set_cons_zero, List.set_cons_succ])
            (refine wpAnyH_take (i := 10) (v := ?_) rfl (by kernel_rfl) (by kernel_rfl) (by kernel_rfl) (fun _ _ _ h => h) (Or.inl ⟨by rfl, ?_⟩) HSB.out ?_; rotate_left 1; (focus (intro w0 hw0; clear hw0; go_simp; try with_reducible rfl)); simp only [Act.put, List.getElem_toArray, List.getElem_cons_zero, List.getElem_cons_succ, List.setIfInBounds_toArray, List.set_cons_zero, List.set_cons_succ])
            (refine wpAnyH_take (i := 11) (v := ?_) rfl (by kernel_rfl) (by kernel_rfl) (by kernel_rfl) (fun _ _ _ h => h) (Or.inl ⟨by rfl, ?_⟩) HSB.out ?_; rotate_left 1; (focus (intro w0 hw0; clear hw0; go_simp; try with_reducible rfl)); simp only [Act.put, List.getElem_toArray, List.getElem_cons_zero, List.getElem_cons_succ, List.setIfInBounds_toArray, List.set_cons_zero, List.set_cons_succ])
            (refine wpAnyH_take (i := 12) (v := ?_) rfl (by kernel_rfl) (by kernel_rfl) (by kernel_rfl) (fun _ _ _ h => h) (Or.inl ⟨by rfl, ?_⟩) HSB.out ?_; rotate_left 1; (focus (intro w0 hw0; clear hw0; go_simp; try with_reducible rfl)); simp only [Act.put, List.getElem_toArray, List.getElem_cons_zero, List.getElem_cons_succ, List.setIfInBounds_toArray, List.set_cons_zero, List.set_cons_succ])
            (refine wpAnyH_take (i := 13) (v := .agg y.cells.toArray) rfl (by kernel_rfl) (by kernel_rfl) (by kernel_rfl) (fun _ _ _ h => h) (yieldsIf_load_mid (by rfl) 58 _ rfl b (jm * 19) rfl y.cells _ (fun W h => (HCC.out W h).2) Tryz.underlying58 rfl (by rw [y.len]; kernel_rfl)) HSB.out ?_; simp only [Act.put, List.getElem_toArray, List.getElem_cons_zero, List.getElem_cons_succ, List.setIfInBounds_toArray, List.set_cons_zero, List.set_cons_succ])
            refine Lex.wpAnyH_one (i := 14) (vi := .int .i64 (cf x y)) rfl (by kernel_rfl) HSB.out ?_ ?_
            · (intro W K hW hK; (try simp only [Act.put, List.getElem_toArray, List.getElem_cons_zero, List.getElem_cons_succ, List.setIfInBounds_toArray, List.set_cons_zero, List.set_cons_succ]); refine wpOp_step rfl (fun K2 hK2 => ?_); go_simp; refine (HCL.out _ hW).mono ?_; rintro e w9 ⟨rfl, hb⟩; exact hK2 _ _ (hK _ hb))
            clear HSB
            intro w2 hS2
            have HSB := Lib.hid hS2
            clear hS2
            simp only [Act.put, List.getElem_toArray, List.getElem_cons_zero, List.getElem_cons_succ, List.setIfInBounds_toArray, List.set_cons_zero, List.set_cons_succ]
            (refine wpAnyH_take (i := 15) (v := ?_) rfl (by kernel_rfl) (by kernel_rfl) (by kernel_rfl) (fun _ _ _ h => h) (Or.inl ⟨by rfl, ?_⟩) HSB.out ?_; rotate_left 1; (focus (intro w0 hw0; clear hw0; go_simp; try with_reducible rfl)); simp only [Act.put, List.getElem_toArray, List.getElem_cons_zero, List.getElem_cons_succ, List.setIfInBounds_toArray, List.set_cons_zero, List.set_cons_succ])
            (refine wpAnyH_take (i := 16) (v := ?_) rfl (by kernel_rfl) (by kernel_rfl) (by kernel_rfl) (fun _ _ _ h => h) (Or.inl ⟨by rfl, ?_⟩) HSB.out ?_; rotate_left 1; (focus (intro w0 hw0; clear hw0; go_simp; try with_reducible rfl)); simp only [Act.put, List.getElem_toArray, List.getElem_cons_zero, List.getElem_cons_succ, List.setIfInBounds_toArray, List.set_cons_zero, List.set_cons_succ])
            refine wpAnyH_done (by kernel_rfl) ?_ _
            all_goals
              have HS2 : Hid (St B b W0 L1 w2) := Lib.hid (HS1.out.step hB HSB.out)
              go_upto_region 6 with fail
              obtain ⟨wd, hwd⟩ : ∃ wd, wd = World.drew w2 := ⟨_, rfl⟩
              have HD0 : Hid (St B b W0 L1 wd) := Lib.hid (by rw [hwd]; exact HS2.out.drew hB)
              have HR1 : Hid (wd.rangeAt b (jm * 19) y.cells ∧ wd.rangeAt b (j * 19) x.cells) := Lib.hid ⟨HD0.out.range HY.out, HD0.out.range HXJ.out⟩
              refine Lex.wp_region_w (fun W' => W'.rangeAt b (jm * 19) y.cells ∧ W'.rangeAt b (j * 19) x.cells) [15, 17] (by kernel_rfl) ?_
              rw [← hwd]
              clear hwd
              change Lex.wpS _ _ _ _ _ _ 18 #[false, false, false, false, false, false, false, false, false, false, false, false, false, false, false, false, false, false] _ wd
              (refine Lex.wpS_pure (i := 0) (v := ?_) rfl (by kernel_rfl) (by kernel_rfl) (by kernel_rfl) (fun _ _ _ h => h) (Or.inl ⟨by rfl, ?_⟩) ?_; rotate_left 1; (focus (intro w0 hw0; clear hw0; go_simp; try with_reducible rfl)); simp only [Act.put, List.getElem_toArray, List.getElem_cons_zero, List.getElem_cons_succ, List.setIfInBounds_toArray, List.set_cons_zero, List.set_cons_succ])
              (refine Lex.wpS_pure (i := 1) (v := ?_) rfl (by kernel_rfl) (by kernel_rfl) (by kernel_rfl) (fun _ _ _ h => h) (Or.inl ⟨by rfl, ?_⟩) ?_; rotate_left 1; (focus (intro w0 hw0; clear hw0; go_simp; try with_reducible rfl)); simp only [Act.put, List.getElem_toArray, List.getElem_cons_zero, List.getElem_cons_succ, List.setIfInBounds_toArray, List.set_cons_zero, List.set_cons_succ])
              (refine Lex.wpS_pure (i := 5) (v := ?_) rfl (by kernel_rfl) (by kernel_rfl) (by kernel_rfl) (fun _ _ _ h => h) (Or.inl ⟨by rfl, ?_⟩) ?_; rotate_left 1; (focus (intro w0 hw0; clear hw0; go_simp; try with_reducible rfl)); simp only [Act.put, List.getElem_toArray, List.getElem_cons_zero, List.getElem_cons_succ, List.setIfInBounds_toArray, List.set_cons_zero, List.set_cons_succ])
              (refine Lex.wpS_pure (i := 6) (v := ?_) rfl (by kernel_rfl) (by kernel_rfl) (by kernel_rfl) (fun _ _ _ h => h) (Or.inl ⟨by rfl, ?_⟩) ?_; rotate_left 1; (focus (intro w0 hw0; clear hw0; go_simp; try with_reducible rfl)); simp only [Act.put, List.getElem_toArray, List.getElem_cons_zero, List.getElem_cons_succ, List.setIfInBounds_toArray, List.set_cons_zero, List.set_cons_succ])
              (refine Lex.wpS_pure (i := 7) (v := ?_) rfl (by kernel_rfl) (by kernel_rfl) (by kernel_rfl) (fun _ _ _ h => h) (Or.inl ⟨by rfl, ?_⟩) ?_; rotate_left 1; (focus (intro w0 hw0; clear hw0; go_simp; try with_reducible rfl)); simp only [Act.put, List.getElem_toArray, List.getElem_cons_zero, List.getElem_cons_succ, List.setIfInBounds_toArray, List.set_cons_zero, List.set_cons_succ])
              (refine Lex.wpS_pure (i := 8) (v := ?_) rfl (by kernel_rfl) (by kernel_rfl) (by kernel_rfl) (fun _ _ _ h => h) (Or.inl ⟨by rfl, ?_⟩) ?_; rotate_left 1; (focus (intro w0 hw0; clear hw0; go_simp; try with_reducible rfl)); simp only [Act.put, List.getElem_toArray, List.getElem_cons_zero, List.getElem_cons_succ, List.setIfInBounds_toArray, List.set_cons_zero, List.set_cons_succ])
              (refine Lex.wpS_take (i := 9) (v := .agg y.cells.toArray) rfl (by kernel_rfl) (by kernel_rfl) (by kernel_rfl) (by kernel_rfl) (fun _ _ _ h => h) HR1.out (yieldsIf_load_mid (by rfl) 58 _ rfl b (jm * 19) rfl y.cells _ (fun W h => h.1) Tryz.underlying58 rfl (by rw [y.len]; kernel_rfl)) ?_; simp only [Act.put, List.getElem_toArray, List.getElem_cons_zero, List.getElem_cons_succ, List.setIfInBounds_toArray, List.set_cons_zero, List.set_cons_succ])
              (refine Lex.wpS_pure (i := 10) (v := ?_) rfl (by kernel_rfl) (by kernel_rfl) (by kernel_rfl) (fun _ _ _ h => h) (Or.inl ⟨by rfl, ?_⟩) ?_; rotate_left 1; (focus (intro w0 hw0; clear hw0; go_simp; try with_reducible rfl)); simp only [Act.put, List.getElem_toArray, List.getElem_cons_zero, List.getElem_cons_succ, List.setIfInBounds_toArray, List.set_cons_zero, List.set_cons_succ])
              (refine Lex.wpS_pure (i := 11) (v := ?_) rfl (by kernel_rfl) (by kernel_rfl) (by kernel_rfl) (fun _ _ _ h => h) (Or.inl ⟨by rfl, ?_⟩) ?_; rotate_left 1; (focus (intro w0 hw0; clear hw0; go_simp; try with_reducible rfl)); simp only [Act.put, List.getElem_toArray, List.getElem_cons_zero, List.getElem_cons_succ, List.setIfInBounds_toArray, List.set_cons_zero, List.set_cons_succ])
              (refine Lex.wpS_pure (i := 12) (v := ?_) rfl (by kernel_rfl) (by kernel_rfl) (by kernel_rfl) (fun _ _ _ h => h) (Or.inl ⟨by rfl, ?_⟩) ?_; rotate_left 1; (focus (intro w0 hw0; clear hw0; go_simp; try with_reducible rfl)); simp only [Act.put, List.getElem_toArray, List.getElem_cons_zero, List.getElem_cons_succ, List.setIfInBounds_toArray, List.set_cons_zero, List.set_cons_succ])
              (refine Lex.wpS_take (i := 13) (v := .agg x.cells.toArray) rfl (by kernel_rfl) (by kernel_rfl) (by kernel_rfl) (by kernel_rfl) (fun _ _ _ h => h) HR1.out (yieldsIf_load_mid (by rfl) 58 _ rfl b (j * 19) rfl x.cells _ (fun W h => h.2) Tryz.underlying58 rfl (by rw [x.len]; kernel_rfl)) ?_; simp only [Act.put, List.getElem_toArray, List.getElem_cons_zero, List.getElem_cons_succ, List.setIfInBounds_toArray, List.set_cons_zero, List.set_cons_succ])
              (refine Lex.wpS_pure (i := 2) (v := ?_) rfl (by kernel_rfl) (by kernel_rfl) (by kernel_rfl) (fun _ _ _ h => h) (Or.inl ⟨by rfl, ?_⟩) ?_; rotate_left 1; (focus (intro w0 hw0; clear hw0; go_simp; try with_reducible rfl)); simp only [Act.put, List.getElem_toArray, List.getElem_cons_zero, List.getElem_cons_succ, List.setIfInBounds_toArray, List.set_cons_zero, List.set_cons_succ])
              (refine Lex.wpS_pure (i := 3) (v := ?_) rfl (by kernel_rfl) (by kernel_rfl) (by kernel_rfl) (fun _ _ _ h => h) (Or.inl ⟨by rfl, ?_⟩) ?_; rotate_left 1; (focus (intro w0 hw0; clear hw0; go_simp; try with_reducible rfl)); simp only [Act.put, List.getElem_toArray, List.getElem_cons_zero, List.getElem_cons_succ, List.setIfInBounds_toArray, List.set_cons_zero, List.set_cons_succ])
              (refine Lex.wpS_pure (i := 4) (v := ?_) rfl (by kernel_rfl) (by kernel_rfl) (by kernel_rfl) (fun _ _ _ h => h) (Or.inl ⟨by rfl, ?_⟩) ?_; rotate_left 1; (focus (intro w0 hw0; clear hw0; go_simp; try with_reducible rfl)); simp only [Act.put, List.getElem_toArray, List.getElem_cons_zero, List.getElem_cons_succ, List.setIfInBounds_toArray, List.set_cons_zero, List.set_cons_succ])
              (refine Lex.wpS_pure (i := 14) (v := ?_) rfl (by kernel_rfl) (by kernel_rfl) (by kernel_rfl) (fun _ _ _ h => h) (Or.inl ⟨by rfl, ?_⟩) ?_; rotate_left 1; (focus (intro w0 hw0; clear hw0; go_simp; try with_reducible rfl)); simp only [Act.put, List.getElem_toArray, List.getElem_cons_zero, List.getElem_cons_succ, List.setIfInBounds_toArray, List.set_cons_zero, List.set_cons_succ])
              refine Lex.wpS_one (i := 15) (by kernel_rfl) rfl (fun K hK => ?_)
              refine Lex.step_store (by rfl) 58 _ _ rfl b (j * 19) rfl y.cells rfl (HD0.out.thereW (by rw [HL1.out]; omega) y) (by rw [y.len]; kernel_rfl) y.one ?_
              refine hK.out _ _ (.inl (by simp)) ?_
              clear hK K
              try simp only [Act.put, List.getElem_toArray, List.getElem_cons_zero, List.getElem_cons_succ, List.setIfInBounds_toArray, List.set_cons_zero, List.set_cons_succ]
              obtain ⟨wy, hwy⟩ : ∃ wy, wy = wd.setCells b (j * 19) y.cells := ⟨_, rfl⟩
              rw [← hwy]
              have HD1 : Hid (St B b W0 (L1.set j y) wy) := Lib.hid (by rw [hwy]; exact HD0.out.put hB (by rw [HL1.out]; omega) y)
              clear hwy
              (refine Lex.wpS_pure (i := 16) (v := ?_) rfl (by kernel_rfl) (by kernel_rfl) (by kernel_rfl) (fun _ _ _ h => h) (Or.inl ⟨by rfl, ?_⟩) ?_; rotate_left 1; (focus (intro w0 hw0; clear hw0; go_simp; try with_reducible rfl)); simp only [Act.put, List.getElem_toArray, List.getElem_cons_zero, List.getElem_cons_succ, List.setIfInBounds_toArray, List.set_cons_zero, List.set_cons_succ])
              refine Lex.wpS_one (i := 17) (by kernel_rfl) rfl (fun K hK => ?_)
              refine Lex.step_store (by rfl) 58 _ _ rfl b (jm * 19) rfl x.cells rfl (HD1.out.thereW (by rw [List.length_set, HL1.out]; omega) x) (by rw [x.len]; kernel_rfl) x.one ?_
              refine hK.out _ _ (.inl (by simp)) ?_
              clear hK K
              try simp only [Act.put, List.getElem_toArray, List.getElem_cons_zero, List.getElem_cons_succ, List.setIfInBounds_toArray, List.set_cons_zero, List.set_cons_succ]
              obtain ⟨W9, hW9⟩ : ∃ W9, W9 = wy.setCells b (jm * 19) x.cells := ⟨_, rfl⟩
              rw [← hW9]
              have HS9 : Hid (St B b W0 ((L1.set j y).set jm x) W9) := Lib.hid (by rw [hW9]; exact HD1.out.put hB (by rw [List.length_set, HL1.out]; omega) x)
              clear hW9 HD0 HD1 HR1
              refine Lex.wpS_done (by kernel_rfl) ?_ _
              have HJ : Hid (j = jm + 1) := Lib.hid (by omega)
              go_wp2_with fail
              go_roundg jm
              case measure => omega
              case rel =>
                refine ⟨jm, (L1.set j y).set jm x, by omega, by omega, rfl, rfl, ?_, fun _ z hz => ?_, HS9.out⟩
                · have e : (L1.set j y).set jm x = (L1.set jm x).set j y := List.set_comm _ _ (by omega)
                  rw [e]
                  refine (HT.out.trans (turned_swap (by omega) HY.out HXJ.out)).congr fun t => ?_
                  rw [HJ.out]
                  exact rho_down (by omega)
                · rw [HYJ.out] at hz
                  cases hz
                  simpa using hcb
          · have hcb : decide (cf x y < 0) = false := by simpa using hcf
            have FIN := Lib.hid (fin.out fun _ z hz => by
              rw [show j - 1 = jm by omega, HYJ.out] at hz
              cases hz
              exact hcb)
            clear fin
            go_upto_region 4 with fail
            obtain ⟨wd, hwd⟩ : ∃ wd, wd = World.drew w1 := ⟨_, rfl⟩
            have HSB : Hid (Below w1.heap.size w1 wd) := Lib.hid (by rw [hwd]; exact (Below.refl _ _).drew)
            refine wp_region_held (S := fun W => Below w1.heap.size w1 W) (by kernel_rfl) ?_
            change wpAnyH _ _ _ _ _ 17 #[false, false, false, false, false, false, false, false, false, false, false, false, false, false, false, false, false] _ (World.drew w1)
            rw [← hwd]
            clear hwd
            (refine wpAnyH_take (i := 0) (v := ?_) rfl (by kernel_rfl) (by kernel_rfl) (by kernel_rfl) (fun _ _ _ h => h) (Or.inl ⟨by rfl, ?_⟩) HSB.out ?_; rotate_left 1; (focus (intro w0 hw0; clear hw0; go_simp; try with_reducible rfl)); simp only [Act.put, List.getElem_toArray, List.getElem_cons_zero, List.getElem_cons_succ, List.setIfInBounds_toArray, List.set_cons_zero, List.set_cons_succ])
            (refine wpAnyH_take (i := 1) (v := ?_) rfl (by kernel_rfl) (by kernel_rfl) (by kernel_rfl) (fun _ _ _ h => h) (Or.inl ⟨by rfl, ?_⟩) HSB.out ?_; rotate_left 1; (focus (intro w0 hw0; clear hw0; go_simp; try with_reducible rfl)); simp only [Act.put, List.getElem_toArray, List.getElem_cons_zero, List.getElem_cons_succ, List.setIfInBounds_toArray, List.set_cons_zero, List.set_cons_succ])
            (refine wpAnyH_take (i := 2) (v := ?_) rfl (by kernel_rfl) (by kernel_rfl) (by kernel_rfl) (fun _ _ _ h => h) (Or.inl ⟨by rfl, ?_⟩) HSB.out ?_; rotate_left 1; (focus (intro w0 hw0; clear hw0; go_simp; try with_reducible rfl)); simp only [Act.put, List.getElem_toArray, List.getElem_cons_zero, List.getElem_cons_succ, List.setIfInBounds_toArray, List.set_cons_zero, List.set_cons_succ])
            (refine wpAnyH_take (i := 3) (v := ?_) rfl (by kernel_rfl) (by kernel_rfl) (by kernel_rfl) (fun _ _ _ h => h) (Or.inl ⟨by rfl, ?_⟩) HSB.out ?_; rotate_left 1; (focus (intro w0 hw0; clear hw0; go_simp; try with_reducible rfl)); simp only [Act.put, List.getElem_toArray, List.getElem_cons_zero, List.getElem_cons_succ, List.setIfInBounds_toArray, List.set_cons_zero, List.set_cons_succ])
            (refine wpAnyH_take (i := 4) (v := ?_) rfl (by kernel_rfl) (by kernel_rfl) (by kernel_rfl) (fun _ _ _ h => h) (Or.inl ⟨by rfl, ?_⟩) HSB.out ?_; rotate_left 1; (focus (intro w0 hw0; clear hw0; go_simp; try with_reducible rfl)); simp only [Act.put, List.getElem_toArray, List.getElem_cons_zero, List.getElem_cons_succ, List.setIfInBounds_toArray, List.set_cons_zero, List.set_cons_succ])
            (refine wpAnyH_take (i := 5) (v := ?_) rfl (by kernel_rfl) (by kernel_rfl) (by kernel_rfl) (fun _ _ _ h => h) (Or.inl ⟨by rfl, ?_⟩) HSB.out ?_; rotate_left 1; (focus (intro w0 hw0; clear hw0; go_simp; try with_reducible rfl)); simp only [Act.put, List.getElem_toArray, List.getElem_cons_zero, List.getElem_cons_succ, List.setIfInBounds_toArray, List.set_cons_zero, List.set_cons_succ])
            (refine wpAnyH_take (i := 6) (v := ?_) rfl (by kernel_rfl) (by kernel_rfl) (by kernel_rfl) (fun _ _ _ h => h) (Or.inl ⟨by rfl, ?_⟩) HSB.out ?_; rotate_left 1; (focus (intro w0 hw0; clear hw0; go_simp; try with_reducible rfl)); simp only [Act.put, List.getElem_toArray, List.getElem_cons_zero, List.getElem_cons_succ, List.setIfInBounds_toArray, List.set_cons_zero, List.set_cons_succ])
            (refine wpAnyH_take (i := 7) (v := ?_) rfl (by kernel_rfl) (by kernel_rfl) (by kernel_rfl) (fun _ _ _ h => h) (Or.inl ⟨by rfl, ?_⟩) HSB.out ?_; rotate_left 1; (focus (intro w0 hw0; clear hw0; go_simp; try with_reducible rfl)); simp only [Act.put, List.getElem_toArray, List.getElem_cons_zero, List.getElem_cons_succ, List.setIfInBounds_toArray, List.set_cons_zero, List.set_cons_succ])
            (refine wpAnyH_take (i := 8) (v := .agg x.cells.toArray) rfl (by kernel_rfl) (by kernel_rfl) (by kernel_rfl) (fun _ _ _ h => h) (yieldsIf_load_mid (by rfl) 58 _ rfl b (j * 19) rfl x.cells _ (fun W h => (HCC.out W h).1) Tryz.underlying58 rfl (by rw [x.len]; kernel_rfl)) HSB.out ?_; simp only [Act.put, List.getElem_toArray, List.getElem_cons_zero, List.getElem_cons_succ, List.setIfInBounds_toArray, List.set_cons_zero, List.set_cons_succ])
            (refine wpAnyH_take (i := 9) (v := ?_) rfl (by kernel_rfl) (by kernel_rfl) (by kernel_rfl) (fun _ _ _ h => h) (Or.inl ⟨by rfl, ?_⟩) HSB.out ?_; rotate_left 1; (focus (intro w0 hw0; clear hw0; go_simp; try with_reducible rfl)); simp only [Act.put, List.getElem_toArray, List.getElem_cons_zero, List.getElem_cons_succ, List.setIfInBounds_toArray, List.set_cons_zero, List.set_cons_succ])
            (refine wpAnyH_take (i := 10) (v := ?_) rfl (by kernel_rfl) (by kernel_rfl) (by kernel_rfl) (fun _ _ _ h => h) (Or.inl ⟨by rfl, ?_⟩) HSB.out ?_; rotate_left 1; (focus (intro w0 hw0; clear hw0; go_simp; try with_reducible rfl)); simp only [Act.put, List.getElem_toArray, List.getElem_cons_zero, List.getElem_cons_succ, List.setIfInBounds_toArray, List.set_cons_zero, List.set_cons_succ])
            (refine wpAnyH_take (i := 11) (v := ?_) rfl (by kernel_rfl) (by kernel_rfl) (by kernel_rfl) (fun _ _ _ h => h) (Or.inl ⟨by rfl, ?_⟩) HSB.out ?_; rotate_left 1; (focus (intro w0 hw0; clear hw0; go_simp; try with_reducible rfl)); simp only [Act.put, List.getElem_toArray, List.getElem_cons_zero, List.getElem_cons_succ, List.setIfInBounds_toArray, List.set_cons_zero, List.set_cons_succ])
            (refine wpAnyH_take (i := 12) (v := ?_) rfl (by kernel_rfl) (by kernel_rfl) (by kernel_rfl) (fun _ _ _ h => h) (Or.inl ⟨by rfl, ?_⟩) HSB.out ?_; rotate_left 1; (focus (intro w0 hw0; clear hw0; go_simp; try with_reducible rfl)); simp only [Act.put, List.getElem_toArray, List.getElem_cons_zero, List.getElem_cons_succ, List.setIfInBounds_toArray, List.set_cons_zero, List.set_cons_succ])
            (refine wpAnyH_take (i := 13) (v := .agg y.cells.toArray) rfl (by kernel_rfl) (by kernel_rfl) (by kernel_rfl) (fun _ _ _ h => h) (yieldsIf_load_mid (by rfl) 58 _ rfl b (jm * 19) rfl y.cells _ (fun W h => (HCC.out W h).2) Tryz.underlying58 rfl (by rw [y.len]; kernel_rfl)) HSB.out ?_; simp only [Act.put, List.getElem_toArray, List.getElem_cons_zero, List.getElem_cons_succ, List.setIfInBounds_toArray, List.set_cons_zero, List.set_cons_succ])
            refine Lex.wpAnyH_one (i := 14) (vi := .int .i64 (cf x y)) rfl (by kernel_rfl) HSB.out ?_ ?_
            · (intro W K hW hK; (try simp only [Act.put, List.getElem_toArray, List.getElem_cons_zero, List.getElem_cons_succ, List.setIfInBounds_toArray, List.set_cons_zero, List.set_cons_succ]); refine wpOp_step rfl (fun K2 hK2 => ?_); go_simp; refine (HCL.out _ hW).mono ?_; rintro e w9 ⟨rfl, hb⟩; exact hK2 _ _ (hK _ hb))
            clear HSB
            intro w2 hS2
            have HSB := Lib.hid hS2
            clear hS2
            simp only [Act.put, List.getElem_toArray, List.getElem_cons_zero, List.getElem_cons_succ, List.setIfInBounds_toArray, List.set_cons_zero, List.set_cons_succ]
            (refine wpAnyH_take (i := 15) (v := ?_) rfl (by kernel_rfl) (by kernel_rfl) (by kernel_rfl) (fun _ _ _ h => h) (Or.inl ⟨by rfl, ?_⟩) HSB.out ?_; rotate_left 1; (focus (intro w0 hw0; clear hw0; go_simp; try with_reducible rfl)); simp only [Act.put, List.getElem_toArray, List.getElem_cons_zero, List.getElem_cons_succ, List.setIfInBounds_toArray, List.set_cons_zero, List.set_cons_succ])
            (refine wpAnyH_take (i := 16) (v := ?_) rfl (by kernel_rfl) (by kernel_rfl) (by kernel_rfl) (fun _ _ _ h => h) (Or.inl ⟨by rfl, ?_⟩) HSB.out ?_; rotate_left 1; (focus (intro w0 hw0; clear hw0; go_simp; try with_reducible rfl)); simp only [Act.put, List.getElem_toArray, List.getElem_cons_zero, List.getElem_cons_succ, List.setIfInBounds_toArray, List.set_cons_zero, List.set_cons_succ])
            refine wpAnyH_done (by kernel_rfl) ?_ _
            all_goals
              have HS2 : Hid (St B b W0 L1 w2) := Lib.hid (HS1.out.step hB HSB.out)
              go_wp2_with fail
              go_roundg (N + 1 - (i + 1))
              case measure => omega
              case rel => exact ⟨i + 1, L1, by omega, by omega, rfl, by go_num, .inl (by omega), FIN.out, HS2.out⟩
    · have hici : ¬ (i : Int) < (c : Int) := by omega
      have FIN : Hid (On (fun x y => decide (cf x y < 0)) a c L L') := Lib.hid (by
        rcases HOR.out with h | ⟨h, h2⟩
        · have e : i = c := by omega
          rw [← e]; exact HON.out
        · by_cases e : i = c
          · rw [← e]; exact HON.out
          · rw [h2, show c = a by omega]
            exact On.refl (by rw [sec_nil _ (Nat.le_refl a)]; exact List.Pairwise.nil))
      go_wp2_with fail
      go_end0
      exact ⟨rfl, L', FIN.out, HS.out⟩
end Go.Proofs.YthjcmcgmalnfpaaGreatDoor.StabW
/- A merge where the first part is one element. -/
namespace Go.Proofs.YthjcmcgmalnfpaaGreatDoor.StabW
open Go Go.RowKit Stab
set_option linter.unusedSimpArgs false
set_option linter.unusedVariables false
set_option maxRecDepth 100000 in
set_option maxHeartbeats 4000000 in
theorem sm1_any (B b : Nat) (W0 : World) (hB : B ≤ b) (cf : WC → WC → Int) (hcmp : CmpAt cf) (L : List WC) (cap a m c : Nat) (hm : m = a + 1) (hmc : m < c) (hcn : c ≤ L.length) (hl : L.length ≤ 1099511627776)
    (hv : Srt (fun x y => decide (cf x y < 0)) (sec L (a + 1) c)) (W : World) (hst : St B b W0 L W) :
    Calls Tryz.prog 65 #[.slice (some ⟨b, 0, none⟩) L.length cap, .int .i64 a, .int .i64 m, .int .i64 c, .func (.func 29) #[] #[]] W fun e w' => e = .returned (.tuple #[]) ∧ ∃ L', On (fun x y => decide (cf x y < 0)) a c L L' ∧ St B b W0 L' w' := by
  have HST := Lib.hid hst
  have HCMP := Lib.hid hcmp
  have HV := Lib.hid hv
  obtain ⟨N, hN⟩ : ∃ N, N = L.length := ⟨_, rfl⟩
  rw [← hN] at hcn hl ⊢
  have HN := Lib.hid hN
  have hm1 : a + 1 ≤ m := by omega
  have hm2 : m ≤ a + 1 := by omega
  have hsub : (IntKind.i64.wrap ((m : Int) - (a : Int)) : Int) = 1 := wrapS (n := m) (m := a) (i := 1) (by omega) (by omega)
  obtain ⟨x, hx⟩ : ∃ x, L[a]? = some x := ⟨_, List.getElem?_eq_getElem (by omega)⟩
  have HX := Lib.hid hx
  clear hst hN hcmp hv hx hm
  go_enter Tryz.func65, Tryz.ntmps65
  go_wp2_with fail
  go_loopg [10, 11, 12] (c - m) (fun g iv jv hv' wr => ∃ i j : Nat, m ≤ i ∧ i ≤ j ∧ j ≤ c ∧ g = j - i ∧ iv = .int .i64 (i : Int) ∧ jv = .int .i64 (j : Int) ∧ (m < i → ∀ y, L[i - 1]? = some y → cf y x < 0) ∧ (j < c → ∀ y, L[j]? = some y → ¬ cf y x < 0) ∧ St B b W0 L wr)
  case atStart => exact ⟨m, c, Nat.le_refl _, by omega, Nat.le_refl _, rfl, rfl, rfl, fun h => by omega, fun h => by omega, HST.out⟩
  case round =>
    obtain ⟨i, j, hmi, hij, hjc, rfl, rfl, rfl, hlo, hhi, hs⟩ := hrel
    obtain ⟨wo, rfl⟩ : ∃ wo : World, wo = wr := ⟨_, rfl⟩
    have HLO := Lib.hid hlo
    have HHI := Lib.hid hhi
    have HS := Lib.hid hs
    clear hlo hhi hs
    by_cases hlt : i < j
    · have hlti : (i : Int) < (j : Int) := by omega
      obtain ⟨s, hs1, hs2⟩ : ∃ s, s ≤ i + j ∧ i + j ≤ s := ⟨i + j, by omega, by omega⟩
      have wsum := wrapN (n := i) (m := j) (i := s) (by omega) (by omega)
      obtain ⟨h, hh1, hh2⟩ : ∃ h, 2 * h ≤ s ∧ s ≤ 2 * h + 1 := ⟨s / 2, by omega, by omega⟩
      have hdiv : (s : Int) / 2 = (h : Int) := by omega
      obtain ⟨y, hy⟩ : ∃ y, L[h]? = some y := ⟨_, List.getElem?_eq_getElem (by have := HN.out; omega)⟩
      have HY := Lib.hid hy
      have HCL : Hid (∀ W', Below wo.heap.size wo W' → Calls Tryz.prog 29 #[y.val, x.val] W' fun e w' => e = .returned (.int .i64 (cf y x)) ∧ Below wo.heap.size wo w') := Lib.hid fun W' hb => (HCMP.out.calls W' y x).mono fun e w' h => ⟨h.1, hb.trans (h.2.mono hb.size)⟩
      unfold WC.val at HCL
      have HCC : Hid (∀ W', Below wo.heap.size wo W' → W'.rangeAt b (h * 19) y.cells ∧ W'.rangeAt b (a * 19) x.cells) := Lib.hid fun W' hb => ⟨(HS.out.step hB hb).range hy, (HS.out.step hB hb).range HX.out⟩
      have hbz := Below.refl wo.heap.size wo
      have hN' : (h : Int) < (N : Int) := by omega
      have aN' : (a : Int) < (N : Int) := by omega
      have h0' : (0 : Int) ≤ (h : Int) := by omega
      have a0' : (0 : Int) ≤ (a : Int) := by omega
      clear hy
      by_cases hcf : cf y x < 0
      · have hcb : decide (cf y x < 0) = true := by simpa using hcf
        go_upto_region 5 with fail
        obtain ⟨wd, hwd⟩ : ∃ wd, wd = World.drew wo := ⟨_, rfl⟩
        have HSB : Hid (Below wo.heap.size wo wd) := Lib.hid (by rw [hwd]; exact (Below.refl _ _).drew)
        refine wp_region_held (S := fun W => Below wo.heap.size wo W) (by kernel_rfl) ?_
        change wpAnyH _ _ _ _ _ 11 #[false, false, false, false, false, false, false, false, false, false, false] _ (World.drew wo)
        rw [← hwd]
        clear hwd
        (refine wpAnyH_take (i := 0) (v := ?_) rfl (by kernel_rfl) (by kernel_rfl) (by kernel_rfl) (fun _ _ _ h => h) (Or.inl ⟨by rfl, ?_⟩) HSB.out ?_; rotate_left 1; (focus (intro w0 hw0; clear hw0; go_simp; try with_reducible rfl)); simp only [Act.put, List.getElem_toArray, List.getElem_cons_zero, List.getElem_cons_succ, List.setIfInBounds_toArray, List.set_cons_zero, List.set_cons_succ])
        (refine wpAnyH_take (i := 1) (v := ?_) rfl (by kernel_rfl) (by kernel_rfl) (by kernel_rfl) (fun _ _ _ h => h) (Or.inl ⟨by rfl, ?_⟩) HSB.out ?_; rotate_left 1; (focus (intro w0 hw0; clear hw0; go_simp; try with_reducible rfl)); simp only [Act.put, List.getElem_toArray, List.getElem_cons_zero, List.getElem_cons_succ, List.setIfInBounds_toArray, List.set_cons_zero, List.set_cons_succ])
        (refine wpAnyH_take (i := 2) (v := ?_) rfl (by kernel_rfl) (by kernel_rfl) (by kernel_rfl) (fun _ _ _ h => h) (Or.inl ⟨by rfl, ?_⟩) HSB.out ?_; rotate_left 1; (focus (intro w0 hw0; clear hw0; go_simp; try with_reducible rfl)); simp only [Act.put, List.getElem_toArray, List.getElem_cons_zero, List.getElem_cons_succ, List.setIfInBounds_toArray, List.set_cons_zero, List.set_cons_succ])
        (refine wpAnyH_take (i := 3) (v := ?_) rfl (by kernel_rfl) (by kernel_rfl) (by kernel_rfl) (fun _ _ _ h => h) (Or.inl ⟨by rfl, ?_⟩) HSB.out ?_; rotate_left 1; (focus (intro w0 hw0; clear hw0; go_simp; try with_reducible rfl)); simp only [Act.put, List.getElem_toArray, List.getElem_cons_zero, List.getElem_cons_succ, List.setIfInBounds_toArray, List.set_cons_zero, List.set_cons_succ])
        (refine wpAnyH_take (i := 4) (v := .agg y.cells.toArray) rfl (by kernel_rfl) (by kernel_rfl) (by kernel_rfl) (fun _ _ _ h => h) (yieldsIf_load_mid (by rfl) 58 _ rfl b (h * 19) rfl y.cells _ (fun W h => (HCC.out W h).1) Tryz.underlying58 rfl (by rw [y.len]; kernel_rfl)) HSB.out ?_; simp only [Act.put, List.getElem_toArray, List.getElem_cons_zero, List.getElem_cons_succ, List.setIfInBounds_toArray, List.set_cons_zero, List.set_cons_succ])
        (refine wpAnyH_take (i := 5) (v := ?_) rfl (by kernel_rfl) (by kernel_rfl) (by kernel_rfl) (fun _ _ _ h => h) (Or.inl ⟨by rfl, ?_⟩) HSB.out ?_; rotate_left 1; (focus (intro w0 hw0; clear hw0; go_simp; try with_reducible rfl)); simp only [Act.put, List.getElem_toArray, List.getElem_cons_zero, List.getElem_cons_succ, List.setIfInBounds_toArray, List.set_cons_zero, List.set_cons_succ])
        (refine wpAnyH_take (i := 6) (v := ?_) rfl (by kernel_rfl) (by kernel_rfl) (by kernel_rfl) (fun _ _ _ h => h) (Or.inl ⟨by rfl, ?_⟩) HSB.out ?_; rotate_left 1; (focus (intro w0 hw0; clear hw0; go_simp; try with_reducible rfl)); simp only [Act.put, List.getElem_toArray, List.getElem_cons_zero, List.getElem_cons_succ, List.setIfInBounds_toArray, List.set_cons_zero, List.set_cons_succ])
        (refine wpAnyH_take (i := 7) (v := ?_) rfl (by kernel_rfl) (by kernel_rfl) (by kernel_rfl) (fun _ _ _ h => h) (Or.inl ⟨by rfl, ?_⟩) HSB.out ?_; rotate_left 1; (focus (intro w0 hw0; clear hw0; go_simp; try with_reducible rfl)); simp only [Act.put, List.getElem_toArray, List.getElem_cons_zero, List.getElem_cons_succ, List.setIfInBounds_toArray, List.set_cons_zero, List.set_cons_succ])
        (refine wpAnyH_take (i := 8) (v := .agg x.cells.toArray) rfl (by kernel_rfl) (by kernel_rfl) (by kernel_rfl) (fun _ _ _ h => h) (yieldsIf_load_mid (by rfl) 58 _ rfl b (a * 19) rfl x.cells _ (fun W h => (HCC.out W h).2) Tryz.underlying58 rfl (by rw [x.len]; kernel_rfl)) HSB.out ?_; simp only [Act.put, List.getElem_toArray, List.getElem_cons_zero, List.getElem_cons_succ, List.setIfInBounds_toArray, List.set_cons_zero, List.set_cons_succ])
        refine Lex.wpAnyH_one (i := 9) (vi := .int .i64 (cf y x)) rfl (by kernel_rfl) HSB.out ?_ ?_
        · (intro W K hW hK; (try simp only [Act.put, List.getElem_toArray, List.getElem_cons_zero, List.getElem_cons_succ, List.setIfInBounds_toArray, List.set_cons_zero, List.set_cons_succ]); refine wpOp_step rfl (fun K2 hK2 => ?_); go_simp; refine (HCL.out _ hW).mono ?_; rintro e w9 ⟨rfl, hb⟩; exact hK2 _ _ (hK _ hb))
        clear HSB
        intro w2 hS2
        have HSB := Lib.hid hS2
        clear hS2
        simp only [Act.put, List.getElem_toArray, List.getElem_cons_zero, List.getElem_cons_succ, List.setIfInBounds_toArray, List.set_cons_zero, List.set_cons_succ]
        (refine wpAnyH_take (i := 10) (v := ?_) rfl (by kernel_rfl) (by kernel_rfl) (by kernel_rfl) (fun _ _ _ h => h) (Or.inl ⟨by rfl, ?_⟩) HSB.out ?_; rotate_left 1; (focus (intro w0 hw0; clear hw0; go_simp; try with_reducible rfl)); simp only [Act.put, List.getElem_toArray, List.getElem_cons_zero, List.getElem_cons_succ, List.setIfInBounds_toArray, List.set_cons_zero, List.set_cons_succ])
        refine wpAnyH_done (by kernel_rfl) ?_ _
        all_goals
          have HS2 : Hid (St B b W0 L w2) := Lib.hid (HS.out.step hB HSB.out)
          go_wp2_with fail
          go_roundg (j - (h + 1))
          case measure => omega
          case rel =>
            refine ⟨h + 1, j, by omega, by omega, hjc, rfl, by go_num, rfl, fun _ z hz => ?_, HHI.out, HS2.out⟩
            rw [show h + 1 - 1 = h by omega, HY.out] at hz
            cases hz
            exact hcf
      · have hcb : decide (cf y x < 0) = false := by simpa using hcf
        go_upto_region 5 with fail
        obtain ⟨wd, hwd⟩ : ∃ wd, wd = World.drew wo := ⟨_, rfl⟩
        have HSB : Hid (Below wo.heap.size wo wd) := Lib.hid (by rw [hwd]; exact (Below.refl _ _).drew)
        refine wp_region_held (S := fun W => Below wo.heap.size wo W) (by kernel_rfl) ?_
        change wpAnyH _ _ _ _ _ 11 #[false, false, false, false, false, false, false, false, false, false, false] _ (World.drew wo)
        rw [← hwd]
        clear hwd
        (refine wpAnyH_take (i := 0) (v := ?_) rfl (by kernel_rfl) (by kernel_rfl) (by kernel_rfl) (fun _ _ _ h => h) (Or.inl ⟨by rfl, ?_⟩) HSB.out ?_; rotate_left 1; (focus (intro w0 hw0; clear hw0; go_simp; try with_reducible rfl)); simp only [Act.put, List.getElem_toArray, List.getElem_cons_zero, List.getElem_cons_succ, List.setIfInBounds_toArray, List.set_cons_zero, List.set_cons_succ])
        (refine wpAnyH_take (i := 1) (v := ?_) rfl (by kernel_rfl) (by kernel_rfl) (by kernel_rfl) (fun _ _ _ h => h) (Or.inl ⟨by rfl, ?_⟩) HSB.out ?_; rotate_left 1; (focus (intro w0 hw0; clear hw0; go_simp; try with_reducible rfl)); simp only [Act.put, List.getElem_toArray, List.getElem_cons_zero, List.getElem_cons_succ, List.setIfInBounds_toArray, List.set_cons_zero, List.set_cons_succ])
        (refine wpAnyH_take (i := 2) (v := ?_) rfl (by kernel_rfl) (by kernel_rfl) (by kernel_rfl) (fun _ _ _ h => h) (Or.inl ⟨by rfl, ?_⟩) HSB.out ?_; rotate_left 1; (focus (intro w0 hw0; clear hw0; go_simp; try with_reducible rfl)); simp only [Act.put, List.getElem_toArray, List.getElem_cons_zero, List.getElem_cons_succ, List.setIfInBounds_toArray, List.set_cons_zero, List.set_cons_succ])
        (refine wpAnyH_take (i := 3) (v := ?_) rfl (by kernel_rfl) (by kernel_rfl) (by kernel_rfl) (fun _ _ _ h => h) (Or.inl ⟨by rfl, ?_⟩) HSB.out ?_; rotate_left 1; (focus (intro w0 hw0; clear hw0; go_simp; try with_reducible rfl)); simp only [Act.put, List.getElem_toArray, List.getElem_cons_zero, List.getElem_cons_succ, List.setIfInBounds_toArray, List.set_cons_zero, List.set_cons_succ])
        (refine wpAnyH_take (i := 4) (v := .agg y.cells.toArray) rfl (by kernel_rfl) (by kernel_rfl) (by kernel_rfl) (fun _ _ _ h => h) (yieldsIf_load_mid (by rfl) 58 _ rfl b (h * 19) rfl y.cells _ (fun W h => (HCC.out W h).1) Tryz.underlying58 rfl (by rw [y.len]; kernel_rfl)) HSB.out ?_; simp only [Act.put, List.getElem_toArray, List.getElem_cons_zero, List.getElem_cons_succ, List.setIfInBounds_toArray, List.set_cons_zero, List.set_cons_succ])
        (refine wpAnyH_take (i := 5) (v := ?_) rfl (by kernel_rfl) (by kernel_rfl) (by kernel_rfl) (fun _ _ _ h => h) (Or.inl ⟨by rfl, ?_⟩) HSB.out ?_; rotate_left 1; (focus (intro w0 hw0; clear hw0; go_simp; try with_reducible rfl)); simp only [Act.put, List.getElem_toArray, List.getElem_cons_zero, List.getElem_cons_succ, List.setIfInBounds_toArray, List.set_cons_zero, List.set_cons_succ])
        (refine wpAnyH_take (i := 6) (v := ?_) rfl (by kernel_rfl) (by kernel_rfl) (by kernel_rfl) (fun _ _ _ h => h) (Or.inl ⟨by rfl, ?_⟩) HSB.out ?_; rotate_left 1; (focus (intro w0 hw0; clear hw0; go_simp; try with_reducible rfl)); simp only [Act.put, List.getElem_toArray, List.getElem_cons_zero, List.getElem_cons_succ, List.setIfInBounds_toArray, List.set_cons_zero, List.set_cons_succ])
        (refine wpAnyH_take (i := 7) (v := ?_) rfl (by kernel_rfl) (by kernel_rfl) (by kernel_rfl) (fun _ _ _ h => h) (Or.inl ⟨by rfl, ?_⟩) HSB.out ?_; rotate_left 1; (focus (intro w0 hw0; clear hw0; go_simp; try with_reducible rfl)); simp only [Act.put, List.getElem_toArray, List.getElem_cons_zero, List.getElem_cons_succ, List.setIfInBounds_toArray, List.set_cons_zero, List.set_cons_succ])
        (refine wpAnyH_take (i := 8) (v := .agg x.cells.toArray) rfl (by kernel_rfl) (by kernel_rfl) (by kernel_rfl) (fun _ _ _ h => h) (yieldsIf_load_mid (by rfl) 58 _ rfl b (a * 19) rfl x.cells _ (fun W h => (HCC.out W h).2) Tryz.underlying58 rfl (by rw [x.len]; kernel_rfl)) HSB.out ?_; simp only [Act.put, List.getElem_toArray, List.getElem_cons_zero, List.getElem_cons_succ, List.setIfInBounds_toArray, List.set_cons_zero, List.set_cons_succ])
        refine Lex.wpAnyH_one (i := 9) (vi := .int .i64 (cf y x)) rfl (by kernel_rfl) HSB.out ?_ ?_
        · (intro W K hW hK; (try simp only [Act.put, List.getElem_toArray, List.getElem_cons_zero, List.getElem_cons_succ, List.setIfInBounds_toArray, List.set_cons_zero, List.set_cons_succ]); refine wpOp_step rfl (fun K2 hK2 => ?_); go_simp; refine (HCL.out _ hW).mono ?_; rintro e w9 ⟨rfl, hb⟩; exact hK2 _ _ (hK _ hb))
        clear HSB
        intro w2 hS2
        have HSB := Lib.hid hS2
        clear hS2
        simp only [Act.put, List.getElem_toArray, List.getElem_cons_zero, List.getElem_cons_succ, List.setIfInBounds_toArray, List.set_cons_zero, List.set_cons_succ]
        (refine wpAnyH_take (i := 10) (v := ?_) rfl (by kernel_rfl) (by kernel_rfl) (by kernel_rfl) (fun _ _ _ h => h) (Or.inl ⟨by rfl, ?_⟩) HSB.out ?_; rotate_left 1; (focus (intro w0 hw0; clear hw0; go_simp; try with_reducible rfl)); simp only [Act.put, List.getElem_toArray, List.getElem_cons_zero, List.getElem_cons_succ, List.setIfInBounds_toArray, List.set_cons_zero, List.set_cons_succ])
        refine wpAnyH_done (by kernel_rfl) ?_ _
        all_goals
          have HS2 : Hid (St B b W0 L w2) := Lib.hid (HS.out.step hB HSB.out)
          go_wp2_with fail
          go_roundg (h - i)
          case measure => omega
          case rel =>
            refine ⟨i, h, hmi, by omega, by omega, rfl, rfl, rfl, HLO.out, fun _ z hz => ?_, HS2.out⟩
            rw [HY.out] at hz
            cases hz
            exact hcf
    · obtain rfl : i = j := by omega
      obtain ⟨im, him1, him2⟩ : ∃ im, i ≤ im + 1 ∧ im + 1 ≤ i := ⟨i - 1, by omega, by omega⟩
      have wim : IntKind.i64.wrap ((i : Int) - 1) = (im : Int) := wrapS (n := i) (m := 1) (i := im) (by omega) (by omega)
      go_wp2_with fail
      go_loopg [13] (im - a) (fun g kv wr => ∃ k : Nat, ∃ L1 : List WC, a ≤ k ∧ k ≤ im ∧ g = im - k ∧ kv = .int .i64 (k : Int) ∧ Turned (rho a (a + 1) (k + 1)) L L1 ∧ St B b W0 L1 wr)
      case atStart => exact ⟨a, L, Nat.le_refl _, by omega, rfl, rfl, ⟨rfl, fun t => by rw [rho_none']⟩, HS.out⟩
      case round =>
        obtain ⟨k, L1, hak, hki, rfl, rfl, ht, hs1⟩ := hrel
        obtain ⟨w1, rfl⟩ : ∃ w1 : World, w1 = wr := ⟨_, rfl⟩
        have HT := Lib.hid ht
        have HS1 := Lib.hid hs1
        have HL1 : Hid (L1.length = N) := Lib.hid (by rw [HT.out.len, HN.out])
        clear ht hs1
        by_cases hk : k < im
        · have hki' : (k : Int) < (im : Int) := by omega
          obtain ⟨k1, hk1, hk2⟩ : ∃ k1, k1 ≤ k + 1 ∧ k + 1 ≤ k1 := ⟨k + 1, by omega, by omega⟩
          have wk : IntKind.i64.wrap ((k : Int) + 1) = (k1 : Int) := wrapN (n := k) (m := 1) (i := k1) (by omega) (by omega)
          obtain ⟨u, hu⟩ : ∃ u, L1[k]? = some u := ⟨_, List.getElem?_eq_getElem (by have := HL1.out; omega)⟩
          obtain ⟨z, hz⟩ : ∃ z, L1[k1]? = some z := ⟨_, List.getElem?_eq_getElem (by have := HL1.out; omega)⟩
          have HU := Lib.hid hu
          have HZ := Lib.hid hz
          have kN : (k : Int) < (N : Int) := by omega
          have k1N : (k1 : Int) < (N : Int) := by omega
          have k0 : (0 : Int) ≤ (k : Int) := by omega
          have k10 : (0 : Int) ≤ (k1 : Int) := by omega
          clear hu hz
          go_upto_region 11 with fail
          obtain ⟨wd, hwd⟩ : ∃ wd, wd = World.drew w1 := ⟨_, rfl⟩
          have HD0 : Hid (St B b W0 L1 wd) := Lib.hid (by rw [hwd]; exact HS1.out.drew hB)
          have HR1 : Hid (wd.rangeAt b (k1 * 19) z.cells ∧ wd.rangeAt b (k * 19) u.cells) := Lib.hid ⟨HD0.out.range HZ.out, HD0.out.range HU.out⟩
          refine Lex.wp_region_w (fun W' => W'.rangeAt b (k1 * 19) z.cells ∧ W'.rangeAt b (k * 19) u.cells) [15, 17] (by kernel_rfl) ?_
          rw [← hwd]
          clear hwd
          change Lex.wpS _ _ _ _ _ _ 18 #[false, false, false, false, false, false, false, false, false, false, false, false, false, false, false, false, false, false] _ wd
          (refine Lex.wpS_pure (i := 0) (v := ?_) rfl (by kernel_rfl) (by kernel_rfl) (by kernel_rfl) (fun _ _ _ h => h) (Or.inl ⟨by rfl, ?_⟩) ?_; rotate_left 1; (focus (intro w0 hw0; clear hw0; go_simp; try with_reducible rfl)); simp only [Act.put, List.getElem_toArray, List.getElem_cons_zero, List.getElem_cons_succ, List.setIfInBounds_toArray, List.set_cons_zero, List.set_cons_succ])
          (refine Lex.wpS_pure (i := 1) (v := ?_) rfl (by kernel_rfl) (by kernel_rfl) (by kernel_rfl) (fun _ _ _ h => h) (Or.inl ⟨by rfl, ?_⟩) ?_; rotate_left 1; (focus (intro w0 hw0; clear hw0; go_simp; try with_reducible rfl)); simp only [Act.put, List.getElem_toArray, List.getElem_cons_zero, List.getElem_cons_succ, List.setIfInBounds_toArray, List.set_cons_zero, List.set_cons_succ])
          (refine Lex.wpS_pure (i := 5) (v := ?_) rfl (by kernel_rfl) (by kernel_rfl) (by kernel_rfl) (fun _ _ _ h => h) (Or.inl ⟨by rfl, ?_⟩) ?_; rotate_left 1; (focus (intro w0 hw0; clear hw0; go_simp; try with_reducible rfl)); simp only [Act.put, List.getElem_toArray, List.getElem_cons_zero, List.getElem_cons_succ, List.setIfInBounds_toArray, List.set_cons_zero, List.set_cons_succ])
          (refine Lex.wpS_pure (i := 6) (v := ?_) rfl (by kernel_rfl) (by kernel_rfl) (by kernel_rfl) (fun _ _ _ h => h) (Or.inl ⟨by rfl, ?_⟩) ?_; rotate_left 1; (focus (intro w0 hw0; clear hw0; go_simp; try with_reducible rfl)); simp only [Act.put, List.getElem_toArray, List.getElem_cons_zero, List.getElem_cons_succ, List.setIfInBounds_toArray, List.set_cons_zero, List.set_cons_succ])
          (refine Lex.wpS_pure (i := 7) (v := ?_) rfl (by kernel_rfl) (by kernel_rfl) (by kernel_rfl) (fun _ _ _ h => h) (Or.inl ⟨by rfl, ?_⟩) ?_; rotate_left 1; (focus (intro w0 hw0; clear hw0; go_simp; try with_reducible rfl)); simp only [Act.put, List.getElem_toArray, List.getElem_cons_zero, List.getElem_cons_succ, List.setIfInBounds_toArray, List.set_cons_zero, List.set_cons_succ])
          (refine Lex.wpS_pure (i := 8) (v := ?_) rfl (by kernel_rfl) (by kernel_rfl) (by kernel_rfl) (fun _ _ _ h => h) (Or.inl ⟨by rfl, ?_⟩) ?_; rotate_left 1; (focus (intro w0 hw0; clear hw0; go_simp; try with_reducible rfl)); simp only [Act.put, List.getElem_toArray, List.getElem_cons_zero, List.getElem_cons_succ, List.setIfInBounds_toArray, List.set_cons_zero, List.set_cons_succ])
          (refine Lex.wpS_take (i := 9) (v := .agg z.cells.toArray) rfl (by kernel_rfl) (by kernel_rfl) (by kernel_rfl) (by kernel_rfl) (fun _ _ _ h => h) HR1.out (yieldsIf_load_mid (by rfl) 58 _ rfl b (k1 * 19) rfl z.cells _ (fun W h => h.1) Tryz.underlying58 rfl (by rw [z.len]; kernel_rfl)) ?_; simp only [Act.put, List.getElem_toArray, List.getElem_cons_zero, List.getElem_cons_succ, List.setIfInBounds_toArray, List.set_cons_zero, List.set_cons_succ])
          (refine Lex.wpS_pure (i := 10) (v := ?_) rfl (by kernel_rfl) (by kernel_rfl) (by kernel_rfl) (fun _ _ _ h => h) (Or.inl ⟨by rfl, ?_⟩) ?_; rotate_left 1; (focus (intro w0 hw0; clear hw0; go_simp; try with_reducible rfl)); simp only [Act.put, List.getElem_toArray, List.getElem_cons_zero, List.getElem_cons_succ, List.setIfInBounds_toArray, List.set_cons_zero, List.set_cons_succ])
          (refine Lex.wpS_pure (i := 11) (v := ?_) rfl (by kernel_rfl) (by kernel_rfl) (by kernel_rfl) (fun _ _ _ h => h) (Or.inl ⟨by rfl, ?_⟩) ?_; rotate_left 1; (focus (intro w0 hw0; clear hw0; go_simp; try with_reducible rfl)); simp only [Act.put, List.getElem_toArray, List.getElem_cons_zero, List.getElem_cons_succ, List.setIfInBounds_toArray, List.set_cons_zero, List.set_cons_succ])
          (refine Lex.wpS_pure (i := 12) (v := ?_) rfl (by kernel_rfl) (by kernel_rfl) (by kernel_rfl) (fun _ _ _ h => h) (Or.inl ⟨by rfl, ?_⟩) ?_; rotate_left 1; (focus (intro w0 hw0; clear hw0; go_simp; try with_reducible rfl)); simp only [Act.put, List.getElem_toArray, List.getElem_cons_zero, List.getElem_cons_succ, List.setIfInBounds_toArray, List.set_cons_zero, List.set_cons_succ])
          (refine Lex.wpS_take (i := 13) (v := .agg u.cells.toArray) rfl (by kernel_rfl) (by kernel_rfl) (by kernel_rfl) (by kernel_rfl) (fun _ _ _ h => h) HR1.out (yieldsIf_load_mid (by rfl) 58 _ rfl b (k * 19) rfl u.cells _ (fun W h => h.2) Tryz.underlying58 rfl (by rw [u.len]; kernel_rfl)) ?_; simp only [Act.put, List.getElem_toArray, List.getElem_cons_zero, List.getElem_cons_succ, List.setIfInBounds_toArray, List.set_cons_zero, List.set_cons_succ])
          (refine Lex.wpS_pure (i := 2) (v := ?_) rfl (by kernel_rfl) (by kernel_rfl) (by kernel_rfl) (fun _ _ _ h => h) (Or.inl ⟨by rfl, ?_⟩) ?_; rotate_left 1; (focus (intro w0 hw0; clear hw0; go_simp; try with_reducible rfl)); simp only [Act.put, List.getElem_toArray, List.getElem_cons_zero, List.getElem_cons_succ, List.setIfInBounds_toArray, List.set_cons_zero, List.set_cons_succ])
          (refine Lex.wpS_pure (i := 3) (v := ?_) rfl (by kernel_rfl) (by kernel_rfl) (by kernel_rfl) (fun _ _ _ h => h) (Or.inl ⟨by rfl, ?_⟩) ?_; rotate_left 1; (focus (intro w0 hw0; clear hw0; go_simp; try with_reducible rfl)); simp only [Act.put, List.getElem_toArray, List.getElem_cons_zero, List.getElem_cons_succ, List.setIfInBounds_toArray, List.set_cons_zero, List.set_cons_succ])
          (refine Lex.wpS_pure (i := 4) (v := ?_) rfl (by kernel_rfl) (by kernel_rfl) (by kernel_rfl) (fun _ _ _ h => h) (Or.inl ⟨by rfl, ?_⟩) ?_; rotate_left 1; (focus (intro w0 hw0; clear hw0; go_simp; try with_reducible rfl)); simp only [Act.put, List.getElem_toArray, List.getElem_cons_zero, List.getElem_cons_succ, List.setIfInBounds_toArray, List.set_cons_zero, List.set_cons_succ])
          (refine Lex.wpS_pure (i := 14) (v := ?_) rfl (by kernel_rfl) (by kernel_rfl) (by kernel_rfl) (fun _ _ _ h => h) (Or.inl ⟨by rfl, ?_⟩) ?_; rotate_left 1; (focus (intro w0 hw0; clear hw0; go_simp; try with_reducible rfl)); simp only [Act.put, List.getElem_toArray, List.getElem_cons_zero, List.getElem_cons_succ, List.setIfInBounds_toArray, List.set_cons_zero, List.set_cons_succ])
          refine Lex.wpS_one (i := 15) (by kernel_rfl) rfl (fun K hK => ?_)
          refine Lex.step_store (by rfl) 58 _ _ rfl b (k * 19) rfl z.cells rfl (HD0.out.thereW (by rw [HL1.out]; omega) z) (by rw [z.len]; kernel_rfl) z.one ?_
          refine hK.out _ _ (.inl (by simp)) ?_
          clear hK K
          try simp only [Act.put, List.getElem_toArray, List.getElem_cons_zero, List.getElem_cons_succ, List.setIfInBounds_toArray, List.set_cons_zero, List.set_cons_succ]
          obtain ⟨wy, hwy⟩ : ∃ wy, wy = wd.setCells b (k * 19) z.cells := ⟨_, rfl⟩
          rw [← hwy]
          have HD1 : Hid (St B b W0 (L1.set k z) wy) := Lib.hid (by rw [hwy]; exact HD0.out.put hB (by rw [HL1.out]; omega) z)
          clear hwy
          (refine Lex.wpS_pure (i := 16) (v := ?_) rfl (by kernel_rfl) (by kernel_rfl) (by kernel_rfl) (fun _ _ _ h => h) (Or.inl ⟨by rfl, ?_⟩) ?_; rotate_left 1; (focus (intro w0 hw0; clear hw0; go_simp; try with_reducible rfl)); simp only [Act.put, List.getElem_toArray, List.getElem_cons_zero, List.getElem_cons_succ, List.setIfInBounds_toArray, List.set_cons_zero, List.set_cons_succ])
          refine Lex.wpS_one (i := 17) (by kernel_rfl) rfl (fun K hK => ?_)
          refine Lex.step_store (by rfl) 58 _ _ rfl b (k1 * 19) rfl u.cells rfl (HD1.out.thereW (by rw [List.length_set, HL1.out]; omega) u) (by rw [u.len]; kernel_rfl) u.one ?_
          refine hK.out _ _ (.inl (by simp)) ?_
          clear hK K
          try simp only [Act.put, List.getElem_toArray, List.getElem_cons_zero, List.getElem_cons_succ, List.setIfInBounds_toArray, List.set_cons_zero, List.set_cons_succ]
          obtain ⟨W9, hW9⟩ : ∃ W9, W9 = wy.setCells b (k1 * 19) u.cells := ⟨_, rfl⟩
          rw [← hW9]
          have HS9 : Hid (St B b W0 ((L1.set k z).set k1 u) W9) := Lib.hid (by rw [hW9]; exact HD1.out.put hB (by rw [List.length_set, HL1.out]; omega) u)
          clear hW9 HD0 HD1 HR1
          refine Lex.wpS_done (by kernel_rfl) ?_ _
          have HK : Hid (k1 = k + 1) := Lib.hid (by omega)
          go_wp2_with fail
          go_roundg (im - k1)
          case measure => omega
          case rel =>
            refine ⟨k1, (L1.set k z).set k1 u, by omega, by omega, rfl, rfl, ?_, HS9.out⟩
            refine (HT.out.trans (turned_swap (by omega) HU.out HZ.out)).congr fun t => ?_
            rw [HK.out]
            exact rho_up hak
        · have hki' : ¬ (k : Int) < (im : Int) := by omega
          have FIN : Hid (On (fun x y => decide (cf x y < 0)) a c L L1) := Lib.hid (one_left HCMP.out.ord HX.out (i := i) (by omega) hjc (by have := HN.out; omega) HV.out
            (fun h y hy => by simpa using HLO.out (by omega) y hy) (fun h y hy => by simpa using HHI.out h y hy) (by rw [show i = k + 1 by omega]; exact HT.out))
          go_wp2_with fail
          refine bodyPost_ret (results_none rfl _ _ _) rfl ?_
          exact ⟨rfl, L1, FIN.out, HS1.out⟩
end Go.Proofs.YthjcmcgmalnfpaaGreatDoor.StabW
/- A merge where the second part is one element. -/
namespace Go.Proofs.YthjcmcgmalnfpaaGreatDoor.StabW
open Go Go.RowKit Stab
set_option linter.unusedSimpArgs false
set_option linter.unusedVariables false
set_option maxRecDepth 100000 in
set_option maxHeartbeats 4000000 in
theorem sm2_any (B b : Nat) (W0 : World) (hB : B ≤ b) (cf : WC → WC → Int) (hcmp : CmpAt cf) (L : List WC) (cap a m c : Nat) (hm : c = m + 1) (ham : a + 1 < m) (hcn : c ≤ L.length) (hl : L.length ≤ 1099511627776)
    (hv : Srt (fun x y => decide (cf x y < 0)) (sec L a m)) (W : World) (hst : St B b W0 L W) :
    Calls Tryz.prog 65 #[.slice (some ⟨b, 0, none⟩) L.length cap, .int .i64 a, .int .i64 m, .int .i64 c, .func (.func 29) #[] #[]] W fun e w' => e = .returned (.tuple #[]) ∧ ∃ L', On (fun x y => decide (cf x y < 0)) a c L L' ∧ St B b W0 L' w' := by
  have HST := Lib.hid hst
  have HCMP := Lib.hid hcmp
  have HV := Lib.hid hv
  obtain ⟨N, hN⟩ : ∃ N, N = L.length := ⟨_, rfl⟩
  rw [← hN] at hcn hl ⊢
  have HN := Lib.hid hN
  have hm1 : m + 1 ≤ c := by omega
  have hm2 : c ≤ m + 1 := by omega
  obtain ⟨d, hd1, hd2⟩ : ∃ d, m ≤ d + a ∧ d + a ≤ m := ⟨m - a, by omega, by omega⟩
  have hsub0 : IntKind.i64.wrap ((m : Int) - (a : Int)) = (d : Int) := wrapS (n := m) (m := a) (i := d) (by omega) (by omega)
  have hdne : ¬ (d : Int) = 1 := by omega
  have hdb : ((d : Int) == 1) = false := by simpa using hdne
  have hdne' : ¬ d = 1 := by omega
  have hsub : (IntKind.i64.wrap ((c : Int) - (m : Int)) : Int) = 1 := wrapS (n := c) (m := m) (i := 1) (by omega) (by omega)
  obtain ⟨x, hx⟩ : ∃ x, L[m]? = some x := ⟨_, List.getElem?_eq_getElem (by omega)⟩
  have HX := Lib.hid hx
  clear hst hN hcmp hv hx hm
  go_enter Tryz.func65, Tryz.ntmps65
  go_wp2_with fail
  go_loopg [14, 15, 16] (m - a) (fun g iv jv hv' wr => ∃ i j : Nat, a ≤ i ∧ i ≤ j ∧ j ≤ m ∧ g = j - i ∧ iv = .int .i64 (i : Int) ∧ jv = .int .i64 (j : Int) ∧ (a < i → ∀ y, L[i - 1]? = some y → ¬ cf x y < 0) ∧ (j < m → ∀ y, L[j]? = some y → cf x y < 0) ∧ St B b W0 L wr)
  case atStart => exact ⟨a, m, Nat.le_refl _, by omega, Nat.le_refl _, rfl, rfl, rfl, fun h => by omega, fun h => by omega, HST.out⟩
  case round =>
    obtain ⟨i, j, hmi, hij, hjc, rfl, rfl, rfl, hlo, hhi, hs⟩ := hrel
    obtain ⟨wo, rfl⟩ : ∃ wo : World, wo = wr := ⟨_, rfl⟩
    have HLO := Lib.hid hlo
    have HHI := Lib.hid hhi
    have HS := Lib.hid hs
    clear hlo hhi hs
    by_cases hlt : i < j
    · have hlti : (i : Int) < (j : Int) := by omega
      obtain ⟨s, hs1, hs2⟩ : ∃ s, s ≤ i + j ∧ i + j ≤ s := ⟨i + j, by omega, by omega⟩
      have wsum := wrapN (n := i) (m := j) (i := s) (by omega) (by omega)
      obtain ⟨h, hh1, hh2⟩ : ∃ h, 2 * h ≤ s ∧ s ≤ 2 * h + 1 := ⟨s / 2, by omega, by omega⟩
      have hdiv : (s : Int) / 2 = (h : Int) := by omega
      obtain ⟨y, hy⟩ : ∃ y, L[h]? = some y := ⟨_, List.getElem?_eq_getElem (by have := HN.out; omega)⟩
      have HY := Lib.hid hy
      have HCL : Hid (∀ W', Below wo.heap.size wo W' → Calls Tryz.prog 29 #[x.val, y.val] W' fun e w' => e = .returned (.int .i64 (cf x y)) ∧ Below wo.heap.size wo w') := Lib.hid fun W' hb => (HCMP.out.calls W' x y).mono fun e w' h => ⟨h.1, hb.trans (h.2.mono hb.size)⟩
      unfold WC.val at HCL
      have HCC : Hid (∀ W', Below wo.heap.size wo W' → W'.rangeAt b (m * 19) x.cells ∧ W'.rangeAt b (h * 19) y.cells) := Lib.hid fun W' hb => ⟨(HS.out.step hB hb).range HX.out, (HS.out.step hB hb).range hy⟩
      have hbz := Below.refl wo.heap.size wo
      have hN' : (h : Int) < (N : Int) := by omega
      have aN' : (m : Int) < (N : Int) := by omega
      have h0' : (0 : Int) ≤ (h : Int) := by omega
      have a0' : (0 : Int) ≤ (m : Int) := by omega
      clear hy
      by_cases hcf : cf x y < 0
      · have hcb : decide (cf x y < 0) = true := by simpa using hcf
        go_upto_region 17 with fail
        obtain ⟨wd, hwd⟩ : ∃ wd, wd = World.drew wo := ⟨_, rfl⟩
        have HSB : Hid (Below wo.heap.size wo wd) := Lib.hid (by rw [hwd]; exact (Below.refl _ _).drew)
        refine wp_region_held (S := fun W => Below wo.heap.size wo W) (by kernel_rfl) ?_
        change wpAnyH _ _ _ _ _ 12 #[false, false, false, false, false, false, false, false, false, false, false, false] _ (World.drew wo)
        rw [← hwd]
        clear hwd
        (refine wpAnyH_take (i := 0) (v := ?_) rfl (by kernel_rfl) (by kernel_rfl) (by kernel_rfl) (fun _ _ _ h => h) (Or.inl ⟨by rfl, ?_⟩) HSB.out ?_; rotate_left 1; (focus (intro w0 hw0; clear hw0; go_simp; try with_reducible rfl)); simp only [Act.put, List.getElem_toArray, List.getElem_cons_zero, List.getElem_cons_succ, List.setIfInBounds_toArray, List.set_cons_zero, List.set_cons_succ])
        (refine wpAnyH_take (i := 1) (v := ?_) rfl (by kernel_rfl) (by kernel_rfl) (by kernel_rfl) (fun _ _ _ h => h) (Or.inl ⟨by rfl, ?_⟩) HSB.out ?_; rotate_left 1; (focus (intro w0 hw0; clear hw0; go_simp; try with_reducible rfl)); simp only [Act.put, List.getElem_toArray, List.getElem_cons_zero, List.getElem_cons_succ, List.setIfInBounds_toArray, List.set_cons_zero, List.set_cons_succ])
        (refine wpAnyH_take (i := 2) (v := ?_) rfl (by kernel_rfl) (by kernel_rfl) (by kernel_rfl) (fun _ _ _ h => h) (Or.inl ⟨by rfl, ?_⟩) HSB.out ?_; rotate_left 1; (focus (intro w0 hw0; clear hw0; go_simp; try with_reducible rfl)); simp only [Act.put, List.getElem_toArray, List.getElem_cons_zero, List.getElem_cons_succ, List.setIfInBounds_toArray, List.set_cons_zero, List.set_cons_succ])
        (refine wpAnyH_take (i := 3) (v := ?_) rfl (by kernel_rfl) (by kernel_rfl) (by kernel_rfl) (fun _ _ _ h => h) (Or.inl ⟨by rfl, ?_⟩) HSB.out ?_; rotate_left 1; (focus (intro w0 hw0; clear hw0; go_simp; try with_reducible rfl)); simp only [Act.put, List.getElem_toArray, List.getElem_cons_zero, List.getElem_cons_succ, List.setIfInBounds_toArray, List.set_cons_zero, List.set_cons_succ])
        (refine wpAnyH_take (i := 4) (v := .agg x.cells.toArray) rfl (by kernel_rfl) (by kernel_rfl) (by kernel_rfl) (fun _ _ _ h => h) (yieldsIf_load_mid (by rfl) 58 _ rfl b (m * 19) rfl x.cells _ (fun W h => (HCC.out W h).1) Tryz.underlying58 rfl (by rw [x.len]; kernel_rfl)) HSB.out ?_; simp only [Act.put, List.getElem_toArray, List.getElem_cons_zero, List.getElem_cons_succ, List.setIfInBounds_toArray, List.set_cons_zero, List.set_cons_succ])
        (refine wpAnyH_take (i := 5) (v := ?_) rfl (by kernel_rfl) (by kernel_rfl) (by kernel_rfl) (fun _ _ _ h => h) (Or.inl ⟨by rfl, ?_⟩) HSB.out ?_; rotate_left 1; (focus (intro w0 hw0; clear hw0; go_simp; try with_reducible rfl)); simp only [Act.put, List.getElem_toArray, List.getElem_cons_zero, List.getElem_cons_succ, List.setIfInBounds_toArray, List.set_cons_zero, List.set_cons_succ])
        (refine wpAnyH_take (i := 6) (v := ?_) rfl (by kernel_rfl) (by kernel_rfl) (by kernel_rfl) (fun _ _ _ h => h) (Or.inl ⟨by rfl, ?_⟩) HSB.out ?_; rotate_left 1; (focus (intro w0 hw0; clear hw0; go_simp; try with_reducible rfl)); simp only [Act.put, List.getElem_toArray, List.getElem_cons_zero, List.getElem_cons_succ, List.setIfInBounds_toArray, List.set_cons_zero, List.set_cons_succ])
        (refine wpAnyH_take (i := 7) (v := ?_) rfl (by kernel_rfl) (by kernel_rfl) (by kernel_rfl) (fun _ _ _ h => h) (Or.inl ⟨by rfl, ?_⟩) HSB.out ?_; rotate_left 1; (focus (intro w0 hw0; clear hw0; go_simp; try with_reducible rfl)); simp only [Act.put, List.getElem_toArray, List.getElem_cons_zero, List.getElem_cons_succ, List.setIfInBounds_toArray, List.set_cons_zero, List.set_cons_succ])
        (refine wpAnyH_take (i := 8) (v := .agg y.cells.toArray) rfl (by kernel_rfl) (by kernel_rfl) (by kernel_rfl) (fun _ _ _ h => h) (yieldsIf_load_mid (by rfl) 58 _ rfl b (h * 19) rfl y.cells _ (fun W h => (HCC.out W h).2) Tryz.underlying58 rfl (by rw [y.len]; kernel_rfl)) HSB.out ?_; simp only [Act.put, List.getElem_toArray, List.getElem_cons_zero, List.getElem_cons_succ, List.setIfInBounds_toArray, List.set_cons_zero, List.set_cons_succ])
        refine Lex.wpAnyH_one (i := 9) (vi := .int .i64 (cf x y)) rfl (by kernel_rfl) HSB.out ?_ ?_
        · (intro W K hW hK; (try simp only [Act.put, List.getElem_toArray, List.getElem_cons_zero, List.getElem_cons_succ, List.setIfInBounds_toArray, List.set_cons_zero, List.set_cons_succ]); refine wpOp_step rfl (fun K2 hK2 => ?_); go_simp; refine (HCL.out _ hW).mono ?_; rintro e w9 ⟨rfl, hb⟩; exact hK2 _ _ (hK _ hb))
        clear HSB
        intro w2 hS2
        have HSB := Lib.hid hS2
        clear hS2
        simp only [Act.put, List.getElem_toArray, List.getElem_cons_zero, List.getElem_cons_succ, List.setIfInBounds_toArray, List.set_cons_zero, List.set_cons_succ]
        (refine wpAnyH_take (i := 10) (v := ?_) rfl (by kernel_rfl) (by kernel_rfl) (by kernel_rfl) (fun _ _ _ h => h) (Or.inl ⟨by rfl, ?_⟩) HSB.out ?_; rotate_left 1; (focus (intro w0 hw0; clear hw0; go_simp; try with_reducible rfl)); simp only [Act.put, List.getElem_toArray, List.getElem_cons_zero, List.getElem_cons_succ, List.setIfInBounds_toArray, List.set_cons_zero, List.set_cons_succ])
        (refine wpAnyH_take (i := 11) (v := ?_) rfl (by kernel_rfl) (by kernel_rfl) (by kernel_rfl) (fun _ _ _ h => h) (Or.inl ⟨by rfl, ?_⟩) HSB.out ?_; rotate_left 1; (focus (intro w0 hw0; clear hw0; go_simp; try with_reducible rfl)); simp only [Act.put, List.getElem_toArray, List.getElem_cons_zero, List.getElem_cons_succ, List.setIfInBounds_toArray, List.set_cons_zero, List.set_cons_succ])
        refine wpAnyH_done (by kernel_rfl) ?_ _
        all_goals
          have HS2 : Hid (St B b W0 L w2) := Lib.hid (HS.out.step hB HSB.out)
          go_wp2_with fail
          go_roundg (h - i)
          case measure => omega
          case rel =>
            refine ⟨i, h, hmi, by omega, by omega, rfl, rfl, rfl, HLO.out, fun _ z hz => ?_, HS2.out⟩
            rw [HY.out] at hz
            cases hz
            exact hcf
      · have hcb : decide (cf x y < 0) = false := by simpa using hcf
        go_upto_region 17 with fail
        obtain ⟨wd, hwd⟩ : ∃ wd, wd = World.drew wo := ⟨_, rfl⟩
        have HSB : Hid (Below wo.heap.size wo wd) := Lib.hid (by rw [hwd]; exact (Below.refl _ _).drew)
        refine wp_region_held (S := fun W => Below wo.heap.size wo W) (by kernel_rfl) ?_
        change wpAnyH _ _ _ _ _ 12 #[false, false, false, false, false, false, false, false, false, false, false, false] _ (World.drew wo)
        rw [← hwd]
        clear hwd
        (refine wpAnyH_take (i := 0) (v := ?_) rfl (by kernel_rfl) (by kernel_rfl) (by kernel_rfl) (fun _ _ _ h => h) (Or.inl ⟨by rfl, ?_⟩) HSB.out ?_; rotate_left 1; (focus (intro w0 hw0; clear hw0; go_simp; try with_reducible rfl)); simp only [Act.put, List.getElem_toArray, List.getElem_cons_zero, List.getElem_cons_succ, List.setIfInBounds_toArray, List.set_cons_zero, List.set_cons_succ])
        (refine wpAnyH_take (i := 1) (v := ?_) rfl (by kernel_rfl) (by kernel_rfl) (by kernel_rfl) (fun _ _ _ h => h) (Or.inl ⟨by rfl, ?_⟩) HSB.out ?_; rotate_left 1; (focus (intro w0 hw0; clear hw0; go_simp; try with_reducible rfl)); simp only [Act.put, List.getElem_toArray, List.getElem_cons_zero, List.getElem_cons_succ, List.setIfInBounds_toArray, List.set_cons_zero, List.set_cons_succ])
        (refine wpAnyH_take (i := 2) (v := ?_) rfl (by kernel_rfl) (by kernel_rfl) (by kernel_rfl) (fun _ _ _ h => h) (Or.inl ⟨by rfl, ?_⟩) HSB.out ?_; rotate_left 1; (focus (intro w0 hw0; clear hw0; go_simp; try with_reducible rfl)); simp only [Act.put, List.getElem_toArray, List.getElem_cons_zero, List.getElem_cons_succ, List.setIfInBounds_toArray, List.set_cons_zero, List.set_cons_succ])
        (refine wpAnyH_take (i := 3) (v := ?_) rfl (by kernel_rfl) (by kernel_rfl) (by kernel_rfl) (fun _ _ _ h => h) (Or.inl ⟨by rfl, ?_⟩) HSB.out ?_; rotate_left 1; (focus (intro w0 hw0; clear hw0; go_simp; try with_reducible rfl)); simp only [Act.put, List.getElem_toArray, List.getElem_cons_zero, List.getElem_cons_succ, List.setIfInBounds_toArray, List.set_cons_zero, List.set_cons_succ])
        (refine wpAnyH_take (i := 4) (v := .agg x.cells.toArray) rfl (by kernel_rfl) (by kernel_rfl) (by kernel_rfl) (fun _ _ _ h => h) (yieldsIf_load_mid (by rfl) 58 _ rfl b (m * 19) rfl x.cells _ (fun W h => (HCC.out W h).1) Tryz.underlying58 rfl (by rw [x.len]; kernel_rfl)) HSB.out ?_; simp only [Act.put, List.getElem_toArray, List.getElem_cons_zero, List.getElem_cons_succ, List.setIfInBounds_toArray, List.set_cons_zero, List.set_cons_succ])
        (refine wpAnyH_take (i := 5) (v := ?_) rfl (by kernel_rfl) (by kernel_rfl) (by kernel_rfl) (fun _ _ _ h => h) (Or.inl ⟨by rfl, ?_⟩) HSB.out ?_; rotate_left 1; (focus (intro w0 hw0; clear hw0; go_simp; try with_reducible rfl)); simp only [Act.put, List.getElem_toArray, List.getElem_cons_zero, List.getElem_cons_succ, List.setIfInBounds_toArray, List.set_cons_zero, List.set_cons_succ])
        (refine wpAnyH_take (i := 6) (v := ?_) rfl (by kernel_rfl) (by kernel_rfl) (by kernel_rfl) (fun _ _ _ h => h) (Or.inl ⟨by rfl, ?_⟩) HSB.out ?_; rotate_left 1; (focus (intro w0 hw0; clear hw0; go_simp; try with_reducible rfl)); simp only [Act.put, List.getElem_toArray, List.getElem_cons_zero, List.getElem_cons_succ, List.setIfInBounds_toArray, List.set_cons_zero, List.set_cons_succ])
        (refine wpAnyH_take (i := 7) (v := ?_) rfl (by kernel_rfl) (by kernel_rfl) (by kernel_rfl) (fun _ _ _ h => h) (Or.inl ⟨by rfl, ?_⟩) HSB.out ?_; rotate_left 1; (focus (intro w0 hw0; clear hw0; go_simp; try with_reducible rfl)); simp only [Act.put, List.getElem_toArray, List.getElem_cons_zero, List.getElem_cons_succ, List.setIfInBounds_toArray, List.set_cons_zero, List.set_cons_succ])
        (refine wpAnyH_take (i := 8) (v := .agg y.cells.toArray) rfl (by kernel_rfl) (by kernel_rfl) (by kernel_rfl) (fun _ _ _ h => h) (yieldsIf_load_mid (by rfl) 58 _ rfl b (h * 19) rfl y.cells _ (fun W h => (HCC.out W h).2) Tryz.underlying58 rfl (by rw [y.len]; kernel_rfl)) HSB.out ?_; simp only [Act.put, List.getElem_toArray, List.getElem_cons_zero, List.getElem_cons_succ, List.setIfInBounds_toArray, List.set_cons_zero, List.set_cons_succ])
        refine Lex.wpAnyH_one (i := 9) (vi := .int .i64 (cf x y)) rfl (by kernel_rfl) HSB.out ?_ ?_
        · (intro W K hW hK; (try simp only [Act.put, List.getElem_toArray, List.getElem_cons_zero, List.getElem_cons_succ, List.setIfInBounds_toArray, List.set_cons_zero, List.set_cons_succ]); refine wpOp_step rfl (fun K2 hK2 => ?_); go_simp; refine (HCL.out _ hW).mono ?_; rintro e w9 ⟨rfl, hb⟩; exact hK2 _ _ (hK _ hb))
        clear HSB
        intro w2 hS2
        have HSB := Lib.hid hS2
        clear hS2
        simp only [Act.put, List.getElem_toArray, List.getElem_cons_zero, List.getElem_cons_succ, List.setIfInBounds_toArray, List.set_cons_zero, List.set_cons_succ]
        (refine wpAnyH_take (i := 10) (v := ?_) rfl (by kernel_rfl) (by kernel_rfl) (by kernel_rfl) (fun _ _ _ h => h) (Or.inl ⟨by rfl, ?_⟩) HSB.out ?_; rotate_left 1; (focus (intro w0 hw0; clear hw0; go_simp; try with_reducible rfl)); simp only [Act.put, List.getElem_toArray, List.getElem_cons_zero, List.getElem_cons_succ, List.setIfInBounds_toArray, List.set_cons_zero, List.set_cons_succ])
        (refine wpAnyH_take (i := 11) (v := ?_) rfl (by kernel_rfl) (by kernel_rfl) (by kernel_rfl) (fun _ _ _ h => h) (Or.inl ⟨by rfl, ?_⟩) HSB.out ?_; rotate_left 1; (focus (intro w0 hw0; clear hw0; go_simp; try with_reducible rfl)); simp only [Act.put, List.getElem_toArray, List.getElem_cons_zero, List.getElem_cons_succ, List.setIfInBounds_toArray, List.set_cons_zero, List.set_cons_succ])
        refine wpAnyH_done (by kernel_rfl) ?_ _
        all_goals
          have HS2 : Hid (St B b W0 L w2) := Lib.hid (HS.out.step hB HSB.out)
          go_wp2_with fail
          go_roundg (j - (h + 1))
          case measure => omega
          case rel =>
            refine ⟨h + 1, j, by omega, by omega, hjc, rfl, by go_num, rfl, fun _ z hz => ?_, HHI.out, HS2.out⟩
            rw [show h + 1 - 1 = h by omega, HY.out] at hz
            cases hz
            exact hcf
    · obtain rfl : i = j := by omega
      go_wp2_with fail
      go_loopg [17] (m - i) (fun g kv wr => ∃ k : Nat, ∃ L1 : List WC, i ≤ k ∧ k ≤ m ∧ g = k - i ∧ kv = .int .i64 (k : Int) ∧ Turned (rho k m (m + 1)) L L1 ∧ St B b W0 L1 wr)
      case atStart => exact ⟨m, L, by omega, Nat.le_refl _, rfl, rfl, ⟨rfl, fun t => by rw [rho_none]⟩, HS.out⟩
      case round =>
        obtain ⟨k, L1, hik, hkm, rfl, rfl, ht, hs1⟩ := hrel
        obtain ⟨w1, rfl⟩ : ∃ w1 : World, w1 = wr := ⟨_, rfl⟩
        have HT := Lib.hid ht
        have HS1 := Lib.hid hs1
        have HL1 : Hid (L1.length = N) := Lib.hid (by rw [HT.out.len, HN.out])
        clear ht hs1
        by_cases hk : i < k
        · have hki' : (i : Int) < (k : Int) := by omega
          obtain ⟨k1, hk1, hk2⟩ : ∃ k1, k ≤ k1 + 1 ∧ k1 + 1 ≤ k := ⟨k - 1, by omega, by omega⟩
          have wk : IntKind.i64.wrap ((k : Int) - 1) = (k1 : Int) := wrapS (n := k) (m := 1) (i := k1) (by omega) (by omega)
          obtain ⟨u, hu⟩ : ∃ u, L1[k1]? = some u := ⟨_, List.getElem?_eq_getElem (by have := HL1.out; omega)⟩
          obtain ⟨z, hz⟩ : ∃ z, L1[k]? = some z := ⟨_, List.getElem?_eq_getElem (by have := HL1.out; omega)⟩
          have HU := Lib.hid hu
          have HZ := Lib.hid hz
          have kN : (k : Int) < (N : Int) := by omega
          have k1N : (k1 : Int) < (N : Int) := by omega
          have k0 : (0 : Int) ≤ (k : Int) := by omega
          have k10 : (0 : Int) ≤ (k1 : Int) := by omega
          clear hu hz
          go_upto_region 23 with fail
          obtain ⟨wd, hwd⟩ : ∃ wd, wd = World.drew w1 := ⟨_, rfl⟩
          have HD0 : Hid (St B b W0 L1 wd) := Lib.hid (by rw [hwd]; exact HS1.out.drew hB)
          have HR1 : Hid (wd.rangeAt b (k1 * 19) u.cells ∧ wd.rangeAt b (k * 19) z.cells) := Lib.hid ⟨HD0.out.range HU.out, HD0.out.range HZ.out⟩
          refine Lex.wp_region_w (fun W' => W'.rangeAt b (k1 * 19) u.cells ∧ W'.rangeAt b (k * 19) z.cells) [15, 17] (by kernel_rfl) ?_
          rw [← hwd]
          clear hwd
          change Lex.wpS _ _ _ _ _ _ 18 #[false, false, false, false, false, false, false, false, false, false, false, false, false, false, false, false, false, false] _ wd
          (refine Lex.wpS_pure (i := 0) (v := ?_) rfl (by kernel_rfl) (by kernel_rfl) (by kernel_rfl) (fun _ _ _ h => h) (Or.inl ⟨by rfl, ?_⟩) ?_; rotate_left 1; (focus (intro w0 hw0; clear hw0; go_simp; try with_reducible rfl)); simp only [Act.put, List.getElem_toArray, List.getElem_cons_zero, List.getElem_cons_succ, List.setIfInBounds_toArray, List.set_cons_zero, List.set_cons_succ])
          (refine Lex.wpS_pure (i := 1) (v := ?_) rfl (by kernel_rfl) (by kernel_rfl) (by kernel_rfl) (fun _ _ _ h => h) (Or.inl ⟨by rfl, ?_⟩) ?_; rotate_left 1; (focus (intro w0 hw0; clear hw0; go_simp; try with_reducible rfl)); simp only [Act.put, List.getElem_toArray, List.getElem_cons_zero, List.getElem_cons_succ, List.setIfInBounds_toArray, List.set_cons_zero, List.set_cons_succ])
          (refine Lex.wpS_pure (i := 5) (v := ?_) rfl (by kernel_rfl) (by kernel_rfl) (by kernel_rfl) (fun _ _ _ h => h) (Or.inl ⟨by rfl, ?_⟩) ?_; rotate_left 1; (focus (intro w0 hw0; clear hw0; go_simp; try with_reducible rfl)); simp only [Act.put, List.getElem_toArray, List.getElem_cons_zero, List.getElem_cons_succ, List.setIfInBounds_toArray, List.set_cons_zero, List.set_cons_succ])
          (refine Lex.wpS_pure (i := 6) (v := ?_) rfl (by kernel_rfl) (by kernel_rfl) (by kernel_rfl) (fun _ _ _ h => h) (Or.inl ⟨by rfl, ?_⟩) ?_; rotate_left 1; (focus (intro w0 hw0; clear hw0; go_simp; try with_reducible rfl)); simp only [Act.put, List.getElem_toArray, List.getElem_cons_zero, List.getElem_cons_succ, List.setIfInBounds_toArray, List.set_cons_zero, List.set_cons_succ])
          (refine Lex.wpS_pure (i := 7) (v := ?_) rfl (by kernel_rfl) (by kernel_rfl) (by kernel_rfl) (fun _ _ _ h => h) (Or.inl ⟨by rfl, ?_⟩) ?_; rotate_left 1; (focus (intro w0 hw0; clear hw0; go_simp; try with_reducible rfl)); simp only [Act.put, List.getElem_toArray, List.getElem_cons_zero, List.getElem_cons_succ, List.setIfInBounds_toArray, List.set_cons_zero, List.set_cons_succ])
          (refine Lex.wpS_pure (i := 8) (v := ?_) rfl (by kernel_rfl) (by kernel_rfl) (by kernel_rfl) (fun _ _ _ h => h) (Or.inl ⟨by rfl, ?_⟩) ?_; rotate_left 1; (focus (intro w0 hw0; clear hw0; go_simp; try with_reducible rfl)); simp only [Act.put, List.getElem_toArray, List.getElem_cons_zero, List.getElem_cons_succ, List.setIfInBounds_toArray, List.set_cons_zero, List.set_cons_succ])
          (refine Lex.wpS_take (i := 9) (v := .agg u.cells.toArray) rfl (by kernel_rfl) (by kernel_rfl) (by kernel_rfl) (by kernel_rfl) (fun _ _ _ h => h) HR1.out (yieldsIf_load_mid (by rfl) 58 _ rfl b (k1 * 19) rfl u.cells _ (fun W h => h.1) Tryz.underlying58 rfl (by rw [u.len]; kernel_rfl)) ?_; simp only [Act.put, List.getElem_toArray, List.getElem_cons_zero, List.getElem_cons_succ, List.setIfInBounds_toArray, List.set_cons_zero, List.set_cons_succ])
          (refine Lex.wpS_pure (i := 10) (v := ?_) rfl (by kernel_rfl) (by kernel_rfl) (by kernel_rfl) (fun _ _ _ h => h) (Or.inl ⟨by rfl, ?_⟩) ?_; rotate_left 1; (focus (intro w0 hw0; clear hw0; go_simp; try with_reducible rfl)); simp only [Act.put, List.getElem_toArray, List.getElem_cons_zero, List.getElem_cons_succ, List.setIfInBounds_toArray, List.set_cons_zero, List.set_cons_succ])
          (refine Lex.wpS_pure (i := 11) (v := ?_) rfl (by kernel_rfl) (by kernel_rfl) (by kernel_rfl) (fun _ _ _ h => h) (Or.inl ⟨by rfl, ?_⟩) ?_; rotate_left 1; (focus (intro w0 hw0; clear hw0; go_simp; try with_reducible rfl)); simp only [Act.put, List.getElem_toArray, List.getElem_cons_zero, List.getElem_cons_succ, List.setIfInBounds_toArray, List.set_cons_zero, List.set_cons_succ])
          (refine Lex.wpS_pure (i := 12) (v := ?_) rfl (by kernel_rfl) (by kernel_rfl) (by kernel_rfl) (fun _ _ _ h => h) (Or.inl ⟨by rfl, ?_⟩) ?_; rotate_left 1; (focus (intro w0 hw0; clear hw0; go_simp; try with_reducible rfl)); simp only [Act.put, List.getElem_toArray, List.getElem_cons_zero, List.getElem_cons_succ, List.setIfInBounds_toArray, List.set_cons_zero, List.set_cons_succ])
          (refine Lex.wpS_take (i := 13) (v := .agg z.cells.toArray) rfl (by kernel_rfl) (by kernel_rfl) (by kernel_rfl) (by kernel_rfl) (fun _ _ _ h => h) HR1.out (yieldsIf_load_mid (by rfl) 58 _ rfl b (k * 19) rfl z.cells _ (fun W h => h.2) Tryz.underlying58 rfl (by rw [z.len]; kernel_rfl)) ?_; simp only [Act.put, List.getElem_toArray, List.getElem_cons_zero, List.getElem_cons_succ, List.setIfInBounds_toArray, List.set_cons_zero, List.set_cons_succ])
          (refine Lex.wpS_pure (i := 2) (v := ?_) rfl (by kernel_rfl) (by kernel_rfl) (by kernel_rfl) (fun _ _ _ h => h) (Or.inl ⟨by rfl, ?_⟩) ?_; rotate_left 1; (focus (intro w0 hw0; clear hw0; go_simp; try with_reducible rfl)); simp only [Act.put, List.getElem_toArray, List.getElem_cons_zero, List.getElem_cons_succ, List.setIfInBounds_toArray, List.set_cons_zero, List.set_cons_succ])
          (refine Lex.wpS_pure (i := 3) (v := ?_) rfl (by kernel_rfl) (by kernel_rfl) (by kernel_rfl) (fun _ _ _ h => h) (Or.inl ⟨by rfl, ?_⟩) ?_; rotate_left 1; (focus (intro w0 hw0; clear hw0; go_simp; try with_reducible rfl)); simp only [Act.put, List.getElem_toArray, List.getElem_cons_zero, List.getElem_cons_succ, List.setIfInBounds_toArray, List.set_cons_zero, List.set_cons_succ])
          (refine Lex.wpS_pure (i := 4) (v := ?_) rfl (by kernel_rfl) (by kernel_rfl) (by kernel_rfl) (fun _ _ _ h => h) (Or.inl ⟨by rfl, ?_⟩) ?_; rotate_left 1; (focus (intro w0 hw0; clear hw0; go_simp; try with_reducible rfl)); simp only [Act.put, List.getElem_toArray, List.getElem_cons_zero, List.getElem_cons_succ, List.setIfInBounds_toArray, List.set_cons_zero, List.set_cons_succ])
          (refine Lex.wpS_pure (i := 14) (v := ?_) rfl (by kernel_rfl) (by kernel_rfl) (by kernel_rfl) (fun _ _ _ h => h) (Or.inl ⟨by rfl, ?_⟩) ?_; rotate_left 1; (focus (intro w0 hw0; clear hw0; go_simp; try with_reducible rfl)); simp only [Act.put, List.getElem_toArray, List.getElem_cons_zero, List.getElem_cons_succ, List.setIfInBounds_toArray, List.set_cons_zero, List.set_cons_succ])
          refine Lex.wpS_one (i := 15) (by kernel_rfl) rfl (fun K hK => ?_)
          refine Lex.step_store (by rfl) 58 _ _ rfl b (k * 19) rfl u.cells rfl (HD0.out.thereW (by rw [HL1.out]; omega) u) (by rw [u.len]; kernel_rfl) u.one ?_
          refine hK.out _ _ (.inl (by simp)) ?_
          clear hK K
          try simp only [Act.put, List.getElem_toArray, List.getElem_cons_zero, List.getElem_cons_succ, List.setIfInBounds_toArray, List.set_cons_zero, List.set_cons_succ]
          obtain ⟨wy, hwy⟩ : ∃ wy, wy = wd.setCells b (k * 19) u.cells := ⟨_, rfl⟩
          rw [← hwy]
          have HD1 : Hid (St B b W0 (L1.set k u) wy) := Lib.hid (by rw [hwy]; exact HD0.out.put hB (by rw [HL1.out]; omega) u)
          clear hwy
          (refine Lex.wpS_pure (i := 16) (v := ?_) rfl (by kernel_rfl) (by kernel_rfl) (by kernel_rfl) (fun _ _ _ h => h) (Or.inl ⟨by rfl, ?_⟩) ?_; rotate_left 1; (focus (intro w0 hw0; clear hw0; go_simp; try with_reducible rfl)); simp only [Act.put, List.getElem_toArray, List.getElem_cons_zero, List.getElem_cons_succ, List.setIfInBounds_toArray, List.set_cons_zero, List.set_cons_succ])
          refine Lex.wpS_one (i := 17) (by kernel_rfl) rfl (fun K hK => ?_)
          refine Lex.step_store (by rfl) 58 _ _ rfl b (k1 * 19) rfl z.cells rfl (HD1.out.thereW (by rw [List.length_set, HL1.out]; omega) z) (by rw [z.len]; kernel_rfl) z.one ?_
          refine hK.out _ _ (.inl (by simp)) ?_
          clear hK K
          try simp only [Act.put, List.getElem_toArray, List.getElem_cons_zero, List.getElem_cons_succ, List.setIfInBounds_toArray, List.set_cons_zero, List.set_cons_succ]
          obtain ⟨W9, hW9⟩ : ∃ W9, W9 = wy.setCells b (k1 * 19) z.cells := ⟨_, rfl⟩
          rw [← hW9]
          have HS9 : Hid (St B b W0 ((L1.set k u).set k1 z) W9) := Lib.hid (by rw [hW9]; exact HD1.out.put hB (by rw [List.length_set, HL1.out]; omega) z)
          clear hW9 HD0 HD1 HR1
          refine Lex.wpS_done (by kernel_rfl) ?_ _
          have HK : Hid (k = k1 + 1) := Lib.hid (by omega)
          go_wp2_with fail
          go_roundg (k1 - i)
          case measure => omega
          case rel =>
            refine ⟨k1, (L1.set k u).set k1 z, by omega, by omega, rfl, rfl, ?_, HS9.out⟩
            have e : (L1.set k u).set k1 z = (L1.set k1 z).set k u := List.set_comm _ _ (by omega)
            rw [e]
            refine (HT.out.trans (turned_swap (by omega) HU.out HZ.out)).congr fun t => ?_
            rw [HK.out]
            exact rho_down (by omega)
        · have hki' : ¬ (i : Int) < (k : Int) := by omega
          have FIN : Hid (On (fun x y => decide (cf x y < 0)) a c L L1) := Lib.hid (by
            rw [show c = m + 1 by omega]
            exact one_right HCMP.out.ord HX.out (i := i) (by omega) (by omega) HV.out
              (fun h y hy => by simpa using HLO.out h y hy) (fun h y hy => by simpa using HHI.out h y hy) (by rw [show i = k by omega]; exact HT.out))
          go_wp2_with fail
          refine bodyPost_ret (results_none rfl _ _ _) rfl ?_
          exact ⟨rfl, L1, FIN.out, HS1.out⟩
end Go.Proofs.YthjcmcgmalnfpaaGreatDoor.StabW
/- A merge from the middle: under way (the walk up to the search loop). -/
namespace Go.Proofs.YthjcmcgmalnfpaaGreatDoor.StabW
open Go Go.RowKit Stab
set_option linter.unusedSimpArgs false
set_option linter.unusedVariables false
/-- The merge, where the section is shorter than q. -/
def SymAt (B b : Nat) (W0 : World) (cf : WC → WC → Int) (cap N q : Nat) : Prop := ∀ (L : List WC) (a m c : Nat) (W : World), L.length = N → c - a < q → a < m → m < c → c ≤ N →
  Srt (fun x y => decide (cf x y < 0)) (sec L a m) → Srt (fun x y => decide (cf x y < 0)) (sec L m c) → St B b W0 L W →
    Calls Tryz.prog 65 #[.slice (some ⟨b, 0, none⟩) N cap, .int .i64 a, .int .i64 m, .int .i64 c, .func (.func 29) #[] #[]] W fun e w' => e = .returned (.tuple #[]) ∧ ∃ L', On (fun x y => decide (cf x y < 0)) a c L L' ∧ St B b W0 L' w'
theorem symAt_small {B b : Nat} {W0 : World} (hB : B ≤ b) {cf : WC → WC → Int} (hcmp : CmpAt cf) {cap N : Nat} (hl : N ≤ 1099511627776) {L : List WC} {a m c : Nat} {W : World} (hN : L.length = N) (h1 : a < m) (h2 : m < c) (h3 : c ≤ N)
    (hu : Srt (fun x y => decide (cf x y < 0)) (sec L a m)) (hv : Srt (fun x y => decide (cf x y < 0)) (sec L m c)) (hst : St B b W0 L W) (hs : m = a + 1 ∨ c = m + 1) :
    Calls Tryz.prog 65 #[.slice (some ⟨b, 0, none⟩) N cap, .int .i64 a, .int .i64 m, .int .i64 c, .func (.func 29) #[] #[]] W fun e w' => e = .returned (.tuple #[]) ∧ ∃ L', On (fun x y => decide (cf x y < 0)) a c L L' ∧ St B b W0 L' w' := by
  by_cases e : m = a + 1
  · have h := sm1_any B b W0 hB cf hcmp L cap a m c e h2 (by omega) (by omega) (by rw [← e]; exact hv) W hst
    rw [hN] at h
    exact h
  · have h := sm2_any B b W0 hB cf hcmp L cap a m c (by omega) (by omega) (by omega) (by omega) hu W hst
    rw [hN] at h
    exact h
end Go.Proofs.YthjcmcgmalnfpaaGreatDoor.StabW
