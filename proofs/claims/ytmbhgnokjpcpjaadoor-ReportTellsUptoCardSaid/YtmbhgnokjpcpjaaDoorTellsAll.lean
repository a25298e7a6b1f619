/- Row, Great43, Live43, Law43, Open43: laid into one text. -/
import Derived.Test.YtmbhgnokjpcpjaaDoorMem2
import Derived.Deep.MidRow
import Derived.Laws.NewBlocks
import Derived.StillTailTactics
import Derived.Test.YtmbhgnokjpcpjaaDoorROpE
import Derived.Test.YtmbhgnokjpcpjaaDoorDescM
import Derived.Test.YtmbhgnokjpcpjaaDoorPairH
import Derived.OrdersHeld
import Derived.Test.YtmbhgnokjpcpjaaDoorOpV
/- A whole struct stored into a block that was made just now. -/
namespace Go.Proofs.YtmbhgnokjpcpjaaDoor
open Go.RowKit
theorem setCells_new (W : World) (T : TypeId) : ∀ (cs pre z : List Value), z.length = cs.length → (W.alloc (.cells (pre ++ z).toArray T)).setCells W.heap.size pre.length cs = W.alloc (.cells (pre ++ cs).toArray T)
  | [], pre, [], _ => rfl
  | v :: r, pre, u :: z, h => by
    have e : (pre ++ u :: z).toArray.setIfInBounds pre.length v = ((pre ++ [v]) ++ z).toArray := by simp
    have ih := setCells_new W T r (pre ++ [v]) z (by simpa using h)
    show ((W.alloc (.cells (pre ++ u :: z).toArray T)).setCell ⟨W.heap.size, pre.length, none⟩ v).setCells W.heap.size (pre.length + 1) r = _
    rw [World.setCell_alloc_at _ _ _ _ _ rfl, e]
    rw [List.length_append, List.length_singleton] at ih
    rw [ih, List.append_assoc, List.singleton_append]
/-- 'x := v' of a whole struct: the block, made just now, holds v's cells. -/
theorem wpList_store_new {P : Program} {ops : Array Oper} {rest : List Oper} {op : Oper} {a : Act} {W : World} {z : Array Value} {T : TypeId} {Q : Exit → Act → World → Prop} (hgd : op.guard = none) (ty : TypeId) (x y : Operand) (ho : op.op = .store ty x y)
    (n : Nat) (hn : n = W.heap.size) (cs : List Value) (hx : a.eval x = .pointer (some ⟨n, 0, none⟩)) (hy : a.eval y = .agg cs.toArray) (hz : z.size = cs.length) (hi : (P.info? ty).map (·.size) = some cs.length) (h1 : ∀ v ∈ cs, v.oneCell' = true)
    (h : wpList P ops Q rest (a.put op.dst undef) (W.alloc (.cells cs.toArray T))) : wpList P ops Q (op :: rest) a (W.alloc (.cells z T)) := by
  subst hn
  refine wpList_store_mid hgd ty x y ho W.heap.size 0 cs.toArray hx hy (fun j hj => ?_) (by simpa using hi) (all_oneCell_toArray h1) ?_
  · have hj' : j < z.size := by rw [hz]; simpa using hj
    have hg := heap_alloc_new W (.cells z T)
    rw [Nat.zero_add]
    exact ⟨by rw [cell_at (o := j) hg (Array.getElem?_eq_getElem hj')]; rfl, free_at (o := j) hg⟩
  · have e := setCells_new W T cs [] z.toList (by simpa using hz)
    simp only [List.nil_append, List.length_nil, Array.toArray_toList] at e
    rw [List.toList_toArray, e]
    exact h
/-- A whole struct loaded in a region that draws its order. -/
theorem step_load {P : Program} {w : World} {ops : Array Oper} {o : Oper} {a : Act} {K : Act → World → Prop} {Q : Exit → Act → World → Prop} {E0 : Prop} (hw : Region.wanted o (yielded ops a.tmps) = true) (ty : TypeId) (x : Operand) (ho : o.op = .load ty x)
    (b off : Nat) (hx : a.eval x = .pointer (some ⟨b, off, none⟩)) (cs : List Value) (d : TypeDesc) (hc : w.rangeAt b off cs) (hu : P.underlying ty = some d) (hd : d.isRow = true) (hi : (P.info? ty).map (·.size) = some cs.length)
    (h : K (a.put o.dst (.agg cs.toArray)) w) : if Region.wanted o (yielded ops a.tmps) = true then Oper.wp P o a w K Q else E0 := by
  rw [if_pos hw]
  exact wp_load_mid ty x ho b off hx cs d hc hu hd hi h
/-- A whole struct loaded by an operation that stands under a guard. -/
theorem wpList_load_midg {P : Program} {ops : Array Oper} {rest : List Oper} {op : Oper} {a : Act} {w : World} {Q : Exit → Act → World → Prop} (hw : Region.wanted op (yielded ops a.tmps) = true) (ty : TypeId) (x : Operand) (ho : op.op = .load ty x)
    (b o : Nat) (hx : a.eval x = .pointer (some ⟨b, o, none⟩)) (cs : List Value) (d : TypeDesc) (hc : w.rangeAt b o cs) (hu : P.underlying ty = some d) (hd : d.isRow = true) (hi : (P.info? ty).map (·.size) = some cs.length)
    (h : wpList P ops Q rest (a.put op.dst (.agg cs.toArray)) w) : wpList P ops Q (op :: rest) a w := by
  simp only [wpList, hw, if_true]
  exact .inl (wp_load_mid ty x ho b o hx cs d hc hu hd hi h)
/-- The same in a region's still part. -/
theorem wpStill_load {P : Program} {ops : Array Oper} {rest : List Oper} {op : Oper} {a : Act} {w : World} {Q : Act → Prop} (hw : Region.wanted op (yielded ops a.tmps) = true) (ty : TypeId) (x : Operand) (ho : op.op = .load ty x)
    (b o : Nat) (hx : a.eval x = .pointer (some ⟨b, o, none⟩)) (cs : List Value) (d : TypeDesc) (hc : w.rangeAt b o cs) (hu : P.underlying ty = some d) (hd : d.isRow = true) (hi : (P.info? ty).map (·.size) = some cs.length)
    (h : wpStill P ops w Q rest (a.put op.dst (.agg cs.toArray))) : wpStill P ops w Q (op :: rest) a := by
  refine wpStill_step fun K hK => ?_
  rw [if_pos hw]
  unfold Oper.still execOp
  simp only [ho, hx, Instr.loadAt, Instr.sureAddr, Sem.run_bind, Sem.run_pure, Result.andThen_ok, run_loadVar_mid w b o ty cs d hc hu hd hi, Oper.stillUpon_value]
  exact hK _ h
end Go.Proofs.YtmbhgnokjpcpjaaDoor
/- Is one call more than statements ask? -/
namespace Go.Proofs.YtmbhgnokjpcpjaaDoor.Lex
open Go.RowKit
set_option linter.unusedSimpArgs false
set_option linter.unusedVariables false
/-- A call of which statements ask no more. -/
def OpD.Calm (o : OpD) : Prop := o.tx.size ≤ 500 ∧ o.xs.length ≤ 100 ∧ o.ys.length ≤ 100 ∧ (DescV.mk o.dk o.dn o.dl).nodes ≤ 80
structure GreatP (o : OpD) (e : Ending) : Prop where
  out : ∃ g, e = .returned (.bool g) ∧ (g = false ↔ o.Calm)
set_option maxRecDepth 100000 in
set_option maxHeartbeats 4000000 in
theorem great1_any (k : Nat) (F : Foot) (o : OpD) (xa da ya : Option Addr) (xc dm dc yc b : Nat) (w : World) (hl : RowOf (descRd k) 3 40 F w da dm dc o.dl) (hnd : DescV.nodesL o.dl < 1048576)
    (hc : ∀ W, Below w.heap.size w W → W.cell? ⟨b, 5, none⟩ = some (.string o.tx) ∧ W.cell? ⟨b, 8, none⟩ = some (.slice xa o.xs.length xc) ∧ W.cell? ⟨b, 16, none⟩ = some (.slice ya o.ys.length yc) ∧ W.cell? ⟨b, 10, none⟩ = some (.int .i64 o.dk) ∧ W.cell? ⟨b, 11, none⟩ = some (.int .i64 o.dn) ∧ W.cell? ⟨b, 12, none⟩ = some (.slice da dm dc)) :
    Calls Tryd.prog 4 #[.slice (some ⟨b, 0, none⟩) 1 1] w fun e w' => GreatP o e ∧ Below w.heap.size w w' := by
  have HC := Lib.hid hc
  have HL := Lib.hid hl
  have HND := Lib.hid hnd
  obtain ⟨n1, hn1⟩ : ∃ n1, n1 = o.xs.length := ⟨_, rfl⟩
  obtain ⟨n2, hn2⟩ : ∃ n2, n2 = o.ys.length := ⟨_, rfl⟩
  rw [← hn1, ← hn2] at HC
  have HN1 := Lib.hid hn1
  have HN2 := Lib.hid hn2
  clear hc hl hnd hn1 hn2
  go_enter Tryd.func4, Tryd.ntmps4
  go_wp2_with fail
  go_loopg [3] 1 (fun g iv wr => ∃ i : Nat, i ≤ 1 ∧ g = 1 - i ∧ iv = .int .i64 i ∧ (i = 1 → o.Calm) ∧ Below w.heap.size w wr)
  case atStart => exact ⟨0, by omega, rfl, rfl, fun h => by omega, Below.refl _ _⟩
  case round =>
    obtain ⟨i, hi, rfl, rfl, hcm, hB⟩ := hrel
    obtain ⟨wo, rfl⟩ : ∃ wo : World, wo = wr := ⟨_, rfl⟩
    have HB := Lib.hid hB
    have HCM := Lib.hid hcm
    obtain ⟨t5, t8, t16, t10, t11, t12⟩ := HC.out wo hB
    clear hB hcm
    by_cases h1 : i = 1
    · subst h1
      clear t5 t8 t16 t10 t11 t12
      go_wp2_with fail
      go_ret
      exact ⟨⟨⟨_, rfl, ⟨fun _ => (by first | exact HCM.out rfl | exact HCM.out trivial), fun _ => rfl⟩⟩⟩, HB.out⟩
    · obtain rfl : i = 0 := by omega
      have HD := Lib.hid (HL.out.keep (descRd_ok _) (Fix.of_below HB.out))
      have HMU : Hid (Calls Tryd.prog 14 #[.agg #[.int .i64 o.dk, .int .i64 o.dn, .slice da dm dc]] wo fun e w' => e = .returned (.bool (decide (80 < (DescV.mk o.dk o.dn o.dl).nodes))) ∧ Below wo.heap.size wo w') := Lib.hid (much_any k F o.dk o.dn o.dl da dm dc wo HD.out HND.out)
      by_cases h500 : 500 < o.tx.size
      · have h500i : (500 : Int) < (o.tx.size : Int) := by omega
        go_wp2_with fail
        go_ret
        exact ⟨⟨⟨_, rfl, ⟨fun h => (by cases h), fun h => (by have := h.1; have := h.2.1; have := h.2.2.1; have := HN1.out; have := HN2.out; omega)⟩⟩⟩, HB.out⟩
      · have h500i : ¬ (500 : Int) < (o.tx.size : Int) := by omega
        by_cases hx : 100 < n1
        · have hxi : (100 : Int) < (n1 : Int) := by omega
          go_wp2_with fail
          go_ret
          exact ⟨⟨⟨_, rfl, ⟨fun h => (by cases h), fun h => (by have := h.1; have := h.2.1; have := h.2.2.1; have := HN1.out; have := HN2.out; omega)⟩⟩⟩, HB.out⟩
        · have hxi : ¬ (100 : Int) < (n1 : Int) := by omega
          by_cases hy : 100 < n2
          · have hyi : (100 : Int) < (n2 : Int) := by omega
            go_wp2_with fail
            go_ret
            exact ⟨⟨⟨_, rfl, ⟨fun h => (by cases h), fun h => (by have := h.1; have := h.2.1; have := h.2.2.1; have := HN1.out; have := HN2.out; omega)⟩⟩⟩, HB.out⟩
          · have hyi : ¬ (100 : Int) < (n2 : Int) := by omega
            by_cases hm : 80 < (DescV.mk o.dk o.dn o.dl).nodes
            · rw [decide_eq_true hm] at HMU
              have HMM := Lib.hid hm
              clear hm
              go_wp2_with (go_at_call 14; (with_reducible refine HMU.out.mono ?_); rintro e w2 ⟨rfl, hb2⟩; have HB2 := Lib.hid hb2; clear hb2)
              go_ret
              exact ⟨⟨⟨_, rfl, ⟨fun h => (by cases h), fun h => (by have := h.2.2.2; have := HMM.out; omega)⟩⟩⟩, HB.out.trans (HB2.out.mono HB.out.size)⟩
            · rw [decide_eq_false hm] at HMU
              have HCA : Hid o.Calm := Lib.hid ⟨by omega, by rw [← HN1.out]; omega, by rw [← HN2.out]; omega, by omega⟩
              clear hm
              go_wp2_with (go_at_call 14; (with_reducible refine HMU.out.mono ?_); rintro e w2 ⟨rfl, hb2⟩; have HB2 := Lib.hid hb2; clear hb2)
              go_roundg 0
              case measure => omega
              case rel => exact ⟨1, by omega, rfl, rfl, fun _ => HCA.out, HB.out.trans (HB2.out.mono HB.out.size)⟩
end Go.Proofs.YtmbhgnokjpcpjaaDoor.Lex
/- The page's example, by report.Op. -/
namespace Go.Proofs.YtmbhgnokjpcpjaaDoor.Lex
open Go.RowKit
set_option linter.unusedSimpArgs false
set_option linter.unusedVariables false
def opEx : OpD := ⟨1, 0, 3, 8, 0, ⟨#[]⟩, 0, 0, [], 0, 0, 0, [], 1, 0, ⟨#[]⟩, [], 2, 5⟩
theorem u64s_nil (w : World) (a : Option Addr) : U64s w a [] := fun i hi => by simp at hi
theorem opEx_text : bs (opL opEx) = ⟨#[49, 46, 48, 32, 50, 45, 53, 32, 101, 118, 105, 99, 116, 32, 56, 32, 48, 58, 32, 111, 107, 32, 49]⟩ := by
  have h0 : Lib.itoa 0 = [48] := (itoa_nat 0).trans (decDigits_small (by omega))
  have h1 : Lib.itoa 1 = [49] := (itoa_nat 1).trans (decDigits_small (by omega))
  have h2 : Lib.itoa 2 = [50] := (itoa_nat 2).trans (decDigits_small (by omega))
  have h5 : Lib.itoa 5 = [53] := (itoa_nat 5).trans (decDigits_small (by omega))
  have h8 : Lib.itoa 8 = [56] := (itoa_nat 8).trans (decDigits_small (by omega))
  have e : opL opEx = [49, 46, 48, 32, 50, 45, 53, 32, 101, 118, 105, 99, 116, 32, 56, 32, 48, 58, 32, 111, 107, 32, 49] := by
    have hc : callL opEx.call = [101, 118, 105, 99, 116, 32, 56, 32, 48] := by
      show glue [[101, 118, 105, 99, 116], Lib.itoa 8, Lib.itoa 0] = _
      rw [h8, h0]
      decide
    have ht : opEx.told opEx.ki = [111, 107, 32, 49] := by
      show toldL 3 0 _ 1 _ _ _ = _
      unfold toldL
      rw [if_neg (by decide), if_neg (by decide), if_pos (by decide), h1]
      decide
    unfold opL
    rw [hc, ht, if_neg (by decide), if_neg (by decide)]
    show Lib.itoa 1 ++ [46] ++ Lib.itoa 0 ++ [32] ++ Lib.itoa 2 ++ [45] ++ Lib.itoa 5 ++ [32] ++ _ ++ [58, 32] ++ _ = _
    rw [h0, h1, h2, h5]
    decide
  rw [e]
  rfl
theorem opEx_in (w : World) : OpIn 0 All w opEx none 0 none 0 0 none 0 := by
  have hn : ∀ n : Int, 0 ≤ n → n ≤ 10 → InI n := fun n h0 h1 => ⟨by omega, by omega⟩
  exact ⟨⟨⟨hn _ (by decide) (by decide), hn _ (by decide) (by decide), hn _ (by decide) (by decide), hn _ (by decide) (by decide), hn _ (by decide) (by decide), by decide, by decide⟩, by decide, by decide, fun x h => by cases h⟩, u64s_nil w none, RowOf.empty _ _ _ _ _, by decide, hn _ (by decide) (by decide), hn _ (by decide) (by decide), hn _ (by decide) (by decide), hn _ (by decide) (by decide), hn _ (by decide) (by decide), hn _ (by decide) (by decide), by decide, u64s_nil w none, by decide⟩
theorem one19 (o : OpD) (xa da ya : Option Addr) (xc dm dc yc : Nat) : ∀ v ∈ [Value.int .i64 o.who, .int .i64 o.at_, .int .i64 o.ki, .int .i64 o.kn, .int .i64 o.kd, .string o.tx, .int .i64 o.ow, .int .i64 o.oa, .slice xa o.xs.length xc, .int .i64 o.e, .int .i64 o.dk, .int .i64 o.dn, .slice da dm dc, .int .i64 o.n, .int .i64 o.li, .string o.tt, .slice ya o.ys.length yc, .int .i64 o.fr, .int .i64 o.tz], v.oneCell' = true := by
  intro v hv
  simp only [List.mem_cons, List.not_mem_nil, or_false] at hv
  rcases hv with rfl | rfl | rfl | rfl | rfl | rfl | rfl | rfl | rfl | rfl | rfl | rfl | rfl | rfl | rfl | rfl | rfl | rfl | rfl <;> rfl
set_option maxRecDepth 100000 in
set_option maxHeartbeats 2000000 in
theorem live43 (w : World) (hW : HasWords w) (hm : HasMax w) (ht : HasTab w) : Calls Tryd.prog 5 #[] w fun e w' => e = .returned (.bool true) ∧ Below w.heap.size w w' := by
  obtain ⟨W0, hW0⟩ : ∃ W0, W0 = w.alloc (.cells #[.int .i64 1, .int .i64 0, .int .i64 3, .int .i64 8, .int .i64 0, .string ⟨#[]⟩, .int .i64 0, .int .i64 0, .slice none 0 0, .int .i64 0, .int .i64 0, .int .i64 0, .slice none 0 0, .int .i64 1, .int .i64 0, .string ⟨#[]⟩, .slice none 0 0, .int .i64 2, .int .i64 5] 36) := ⟨_, rfl⟩
  have hb0 : Below w.heap.size w W0 := by rw [hW0]; exact (Below.refl _ _).alloc (Nat.le_refl _) _
  have g0 : W0.heap[w.heap.size]? = some (.cells #[.int .i64 1, .int .i64 0, .int .i64 3, .int .i64 8, .int .i64 0, .string ⟨#[]⟩, .int .i64 0, .int .i64 0, .slice none 0 0, .int .i64 0, .int .i64 0, .int .i64 0, .slice none 0 0, .int .i64 1, .int .i64 0, .string ⟨#[]⟩, .slice none 0 0, .int .i64 2, .int .i64 5] 36 (0, 0)) := by rw [hW0]; exact heap_alloc_new w _
  have HR : Hid (W0.rangeAt w.heap.size 0 [.int .i64 1, .int .i64 0, .int .i64 3, .int .i64 8, .int .i64 0, .string ⟨#[]⟩, .int .i64 0, .int .i64 0, .slice none 0 0, .int .i64 0, .int .i64 0, .int .i64 0, .slice none 0 0, .int .i64 1, .int .i64 0, .string ⟨#[]⟩, .slice none 0 0, .int .i64 2, .int .i64 5]) := Lib.hid fun j u hu => by
    rw [Nat.zero_add]
    exact cell_at (o := j) g0 (by simpa using hu)
  have HO : Hid (Calls Tryd.prog 6 #[.agg #[.int .i64 1, .int .i64 0, .int .i64 3, .int .i64 8, .int .i64 0, .string ⟨#[]⟩, .int .i64 0, .int .i64 0, .slice none 0 0, .int .i64 0, .int .i64 0, .int .i64 0, .slice none 0 0, .int .i64 1, .int .i64 0, .string ⟨#[]⟩, .slice none 0 0, .int .i64 2, .int .i64 5]] W0 fun e w' => e = .returned (.string ⟨#[49, 46, 48, 32, 50, 45, 53, 32, 101, 118, 105, 99, 116, 32, 56, 32, 48, 58, 32, 111, 107, 32, 49]⟩) ∧ Below W0.heap.size W0 w') := Lib.hid (by
    have h := opE_any 0 All opEx none none none 0 0 0 0 W0 (opEx_in W0) (hW.below hb0) (hm.below hb0) (ht.below hb0)
    rw [opEx_text] at h
    exact h)
  have HB0 := Lib.hid hb0
  have HW0 := Lib.hid hW0
  clear hb0 hm ht hW hW0 g0
  go_enter Tryd.func5, Tryd.ntmps5
  go_wp2_with (first
    | (refine wpList_store_new rfl 36 _ _ rfl w.heap.size rfl [.int .i64 1, .int .i64 0, .int .i64 3, .int .i64 8, .int .i64 0, .string ⟨#[]⟩, .int .i64 0, .int .i64 0, .slice none 0 0, .int .i64 0, .int .i64 0, .int .i64 0, .slice none 0 0, .int .i64 1, .int .i64 0, .string ⟨#[]⟩, .slice none 0 0, .int .i64 2, .int .i64 5] rfl rfl rfl (by kernel_rfl) (one19 opEx none none none 0 0 0 0) ?_; rw [← HW0.out])
    | (refine wpList_load_mid rfl 36 _ rfl w.heap.size 0 rfl [.int .i64 1, .int .i64 0, .int .i64 3, .int .i64 8, .int .i64 0, .string ⟨#[]⟩, .int .i64 0, .int .i64 0, .slice none 0 0, .int .i64 0, .int .i64 0, .int .i64 0, .slice none 0 0, .int .i64 1, .int .i64 0, .string ⟨#[]⟩, .slice none 0 0, .int .i64 2, .int .i64 5] _ HR.out Tryd.underlying36 rfl (by kernel_rfl) ?_)
    | (go_at_call 6; (with_reducible refine HO.out.mono ?_); rintro e w1 ⟨rfl, hb1⟩; have HB1 := Lib.hid (HB0.out.trans (hb1.mono HB0.out.size)); clear hb1))
  go_ret
  exact ⟨rfl, HB1.out⟩
end Go.Proofs.YtmbhgnokjpcpjaaDoor.Lex
/- The law ReportTells, walked (printed by tools/mk_law43.py). -/
namespace Go.Proofs.YtmbhgnokjpcpjaaDoor.Lex
open Go.RowKit
set_option linter.unusedSimpArgs false
set_option linter.unusedVariables false
/-- What came in, ahead of the guard. -/
structure OpPre (k : Nat) (F : Foot) (w : World) (o : OpD) (xa : Option Addr) (da : Option Addr) (dm dc : Nat) (ya : Option Addr) : Prop where
  ki : InI o.ki
  kn : InI o.kn
  kd : InI o.kd
  ow : InI o.ow
  oa : InI o.oa
  xs : U64s w xa o.xs
  row : RowOf (descRd k) 3 40 F w da dm dc o.dl
  nd : DescV.nodesL o.dl < 1048576
  who : InI o.who
  at_ : InI o.at_
  fr : InI o.fr
  tz : InI o.tz
  n : InI o.n
  li : InI o.li
  tt : o.tt.size ≤ 9223372036854775807
  ys : U64s w ya o.ys
theorem OpPre.calm {k : Nat} {F : Foot} {w : World} {o : OpD} {xa da ya : Option Addr} {xc dm dc yc : Nat} (h : OpPre k F w o xa da dm dc ya) (hc : o.Calm) : OpIn k F w o xa xc da dm dc ya yc :=
  ⟨⟨⟨h.ki, h.kn, h.kd, h.ow, h.oa, by have := hc.1; show o.tx.size ≤ _; omega, by have := hc.2.1; show o.xs.length ≤ _; omega⟩, hc.1, hc.2.1, u64s_lt h.xs⟩, h.xs, h.row, h.nd, h.who, h.at_, h.fr, h.tz, h.n, h.li, h.tt, h.ys, hc.2.2.1⟩
set_option maxRecDepth 100000 in
set_option maxHeartbeats 8000000 in
theorem law43 (k : Nat) (F : Foot) (o : OpD) (xa da ya : Option Addr) (xc dm dc yc : Nat) (kind : Int) (w : World) (hp : OpPre k F w o xa da dm dc ya) (hW : HasWords w) (hm : HasMax w) (ht : HasTab w) :
    Calls Tryd.prog 3 #[.agg #[.int .i64 o.who, .int .i64 o.at_, .int .i64 o.ki, .int .i64 o.kn, .int .i64 o.kd, .string o.tx, .int .i64 o.ow, .int .i64 o.oa, .slice xa o.xs.length xc, .int .i64 o.e, .int .i64 o.dk, .int .i64 o.dn, .slice da dm dc, .int .i64 o.n, .int .i64 o.li, .string o.tt, .slice ya o.ys.length yc, .int .i64 o.fr, .int .i64 o.tz], .int .i64 kind] w fun e w' => e = .returned (.bool true) ∧ Below w.heap.size w w' := by
  obtain ⟨hb0, -⟩ := op_box w o xa da ya xc dm dc yc
  obtain ⟨W0, hW0⟩ : ∃ W0, W0 = w.alloc (.cells #[.int .i64 o.who, .int .i64 o.at_, .int .i64 o.ki, .int .i64 o.kn, .int .i64 o.kd, .string o.tx, .int .i64 o.ow, .int .i64 o.oa, .slice xa o.xs.length xc, .int .i64 o.e, .int .i64 o.dk, .int .i64 o.dn, .slice da dm dc, .int .i64 o.n, .int .i64 o.li, .string o.tt, .slice ya o.ys.length yc, .int .i64 o.fr, .int .i64 o.tz] 36) := ⟨_, rfl⟩
  rw [← hW0] at hb0
  have g0 : W0.heap[w.heap.size]? = some (.cells #[.int .i64 o.who, .int .i64 o.at_, .int .i64 o.ki, .int .i64 o.kn, .int .i64 o.kd, .string o.tx, .int .i64 o.ow, .int .i64 o.oa, .slice xa o.xs.length xc, .int .i64 o.e, .int .i64 o.dk, .int .i64 o.dn, .slice da dm dc, .int .i64 o.n, .int .i64 o.li, .string o.tt, .slice ya o.ys.length yc, .int .i64 o.fr, .int .i64 o.tz] 36 (0, 0)) := by rw [hW0]; exact heap_alloc_new w _
  have hzw : w.heap.size < W0.heap.size := (Array.getElem?_eq_some_iff.1 g0).1
  have HR : Hid (∀ W, Below W0.heap.size W0 W → W.rangeAt w.heap.size 0 [.int .i64 o.who, .int .i64 o.at_, .int .i64 o.ki, .int .i64 o.kn, .int .i64 o.kd, .string o.tx, .int .i64 o.ow, .int .i64 o.oa, .slice xa o.xs.length xc, .int .i64 o.e, .int .i64 o.dk, .int .i64 o.dn, .slice da dm dc, .int .i64 o.n, .int .i64 o.li, .string o.tt, .slice ya o.ys.length yc, .int .i64 o.fr, .int .i64 o.tz]) := Lib.hid fun W hb j u hu => by
    rw [Nat.zero_add]
    exact cell_at (o := j) ((hb.block _ hzw).trans g0) (by simpa using hu)
  have HCC : Hid (∀ W, Below W0.heap.size W0 W → W.cell? ⟨w.heap.size, 2, none⟩ = some (.int .i64 o.ki) ∧ W.cell? ⟨w.heap.size, 3, none⟩ = some (.int .i64 o.kn) ∧ W.cell? ⟨w.heap.size, 4, none⟩ = some (.int .i64 o.kd) ∧ W.cell? ⟨w.heap.size, 5, none⟩ = some (.string o.tx) ∧ W.cell? ⟨w.heap.size, 6, none⟩ = some (.int .i64 o.ow) ∧ W.cell? ⟨w.heap.size, 7, none⟩ = some (.int .i64 o.oa) ∧ W.cell? ⟨w.heap.size, 8, none⟩ = some (.slice xa o.xs.length xc)) := Lib.hid fun W hb => by
    have g := (hb.block _ hzw).trans g0
    exact ⟨cell_at g rfl, cell_at g rfl, cell_at g rfl, cell_at g rfl, cell_at g rfl, cell_at g rfl, cell_at g rfl⟩
  have HCT : Hid (∀ W, Below W0.heap.size W0 W → W.cell? ⟨w.heap.size, 9, none⟩ = some (.int .i64 o.e) ∧ W.cell? ⟨w.heap.size, 10, none⟩ = some (.int .i64 o.dk) ∧ W.cell? ⟨w.heap.size, 11, none⟩ = some (.int .i64 o.dn) ∧ W.cell? ⟨w.heap.size, 12, none⟩ = some (.slice da dm dc) ∧ W.cell? ⟨w.heap.size, 13, none⟩ = some (.int .i64 o.n) ∧ W.cell? ⟨w.heap.size, 14, none⟩ = some (.int .i64 o.li) ∧ W.cell? ⟨w.heap.size, 15, none⟩ = some (.string o.tt) ∧ W.cell? ⟨w.heap.size, 16, none⟩ = some (.slice ya o.ys.length yc)) := Lib.hid fun W hb => by
    have g := (hb.block _ hzw).trans g0
    exact ⟨cell_at g rfl, cell_at g rfl, cell_at g rfl, cell_at g rfl, cell_at g rfl, cell_at g rfl, cell_at g rfl, cell_at g rfl⟩
  have HGR : Hid (∀ T, Calls Tryd.prog 4 #[.slice (some ⟨W0.heap.size, 0, none⟩) 1 1] (W0.alloc (.cells #[.int .i64 o.who, .int .i64 o.at_, .int .i64 o.ki, .int .i64 o.kn, .int .i64 o.kd, .string o.tx, .int .i64 o.ow, .int .i64 o.oa, .slice xa o.xs.length xc, .int .i64 o.e, .int .i64 o.dk, .int .i64 o.dn, .slice da dm dc, .int .i64 o.n, .int .i64 o.li, .string o.tt, .slice ya o.ys.length yc, .int .i64 o.fr, .int .i64 o.tz] T)) fun e w' => GreatP o e ∧ Below W0.heap.size W0 w') := Lib.hid fun T => by
    have hb1 : Below W0.heap.size W0 (W0.alloc (.cells #[.int .i64 o.who, .int .i64 o.at_, .int .i64 o.ki, .int .i64 o.kn, .int .i64 o.kd, .string o.tx, .int .i64 o.ow, .int .i64 o.oa, .slice xa o.xs.length xc, .int .i64 o.e, .int .i64 o.dk, .int .i64 o.dn, .slice da dm dc, .int .i64 o.n, .int .i64 o.li, .string o.tt, .slice ya o.ys.length yc, .int .i64 o.fr, .int .i64 o.tz] T)) := (Below.refl _ _).alloc (Nat.le_refl _) _
    have g1 := heap_alloc_new W0 (.cells #[.int .i64 o.who, .int .i64 o.at_, .int .i64 o.ki, .int .i64 o.kn, .int .i64 o.kd, .string o.tx, .int .i64 o.ow, .int .i64 o.oa, .slice xa o.xs.length xc, .int .i64 o.e, .int .i64 o.dk, .int .i64 o.dn, .slice da dm dc, .int .i64 o.n, .int .i64 o.li, .string o.tt, .slice ya o.ys.length yc, .int .i64 o.fr, .int .i64 o.tz] T)
    have hz1 : W0.heap.size < (W0.alloc (.cells #[.int .i64 o.who, .int .i64 o.at_, .int .i64 o.ki, .int .i64 o.kn, .int .i64 o.kd, .string o.tx, .int .i64 o.ow, .int .i64 o.oa, .slice xa o.xs.length xc, .int .i64 o.e, .int .i64 o.dk, .int .i64 o.dn, .slice da dm dc, .int .i64 o.n, .int .i64 o.li, .string o.tt, .slice ya o.ys.length yc, .int .i64 o.fr, .int .i64 o.tz] T)).heap.size := by simp
    refine (great1_any k F o xa da ya xc dm dc yc W0.heap.size _ ((hp.row.keep (descRd_ok _) (Fix.of_below hb0)).keep (descRd_ok _) (Fix.of_below hb1)) hp.nd fun W hb => ?_).mono fun e w' h => ⟨h.1, hb1.trans (h.2.mono hb1.size)⟩
    have g := (hb.block _ hz1).trans g1
    exact ⟨cell_at g rfl, cell_at g rfl, cell_at g rfl, cell_at g rfl, cell_at g rfl, cell_at g rfl⟩
  have HLV : Hid (∀ W, Below W0.heap.size W0 W → Calls Tryd.prog 5 #[] W fun e w' => e = .returned (.bool true) ∧ Below W0.heap.size W0 w') := Lib.hid fun W hb =>
    (live43 W ((hW.below hb0).below hb) ((hm.below hb0).below hb) ((ht.below hb0).below hb)).mono fun e w' h => ⟨h.1, hb.trans (h.2.mono hb.size)⟩
  have HB0 := Lib.hid hb0
  have hbz := Below.refl W0.heap.size W0
  by_cases hcalm : o.Calm
  · have HG2 : Hid (∀ T, Calls Tryd.prog 4 #[.slice (some ⟨W0.heap.size, 0, none⟩) 1 1] (W0.alloc (.cells #[.int .i64 o.who, .int .i64 o.at_, .int .i64 o.ki, .int .i64 o.kn, .int .i64 o.kd, .string o.tx, .int .i64 o.ow, .int .i64 o.oa, .slice xa o.xs.length xc, .int .i64 o.e, .int .i64 o.dk, .int .i64 o.dn, .slice da dm dc, .int .i64 o.n, .int .i64 o.li, .string o.tt, .slice ya o.ys.length yc, .int .i64 o.fr, .int .i64 o.tz] T)) fun e w' => e = .returned (.bool false) ∧ Below W0.heap.size W0 w') := Lib.hid fun T => (HGR.out T).mono fun e w' h => by
      obtain ⟨⟨g, rfl, hg⟩, hb⟩ := h
      obtain rfl := hg.2 hcalm
      exact ⟨rfl, hb⟩
    have hi : OpIn k F W0 o xa xc da dm dc ya yc := OpIn.keep (hp.calm hcalm) hb0
    obtain ⟨s1, e1⟩ : ∃ s1, bs (opL o) = s1 := ⟨_, rfl⟩
    obtain ⟨s2, e2⟩ : ∃ s2, bs (callL o.call) = s2 := ⟨_, rfl⟩
    obtain ⟨s3, e3⟩ : ∃ s3, bs (o.told kind) = s3 := ⟨_, rfl⟩
    obtain ⟨s4, e4⟩ : ∃ s4, bs (errW o.e) = s4 := ⟨_, rfl⟩
    have HA1 : Hid (∀ W, Below W0.heap.size W0 W → Calls Tryd.prog 6 #[.agg #[.int .i64 o.who, .int .i64 o.at_, .int .i64 o.ki, .int .i64 o.kn, .int .i64 o.kd, .string o.tx, .int .i64 o.ow, .int .i64 o.oa, .slice xa o.xs.length xc, .int .i64 o.e, .int .i64 o.dk, .int .i64 o.dn, .slice da dm dc, .int .i64 o.n, .int .i64 o.li, .string o.tt, .slice ya o.ys.length yc, .int .i64 o.fr, .int .i64 o.tz]] W fun e w' => e = .returned (.string s1) ∧ Below W0.heap.size W0 w') := Lib.hid fun W hb => by
      rw [← e1]
      exact (opE_any k F o xa da ya xc dm dc yc W (hi.keep hb) ((hW.below hb0).below hb) ((hm.below hb0).below hb) ((ht.below hb0).below hb)).mono fun e w' h => ⟨h.1, hb.trans (h.2.mono hb.size)⟩
    have HA2 : Hid (∀ W, Below W0.heap.size W0 W → Calls Tryd.prog 7 #[.agg #[.int .i64 o.who, .int .i64 o.at_, .int .i64 o.ki, .int .i64 o.kn, .int .i64 o.kd, .string o.tx, .int .i64 o.ow, .int .i64 o.oa, .slice xa o.xs.length xc, .int .i64 o.e, .int .i64 o.dk, .int .i64 o.dn, .slice da dm dc, .int .i64 o.n, .int .i64 o.li, .string o.tt, .slice ya o.ys.length yc, .int .i64 o.fr, .int .i64 o.tz]] W fun e w' => e = .returned (.string s1) ∧ Below W0.heap.size W0 w') := Lib.hid fun W hb => by
      rw [← e1]
      exact (ropE_any k F o xa da ya xc dm dc yc W (hi.keep hb)).mono fun e w' h => ⟨h.1, hb.trans (h.2.mono hb.size)⟩
    have HA3 : Hid (∀ W, Below W0.heap.size W0 W → Calls Tryd.prog 8 #[.agg #[.int .i64 o.ki, .int .i64 o.kn, .int .i64 o.kd, .string o.tx, .int .i64 o.ow, .int .i64 o.oa, .slice xa o.xs.length xc]] W fun e w' => e = .returned (.string s2) ∧ Below W0.heap.size W0 w') := Lib.hid fun W hb => by
      rw [← e2]
      exact (callE_any o.call xa xc W (hi.keep hb).call (hi.keep hb).xs ((hm.below hb0).below hb) ((ht.below hb0).below hb)).mono fun e w' h => ⟨h.1, hb.trans (h.2.mono hb.size)⟩
    have HA4 : Hid (∀ W, Below W0.heap.size W0 W → Calls Tryd.prog 9 #[.agg #[.int .i64 o.ki, .int .i64 o.kn, .int .i64 o.kd, .string o.tx, .int .i64 o.ow, .int .i64 o.oa, .slice xa o.xs.length xc]] W fun e w' => e = .returned (.string s2) ∧ Below W0.heap.size W0 w') := Lib.hid fun W hb => by
      rw [← e2]
      exact (rcallE_any o.call xa xc W (hi.keep hb).call (hi.keep hb).xs).mono fun e w' h => ⟨h.1, hb.trans (h.2.mono hb.size)⟩
    have HA5 : Hid (∀ W, Below W0.heap.size W0 W → Calls Tryd.prog 10 #[.int .i64 kind, .agg #[.int .i64 o.e, .int .i64 o.dk, .int .i64 o.dn, .slice da dm dc, .int .i64 o.n, .int .i64 o.li, .string o.tt, .slice ya o.ys.length yc]] W fun e w' => e = .returned (.string s3) ∧ Below W0.heap.size W0 w') := Lib.hid fun W hb => by
      rw [← e3]
      have h := hi.keep hb
      exact (told_any kind o.e o.dk o.dn o.n o.li o.dl da dm dc o.tt o.ys ya yc k F W h.row h.nd h.n h.li h.tt h.ys (by have := h.yl; omega) ((hW.below hb0).below hb) ((hm.below hb0).below hb) ((ht.below hb0).below hb)).mono fun e w' h => ⟨h.1, hb.trans (h.2.mono hb.size)⟩
    have HA6 : Hid (∀ W, Below W0.heap.size W0 W → Calls Tryd.prog 11 #[.int .i64 kind, .agg #[.int .i64 o.e, .int .i64 o.dk, .int .i64 o.dn, .slice da dm dc, .int .i64 o.n, .int .i64 o.li, .string o.tt, .slice ya o.ys.length yc]] W fun e w' => e = .returned (.string s3) ∧ Below W0.heap.size W0 w') := Lib.hid fun W hb => by
      rw [← e3]
      have h := hi.keep hb
      exact (rtold_any kind o.e o.dk o.dn o.n o.li o.dl da dm dc o.tt o.ys ya yc k F W h.row h.nd h.n h.li h.tt h.ys (by have := h.yl; omega)).mono fun e w' h => ⟨h.1, hb.trans (h.2.mono hb.size)⟩
    have HA7 : Hid (∀ W, Below W0.heap.size W0 W → Calls Tryd.prog 12 #[.int .i64 o.e] W fun e w' => e = .returned (.string s4) ∧ Below W0.heap.size W0 w') := Lib.hid fun W hb => by
      rw [← e4]
      exact (wordE_any o.e W ((hW.below hb0).below hb)).mono fun e w' h => ⟨h.1, h.2 ▸ hb⟩
    have HA8 : Hid (∀ W, Below W0.heap.size W0 W → Calls Tryd.prog 13 #[.int .i64 o.e] W fun e w' => e = .returned (.string s4) ∧ Below W0.heap.size W0 w') := Lib.hid fun W hb => by
      rw [← e4]
      exact (rword_any' o.e W).mono fun e w' h => ⟨h.1, hb.trans (h.2.mono hb.size)⟩
    clear e1 e2 e3 e4 hi hcalm HGR hp hW hm ht g0 hzw hb0
    go_enter Tryd.func3, Tryd.ntmps3
    go_upto_region 1 with fail
    rw [← hW0]
    clear hW0
    go_upto_region 4 with (first
      | (refine wpList_load_mid rfl 36 _ rfl w.heap.size 0 rfl [.int .i64 o.who, .int .i64 o.at_, .int .i64 o.ki, .int .i64 o.kn, .int .i64 o.kd, .string o.tx, .int .i64 o.ow, .int .i64 o.oa, .slice xa o.xs.length xc, .int .i64 o.e, .int .i64 o.dk, .int .i64 o.dn, .slice da dm dc, .int .i64 o.n, .int .i64 o.li, .string o.tt, .slice ya o.ys.length yc, .int .i64 o.fr, .int .i64 o.tz] _ (HR.out _ hbz) Tryd.underlying36 rfl (by kernel_rfl) ?_)
      | (go_at_call 4; (with_reducible refine (HG2.out _).mono ?_); rintro e w1 ⟨rfl, hb1⟩; have HS := Lib.hid hb1.drew; have t9 : w1.cell? ⟨w.heap.size, 9, none⟩ = some (.int .i64 o.e) := (HCT.out w1 hb1).1; clear hb1 hbz))
    clear t9
    refine wp_region_held (S := fun W => Below W0.heap.size W0 W) (by kernel_rfl) ?_
    change wpAnyH _ _ _ _ _ 38 #[false, false, false, false, false, false, false, false, false, false, false, false, false, false, false, false, false, false, false, false, false, false, false, false, false, false, false, false, false, false, false, false, false, false, false, false, false, false] _ w1.drew
    (refine wpAnyH_take (i := 0) (v := .agg #[.int .i64 o.who, .int .i64 o.at_, .int .i64 o.ki, .int .i64 o.kn, .int .i64 o.kd, .string o.tx, .int .i64 o.ow, .int .i64 o.oa, .slice xa o.xs.length xc, .int .i64 o.e, .int .i64 o.dk, .int .i64 o.dn, .slice da dm dc, .int .i64 o.n, .int .i64 o.li, .string o.tt, .slice ya o.ys.length yc, .int .i64 o.fr, .int .i64 o.tz]) rfl (by kernel_rfl) (by kernel_rfl) (by kernel_rfl) (fun _ _ _ h => h) (yieldsIf_load_mid (by rfl) 36 _ rfl w.heap.size 0 rfl [.int .i64 o.who, .int .i64 o.at_, .int .i64 o.ki, .int .i64 o.kn, .int .i64 o.kd, .string o.tx, .int .i64 o.ow, .int .i64 o.oa, .slice xa o.xs.length xc, .int .i64 o.e, .int .i64 o.dk, .int .i64 o.dn, .slice da dm dc, .int .i64 o.n, .int .i64 o.li, .string o.tt, .slice ya o.ys.length yc, .int .i64 o.fr, .int .i64 o.tz] _ (fun W h => HR.out W h) Tryd.underlying36 rfl (by kernel_rfl)) HS.out ?_; simp only [Act.put, List.getElem_toArray, List.getElem_cons_zero, List.getElem_cons_succ, List.setIfInBounds_toArray, List.set_cons_zero, List.set_cons_succ])
    (refine wpAnyH_take (i := 2) (v := .agg #[.int .i64 o.who, .int .i64 o.at_, .int .i64 o.ki, .int .i64 o.kn, .int .i64 o.kd, .string o.tx, .int .i64 o.ow, .int .i64 o.oa, .slice xa o.xs.length xc, .int .i64 o.e, .int .i64 o.dk, .int .i64 o.dn, .slice da dm dc, .int .i64 o.n, .int .i64 o.li, .string o.tt, .slice ya o.ys.length yc, .int .i64 o.fr, .int .i64 o.tz]) rfl (by kernel_rfl) (by kernel_rfl) (by kernel_rfl) (fun _ _ _ h => h) (yieldsIf_load_mid (by rfl) 36 _ rfl w.heap.size 0 rfl [.int .i64 o.who, .int .i64 o.at_, .int .i64 o.ki, .int .i64 o.kn, .int .i64 o.kd, .string o.tx, .int .i64 o.ow, .int .i64 o.oa, .slice xa o.xs.length xc, .int .i64 o.e, .int .i64 o.dk, .int .i64 o.dn, .slice da dm dc, .int .i64 o.n, .int .i64 o.li, .string o.tt, .slice ya o.ys.length yc, .int .i64 o.fr, .int .i64 o.tz] _ (fun W h => HR.out W h) Tryd.underlying36 rfl (by kernel_rfl)) HS.out ?_; simp only [Act.put, List.getElem_toArray, List.getElem_cons_zero, List.getElem_cons_succ, List.setIfInBounds_toArray, List.set_cons_zero, List.set_cons_succ])
    refine wpAnyH_one (i := 1) (vi := .string s1) rfl (by kernel_rfl) HS.out ?_ ?_
    · (intro W K hW hK; (try simp only [Act.put, List.getElem_toArray, List.getElem_cons_zero, List.getElem_cons_succ, List.setIfInBounds_toArray, List.set_cons_zero, List.set_cons_succ]); refine wpOp_step rfl (fun K2 hK2 => ?_); go_simp; refine (HA1.out _ hW).mono ?_; rintro e w' ⟨rfl, hb⟩; exact hK2 _ _ (hK _ hb))
    clear HS
    intro wz1 hS
    have HS := Lib.hid hS
    clear hS
    simp only [Act.put, List.getElem_toArray, List.getElem_cons_zero, List.getElem_cons_succ, List.setIfInBounds_toArray, List.set_cons_zero, List.set_cons_succ]
    refine wpAnyH_one (i := 3) (vi := .string s1) rfl (by kernel_rfl) HS.out ?_ ?_
    · (intro W K hW hK; (try simp only [Act.put, List.getElem_toArray, List.getElem_cons_zero, List.getElem_cons_succ, List.setIfInBounds_toArray, List.set_cons_zero, List.set_cons_succ]); refine wpOp_step rfl (fun K2 hK2 => ?_); go_simp; refine (HA2.out _ hW).mono ?_; rintro e w' ⟨rfl, hb⟩; exact hK2 _ _ (hK _ hb))
    clear HS
    intro wz3 hS
    have HS := Lib.hid hS
    clear hS
    simp only [Act.put, List.getElem_toArray, List.getElem_cons_zero, List.getElem_cons_succ, List.setIfInBounds_toArray, List.set_cons_zero, List.set_cons_succ]
    (refine wpAnyH_take (i := 4) (v := ?_) rfl (by kernel_rfl) (by kernel_rfl) (by kernel_rfl) (fun _ _ _ h => h) (Or.inl ⟨by rfl, ?_⟩) HS.out ?_; rotate_left 1; (focus (intro w0 hw0; clear hw0; go_simp; try with_reducible rfl)); simp only [Act.put, List.getElem_toArray, List.getElem_cons_zero, List.getElem_cons_succ, List.setIfInBounds_toArray, List.set_cons_zero, List.set_cons_succ])
    (refine wpAnyH_take (i := 5) (v := ?_) rfl (by kernel_rfl) (by kernel_rfl) (by kernel_rfl) (fun _ _ _ h => h) (Or.inl ⟨by rfl, ?_⟩) HS.out ?_; rotate_left 1; (focus (intro w0 hw0; clear hw0; go_simp; try with_reducible rfl)); simp only [Act.put, List.getElem_toArray, List.getElem_cons_zero, List.getElem_cons_succ, List.setIfInBounds_toArray, List.set_cons_zero, List.set_cons_succ])
    (refine wpAnyH_take (i := 6) (v := ?_) rfl (by kernel_rfl) (by kernel_rfl) (by kernel_rfl) (fun _ _ _ h => h) (Or.inl ⟨by rfl, ?_⟩) HS.out ?_; rotate_left 1; (focus (intro w0 hw0; clear hw0; go_simp; try with_reducible rfl)); simp only [Act.put, List.getElem_toArray, List.getElem_cons_zero, List.getElem_cons_succ, List.setIfInBounds_toArray, List.set_cons_zero, List.set_cons_succ])
    (refine wpAnyH_take (i := 7) (v := ?_) rfl (by kernel_rfl) (by kernel_rfl) (by kernel_rfl) (fun _ _ _ h => h) (Or.inl ⟨by rfl, ?_⟩) HS.out ?_; rotate_left 1; (focus (intro w0 hw0; obtain ⟨q1, q2, q3, q4, q5, q6, q7⟩ := HCC.out w0 hw0; clear hw0; go_simp; try with_reducible rfl)); simp only [Act.put, List.getElem_toArray, List.getElem_cons_zero, List.getElem_cons_succ, List.setIfInBounds_toArray, List.set_cons_zero, List.set_cons_succ])
    (refine wpAnyH_take (i := 9) (v := ?_) rfl (by kernel_rfl) (by kernel_rfl) (by kernel_rfl) (fun _ _ _ h => h) (Or.inl ⟨by rfl, ?_⟩) HS.out ?_; rotate_left 1; (focus (intro w0 hw0; clear hw0; go_simp; try with_reducible rfl)); simp only [Act.put, List.getElem_toArray, List.getElem_cons_zero, List.getElem_cons_succ, List.setIfInBounds_toArray, List.set_cons_zero, List.set_cons_succ])
    (refine wpAnyH_take (i := 10) (v := ?_) rfl (by kernel_rfl) (by kernel_rfl) (by kernel_rfl) (fun _ _ _ h => h) (Or.inl ⟨by rfl, ?_⟩) HS.out ?_; rotate_left 1; (focus (intro w0 hw0; obtain ⟨q1, q2, q3, q4, q5, q6, q7⟩ := HCC.out w0 hw0; clear hw0; go_simp; try with_reducible rfl)); simp only [Act.put, List.getElem_toArray, List.getElem_cons_zero, List.getElem_cons_succ, List.setIfInBounds_toArray, List.set_cons_zero, List.set_cons_succ])
    refine wpAnyH_one (i := 8) (vi := .string s2) rfl (by kernel_rfl) HS.out ?_ ?_
    · (intro W K hW hK; (try simp only [Act.put, List.getElem_toArray, List.getElem_cons_zero, List.getElem_cons_succ, List.setIfInBounds_toArray, List.set_cons_zero, List.set_cons_succ]); refine wpOp_step rfl (fun K2 hK2 => ?_); go_simp; refine (HA3.out _ hW).mono ?_; rintro e w' ⟨rfl, hb⟩; exact hK2 _ _ (hK _ hb))
    clear HS
    intro wz8 hS
    have HS := Lib.hid hS
    clear hS
    simp only [Act.put, List.getElem_toArray, List.getElem_cons_zero, List.getElem_cons_succ, List.setIfInBounds_toArray, List.set_cons_zero, List.set_cons_succ]
    refine wpAnyH_one (i := 11) (vi := .string s2) rfl (by kernel_rfl) HS.out ?_ ?_
    · (intro W K hW hK; (try simp only [Act.put, List.getElem_toArray, List.getElem_cons_zero, List.getElem_cons_succ, List.setIfInBounds_toArray, List.set_cons_zero, List.set_cons_succ]); refine wpOp_step rfl (fun K2 hK2 => ?_); go_simp; refine (HA4.out _ hW).mono ?_; rintro e w' ⟨rfl, hb⟩; exact hK2 _ _ (hK _ hb))
    clear HS
    intro wz11 hS
    have HS := Lib.hid hS
    clear hS
    simp only [Act.put, List.getElem_toArray, List.getElem_cons_zero, List.getElem_cons_succ, List.setIfInBounds_toArray, List.set_cons_zero, List.set_cons_succ]
    (refine wpAnyH_take (i := 12) (v := ?_) rfl (by kernel_rfl) (by kernel_rfl) (by kernel_rfl) (fun _ _ _ h => h) (Or.inl ⟨by rfl, ?_⟩) HS.out ?_; rotate_left 1; (focus (intro w0 hw0; clear hw0; go_simp; try with_reducible rfl)); simp only [Act.put, List.getElem_toArray, List.getElem_cons_zero, List.getElem_cons_succ, List.setIfInBounds_toArray, List.set_cons_zero, List.set_cons_succ])
    (refine wpAnyH_take (i := 13) (v := ?_) rfl (by kernel_rfl) (by kernel_rfl) (by kernel_rfl) (fun _ _ _ h => h) (Or.inl ⟨by rfl, ?_⟩) HS.out ?_; rotate_left 1; (focus (intro w0 hw0; clear hw0; go_simp; try with_reducible rfl)); simp only [Act.put, List.getElem_toArray, List.getElem_cons_zero, List.getElem_cons_succ, List.setIfInBounds_toArray, List.set_cons_zero, List.set_cons_succ])
    (refine wpAnyH_take (i := 14) (v := ?_) rfl (by kernel_rfl) (by kernel_rfl) (by kernel_rfl) (fun _ _ _ h => h) (Or.inl ⟨by rfl, ?_⟩) HS.out ?_; rotate_left 1; (focus (intro w0 hw0; clear hw0; go_simp; try with_reducible rfl)); simp only [Act.put, List.getElem_toArray, List.getElem_cons_zero, List.getElem_cons_succ, List.setIfInBounds_toArray, List.set_cons_zero, List.set_cons_succ])
    (refine wpAnyH_take (i := 15) (v := ?_) rfl (by kernel_rfl) (by kernel_rfl) (by kernel_rfl) (fun _ _ _ h => h) (Or.inl ⟨by rfl, ?_⟩) HS.out ?_; rotate_left 1; (focus (intro w0 hw0; clear hw0; go_simp; try with_reducible rfl)); simp only [Act.put, List.getElem_toArray, List.getElem_cons_zero, List.getElem_cons_succ, List.setIfInBounds_toArray, List.set_cons_zero, List.set_cons_succ])
    (refine wpAnyH_take (i := 16) (v := ?_) rfl (by kernel_rfl) (by kernel_rfl) (by kernel_rfl) (fun _ _ _ h => h) (Or.inl ⟨by rfl, ?_⟩) HS.out ?_; rotate_left 1; (focus (intro w0 hw0; clear hw0; go_simp; try with_reducible rfl)); simp only [Act.put, List.getElem_toArray, List.getElem_cons_zero, List.getElem_cons_succ, List.setIfInBounds_toArray, List.set_cons_zero, List.set_cons_succ])
    (refine wpAnyH_take (i := 17) (v := ?_) rfl (by kernel_rfl) (by kernel_rfl) (by kernel_rfl) (fun _ _ _ h => h) (Or.inl ⟨by rfl, ?_⟩) HS.out ?_; rotate_left 1; (focus (intro w0 hw0; obtain ⟨q1, q2, q3, q4, q5, q6, q7, q8⟩ := HCT.out w0 hw0; clear hw0; go_simp; try with_reducible rfl)); simp only [Act.put, List.getElem_toArray, List.getElem_cons_zero, List.getElem_cons_succ, List.setIfInBounds_toArray, List.set_cons_zero, List.set_cons_succ])
    (refine wpAnyH_take (i := 19) (v := ?_) rfl (by kernel_rfl) (by kernel_rfl) (by kernel_rfl) (fun _ _ _ h => h) (Or.inl ⟨by rfl, ?_⟩) HS.out ?_; rotate_left 1; (focus (intro w0 hw0; clear hw0; go_simp; try with_reducible rfl)); simp only [Act.put, List.getElem_toArray, List.getElem_cons_zero, List.getElem_cons_succ, List.setIfInBounds_toArray, List.set_cons_zero, List.set_cons_succ])
    (refine wpAnyH_take (i := 20) (v := ?_) rfl (by kernel_rfl) (by kernel_rfl) (by kernel_rfl) (fun _ _ _ h => h) (Or.inl ⟨by rfl, ?_⟩) HS.out ?_; rotate_left 1; (focus (intro w0 hw0; clear hw0; go_simp; try with_reducible rfl)); simp only [Act.put, List.getElem_toArray, List.getElem_cons_zero, List.getElem_cons_succ, List.setIfInBounds_toArray, List.set_cons_zero, List.set_cons_succ])
    (refine wpAnyH_take (i := 21) (v := ?_) rfl (by kernel_rfl) (by kernel_rfl) (by kernel_rfl) (fun _ _ _ h => h) (Or.inl ⟨by rfl, ?_⟩) HS.out ?_; rotate_left 1; (focus (intro w0 hw0; obtain ⟨q1, q2, q3, q4, q5, q6, q7, q8⟩ := HCT.out w0 hw0; clear hw0; go_simp; try with_reducible rfl)); simp only [Act.put, List.getElem_toArray, List.getElem_cons_zero, List.getElem_cons_succ, List.setIfInBounds_toArray, List.set_cons_zero, List.set_cons_succ])
    refine wpAnyH_one (i := 18) (vi := .string s3) rfl (by kernel_rfl) HS.out ?_ ?_
    · (intro W K hW hK; (try simp only [Act.put, List.getElem_toArray, List.getElem_cons_zero, List.getElem_cons_succ, List.setIfInBounds_toArray, List.set_cons_zero, List.set_cons_succ]); refine wpOp_step rfl (fun K2 hK2 => ?_); go_simp; refine (HA5.out _ hW).mono ?_; rintro e w' ⟨rfl, hb⟩; exact hK2 _ _ (hK _ hb))
    clear HS
    intro wz18 hS
    have HS := Lib.hid hS
    clear hS
    simp only [Act.put, List.getElem_toArray, List.getElem_cons_zero, List.getElem_cons_succ, List.setIfInBounds_toArray, List.set_cons_zero, List.set_cons_succ]
    refine wpAnyH_one (i := 22) (vi := .string s3) rfl (by kernel_rfl) HS.out ?_ ?_
    · (intro W K hW hK; (try simp only [Act.put, List.getElem_toArray, List.getElem_cons_zero, List.getElem_cons_succ, List.setIfInBounds_toArray, List.set_cons_zero, List.set_cons_succ]); refine wpOp_step rfl (fun K2 hK2 => ?_); go_simp; refine (HA6.out _ hW).mono ?_; rintro e w' ⟨rfl, hb⟩; exact hK2 _ _ (hK _ hb))
    clear HS
    intro wz22 hS
    have HS := Lib.hid hS
    clear hS
    simp only [Act.put, List.getElem_toArray, List.getElem_cons_zero, List.getElem_cons_succ, List.setIfInBounds_toArray, List.set_cons_zero, List.set_cons_succ]
    (refine wpAnyH_take (i := 23) (v := ?_) rfl (by kernel_rfl) (by kernel_rfl) (by kernel_rfl) (fun _ _ _ h => h) (Or.inl ⟨by rfl, ?_⟩) HS.out ?_; rotate_left 1; (focus (intro w0 hw0; clear hw0; go_simp; try with_reducible rfl)); simp only [Act.put, List.getElem_toArray, List.getElem_cons_zero, List.getElem_cons_succ, List.setIfInBounds_toArray, List.set_cons_zero, List.set_cons_succ])
    (refine wpAnyH_take (i := 24) (v := ?_) rfl (by kernel_rfl) (by kernel_rfl) (by kernel_rfl) (fun _ _ _ h => h) (Or.inl ⟨by rfl, ?_⟩) HS.out ?_; rotate_left 1; (focus (intro w0 hw0; clear hw0; go_simp; try with_reducible rfl)); simp only [Act.put, List.getElem_toArray, List.getElem_cons_zero, List.getElem_cons_succ, List.setIfInBounds_toArray, List.set_cons_zero, List.set_cons_succ])
    (refine wpAnyH_take (i := 25) (v := ?_) rfl (by kernel_rfl) (by kernel_rfl) (by kernel_rfl) (fun _ _ _ h => h) (Or.inl ⟨by rfl, ?_⟩) HS.out ?_; rotate_left 1; (focus (intro w0 hw0; clear hw0; go_simp; try with_reducible rfl)); simp only [Act.put, List.getElem_toArray, List.getElem_cons_zero, List.getElem_cons_succ, List.setIfInBounds_toArray, List.set_cons_zero, List.set_cons_succ])
    (refine wpAnyH_take (i := 26) (v := ?_) rfl (by kernel_rfl) (by kernel_rfl) (by kernel_rfl) (fun _ _ _ h => h) (Or.inl ⟨by rfl, ?_⟩) HS.out ?_; rotate_left 1; (focus (intro w0 hw0; clear hw0; go_simp; try with_reducible rfl)); simp only [Act.put, List.getElem_toArray, List.getElem_cons_zero, List.getElem_cons_succ, List.setIfInBounds_toArray, List.set_cons_zero, List.set_cons_succ])
    (refine wpAnyH_take (i := 27) (v := ?_) rfl (by kernel_rfl) (by kernel_rfl) (by kernel_rfl) (fun _ _ _ h => h) (Or.inl ⟨by rfl, ?_⟩) HS.out ?_; rotate_left 1; (focus (intro w0 hw0; clear hw0; go_simp; try with_reducible rfl)); simp only [Act.put, List.getElem_toArray, List.getElem_cons_zero, List.getElem_cons_succ, List.setIfInBounds_toArray, List.set_cons_zero, List.set_cons_succ])
    (refine wpAnyH_take (i := 28) (v := ?_) rfl (by kernel_rfl) (by kernel_rfl) (by kernel_rfl) (fun _ _ _ h => h) (Or.inl ⟨by rfl, ?_⟩) HS.out ?_; rotate_left 1; (focus (intro w0 hw0; obtain ⟨q1, q2, q3, q4, q5, q6, q7, q8⟩ := HCT.out w0 hw0; clear hw0; go_simp; try with_reducible rfl)); simp only [Act.put, List.getElem_toArray, List.getElem_cons_zero, List.getElem_cons_succ, List.setIfInBounds_toArray, List.set_cons_zero, List.set_cons_succ])
    (refine wpAnyH_take (i := 30) (v := ?_) rfl (by kernel_rfl) (by kernel_rfl) (by kernel_rfl) (fun _ _ _ h => h) (Or.inl ⟨by rfl, ?_⟩) HS.out ?_; rotate_left 1; (focus (intro w0 hw0; clear hw0; go_simp; try with_reducible rfl)); simp only [Act.put, List.getElem_toArray, List.getElem_cons_zero, List.getElem_cons_succ, List.setIfInBounds_toArray, List.set_cons_zero, List.set_cons_succ])
    refine wpAnyH_one (i := 29) (vi := .string s4) rfl (by kernel_rfl) HS.out ?_ ?_
    · (intro W K hW hK; (try simp only [Act.put, List.getElem_toArray, List.getElem_cons_zero, List.getElem_cons_succ, List.setIfInBounds_toArray, List.set_cons_zero, List.set_cons_succ]); refine wpOp_step rfl (fun K2 hK2 => ?_); go_simp; refine (HA7.out _ hW).mono ?_; rintro e w' ⟨rfl, hb⟩; exact hK2 _ _ (hK _ hb))
    clear HS
    intro wz29 hS
    have HS := Lib.hid hS
    clear hS
    simp only [Act.put, List.getElem_toArray, List.getElem_cons_zero, List.getElem_cons_succ, List.setIfInBounds_toArray, List.set_cons_zero, List.set_cons_succ]
    refine wpAnyH_one (i := 31) (vi := .string s4) rfl (by kernel_rfl) HS.out ?_ ?_
    · (intro W K hW hK; (try simp only [Act.put, List.getElem_toArray, List.getElem_cons_zero, List.getElem_cons_succ, List.setIfInBounds_toArray, List.set_cons_zero, List.set_cons_succ]); refine wpOp_step rfl (fun K2 hK2 => ?_); go_simp; refine (HA8.out _ hW).mono ?_; rintro e w' ⟨rfl, hb⟩; exact hK2 _ _ (hK _ hb))
    clear HS
    intro wz31 hS
    have HS := Lib.hid hS
    clear hS
    simp only [Act.put, List.getElem_toArray, List.getElem_cons_zero, List.getElem_cons_succ, List.setIfInBounds_toArray, List.set_cons_zero, List.set_cons_succ]
    (refine wpAnyH_take (i := 32) (v := ?_) rfl (by kernel_rfl) (by kernel_rfl) (by kernel_rfl) (fun _ _ _ h => h) (Or.inl ⟨by rfl, ?_⟩) HS.out ?_; rotate_left 1; (focus (intro w0 hw0; clear hw0; go_simp; try with_reducible rfl)); simp only [Act.put, List.getElem_toArray, List.getElem_cons_zero, List.getElem_cons_succ, List.setIfInBounds_toArray, List.set_cons_zero, List.set_cons_succ])
    (refine wpAnyH_take (i := 33) (v := ?_) rfl (by kernel_rfl) (by kernel_rfl) (by kernel_rfl) (fun _ _ _ h => h) (Or.inl ⟨by rfl, ?_⟩) HS.out ?_; rotate_left 1; (focus (intro w0 hw0; clear hw0; go_simp; try with_reducible rfl)); simp only [Act.put, List.getElem_toArray, List.getElem_cons_zero, List.getElem_cons_succ, List.setIfInBounds_toArray, List.set_cons_zero, List.set_cons_succ])
    (refine wpAnyH_take (i := 34) (v := ?_) rfl (by kernel_rfl) (by kernel_rfl) (by kernel_rfl) (fun _ _ _ h => h) (Or.inl ⟨by rfl, ?_⟩) HS.out ?_; rotate_left 1; (focus (intro w0 hw0; clear hw0; go_simp; try with_reducible rfl)); simp only [Act.put, List.getElem_toArray, List.getElem_cons_zero, List.getElem_cons_succ, List.setIfInBounds_toArray, List.set_cons_zero, List.set_cons_succ])
    refine wpAnyH_one (i := 35) (vi := .bool true) rfl (by kernel_rfl) HS.out ?_ ?_
    · (intro W K hW hK; (try simp only [Act.put, List.getElem_toArray, List.getElem_cons_zero, List.getElem_cons_succ, List.setIfInBounds_toArray, List.set_cons_zero, List.set_cons_succ]); refine wpOp_step rfl (fun K2 hK2 => ?_); go_simp; refine (HLV.out _ hW).mono ?_; rintro e w' ⟨rfl, hb⟩; exact hK2 _ _ (hK _ hb))
    clear HS
    intro wz35 hS
    have HS := Lib.hid hS
    clear hS
    simp only [Act.put, List.getElem_toArray, List.getElem_cons_zero, List.getElem_cons_succ, List.setIfInBounds_toArray, List.set_cons_zero, List.set_cons_succ]
    (refine wpAnyH_take (i := 36) (v := ?_) rfl (by kernel_rfl) (by kernel_rfl) (by kernel_rfl) (fun _ _ _ h => h) (Or.inl ⟨by rfl, ?_⟩) HS.out ?_; rotate_left 1; (focus (intro w0 hw0; clear hw0; go_simp; try with_reducible rfl)); simp only [Act.put, List.getElem_toArray, List.getElem_cons_zero, List.getElem_cons_succ, List.setIfInBounds_toArray, List.set_cons_zero, List.set_cons_succ])
    (refine wpAnyH_take (i := 37) (v := ?_) rfl (by kernel_rfl) (by kernel_rfl) (by kernel_rfl) (fun _ _ _ h => h) (Or.inl ⟨by rfl, ?_⟩) HS.out ?_; rotate_left 1; (focus (intro w0 hw0; clear hw0; go_simp; try with_reducible rfl)); simp only [Act.put, List.getElem_toArray, List.getElem_cons_zero, List.getElem_cons_succ, List.setIfInBounds_toArray, List.set_cons_zero, List.set_cons_succ])
    refine wpAnyH_done (by kernel_rfl) ?_ _
    go_wp2_with fail
    go_ret
    exact ⟨rfl, HB0.out.trans (HS.out.mono HB0.out.size)⟩
  · have HG2 : Hid (∀ T, Calls Tryd.prog 4 #[.slice (some ⟨W0.heap.size, 0, none⟩) 1 1] (W0.alloc (.cells #[.int .i64 o.who, .int .i64 o.at_, .int .i64 o.ki, .int .i64 o.kn, .int .i64 o.kd, .string o.tx, .int .i64 o.ow, .int .i64 o.oa, .slice xa o.xs.length xc, .int .i64 o.e, .int .i64 o.dk, .int .i64 o.dn, .slice da dm dc, .int .i64 o.n, .int .i64 o.li, .string o.tt, .slice ya o.ys.length yc, .int .i64 o.fr, .int .i64 o.tz] T)) fun e w' => e = .returned (.bool true) ∧ Below W0.heap.size W0 w') := Lib.hid fun T => (HGR.out T).mono fun e w' h => by
      obtain ⟨⟨g, rfl, hg⟩, hb⟩ := h
      cases g with
      | false => exact absurd (hg.1 rfl) hcalm
      | true => exact ⟨rfl, hb⟩
    clear HGR hp hW hm ht g0 hzw hb0 hcalm
    go_enter Tryd.func3, Tryd.ntmps3
    go_upto_region 1 with fail
    rw [← hW0]
    clear hW0
    go_wp2_with (first
      | (refine wpList_load_mid rfl 36 _ rfl w.heap.size 0 rfl [.int .i64 o.who, .int .i64 o.at_, .int .i64 o.ki, .int .i64 o.kn, .int .i64 o.kd, .string o.tx, .int .i64 o.ow, .int .i64 o.oa, .slice xa o.xs.length xc, .int .i64 o.e, .int .i64 o.dk, .int .i64 o.dn, .slice da dm dc, .int .i64 o.n, .int .i64 o.li, .string o.tt, .slice ya o.ys.length yc, .int .i64 o.fr, .int .i64 o.tz] _ (HR.out _ hbz) Tryd.underlying36 rfl (by kernel_rfl) ?_)
      | (go_at_call 4; (with_reducible refine (HG2.out _).mono ?_); rintro e w1 ⟨rfl, hb1⟩; have HS := Lib.hid hb1; clear hb1)
      | (go_at_call 5; (with_reducible refine (HLV.out _ HS.out).mono ?_); rintro e w2 ⟨rfl, hb2⟩; have HS2 := Lib.hid hb2; clear hb2))
    go_ret
    exact ⟨rfl, HB0.out.trans (HS2.out.mono HB0.out.size)⟩
end Go.Proofs.YtmbhgnokjpcpjaaDoor.Lex
/- What ReportTells takes, opened; the table of words, off what a row lists. -/
namespace Go.Proofs.YtmbhgnokjpcpjaaDoor.Lex
open Go.RowKit
theorem cells_of_strs {H : Type} {enc : TypeId × Value → H} {P : Program} {w : World} {base : Nat} {sp : Nat → Bool} {held : Bool} {fuel : Nat} {t e : TypeId} {n : Nat} {cs : List Value} {ss : List (List UInt8)} {p : List MemPlace}
    (ht : P.underlying t = some (.array n e)) (he : P.underlying e = some .string) (hce : P.cellsOf e = 1) (hct : P.cellsOf t = n)
    (h : DataW.trod enc P w base sp held fuel t cs = some (.agg (ss.map fun s => .lit (.string s)), p)) : cs = ss.map fun s => Value.string ⟨s.toArray⟩ := by
  obtain ⟨xs, m, _, hx, hl, hxs, hi⟩ := DataW.trod_array ht h
  rw [hct] at hl
  simp only [Prod.mk.injEq, DataW.agg.injEq] at hx
  obtain ⟨hx, _⟩ := hx
  have hxl : ss.length = n := by
    have := congrArg List.length hx
    simp at this
    omega
  apply List.ext_getElem?
  intro i
  by_cases h' : i < n
  · have e1 := hi i h'
    rw [hce, Nat.mul_one] at e1
    have e2 : (xs.map (·.1))[i]? = (ss.map fun s => (DataW.lit (.string s) : DataW H))[i]? := by rw [hx]
    rw [List.getElem?_map, List.getElem?_map, List.getElem?_eq_getElem (by omega : i < ss.length), List.getElem?_eq_getElem (by omega : i < xs.length)] at e2
    rw [List.getElem?_eq_getElem (by omega : i < xs.length)] at e1
    obtain ⟨s, h1, h2, _⟩ := DataW.trod_string he e1
    rw [h2] at e2
    simp only [Option.map_some, Option.some.injEq, DataW.lit.injEq, Lit.string.injEq] at e2
    have h3 : cs[i]? = some (.string s) := by
      have := congrArg (·[0]?) h1
      simpa [List.getElem?_take, List.getElem?_drop] using this
    rw [h3, List.getElem?_map, List.getElem?_eq_getElem (by omega : i < ss.length), ← e2]
    simp
  · rw [List.getElem?_eq_none (by omega), List.getElem?_eq_none (by simp; omega)]
theorem hasWords_of_laid {l : List (String × DataW Unit)} {W : World} (h : laidMetH Tryd.prog l W) (hp : (l.all fun x => x.2.handleName?.isNone) = true)
    (hm : ("dulcimer/report.words", (.agg (wordsE.map fun s => .lit (.string s)) : DataW Unit)) ∈ l) : HasWords W := by
  rw [MakeChecks.laidMetH_plain _ _ _ hp] at h
  obtain ⟨g, t, cs, fuel, p, h1, h2, h3, h4⟩ := Lib.laidMet.reads h hm
  obtain rfl : 0 = g := Option.some.inj ((show Tryd.prog.globalNamed "dulcimer/report.words" = some 0 by kernel_rfl).symm.trans h1)
  obtain rfl : 64 = t := Option.some.inj ((show (Tryd.prog.globals[0]?).map (·.type) = some 64 by kernel_rfl).symm.trans h2)
  have h5 := cells_of_strs Tryd.underlying64 Tryd.underlying9 (by kernel_rfl) (by kernel_rfl) h4
  intro i x hx
  rw [World.var?_cell (by kernel_rfl) h3 i, ← Array.getElem?_toList, h5, List.getElem?_map, hx]
  rfl
theorem wf_in {n : Int} (h : (Lit.int .i64 n).wf = true) : InI n := by
  simp only [Lit.wf, Bool.and_eq_true, decide_eq_true_eq] at h
  exact h
theorem u64s_of_row {F : Foot} {w : World} {a : Option Addr} {n cap : Nat} {xs : List Int} (h : RowOf (Rd.int .u64) 1 8 F w a n cap xs) : U64s w a (xs.map Int.toNat) ∧ (xs.map Int.toNat).length = n := by
  refine ⟨fun i hi => ?_, by simpa using h.len⟩
  have hi' : i < xs.length := by simpa using hi
  obtain ⟨b, off, h1, h2, _, h3, h4⟩ := h.int i hi'
  have hw : (0 : Int) ≤ xs[i] ∧ xs[i] ≤ 18446744073709551615 := by
    simp only [Lit.wf, Bool.and_eq_true, decide_eq_true_eq] at h4
    exact h4
  refine ⟨b, off, h1, h2, ?_, ?_⟩
  · rw [h3]
    simp only [List.getElem_map]
    rw [Int.toNat_of_nonneg hw.1]
  · simp only [List.getElem_map]
    omega
theorem descRd_cells' {k : Nat} {F : Foot} {w : World} {cs : List Value} {d : DescV} (h : descRd k F w cs d) : ∃ a n c, cs = [.int .i64 d.kind, .int .i64 d.n, .slice a n c] ∧ RowOf (descRd k) 3 40 F w a n c d.kids := by
  cases k with
  | zero => exact h.elim
  | succ k =>
    obtain ⟨a, n, c, h1, _, _, h4⟩ := h
    exact ⟨a, n, c, h1, h4.imp fun _ _ h => descRd_mono (Nat.le_succ k) h⟩
theorem opRd_pre {k : Nat} {w : World} {cs : List Value} {x : OpV} (h : opRd k All w cs x) :
    ∃ (o : OpD) (xa da ya : Option Addr) (xc dm dc yc : Nat), cs = [.int .i64 o.who, .int .i64 o.at_, .int .i64 o.ki, .int .i64 o.kn, .int .i64 o.kd, .string o.tx, .int .i64 o.ow, .int .i64 o.oa, .slice xa o.xs.length xc, .int .i64 o.e, .int .i64 o.dk, .int .i64 o.dn, .slice da dm dc, .int .i64 o.n, .int .i64 o.li, .string o.tt, .slice ya o.ys.length yc, .int .i64 o.fr, .int .i64 o.tz] ∧ x.2.2.1.2.1 = .mk o.dk o.dn o.dl ∧ (DescV.nodesL o.dl < 1048576 → OpPre k All w o xa da dm dc ya) := by
  obtain ⟨⟨wh, at'⟩, ⟨ki, ⟨kn, kd⟩, tx, ⟨ow, oa⟩, xs⟩, ⟨e, d, n, li, tt, ys⟩, fr, tz⟩ := x
  obtain ⟨_, _, rfl, ⟨_, _, rfl, ⟨rfl, f1⟩, rfl, f2⟩, _, _, rfl, ⟨_, _, rfl, ⟨rfl, f3⟩, _, _, rfl, ⟨_, _, rfl, ⟨rfl, f4⟩, rfl, f5⟩, _, _, rfl, ⟨rfl, f6⟩, _, _, rfl, ⟨_, _, rfl, ⟨rfl, f7⟩, rfl, f8⟩, xa, xm, xc, rfl, hx⟩, _, _, rfl, ⟨_, _, rfl, ⟨rfl, f9⟩, _, _, rfl, hd, _, _, rfl, ⟨rfl, f10⟩, _, _, rfl, ⟨rfl, f11⟩, _, _, rfl, ⟨rfl, f12⟩, ya, ym, yc, rfl, hy⟩, _, _, rfl, ⟨rfl, f13⟩, rfl, f14⟩ := h
  obtain ⟨da, dm, dc, rfl, hk⟩ := descRd_cells' hd
  obtain ⟨dk, dn, dl⟩ := d
  obtain ⟨hxu, hxl⟩ := u64s_of_row hx
  obtain ⟨hyu, hyl⟩ := u64s_of_row hy
  refine ⟨⟨wh, at', ki, kn, kd, tx, ow, oa, xs.map Int.toNat, e, dk, dn, dl, n, li, tt, ys.map Int.toNat, fr, tz⟩, xa, da, ya, xc, dm, dc, yc, ?_, rfl, fun hnd => ?_⟩
  · show _ = ([.int .i64 wh, .int .i64 at', .int .i64 ki, .int .i64 kn, .int .i64 kd, .string tx, .int .i64 ow, .int .i64 oa, .slice xa (xs.map Int.toNat).length xc, .int .i64 e, .int .i64 dk, .int .i64 dn, .slice da dm dc, .int .i64 n, .int .i64 li, .string tt, .slice ya (ys.map Int.toNat).length yc, .int .i64 fr, .int .i64 tz] : List Value)
    rw [hxl, hyl]
    rfl
  · exact ⟨wf_in f3, wf_in f4, wf_in f5, wf_in f7, wf_in f8, hxu, hk, hnd, wf_in f1, wf_in f2, wf_in f13, wf_in f14, wf_in f10, wf_in f11, by have f : tt.size ≤ 140737488351232 := f12; show tt.size ≤ _; omega, hyu⟩
set_option maxRecDepth 100000 in
/-- What came in, opened. -/
theorem law43_open {H : Type} {enc : TypeId × Value → H} {w : World} {b0 : Nat} {s0 : Nat → Bool} {e0 : Bool} {v0 : Value} {d0 : DataW H} {p0 : List MemPlace} {ww : World} {rr : Reach} {bb : Nat}
    (hv0 : Value.okWide Tryd.prog ww rr bb 36 v0) (h0 : DataW.Trod enc Tryd.prog w b0 s0 e0 36 v0 d0 p0) (q0 : ∀ q ∈ DataW.weights Tryd.prog 36 d0, q ≤ reachBytes) (hb : Rows.uptoBulk d0 ≤ 1048576) (kind : Int) (hW : HasWords w) (hx : HasMax w) (ht : HasTab w) :
    Calls Tryd.prog 3 #[v0, .int .i64 kind] w fun e w' => e = .returned (.bool true) ∧ Below w.heap.size w w' := by
  obtain ⟨f0, h0⟩ := h0
  obtain ⟨cs, rfl, _⟩ := Go.WideShapes.okWide_struct Tryd.underlying36 hv0
  obtain ⟨x, hd, hm⟩ := (ob_op (f0 + 1)).get enc w b0 s0 e0 f0 _ _ (by omega) h0 q0
  obtain ⟨o, xa, da, ya, xc, dm, dc, yc, e, hxo, hp⟩ := opRd_pre hd
  have hcs : cs = #[.int .i64 o.who, .int .i64 o.at_, .int .i64 o.ki, .int .i64 o.kn, .int .i64 o.kd, .string o.tx, .int .i64 o.ow, .int .i64 o.oa, .slice xa o.xs.length xc, .int .i64 o.e, .int .i64 o.dk, .int .i64 o.dn, .slice da dm dc, .int .i64 o.n, .int .i64 o.li, .string o.tt, .slice ya o.ys.length yc, .int .i64 o.fr, .int .i64 o.tz] := Array.toList_inj.1 e
  subst hcs
  have hm' : x.2.2.1.2.1.nodes ≤ Rows.uptoBulk d0 := hm
  rw [hxo, DescV.nodes_kids] at hm'
  have hm2 : DescV.nodesL o.dl + 1 ≤ Rows.uptoBulk d0 := hm'
  exact law43 _ All o xa da ya xc dm dc yc kind w (hp (by omega)) hW hx ht
end Go.Proofs.YtmbhgnokjpcpjaaDoor.Lex
