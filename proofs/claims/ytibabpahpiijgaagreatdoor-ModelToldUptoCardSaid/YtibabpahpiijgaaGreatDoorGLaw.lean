/- AlikeU, Step36, Live36, Law36, OpenT36: laid into one text. -/
import Derived.Test.YtibabpahpiijgaaGreatDoorDescR
import Derived.Test.YtibabpahpiijgaaGreatDoorAlU
import Derived.Test.YtibabpahpiijgaaGreatDoorGMod
import Derived.Test.YtibabpahpiijgaaGreatDoorDescM
import Derived.Test.YtibabpahpiijgaaGreatDoorPairH
import Derived.WalkKit
import Derived.OpenShut
import Derived.WideShapes
/- What two calls told, compared (printed by tools/mk_alike.py). -/
namespace Go.Proofs.YtibabpahpiijgaaGreatDoor
open Go.RowKit
set_option linter.unusedSimpArgs false
set_option linter.unusedVariables false
/-- What a call told, as memory shows it: error, plan, number, line, text, numbers. -/
abbrev ToldV := Int × DescV × Int × Int × ByteArray × List Int
abbrev toldRd (k : Nat) : Rd ToldV := .pair (.int .i64) (.pair (descRd k) (.pair (.int .i64) (.pair (.int .i64) (.pair .str (.slice (.int .u64) 1 8)))))
theorem toldRd_ok (k : Nat) : (toldRd k).Ok 8 := Rd.pair_ok (Rd.int_ok _) (Rd.pair_ok (descRd_ok k) (Rd.pair_ok (Rd.int_ok _) (Rd.pair_ok (Rd.int_ok _) (Rd.pair_ok Rd.str_ok (Rd.slice_ok (Rd.int_ok _) 8)))))
theorem bytes_ne {a b : ByteArray} (h : ¬ a = b) : (a.toList == b.toList) = false := by
  rw [ByteArray.toList_eq, ByteArray.toList_eq, beq_eq_false_iff_ne]
  intro e
  refine h ?_
  obtain ⟨a⟩ := a
  obtain ⟨b⟩ := b
  exact congrArg ByteArray.mk (Array.toList_inj.1 e)
def alikeB (x y : ToldV) : Bool := decide (x.1 = y.1) && (decide (x.2.2.1 = y.2.2.1) && (decide (x.2.2.2.1 = y.2.2.2.1) && (decide (x.2.2.2.2.1 = y.2.2.2.2.1) && (decide (cmpD x.2.1 y.2.1 = 0) && decide (x.2.2.2.2.2 = y.2.2.2.2.2)))))
theorem alikeB_self (x : ToldV) : alikeB x x = true := by simp [alikeB, cmpD_self]
set_option maxRecDepth 100000 in
set_option maxHeartbeats 4000000 in
theorem ralike_any (k : Nat) (F G : Foot) (e1 dk1 dn1 n1 li1 e2 dk2 dn2 n2 li2 : Int) (dl1 dl2 : List DescV) (tx1 tx2 : ByteArray) (ys1 ys2 : List Int) (da1 da2 ya1 ya2 : Option Addr) (dm1 dc1 ym1 yc1 dm2 dc2 ym2 yc2 : Nat) (w : World)
    (hd1 : RowOf (descRd k) 3 40 F w da1 dm1 dc1 dl1) (hy1 : RowOf (Rd.int .u64) 1 8 F w ya1 ym1 yc1 ys1) (hd2 : RowOf (descRd k) 3 40 G w da2 dm2 dc2 dl2) (hy2 : RowOf (Rd.int .u64) 1 8 G w ya2 ym2 yc2 ys2) :
    Calls Tryz.prog 7 #[.agg #[.int .i64 e1, .int .i64 dk1, .int .i64 dn1, .slice da1 dm1 dc1, .int .i64 n1, .int .i64 li1, .string tx1, .slice ya1 ym1 yc1], .agg #[.int .i64 e2, .int .i64 dk2, .int .i64 dn2, .slice da2 dm2 dc2, .int .i64 n2, .int .i64 li2, .string tx2, .slice ya2 ym2 yc2]] w fun e w' => e = .returned (.bool (alikeB (e1, .mk dk1 dn1 dl1, n1, li1, tx1, ys1) (e2, .mk dk2 dn2 dl2, n2, li2, tx2, ys2))) ∧ Below w.heap.size w w' := by
  have hb0 : Below w.heap.size w ((w.alloc (.cells #[.int .i64 e1, .int .i64 dk1, .int .i64 dn1, .slice da1 dm1 dc1, .int .i64 n1, .int .i64 li1, .string tx1, .slice ya1 ym1 yc1] 28)).alloc (.cells #[.int .i64 e2, .int .i64 dk2, .int .i64 dn2, .slice da2 dm2 dc2, .int .i64 n2, .int .i64 li2, .string tx2, .slice ya2 ym2 yc2] 28)) := ((Below.refl _ _).alloc (Nat.le_refl _) _).alloc (by simp) _
  have HD1 := Lib.hid (hd1.keep (descRd_ok _) (Fix.of_below hb0))
  have HD2 := Lib.hid (hd2.keep (descRd_ok _) (Fix.of_below hb0))
  have HY1 := Lib.hid (hy1.keep (Rd.int_ok _) (Fix.of_below hb0))
  have HY2 := Lib.hid (hy2.keep (Rd.int_ok _) (Fix.of_below hb0))
  have HB := Lib.hid hb0
  clear hd1 hd2 hy1 hy2 hb0
  by_cases qe : e1 = e2
  · subst qe
    by_cases qn : n1 = n2
    · subst qn
      by_cases qli : li1 = li2
      · subst qli
        by_cases qtx : tx1 = tx2
        · subst qtx
          by_cases hz : cmpD (.mk dk1 dn1 dl1) (.mk dk2 dn2 dl2) = 0
          · have HZ := Lib.hid hz
            clear hz
            go_enter Tryz.func7, Tryz.ntmps7
            go_wp2_with (first
              | (go_at_call 14; (with_reducible refine (rsame_any k F G dk1 dn1 dk2 dn2 dl1 dl2 da1 da2 dm1 dm2 dc1 dc2 _ HD1.out HD2.out).mono ?_); rintro e w2 ⟨he, hb2⟩; rw [decide_eq_true HZ.out] at he; subst he; obtain ⟨kc, kf⟩ := bcell hb2; have HB2 := Lib.hid hb2; clear hb2)
              | (go_at_call 15; (with_reducible refine (fsame_any ys1 ys2 F G ya1 ya2 ym1 ym2 yc1 yc2 _ (HY1.out.keep (Rd.int_ok _) (Fix.of_below HB2.out)) (HY2.out.keep (Rd.int_ok _) (Fix.of_below HB2.out))).mono ?_); rintro e w3 ⟨rfl, d, rfl⟩))
            go_ret
            exact ⟨by rw [show alikeB (e1, DescV.mk dk1 dn1 dl1, n1, li1, tx1, ys1) (e1, DescV.mk dk2 dn2 dl2, n1, li1, tx1, ys2) = decide (ys1 = ys2) by simp [alikeB, HZ.out]]; rfl, below_drewN (HB.out.trans (HB2.out.mono HB.out.size)) _⟩
          · have HR : Hid (alikeB (e1, DescV.mk dk1 dn1 dl1, n1, li1, tx1, ys1) (e1, DescV.mk dk2 dn2 dl2, n1, li1, tx1, ys2) = false) := Lib.hid (by simp [alikeB, hz])
            have HZ := Lib.hid hz
            clear hz
            go_enter Tryz.func7, Tryz.ntmps7
            go_wp2_with (go_at_call 14; (with_reducible refine (rsame_any k F G dk1 dn1 dk2 dn2 dl1 dl2 da1 da2 dm1 dm2 dc1 dc2 _ HD1.out HD2.out).mono ?_); rintro e w2 ⟨he, hb2⟩; rw [decide_eq_false HZ.out] at he; subst he; have HB2 := Lib.hid hb2; clear hb2)
            go_ret
            exact ⟨by rw [HR.out]; rfl, HB.out.trans (HB2.out.mono HB.out.size)⟩
        · have HR : Hid (alikeB (e1, .mk dk1 dn1 dl1, n1, li1, tx1, ys1) (e1, .mk dk2 dn2 dl2, n1, li1, tx2, ys2) = false) := Lib.hid (by simp [alikeB, qtx])
          have hb := bytes_ne qtx
          clear HD1 HD2 HY1 HY2
          go_enter Tryz.func7, Tryz.ntmps7
          go_wp2_with fail
          go_ret
          exact ⟨by rw [HR.out]; rfl, HB.out⟩
      · have HR : Hid (alikeB (e1, .mk dk1 dn1 dl1, n1, li1, tx1, ys1) (e1, .mk dk2 dn2 dl2, n1, li2, tx2, ys2) = false) := Lib.hid (by simp [alikeB, qli])
        have hb : (li1 == li2) = false := by simpa using qli
        clear HD1 HD2 HY1 HY2
        go_enter Tryz.func7, Tryz.ntmps7
        go_wp2_with fail
        go_ret
        exact ⟨by rw [HR.out]; rfl, HB.out⟩
    · have HR : Hid (alikeB (e1, .mk dk1 dn1 dl1, n1, li1, tx1, ys1) (e1, .mk dk2 dn2 dl2, n2, li2, tx2, ys2) = false) := Lib.hid (by simp [alikeB, qn])
      have hb : (n1 == n2) = false := by simpa using qn
      clear HD1 HD2 HY1 HY2
      go_enter Tryz.func7, Tryz.ntmps7
      go_wp2_with fail
      go_ret
      exact ⟨by rw [HR.out]; rfl, HB.out⟩
  · have HR : Hid (alikeB (e1, .mk dk1 dn1 dl1, n1, li1, tx1, ys1) (e2, .mk dk2 dn2 dl2, n2, li2, tx2, ys2) = false) := Lib.hid (by simp [alikeB, qe])
    have hb : (e1 == e2) = false := by simpa using qe
    clear HD1 HD2 HY1 HY2
    go_enter Tryz.func7, Tryz.ntmps7
    go_wp2_with fail
    go_ret
    exact ⟨by rw [HR.out]; rfl, HB.out⟩
set_option maxRecDepth 100000 in
set_option maxHeartbeats 4000000 in
theorem malike_any (k : Nat) (F G : Foot) (e1 dk1 dn1 n1 li1 e2 dk2 dn2 n2 li2 : Int) (dl1 dl2 : List DescV) (tx1 tx2 : ByteArray) (ys1 ys2 : List Int) (da1 da2 ya1 ya2 : Option Addr) (dm1 dc1 ym1 yc1 dm2 dc2 ym2 yc2 : Nat) (w : World)
    (hd1 : RowOf (descRd k) 3 40 F w da1 dm1 dc1 dl1) (hy1 : RowOf (Rd.int .u64) 1 8 F w ya1 ym1 yc1 ys1) (hd2 : RowOf (descRd k) 3 40 G w da2 dm2 dc2 dl2) (hy2 : RowOf (Rd.int .u64) 1 8 G w ya2 ym2 yc2 ys2) :
    Calls Tryz.prog 6 #[.agg #[.int .i64 e1, .int .i64 dk1, .int .i64 dn1, .slice da1 dm1 dc1, .int .i64 n1, .int .i64 li1, .string tx1, .slice ya1 ym1 yc1], .agg #[.int .i64 e2, .int .i64 dk2, .int .i64 dn2, .slice da2 dm2 dc2, .int .i64 n2, .int .i64 li2, .string tx2, .slice ya2 ym2 yc2]] w fun e w' => e = .returned (.bool (alikeB (e1, .mk dk1 dn1 dl1, n1, li1, tx1, ys1) (e2, .mk dk2 dn2 dl2, n2, li2, tx2, ys2))) ∧ Below w.heap.size w w' := by
  have hb0 : Below w.heap.size w ((w.alloc (.cells #[.int .i64 e1, .int .i64 dk1, .int .i64 dn1, .slice da1 dm1 dc1, .int .i64 n1, .int .i64 li1, .string tx1, .slice ya1 ym1 yc1] 28)).alloc (.cells #[.int .i64 e2, .int .i64 dk2, .int .i64 dn2, .slice da2 dm2 dc2, .int .i64 n2, .int .i64 li2, .string tx2, .slice ya2 ym2 yc2] 28)) := ((Below.refl _ _).alloc (Nat.le_refl _) _).alloc (by simp) _
  have HD1 := Lib.hid (hd1.keep (descRd_ok _) (Fix.of_below hb0))
  have HD2 := Lib.hid (hd2.keep (descRd_ok _) (Fix.of_below hb0))
  have HY1 := Lib.hid (hy1.keep (Rd.int_ok _) (Fix.of_below hb0))
  have HY2 := Lib.hid (hy2.keep (Rd.int_ok _) (Fix.of_below hb0))
  have HB := Lib.hid hb0
  clear hd1 hd2 hy1 hy2 hb0
  by_cases qe : e1 = e2
  · subst qe
    by_cases qn : n1 = n2
    · subst qn
      by_cases qli : li1 = li2
      · subst qli
        by_cases qtx : tx1 = tx2
        · subst qtx
          by_cases hz : cmpD (.mk dk1 dn1 dl1) (.mk dk2 dn2 dl2) = 0
          · have HZ := Lib.hid hz
            clear hz
            go_enter Tryz.func6, Tryz.ntmps6
            go_wp2_with (first
              | (go_at_call 12; (with_reducible refine (dsame_any k F G dk1 dn1 dk2 dn2 dl1 dl2 da1 da2 dm1 dm2 dc1 dc2 _ HD1.out HD2.out).mono ?_); rintro e w2 ⟨he, hb2⟩; rw [decide_eq_true HZ.out] at he; subst he; obtain ⟨kc, kf⟩ := bcell hb2; have HB2 := Lib.hid hb2; clear hb2)
              | (go_at_call 13; (with_reducible refine (equalU_any ys1 ys2 F G ya1 ya2 ym1 ym2 yc1 yc2 _ (HY1.out.keep (Rd.int_ok _) (Fix.of_below HB2.out)) (HY2.out.keep (Rd.int_ok _) (Fix.of_below HB2.out))).mono ?_); rintro e w3 ⟨rfl, d, rfl⟩))
            go_ret
            exact ⟨by rw [show alikeB (e1, DescV.mk dk1 dn1 dl1, n1, li1, tx1, ys1) (e1, DescV.mk dk2 dn2 dl2, n1, li1, tx1, ys2) = decide (ys1 = ys2) by simp [alikeB, HZ.out]]; rfl, below_drewN (HB.out.trans (HB2.out.mono HB.out.size)) _⟩
          · have HR : Hid (alikeB (e1, DescV.mk dk1 dn1 dl1, n1, li1, tx1, ys1) (e1, DescV.mk dk2 dn2 dl2, n1, li1, tx1, ys2) = false) := Lib.hid (by simp [alikeB, hz])
            have HZ := Lib.hid hz
            clear hz
            go_enter Tryz.func6, Tryz.ntmps6
            go_wp2_with (go_at_call 12; (with_reducible refine (dsame_any k F G dk1 dn1 dk2 dn2 dl1 dl2 da1 da2 dm1 dm2 dc1 dc2 _ HD1.out HD2.out).mono ?_); rintro e w2 ⟨he, hb2⟩; rw [decide_eq_false HZ.out] at he; subst he; have HB2 := Lib.hid hb2; clear hb2)
            go_ret
            exact ⟨by rw [HR.out]; rfl, HB.out.trans (HB2.out.mono HB.out.size)⟩
        · have HR : Hid (alikeB (e1, .mk dk1 dn1 dl1, n1, li1, tx1, ys1) (e1, .mk dk2 dn2 dl2, n1, li1, tx2, ys2) = false) := Lib.hid (by simp [alikeB, qtx])
          have hb := bytes_ne qtx
          clear HD1 HD2 HY1 HY2
          go_enter Tryz.func6, Tryz.ntmps6
          go_wp2_with fail
          go_ret
          exact ⟨by rw [HR.out]; rfl, HB.out⟩
      · have HR : Hid (alikeB (e1, .mk dk1 dn1 dl1, n1, li1, tx1, ys1) (e1, .mk dk2 dn2 dl2, n1, li2, tx2, ys2) = false) := Lib.hid (by simp [alikeB, qli])
        have hb : (li1 == li2) = false := by simpa using qli
        clear HD1 HD2 HY1 HY2
        go_enter Tryz.func6, Tryz.ntmps6
        go_wp2_with fail
        go_ret
        exact ⟨by rw [HR.out]; rfl, HB.out⟩
    · have HR : Hid (alikeB (e1, .mk dk1 dn1 dl1, n1, li1, tx1, ys1) (e1, .mk dk2 dn2 dl2, n2, li2, tx2, ys2) = false) := Lib.hid (by simp [alikeB, qn])
      have hb : (n1 == n2) = false := by simpa using qn
      clear HD1 HD2 HY1 HY2
      go_enter Tryz.func6, Tryz.ntmps6
      go_wp2_with fail
      go_ret
      exact ⟨by rw [HR.out]; rfl, HB.out⟩
  · have HR : Hid (alikeB (e1, .mk dk1 dn1 dl1, n1, li1, tx1, ys1) (e2, .mk dk2 dn2 dl2, n2, li2, tx2, ys2) = false) := Lib.hid (by simp [alikeB, qe])
    have hb : (e1 == e2) = false := by simpa using qe
    clear HD1 HD2 HY1 HY2
    go_enter Tryz.func6, Tryz.ntmps6
    go_wp2_with fail
    go_ret
    exact ⟨by rw [HR.out]; rfl, HB.out⟩
end Go.Proofs.YtibabpahpiijgaaGreatDoor
/- model.Step at the page's Get. -/
namespace Go.Proofs.YtibabpahpiijgaaGreatDoor.Lex
open Go.RowKit Stab
set_option linter.unusedSimpArgs false
set_option linter.unusedVariables false
/-- Step's boxes: the state, the call's name, the call, what it told, the state that it gives. -/
structure As (N : Nat) (st : Array Value) (W : World) : Prop where
  s : W.heap[N]? = some (.cells st 37 (0, 0))
  r : W.heap[N + 1]? = some (.cells #[.int .i64 0, .int .i64 0] 45 (0, 0))
  c : W.heap[N + 1 + 1]? = some (.cells #[.int .i64 1, .int .i64 8, .int .i64 0, .string ⟨#[]⟩, .int .i64 0, .int .i64 0, .slice none 0 0] 47 (0, 0))
  d : W.heap[N + 1 + 1 + 1]? = some (.cells #[.int .i64 0, .int .i64 3, .int .i64 8, .slice none 0 0, .int .i64 0, .int .i64 0, .string ⟨#[]⟩, .slice none 0 0] 28 (0, 0))
  o : W.heap[N + 1 + 1 + 1 + 1]? = some (.cells #[.int .i64 0, .slice none 0 0, .slice none 0 0, .slice none 0 0] 37 (0, 0))
theorem As.below {N M : Nat} {st : Array Value} {W W' : World} (h : As N st W) (hb : Below M W W') (hM : N + 5 ≤ M) : As N st W' :=
  ⟨(hb.block _ (by omega)).trans h.s, (hb.block _ (by omega)).trans h.r, (hb.block _ (by omega)).trans h.c, (hb.block _ (by omega)).trans h.d, (hb.block _ (by omega)).trans h.o⟩
theorem boxesS (w : World) (A0 : Array Value) : ∃ W1, W1 = ((((w.alloc (.cells A0 37)).alloc (.cells #[.int .i64 0, .int .i64 0] 45)).alloc (.cells #[.int .i64 1, .int .i64 8, .int .i64 0, .string ⟨#[]⟩, .int .i64 0, .int .i64 0, .slice none 0 0] 47)).alloc (.cells #[.int .i64 0, .int .i64 3, .int .i64 8, .slice none 0 0, .int .i64 0, .int .i64 0, .string ⟨#[]⟩, .slice none 0 0] 28)).alloc (.cells #[.int .i64 0, .slice none 0 0, .slice none 0 0, .slice none 0 0] 37) ∧ Below w.heap.size w W1 ∧ W1.heap.size = w.heap.size + 5 ∧ As w.heap.size A0 W1 := by
  refine ⟨_, rfl, ((((((Below.refl _ _).alloc (Nat.le_refl _) _).alloc (by simp) _).alloc (by simp; omega) _).alloc (by simp; omega) _).alloc (by simp; omega) _), by simp, ⟨?_, ?_, ?_, ?_, ?_⟩⟩ <;> simp only [heap_alloc_iff, World.size_alloc] <;> (repeat (first | rw [if_neg (by omega)])) <;> exact if_pos trivial
set_option maxRecDepth 100000 in
set_option maxHeartbeats 8000000 in
theorem stepG (B pc : Nat) (w : World) (hB : w.heap[B]? = some (.cells #[.slice none 0 0, .slice none 0 0] 79 (0, 0))) :
    Calls Tryz.prog 11 #[.agg #[.int .i64 2, .slice none 0 0, .slice (some ⟨B, 0, none⟩) 2 pc, .slice none 0 0], .agg #[.int .i64 0, .int .i64 0], .agg #[.int .i64 1, .int .i64 8, .int .i64 0, .string ⟨#[]⟩, .int .i64 0, .int .i64 0, .slice none 0 0], .agg #[.int .i64 0, .int .i64 3, .int .i64 8, .slice none 0 0, .int .i64 0, .int .i64 0, .string ⟨#[]⟩, .slice none 0 0]] w fun e w' => ∃ v, e = .returned (.tuple #[v, .bool true]) ∧ Has8 w.heap.size v w' ∧ Below w.heap.size w w' := by
  obtain ⟨W1, hW1, hb1, hz1, hA1⟩ := boxesS w #[.int .i64 2, .slice none 0 0, .slice (some ⟨B, 0, none⟩) 2 pc, .slice none 0 0]
  have lB : B < w.heap.size := (Array.getElem?_eq_some_iff.1 hB).1
  have HANS : Hid (Calls Tryz.prog 10 #[.agg #[.int .i64 2, .slice none 0 0, .slice (some ⟨B, 0, none⟩) 2 pc, .slice none 0 0], .agg #[.int .i64 0, .int .i64 0], .agg #[.int .i64 1, .int .i64 8, .int .i64 0, .string ⟨#[]⟩, .int .i64 0, .int .i64 0, .slice none 0 0], .agg #[.int .i64 3, .int .i64 8, .slice none 0 0]] W1 (TellsK 3 8 0 W1)) := Lib.hid (answer_key 1 (.inl rfl) 2 0 0 3 8 3 8 0 none 0 0 B pc none 0 0 W1 fun W hW => by
    have gB := (hW.block _ (by omega)).trans ((hb1.block _ lB).trans hB)
    exact (keyedG 2 0 0 B pc none 0 W (cell_at gB rfl) rowOf_none).mono fun e w' h => h)
  unfold TellsK at HANS
  have s0 : W1.cell? ⟨w.heap.size, 0, none⟩ = some (.int .i64 2) := cell_at hA1.s rfl
  have s1 : W1.cell? ⟨w.heap.size, 1, none⟩ = some (.slice none 0 0) := cell_at hA1.s rfl
  have s2 : W1.cell? ⟨w.heap.size, 2, none⟩ = some (.slice (some ⟨B, 0, none⟩) 2 pc) := cell_at hA1.s rfl
  have s3 : W1.cell? ⟨w.heap.size, 3, none⟩ = some (.slice none 0 0) := cell_at hA1.s rfl
  have r0 : W1.cell? ⟨w.heap.size + 1, 0, none⟩ = some (.int .i64 0) := cell_at hA1.r rfl
  have r1 : W1.cell? ⟨w.heap.size + 1, 1, none⟩ = some (.int .i64 0) := cell_at hA1.r rfl
  have c0 : W1.cell? ⟨w.heap.size + 1 + 1, 0, none⟩ = some (.int .i64 1) := cell_at hA1.c rfl
  have c1 : W1.cell? ⟨w.heap.size + 1 + 1, 1, none⟩ = some (.int .i64 8) := cell_at hA1.c rfl
  have c2 : W1.cell? ⟨w.heap.size + 1 + 1, 2, none⟩ = some (.int .i64 0) := cell_at hA1.c rfl
  have c3 : W1.cell? ⟨w.heap.size + 1 + 1, 3, none⟩ = some (.string ⟨#[]⟩) := cell_at hA1.c rfl
  have c4 : W1.cell? ⟨w.heap.size + 1 + 1, 4, none⟩ = some (.int .i64 0) := cell_at hA1.c rfl
  have c5 : W1.cell? ⟨w.heap.size + 1 + 1, 5, none⟩ = some (.int .i64 0) := cell_at hA1.c rfl
  have c6 : W1.cell? ⟨w.heap.size + 1 + 1, 6, none⟩ = some (.slice none 0 0) := cell_at hA1.c rfl
  have d0 : W1.cell? ⟨w.heap.size + 1 + 1 + 1, 0, none⟩ = some (.int .i64 0) := cell_at hA1.d rfl
  have d1 : W1.cell? ⟨w.heap.size + 1 + 1 + 1, 1, none⟩ = some (.int .i64 3) := cell_at hA1.d rfl
  have d2 : W1.cell? ⟨w.heap.size + 1 + 1 + 1, 2, none⟩ = some (.int .i64 8) := cell_at hA1.d rfl
  have d3 : W1.cell? ⟨w.heap.size + 1 + 1 + 1, 3, none⟩ = some (.slice none 0 0) := cell_at hA1.d rfl
  have d4 : W1.cell? ⟨w.heap.size + 1 + 1 + 1, 4, none⟩ = some (.int .i64 0) := cell_at hA1.d rfl
  have d5 : W1.cell? ⟨w.heap.size + 1 + 1 + 1, 5, none⟩ = some (.int .i64 0) := cell_at hA1.d rfl
  have d6 : W1.cell? ⟨w.heap.size + 1 + 1 + 1, 6, none⟩ = some (.string ⟨#[]⟩) := cell_at hA1.d rfl
  have d7 : W1.cell? ⟨w.heap.size + 1 + 1 + 1, 7, none⟩ = some (.slice none 0 0) := cell_at hA1.d rfl
  have HA1 := Lib.hid hA1
  have HB1 := Lib.hid hb1
  have HZ1 := Lib.hid hz1
  have HLB := Lib.hid lB
  have HBB := Lib.hid hB
  clear hA1 hb1 hz1 lB hB
  go_enter Tryz.func11, Tryz.ntmps11
  go_upto_region 1 with fail
  rw [← hW1]
  clear hW1
  go_upto_region 2 with (go_at_call 10; (with_reducible refine HANS.out.mono ?_); rintro e w2 ⟨y, c, rfl, hr2, hb2⟩; have HR2 := Lib.hid hr2; have HB2 := Lib.hid hb2; clear hr2 hb2 s0 s1 s2 s3 r0 r1 c0 c1 c2 c3 c4 c5 c6 d0 d1 d2 d3 d4 d5 d6 d7)
  obtain ⟨D, hD⟩ : ∃ D, D = w2.heap.size := ⟨_, rfl⟩
  obtain ⟨W3, hW3⟩ : ∃ W3, W3 = w2.alloc (.cells #[.int .i64 0, .int .i64 3, .int .i64 8, .slice y 0 c, .int .i64 0, .int .i64 0, .string ⟨#[]⟩, .slice none 0 0] 28) := ⟨_, rfl⟩
  have hD1 : w.heap.size + 5 ≤ D := by have := HB2.out.size; have := HZ1.out; omega
  have hb3 : Below D w2 W3 := by rw [hW3, hD]; exact (Below.refl _ _).alloc (Nat.le_refl _) _
  have g3 : W3.heap[D]? = some (.cells #[.int .i64 0, .int .i64 3, .int .i64 8, .slice y 0 c, .int .i64 0, .int .i64 0, .string ⟨#[]⟩, .slice none 0 0] 28 (0, 0)) := by rw [hW3, hD]; exact heap_alloc_new w2 _
  have hz3 : W3.heap.size = D + 1 := by rw [hW3, hD]; simp
  have hA3 : As w.heap.size #[.int .i64 2, .slice none 0 0, .slice (some ⟨B, 0, none⟩) 2 pc, .slice none 0 0] W3 := (HA1.out.below HB2.out (by have := HZ1.out; omega)).below hb3 hD1
  have HB3 : Hid (Below w.heap.size w W3) := Lib.hid ((HB1.out.trans (HB2.out.mono HB1.out.size)).trans (hb3.mono (by omega)))
  have HMA : Hid (Calls Tryz.prog 6 #[.agg #[.int .i64 0, .int .i64 3, .int .i64 8, .slice y 0 c, .int .i64 0, .int .i64 0, .string ⟨#[]⟩, .slice none 0 0], .agg #[.int .i64 0, .int .i64 3, .int .i64 8, .slice none 0 0, .int .i64 0, .int .i64 0, .string ⟨#[]⟩, .slice none 0 0]] W3 fun e w' => e = .returned (.bool true) ∧ Below W3.heap.size W3 w') := Lib.hid (by
    have h := malike_any 0 All All 0 3 8 0 0 0 3 8 0 0 [] [] ⟨#[]⟩ ⟨#[]⟩ [] [] y none none none 0 c 0 0 0 0 0 0 W3 (rowOf_any HR2.out) rowOf_none rowOf_none rowOf_none
    rw [alikeB_self] at h
    exact h)
  rw [← hD, ← hW3]
  clear hW3 hD
  have t0 : W3.cell? ⟨D, 0, none⟩ = some (.int .i64 0) := cell_at g3 rfl
  have t1 : W3.cell? ⟨D, 1, none⟩ = some (.int .i64 3) := cell_at g3 rfl
  have t2 : W3.cell? ⟨D, 2, none⟩ = some (.int .i64 8) := cell_at g3 rfl
  have t3 : W3.cell? ⟨D, 3, none⟩ = some (.slice y 0 c) := cell_at g3 rfl
  have t4 : W3.cell? ⟨D, 4, none⟩ = some (.int .i64 0) := cell_at g3 rfl
  have t5 : W3.cell? ⟨D, 5, none⟩ = some (.int .i64 0) := cell_at g3 rfl
  have t6 : W3.cell? ⟨D, 6, none⟩ = some (.string ⟨#[]⟩) := cell_at g3 rfl
  have t7 : W3.cell? ⟨D, 7, none⟩ = some (.slice none 0 0) := cell_at g3 rfl
  have d0 : W3.cell? ⟨w.heap.size + 1 + 1 + 1, 0, none⟩ = some (.int .i64 0) := cell_at hA3.d rfl
  have d1 : W3.cell? ⟨w.heap.size + 1 + 1 + 1, 1, none⟩ = some (.int .i64 3) := cell_at hA3.d rfl
  have d2 : W3.cell? ⟨w.heap.size + 1 + 1 + 1, 2, none⟩ = some (.int .i64 8) := cell_at hA3.d rfl
  have d3 : W3.cell? ⟨w.heap.size + 1 + 1 + 1, 3, none⟩ = some (.slice none 0 0) := cell_at hA3.d rfl
  have d4 : W3.cell? ⟨w.heap.size + 1 + 1 + 1, 4, none⟩ = some (.int .i64 0) := cell_at hA3.d rfl
  have d5 : W3.cell? ⟨w.heap.size + 1 + 1 + 1, 5, none⟩ = some (.int .i64 0) := cell_at hA3.d rfl
  have d6 : W3.cell? ⟨w.heap.size + 1 + 1 + 1, 6, none⟩ = some (.string ⟨#[]⟩) := cell_at hA3.d rfl
  have d7 : W3.cell? ⟨w.heap.size + 1 + 1 + 1, 7, none⟩ = some (.slice none 0 0) := cell_at hA3.d rfl
  have HD1 := Lib.hid hD1
  have HG3 := Lib.hid g3
  have HZ3 := Lib.hid hz3
  have HA3 := Lib.hid hA3
  clear hD1 g3 hz3 hA3 hb3
  go_upto_region 4 with (go_at_call 6; (with_reducible refine HMA.out.mono ?_); rintro e w4 ⟨rfl, hb4⟩; have HB4 := Lib.hid hb4; clear hb4 t0 t1 t2 t3 t4 t5 t6 t7 d0 d1 d2 d3 d4 d5 d6 d7)
  obtain ⟨W4, rfl⟩ : ∃ W : World, W = w4 := ⟨_, rfl⟩
  have hA4 := HA3.out.below HB4.out (by have := HZ3.out; have := HD1.out; omega)
  have HB4w := Lib.hid (HB3.out.trans (HB4.out.mono HB3.out.size))
  have HANY : Hid (Calls Tryz.prog 19 #[.agg #[.int .i64 2, .slice none 0 0, .slice (some ⟨B, 0, none⟩) 2 pc, .slice none 0 0], .agg #[.int .i64 0, .int .i64 0], .agg #[.int .i64 1, .int .i64 8, .int .i64 0, .string ⟨#[]⟩, .int .i64 0, .int .i64 0, .slice none 0 0], .agg #[.int .i64 3, .int .i64 8, .slice none 0 0]] W4 fun e w' => ∃ v, e = .returned (.tuple #[v, .bool true]) ∧ Has8 W4.heap.size v w' ∧ Below W4.heap.size W4 w') := Lib.hid (anyG B pc W4 ((HB4w.out.block _ HLB.out).trans HBB.out))
  unfold Has8 at HANY
  have HA4 := Lib.hid hA4
  have HN4 : Hid (w.heap.size + 6 ≤ W4.heap.size) := Lib.hid (by have := HZ3.out; have := HD1.out; have := HB4.out.size; omega)
  have s0 : W4.cell? ⟨w.heap.size, 0, none⟩ = some (.int .i64 2) := cell_at hA4.s rfl
  have s1 : W4.cell? ⟨w.heap.size, 1, none⟩ = some (.slice none 0 0) := cell_at hA4.s rfl
  have s2 : W4.cell? ⟨w.heap.size, 2, none⟩ = some (.slice (some ⟨B, 0, none⟩) 2 pc) := cell_at hA4.s rfl
  have s3 : W4.cell? ⟨w.heap.size, 3, none⟩ = some (.slice none 0 0) := cell_at hA4.s rfl
  have r0 : W4.cell? ⟨w.heap.size + 1, 0, none⟩ = some (.int .i64 0) := cell_at hA4.r rfl
  have r1 : W4.cell? ⟨w.heap.size + 1, 1, none⟩ = some (.int .i64 0) := cell_at hA4.r rfl
  have c0 : W4.cell? ⟨w.heap.size + 1 + 1, 0, none⟩ = some (.int .i64 1) := cell_at hA4.c rfl
  have c1 : W4.cell? ⟨w.heap.size + 1 + 1, 1, none⟩ = some (.int .i64 8) := cell_at hA4.c rfl
  have c2 : W4.cell? ⟨w.heap.size + 1 + 1, 2, none⟩ = some (.int .i64 0) := cell_at hA4.c rfl
  have c3 : W4.cell? ⟨w.heap.size + 1 + 1, 3, none⟩ = some (.string ⟨#[]⟩) := cell_at hA4.c rfl
  have c4 : W4.cell? ⟨w.heap.size + 1 + 1, 4, none⟩ = some (.int .i64 0) := cell_at hA4.c rfl
  have c5 : W4.cell? ⟨w.heap.size + 1 + 1, 5, none⟩ = some (.int .i64 0) := cell_at hA4.c rfl
  have c6 : W4.cell? ⟨w.heap.size + 1 + 1, 6, none⟩ = some (.slice none 0 0) := cell_at hA4.c rfl
  have d0 : W4.cell? ⟨w.heap.size + 1 + 1 + 1, 0, none⟩ = some (.int .i64 0) := cell_at hA4.d rfl
  have d1 : W4.cell? ⟨w.heap.size + 1 + 1 + 1, 1, none⟩ = some (.int .i64 3) := cell_at hA4.d rfl
  have d2 : W4.cell? ⟨w.heap.size + 1 + 1 + 1, 2, none⟩ = some (.int .i64 8) := cell_at hA4.d rfl
  have d3 : W4.cell? ⟨w.heap.size + 1 + 1 + 1, 3, none⟩ = some (.slice none 0 0) := cell_at hA4.d rfl
  have d4 : W4.cell? ⟨w.heap.size + 1 + 1 + 1, 4, none⟩ = some (.int .i64 0) := cell_at hA4.d rfl
  have d5 : W4.cell? ⟨w.heap.size + 1 + 1 + 1, 5, none⟩ = some (.int .i64 0) := cell_at hA4.d rfl
  have d6 : W4.cell? ⟨w.heap.size + 1 + 1 + 1, 6, none⟩ = some (.string ⟨#[]⟩) := cell_at hA4.d rfl
  have d7 : W4.cell? ⟨w.heap.size + 1 + 1 + 1, 7, none⟩ = some (.slice none 0 0) := cell_at hA4.d rfl
  clear hA4
  go_wp2_with (go_at_call 19; (with_reducible refine HANY.out.mono ?_); rintro e w5 ⟨_, rfl, ⟨a2, B2, f, fc, oa, oc, rfl, hr, hn, hc, hk⟩, hb5⟩; have hA5 := HA4.out.below hb5 (by have := HN4.out; omega); have HA5 := Lib.hid hA5; have HR5 := Lib.hid hr; have HN5 := Lib.hid hn; have HC5 := Lib.hid hc; have HK5 := Lib.hid hk; have HB5 := Lib.hid hb5; clear hr hn hc hk hb5 s0 s1 s2 s3 r0 r1 c0 c1 c2 c3 c4 c5 c6 d0 d1 d2 d3 d4 d5 d6 d7; have o0 : w5.cell? ⟨w.heap.size + 1 + 1 + 1 + 1, 0, none⟩ = some (.int .i64 0) := cell_at hA5.o rfl; have o1 : w5.cell? ⟨w.heap.size + 1 + 1 + 1 + 1, 1, none⟩ = some (.slice none 0 0) := cell_at hA5.o rfl; have o2 : w5.cell? ⟨w.heap.size + 1 + 1 + 1 + 1, 2, none⟩ = some (.slice none 0 0) := cell_at hA5.o rfl; have o3 : w5.cell? ⟨w.heap.size + 1 + 1 + 1 + 1, 3, none⟩ = some (.slice none 0 0) := cell_at hA5.o rfl; have f0 : ∀ o, w5.frozen? ⟨w.heap.size + 1 + 1 + 1 + 1, o, none⟩ = false := (fun o => free_at hA5.o); clear hA5)
  obtain ⟨W5, rfl⟩ : ∃ W : World, W = w5 := ⟨_, rfl⟩
  have hn4 := HN4.out
  obtain ⟨hs, hsb, hso⟩ := set4 HA5.out.o (.int .i64 2) (.slice a2 1 1) (.slice (some ⟨B2, 0, none⟩) 2 2) (.slice oa 1 oc) (HB4w.out.trans (HB5.out.mono HB4w.out.size)) (by omega)
  have hxn : ¬ From W4.heap.size (w.heap.size + 1 + 1 + 1 + 1) := fun hf => by have h1 : W4.heap.size ≤ w.heap.size + 1 + 1 + 1 + 1 := hf; omega
  have hF : Fix (From W4.heap.size) W5 ((((W5.setCell ⟨w.heap.size + 1 + 1 + 1 + 1, 0, none⟩ (.int .i64 2)).setCell ⟨w.heap.size + 1 + 1 + 1 + 1, 1, none⟩ (.slice a2 1 1)).setCell ⟨w.heap.size + 1 + 1 + 1 + 1, 2, none⟩ (.slice (some ⟨B2, 0, none⟩) 2 2)).setCell ⟨w.heap.size + 1 + 1 + 1 + 1, 3, none⟩ (.slice oa 1 oc)) := (((Fix.setCell _ ⟨w.heap.size + 1 + 1 + 1 + 1, 0, none⟩ _ hxn).trans (Fix.setCell _ ⟨w.heap.size + 1 + 1 + 1 + 1, 1, none⟩ _ hxn)).trans (Fix.setCell _ ⟨w.heap.size + 1 + 1 + 1 + 1, 2, none⟩ _ hxn)).trans (Fix.setCell _ ⟨w.heap.size + 1 + 1 + 1 + 1, 3, none⟩ _ hxn)
  have hrr := HR5.out.keep (entryRd_ok _) hF
  have hkk := HK5.out.keep keyRd_ok hF
  have hcc := (World.cell?_of_block (a := ⟨B2, 0, none⟩) (hso B2 (by have := HN5.out; omega))).trans HC5.out
  clear hso hF o0 o1 o2 o3 f0
  generalize ((((W5.setCell ⟨w.heap.size + 1 + 1 + 1 + 1, 0, none⟩ (.int .i64 2)).setCell ⟨w.heap.size + 1 + 1 + 1 + 1, 1, none⟩ (.slice a2 1 1)).setCell ⟨w.heap.size + 1 + 1 + 1 + 1, 2, none⟩ (.slice (some ⟨B2, 0, none⟩) 2 2)).setCell ⟨w.heap.size + 1 + 1 + 1 + 1, 3, none⟩ (.slice oa 1 oc)) = W6 at *
  have z0 : W6.cell? ⟨w.heap.size + 1 + 1 + 1 + 1, 0, none⟩ = some (.int .i64 2) := cell_at hs rfl
  have z1 : W6.cell? ⟨w.heap.size + 1 + 1 + 1 + 1, 1, none⟩ = some (.slice a2 1 1) := cell_at hs rfl
  have z2 : W6.cell? ⟨w.heap.size + 1 + 1 + 1 + 1, 2, none⟩ = some (.slice (some ⟨B2, 0, none⟩) 2 2) := cell_at hs rfl
  have z3 : W6.cell? ⟨w.heap.size + 1 + 1 + 1 + 1, 3, none⟩ = some (.slice oa 1 oc) := cell_at hs rfl
  refine bodyPost_ret (v := .tuple #[.agg #[.int .i64 2, .slice a2 1 1, .slice (some ⟨B2, 0, none⟩) 2 2, .slice oa 1 oc], .bool true]) (by simp [results, Tryz.results11, go_sem, z0, z1, z2, z3]) rfl ?_
  have hX : w.heap.size ≤ W4.heap.size := by omega
  exact ⟨_, rfl, ⟨a2, B2, f, fc, oa, oc, rfl, hrr.mono (entryRd_ok _) (fun q _ hq => Nat.le_trans hX hq), Nat.le_trans hX HN5.out, hcc, hkk.mono keyRd_ok (fun q _ hq => Nat.le_trans hX hq)⟩, hsb⟩
end Go.Proofs.YtibabpahpiijgaaGreatDoor.Lex
/- model.New(2, 2); the page's example. -/
namespace Go.Proofs.YtibabpahpiijgaaGreatDoor.Lex
open Go.RowKit Stab
set_option linter.unusedSimpArgs false
set_option linter.unusedVariables false
set_option maxRecDepth 100000 in
set_option maxHeartbeats 2000000 in
theorem new22 (w : World) : Calls Tryz.prog 9 #[.int .i64 2, .int .i64 2] w fun e w' => ∃ B, e = .returned (.tuple #[.agg #[.int .i64 2, .slice none 0 0, .slice (some ⟨B, 0, none⟩) 2 2, .slice none 0 0], .int .i64 0]) ∧ w.heap.size ≤ B ∧ w'.heap[B]? = some (.cells #[.slice none 0 0, .slice none 0 0] 79 (0, 0)) ∧ Below w.heap.size w w' := by
  obtain ⟨W1, hW1⟩ : ∃ W1, W1 = w.alloc (.cells #[.int .i64 0, .slice none 0 0, .slice none 0 0, .slice none 0 0] 37) := ⟨_, rfl⟩
  have hb1 : Below w.heap.size w W1 := by rw [hW1]; exact (Below.refl _ _).alloc (Nat.le_refl _) _
  have g1 : W1.heap[w.heap.size]? = some (.cells #[.int .i64 0, .slice none 0 0, .slice none 0 0, .slice none 0 0] 37 (0, 0)) := by rw [hW1]; exact heap_alloc_new w _
  have hz1 : W1.heap.size = w.heap.size + 1 := by rw [hW1]; simp
  obtain ⟨W2, hW2⟩ : ∃ W2, W2 = W1.alloc (.cells #[.slice none 0 0, .slice none 0 0] 79) := ⟨_, rfl⟩
  have hb2 : Below W1.heap.size W1 W2 := by rw [hW2]; exact (Below.refl _ _).alloc (Nat.le_refl _) _
  have g2 : W2.heap[w.heap.size + 1]? = some (.cells #[.slice none 0 0, .slice none 0 0] 79 (0, 0)) := by rw [hW2, ← hz1]; exact heap_alloc_new W1 _
  have g3 := (hb2.block w.heap.size (by omega)).trans g1
  have o0 : W2.cell? ⟨w.heap.size, 0, none⟩ = some (.int .i64 0) := cell_at g3 rfl
  have o1 : W2.cell? ⟨w.heap.size, 1, none⟩ = some (.slice none 0 0) := cell_at g3 rfl
  have o2 : W2.cell? ⟨w.heap.size, 2, none⟩ = some (.slice none 0 0) := cell_at g3 rfl
  have o3 : W2.cell? ⟨w.heap.size, 3, none⟩ = some (.slice none 0 0) := cell_at g3 rfl
  have f0 : ∀ o, W2.frozen? ⟨w.heap.size, o, none⟩ = false := fun o => free_at g3
  have HG2 := Lib.hid g2
  have HG3 := Lib.hid g3
  have HB2 := Lib.hid (hb1.trans (hb2.mono hb1.size))
  clear g1 g2 g3 hb1 hb2
  have hmk := mk_keyss W1
  rw [← hW2, hz1] at hmk
  clear hW2 hz1
  go_enter Tryz.func9, Tryz.ntmps9
  go_upto_region 1 with fail
  rw [← hW1]
  clear hW1
  go_wp2_with fail
  obtain ⟨hs, hsb, hso⟩ := set4 HG3.out (.int .i64 2) (.slice none 0 0) (.slice (some ⟨w.heap.size + 1, 0, none⟩) 2 2) (.slice none 0 0) HB2.out (Nat.le_refl _)
  have hg2 := (hso _ (by omega)).trans HG2.out
  clear hso o0 o1 o2 o3 f0
  generalize ((((W2.setCell ⟨w.heap.size, 0, none⟩ (.int .i64 2)).setCell ⟨w.heap.size, 1, none⟩ (.slice none 0 0)).setCell ⟨w.heap.size, 2, none⟩ (.slice (some ⟨w.heap.size + 1, 0, none⟩) 2 2)).setCell ⟨w.heap.size, 3, none⟩ (.slice none 0 0)) = W6 at *
  have z0 : W6.cell? ⟨w.heap.size, 0, none⟩ = some (.int .i64 2) := cell_at hs rfl
  have z1 : W6.cell? ⟨w.heap.size, 1, none⟩ = some (.slice none 0 0) := cell_at hs rfl
  have z2 : W6.cell? ⟨w.heap.size, 2, none⟩ = some (.slice (some ⟨w.heap.size + 1, 0, none⟩) 2 2) := cell_at hs rfl
  have z3 : W6.cell? ⟨w.heap.size, 3, none⟩ = some (.slice none 0 0) := cell_at hs rfl
  refine bodyPost_ret (v := .tuple #[.agg #[.int .i64 2, .slice none 0 0, .slice (some ⟨w.heap.size + 1, 0, none⟩) 2 2, .slice none 0 0], .int .i64 0]) (by simp [results, Tryz.results9, go_sem, z0, z1, z2, z3]) rfl ?_
  exact ⟨w.heap.size + 1, rfl, Nat.le_succ _, hg2, hsb⟩
/-- What Evict of the key (8, 0) tells. -/
theorem evictG (k : Nat) (F G : Foot) (l : List EntryV) (a : Option Addr) (n cap B pc : Nat) (oa : Option Addr) (on oc : Nat) (row : List KeyV) (ka : Option Addr) (kn kc : Nat) (w : World)
    (hl : RowOf (entryRd k) 5 56 F w a n cap l) (hB : w.cell? ⟨B, 0, none⟩ = some (.slice ka kn kc)) (hr : RowOf keyRd 2 16 G w ka kn kc row) :
    Calls Tryz.prog 10 #[.agg #[.int .i64 2, .slice a n cap, .slice (some ⟨B, 0, none⟩) 2 pc, .slice oa on oc], .agg #[.int .i64 0, .int .i64 0], .agg #[.int .i64 3, .int .i64 8, .int .i64 0, .string ⟨#[]⟩, .int .i64 0, .int .i64 0, .slice none 0 0], .agg #[.int .i64 0, .int .i64 0, .slice none 0 0]] w (TellsK 0 0 (oneIf row) w) :=
  answer_key 3 (.inr rfl) 2 0 0 0 0 0 0 (oneIf row) a n cap B pc oa on oc w fun W hW =>
    (keyedE k F G l 2 0 0 0 0 a n cap B pc oa on oc row ka kn kc W (hl.keep (entryRd_ok _) (Fix.of_below hW)) ((hW.cell (p := ⟨B, 0, none⟩) (World.block_lt_of_cell? w _ hB)).trans hB) (hr.keep keyRd_ok (Fix.of_below hW))).mono fun e w' h => ⟨none, 0, h.1, rowOf_none, h.2⟩
set_option maxRecDepth 100000 in
set_option maxHeartbeats 4000000 in
theorem live36 (w : World) : Calls Tryz.prog 5 #[] w fun e w' => e = .returned (.bool true) ∧ Below w.heap.size w w' := by
  have HNEW := Lib.hid (new22 w)
  go_enter Tryz.func5, Tryz.ntmps5
  go_upto_region 2 with (go_at_call 9; (with_reducible refine HNEW.out.mono ?_); rintro e w1 ⟨B, rfl, hn1, hg1, hb1⟩; have HN1 := Lib.hid hn1; have HG1 := Lib.hid hg1; have HB1 := Lib.hid hb1; clear hn1 hg1 hb1)
  obtain ⟨S, hS⟩ : ∃ S, S = w1.heap.size := ⟨_, rfl⟩
  obtain ⟨W2, hW2⟩ : ∃ W2, W2 = w1.alloc (.cells #[.int .i64 2, .slice none 0 0, .slice (some ⟨B, 0, none⟩) 2 2, .slice none 0 0] 37) := ⟨_, rfl⟩
  have hb2 : Below S w1 W2 := by rw [hW2, hS]; exact (Below.refl _ _).alloc (Nat.le_refl _) _
  have g2 : W2.heap[S]? = some (.cells #[.int .i64 2, .slice none 0 0, .slice (some ⟨B, 0, none⟩) 2 2, .slice none 0 0] 37 (0, 0)) := by rw [hW2, hS]; exact heap_alloc_new w1 _
  have hz2 : W2.heap.size = S + 1 := by rw [hW2, hS]; simp
  have hlB : B < S := by rw [hS]; exact (Array.getElem?_eq_some_iff.1 HG1.out).1
  have hSn : w.heap.size ≤ S := by rw [hS]; exact HB1.out.size
  obtain ⟨W3, hW3⟩ : ∃ W3, W3 = W2.alloc (.cells #[.int .i64 8, .int .i64 0] 41) := ⟨_, rfl⟩
  have hb3 : Below (S + 1) W2 W3 := by rw [hW3, ← hz2]; exact (Below.refl _ _).alloc (Nat.le_refl _) _
  have g3 : W3.heap[S + 1]? = some (.cells #[.int .i64 8, .int .i64 0] 41 (0, 0)) := by rw [hW3, ← hz2]; exact heap_alloc_new W2 _
  have hz3 : W3.heap.size = S + 2 := by rw [hW3]; simp [hz2]
  have g2' := (hb3.block S (by omega)).trans g2
  have gB := (hb3.block B (by omega)).trans ((hb2.block B hlB).trans HG1.out)
  have hbw : Below w.heap.size w W3 := (HB1.out.trans (hb2.mono hSn)).trans (hb3.mono (by omega))
  rw [← hS, ← hW2]
  clear hS hW2 hb2 hb3 g2
  have HZ2 := Lib.hid hz2
  have HZ3 := Lib.hid hz3
  have HSN := Lib.hid hSn
  have HLB := Lib.hid hlB
  have HGB := Lib.hid gB
  have HBW := Lib.hid hbw
  have HE1 := Lib.hid (evictG 0 All All [] none 0 0 B 2 none 0 0 [] none 0 0 W3 rowOf_none (cell_at gB rfl) rowOf_none)
  rw [show oneIf [] = 0 from rfl] at HE1
  unfold TellsK at HE1
  go_upto_region 3 with fail
  rw [← hW3]
  clear hW3 hz3 hSn hlB gB hbw
  have HG2 := Lib.hid g2'
  have HG3 := Lib.hid g3
  have s0 : W3.cell? ⟨S, 0, none⟩ = some (.int .i64 2) := cell_at g2' rfl
  have s1 : W3.cell? ⟨S, 1, none⟩ = some (.slice none 0 0) := cell_at g2' rfl
  have s2 : W3.cell? ⟨S, 2, none⟩ = some (.slice (some ⟨B, 0, none⟩) 2 2) := cell_at g2' rfl
  have s3 : W3.cell? ⟨S, 3, none⟩ = some (.slice none 0 0) := cell_at g2' rfl
  have k0 : W3.cell? ⟨S + 1, 0, none⟩ = some (.int .i64 8) := cell_at g3 rfl
  have k1 : W3.cell? ⟨S + 1, 1, none⟩ = some (.int .i64 0) := cell_at g3 rfl
  clear g2' g3 hz2
  go_upto_region 4 with (go_at_call 10; (with_reducible refine HE1.out.mono ?_); rintro e w4 ⟨y, c, rfl, hr4, hb4⟩; have HB4 := Lib.hid hb4; clear hr4 hb4 s0 s1 s2 s3 k0 k1)
  obtain ⟨D, hD⟩ : ∃ D, D = w4.heap.size := ⟨_, rfl⟩
  obtain ⟨W5, hW5⟩ : ∃ W5, W5 = w4.alloc (.cells #[.int .i64 0, .int .i64 0, .int .i64 0, .slice y 0 c, .int .i64 0, .int .i64 0, .string ⟨#[]⟩, .slice none 0 0] 28) := ⟨_, rfl⟩
  have hD1 : S + 2 ≤ D := by rw [hD, ← HZ3.out]; exact HB4.out.size
  have hb5 : Below D w4 W5 := by rw [hW5, hD]; exact (Below.refl _ _).alloc (Nat.le_refl _) _
  have g5 : W5.heap[D]? = some (.cells #[.int .i64 0, .int .i64 0, .int .i64 0, .slice y 0 c, .int .i64 0, .int .i64 0, .string ⟨#[]⟩, .slice none 0 0] 28 (0, 0)) := by rw [hW5, hD]; exact heap_alloc_new w4 _
  have hz5 : W5.heap.size = D + 1 := by rw [hW5, hD]; simp
  have hb35 : Below W3.heap.size W3 W5 := HB4.out.trans (hb5.mono (by rw [HZ3.out]; exact hD1))
  have HB5 := Lib.hid hb35
  have gs5 := (hb35.block S (by have := HZ3.out; omega)).trans HG2.out
  have gk5 := (hb35.block (S + 1) (by have := HZ3.out; omega)).trans HG3.out
  have gB5 := (hb35.block B (by have := HZ3.out; have := HLB.out; omega)).trans HGB.out
  have HST := Lib.hid (stepG B 2 W5 gB5)
  unfold Has8 at HST
  rw [← hD, ← hW5]
  have HG5 := Lib.hid g5
  have HGS5 := Lib.hid gs5
  have HGK5 := Lib.hid gk5
  have HD1 := Lib.hid hD1
  have HZ5 := Lib.hid hz5
  have s0 : W5.cell? ⟨S, 0, none⟩ = some (.int .i64 2) := cell_at gs5 rfl
  have s1 : W5.cell? ⟨S, 1, none⟩ = some (.slice none 0 0) := cell_at gs5 rfl
  have s2 : W5.cell? ⟨S, 2, none⟩ = some (.slice (some ⟨B, 0, none⟩) 2 2) := cell_at gs5 rfl
  have s3 : W5.cell? ⟨S, 3, none⟩ = some (.slice none 0 0) := cell_at gs5 rfl
  have k0 : W5.cell? ⟨S + 1, 0, none⟩ = some (.int .i64 8) := cell_at gk5 rfl
  have k1 : W5.cell? ⟨S + 1, 1, none⟩ = some (.int .i64 0) := cell_at gk5 rfl
  clear hD hW5 hb5 hb35 g5 gs5 gk5 gB5 hD1 hz5
  go_upto_region 5 with (go_at_call 11; (with_reducible refine HST.out.mono ?_); rintro e w6 ⟨_, rfl, ⟨a2, B2, f, fc, oa, oc, rfl, hr, hn, hc, hk⟩, hb6⟩; have HR6 := Lib.hid hr; have HN6 := Lib.hid hn; have HC6 := Lib.hid hc; have HK6 := Lib.hid hk; have HB6 := Lib.hid hb6; have gs6 := (hb6.block S (by have := HZ5.out; have := HD1.out; omega)).trans HGS5.out; have HGS6 := Lib.hid gs6; clear hr hn hc hk hb6 s0 s1 s2 s3 k0 k1; have s0 : w6.cell? ⟨S, 0, none⟩ = some (.int .i64 2) := cell_at gs6 rfl; have s1 : w6.cell? ⟨S, 1, none⟩ = some (.slice none 0 0) := cell_at gs6 rfl; have s2 : w6.cell? ⟨S, 2, none⟩ = some (.slice (some ⟨B, 0, none⟩) 2 2) := cell_at gs6 rfl; have s3 : w6.cell? ⟨S, 3, none⟩ = some (.slice none 0 0) := cell_at gs6 rfl; have f0 : ∀ o, w6.frozen? ⟨S, o, none⟩ = false := (fun o => free_at gs6); clear gs6)
  obtain ⟨W6, rfl⟩ : ∃ W : World, W = w6 := ⟨_, rfl⟩
  have hd1 := HD1.out
  have hz5 := HZ5.out
  have hn6 := HN6.out
  have hb6w : Below w.heap.size w W6 := (HBW.out.trans (HB5.out.mono HBW.out.size)).trans (HB6.out.mono (by have := HSN.out; omega))
  obtain ⟨hs, hsb, hso⟩ := set4 HGS6.out (.int .i64 2) (.slice a2 1 1) (.slice (some ⟨B2, 0, none⟩) 2 2) (.slice oa 1 oc) hb6w HSN.out
  have hxn : ¬ From W5.heap.size S := fun hf => by have h1 : W5.heap.size ≤ S := hf; omega
  have hF : Fix (From W5.heap.size) W6 ((((W6.setCell ⟨S, 0, none⟩ (.int .i64 2)).setCell ⟨S, 1, none⟩ (.slice a2 1 1)).setCell ⟨S, 2, none⟩ (.slice (some ⟨B2, 0, none⟩) 2 2)).setCell ⟨S, 3, none⟩ (.slice oa 1 oc)) := (((Fix.setCell _ ⟨S, 0, none⟩ _ hxn).trans (Fix.setCell _ ⟨S, 1, none⟩ _ hxn)).trans (Fix.setCell _ ⟨S, 2, none⟩ _ hxn)).trans (Fix.setCell _ ⟨S, 3, none⟩ _ hxn)
  have hrr := HR6.out.keep (entryRd_ok _) hF
  have hkk := HK6.out.keep keyRd_ok hF
  have hcc := (World.cell?_of_block (a := ⟨B2, 0, none⟩) (hso B2 (by omega))).trans HC6.out
  have hgk := (hso (S + 1) (by omega)).trans ((HB6.out.block _ (by omega)).trans HGK5.out)
  have hgD := (hso D (by omega)).trans ((HB6.out.block _ (by omega)).trans HG5.out)
  have hsz : D + 1 ≤ ((((W6.setCell ⟨S, 0, none⟩ (.int .i64 2)).setCell ⟨S, 1, none⟩ (.slice a2 1 1)).setCell ⟨S, 2, none⟩ (.slice (some ⟨B2, 0, none⟩) 2 2)).setCell ⟨S, 3, none⟩ (.slice oa 1 oc)).heap.size := by have := hF.size; have := HB6.out.size; omega
  clear hso hF s0 s1 s2 s3 f0
  generalize ((((W6.setCell ⟨S, 0, none⟩ (.int .i64 2)).setCell ⟨S, 1, none⟩ (.slice a2 1 1)).setCell ⟨S, 2, none⟩ (.slice (some ⟨B2, 0, none⟩) 2 2)).setCell ⟨S, 3, none⟩ (.slice oa 1 oc)) = W7 at *
  have HE2 := Lib.hid (evictG 1 _ _ [entry8] a2 1 1 B2 2 oa 1 oc [(8, 0)] f 1 fc W7 hrr hcc hkk)
  rw [show oneIf [(8, 0)] = 1 by decide] at HE2
  unfold TellsK at HE2
  have HGK7 := Lib.hid hgk
  have HGD7 := Lib.hid hgD
  have HB7 := Lib.hid hsb
  have HZ7 := Lib.hid hsz
  have s0 : W7.cell? ⟨S, 0, none⟩ = some (.int .i64 2) := cell_at hs rfl
  have s1 : W7.cell? ⟨S, 1, none⟩ = some (.slice a2 1 1) := cell_at hs rfl
  have s2 : W7.cell? ⟨S, 2, none⟩ = some (.slice (some ⟨B2, 0, none⟩) 2 2) := cell_at hs rfl
  have s3 : W7.cell? ⟨S, 3, none⟩ = some (.slice oa 1 oc) := cell_at hs rfl
  have k0 : W7.cell? ⟨S + 1, 0, none⟩ = some (.int .i64 8) := cell_at hgk rfl
  have k1 : W7.cell? ⟨S + 1, 1, none⟩ = some (.int .i64 0) := cell_at hgk rfl
  clear hrr hkk hcc hgk hgD hsz hb6w hsb hxn hs hd1 hz5 hn6
  go_upto_region 6 with (go_at_call 10; (with_reducible refine HE2.out.mono ?_); rintro e w8 ⟨y2, c2, rfl, hr8, hb8⟩; have HB8 := Lib.hid hb8; clear hr8 hb8 s0 s1 s2 s3 k0 k1)
  obtain ⟨E, hE⟩ : ∃ E, E = w8.heap.size := ⟨_, rfl⟩
  obtain ⟨W9, hW9⟩ : ∃ W9, W9 = w8.alloc (.cells #[.int .i64 0, .int .i64 0, .int .i64 0, .slice y2 0 c2, .int .i64 1, .int .i64 0, .string ⟨#[]⟩, .slice none 0 0] 28) := ⟨_, rfl⟩
  have hb9 : Below E w8 W9 := by rw [hW9, hE]; exact (Below.refl _ _).alloc (Nat.le_refl _) _
  have g9 : W9.heap[E]? = some (.cells #[.int .i64 0, .int .i64 0, .int .i64 0, .slice y2 0 c2, .int .i64 1, .int .i64 0, .string ⟨#[]⟩, .slice none 0 0] 28 (0, 0)) := by rw [hW9, hE]; exact heap_alloc_new w8 _
  have hEn : W7.heap.size ≤ E := by rw [hE]; exact HB8.out.size
  have gD9 := (hb9.block D (by have := HZ7.out; omega)).trans ((HB8.out.block D (by have := HZ7.out; omega)).trans HGD7.out)
  have HBE : Hid (Below w.heap.size w W9) := Lib.hid ((HB7.out.trans (HB8.out.mono HB7.out.size)).trans (hb9.mono (Nat.le_trans HB7.out.size hEn)))
  rw [← hE, ← hW9]
  have n0 : W9.cell? ⟨E, 4, none⟩ = some (.int .i64 1) := cell_at g9 rfl
  have n1 : W9.cell? ⟨D, 4, none⟩ = some (.int .i64 0) := cell_at gD9 rfl
  clear hE hW9 hb9 g9 hEn gD9
  go_wp2_with fail
  go_ret
  exact ⟨rfl, HBE.out⟩
end Go.Proofs.YtibabpahpiijgaaGreatDoor.Lex
/- The law ModelTold. -/
namespace Go.Proofs.YtibabpahpiijgaaGreatDoor.Lex
open Go.RowKit Stab
set_option linter.unusedSimpArgs false
set_option linter.unusedVariables false
set_option maxRecDepth 100000 in
set_option maxHeartbeats 8000000 in
theorem told36 (k : Nat) (e1 dk1 dn1 n1 li1 e2 dk2 dn2 n2 li2 : Int) (dl1 dl2 : List DescV) (tx1 tx2 : ByteArray) (ys1 ys2 : List Int) (da1 da2 ya1 ya2 : Option Addr) (dm1 dc1 ym1 yc1 dm2 dc2 ym2 yc2 : Nat) (w : World)
    (hd1 : RowOf (descRd k) 3 40 All w da1 dm1 dc1 dl1) (hy1 : RowOf (Rd.int .u64) 1 8 All w ya1 ym1 yc1 ys1) (hd2 : RowOf (descRd k) 3 40 All w da2 dm2 dc2 dl2) (hy2 : RowOf (Rd.int .u64) 1 8 All w ya2 ym2 yc2 ys2)
    (b1 : DescV.nodesL dl1 < 1048576) (b2 : DescV.nodesL dl2 < 1048576) :
    Calls Tryz.prog 3 #[.agg #[.int .i64 e1, .int .i64 dk1, .int .i64 dn1, .slice da1 dm1 dc1, .int .i64 n1, .int .i64 li1, .string tx1, .slice ya1 ym1 yc1], .agg #[.int .i64 e2, .int .i64 dk2, .int .i64 dn2, .slice da2 dm2 dc2, .int .i64 n2, .int .i64 li2, .string tx2, .slice ya2 ym2 yc2]] w fun e w' => e = .returned (.bool true) ∧ Below w.heap.size w w' := by
  obtain ⟨W0, hW0⟩ : ∃ W0, W0 = (w.alloc (.cells #[.int .i64 e1, .int .i64 dk1, .int .i64 dn1, .slice da1 dm1 dc1, .int .i64 n1, .int .i64 li1, .string tx1, .slice ya1 ym1 yc1] 28)).alloc (.cells #[.int .i64 e2, .int .i64 dk2, .int .i64 dn2, .slice da2 dm2 dc2, .int .i64 n2, .int .i64 li2, .string tx2, .slice ya2 ym2 yc2] 28) := ⟨_, rfl⟩
  have hb0 : Below w.heap.size w W0 := by rw [hW0]; exact ((Below.refl _ _).alloc (Nat.le_refl _) _).alloc (by simp) _
  have hz0 : W0.heap.size = w.heap.size + 2 := by rw [hW0]; simp
  have gs : W0.heap[w.heap.size]? = some (.cells #[.int .i64 e1, .int .i64 dk1, .int .i64 dn1, .slice da1 dm1 dc1, .int .i64 n1, .int .i64 li1, .string tx1, .slice ya1 ym1 yc1] 28 (0, 0)) ∧ W0.heap[w.heap.size + 1]? = some (.cells #[.int .i64 e2, .int .i64 dk2, .int .i64 dn2, .slice da2 dm2 dc2, .int .i64 n2, .int .i64 li2, .string tx2, .slice ya2 ym2 yc2] 28 (0, 0)) := by
    rw [hW0]
    simp only [heap_alloc_iff, World.size_alloc]
    refine ⟨?_, ?_⟩ <;> simp
  obtain ⟨g0, g1⟩ := gs
  have HC : Hid (∀ W, Below W0.heap.size W0 W → W.cell? ⟨w.heap.size, 0, none⟩ = some (.int .i64 e1) ∧ W.cell? ⟨w.heap.size, 1, none⟩ = some (.int .i64 dk1) ∧ W.cell? ⟨w.heap.size, 2, none⟩ = some (.int .i64 dn1) ∧ W.cell? ⟨w.heap.size, 3, none⟩ = some (.slice da1 dm1 dc1) ∧ W.cell? ⟨w.heap.size, 4, none⟩ = some (.int .i64 n1) ∧ W.cell? ⟨w.heap.size, 5, none⟩ = some (.int .i64 li1) ∧ W.cell? ⟨w.heap.size, 6, none⟩ = some (.string tx1) ∧ W.cell? ⟨w.heap.size, 7, none⟩ = some (.slice ya1 ym1 yc1) ∧ W.cell? ⟨w.heap.size + 1, 0, none⟩ = some (.int .i64 e2) ∧ W.cell? ⟨w.heap.size + 1, 1, none⟩ = some (.int .i64 dk2) ∧ W.cell? ⟨w.heap.size + 1, 2, none⟩ = some (.int .i64 dn2) ∧ W.cell? ⟨w.heap.size + 1, 3, none⟩ = some (.slice da2 dm2 dc2) ∧ W.cell? ⟨w.heap.size + 1, 4, none⟩ = some (.int .i64 n2) ∧ W.cell? ⟨w.heap.size + 1, 5, none⟩ = some (.int .i64 li2) ∧ W.cell? ⟨w.heap.size + 1, 6, none⟩ = some (.string tx2) ∧ W.cell? ⟨w.heap.size + 1, 7, none⟩ = some (.slice ya2 ym2 yc2)) := Lib.hid fun W hb => by
    have e0 := (hb.block _ (by omega)).trans g0
    have e1 := (hb.block _ (by omega)).trans g1
    exact ⟨cell_at e0 rfl, cell_at e0 rfl, cell_at e0 rfl, cell_at e0 rfl, cell_at e0 rfl, cell_at e0 rfl, cell_at e0 rfl, cell_at e0 rfl, cell_at e1 rfl, cell_at e1 rfl, cell_at e1 rfl, cell_at e1 rfl, cell_at e1 rfl, cell_at e1 rfl, cell_at e1 rfl, cell_at e1 rfl⟩
  have kp : ∀ W, Below W0.heap.size W0 W → Below w.heap.size w W := fun W hb => hb0.trans (hb.mono hb0.size)
  have HM1 : Hid (∀ W, Below W0.heap.size W0 W → Calls Tryz.prog 4 #[.agg #[.int .i64 dk1, .int .i64 dn1, .slice da1 dm1 dc1]] W fun e w' => e = .returned (.bool (decide (80 < (DescV.mk dk1 dn1 dl1).nodes))) ∧ Below W0.heap.size W0 w') := Lib.hid fun W hb => (much_any k All dk1 dn1 dl1 da1 dm1 dc1 W (hd1.keep (descRd_ok _) (Fix.of_below (kp W hb))) b1).mono fun e w' h => ⟨h.1, hb.trans (h.2.mono hb.size)⟩
  have HM2 : Hid (∀ W, Below W0.heap.size W0 W → Calls Tryz.prog 4 #[.agg #[.int .i64 dk2, .int .i64 dn2, .slice da2 dm2 dc2]] W fun e w' => e = .returned (.bool (decide (80 < (DescV.mk dk2 dn2 dl2).nodes))) ∧ Below W0.heap.size W0 w') := Lib.hid fun W hb => (much_any k All dk2 dn2 dl2 da2 dm2 dc2 W (hd2.keep (descRd_ok _) (Fix.of_below (kp W hb))) b2).mono fun e w' h => ⟨h.1, hb.trans (h.2.mono hb.size)⟩
  have HLV : Hid (∀ W, Below W0.heap.size W0 W → Calls Tryz.prog 5 #[] W fun e w' => e = .returned (.bool true) ∧ Below W0.heap.size W0 w') := Lib.hid fun W hb => (live36 W).mono fun e w' h => ⟨h.1, hb.trans (h.2.mono hb.size)⟩
  have iok : ∀ {F : Foot} {W : World} {a : Option Addr} {n c : Nat} {l : List Int}, RowOf (Rd.int .u64) 1 8 F w a n c l → Below w.heap.size w W → RowOf (Rd.int .u64) 1 8 F W a n c l := fun h hb => h.keep (Rd.int_ok _) (Fix.of_below hb)
  have HMA : Hid (∀ W, Below W0.heap.size W0 W → Calls Tryz.prog 6 #[.agg #[.int .i64 e1, .int .i64 dk1, .int .i64 dn1, .slice da1 dm1 dc1, .int .i64 n1, .int .i64 li1, .string tx1, .slice ya1 ym1 yc1], .agg #[.int .i64 e2, .int .i64 dk2, .int .i64 dn2, .slice da2 dm2 dc2, .int .i64 n2, .int .i64 li2, .string tx2, .slice ya2 ym2 yc2]] W fun e w' => e = .returned (.bool (alikeB (e1, .mk dk1 dn1 dl1, n1, li1, tx1, ys1) (e2, .mk dk2 dn2 dl2, n2, li2, tx2, ys2))) ∧ Below W0.heap.size W0 w') := Lib.hid fun W hb => (malike_any k All All e1 dk1 dn1 n1 li1 e2 dk2 dn2 n2 li2 dl1 dl2 tx1 tx2 ys1 ys2 da1 da2 ya1 ya2 dm1 dc1 ym1 yc1 dm2 dc2 ym2 yc2 W (hd1.keep (descRd_ok _) (Fix.of_below (kp W hb))) (iok hy1 (kp W hb)) (hd2.keep (descRd_ok _) (Fix.of_below (kp W hb))) (iok hy2 (kp W hb))).mono fun e w' h => ⟨h.1, hb.trans (h.2.mono hb.size)⟩
  have HRA : Hid (∀ W, Below W0.heap.size W0 W → Calls Tryz.prog 7 #[.agg #[.int .i64 e1, .int .i64 dk1, .int .i64 dn1, .slice da1 dm1 dc1, .int .i64 n1, .int .i64 li1, .string tx1, .slice ya1 ym1 yc1], .agg #[.int .i64 e2, .int .i64 dk2, .int .i64 dn2, .slice da2 dm2 dc2, .int .i64 n2, .int .i64 li2, .string tx2, .slice ya2 ym2 yc2]] W fun e w' => e = .returned (.bool (alikeB (e1, .mk dk1 dn1 dl1, n1, li1, tx1, ys1) (e2, .mk dk2 dn2 dl2, n2, li2, tx2, ys2))) ∧ Below W0.heap.size W0 w') := Lib.hid fun W hb => (ralike_any k All All e1 dk1 dn1 n1 li1 e2 dk2 dn2 n2 li2 dl1 dl2 tx1 tx2 ys1 ys2 da1 da2 ya1 ya2 dm1 dc1 ym1 yc1 dm2 dc2 ym2 yc2 W (hd1.keep (descRd_ok _) (Fix.of_below (kp W hb))) (iok hy1 (kp W hb)) (hd2.keep (descRd_ok _) (Fix.of_below (kp W hb))) (iok hy2 (kp W hb))).mono fun e w' h => ⟨h.1, hb.trans (h.2.mono hb.size)⟩
  have HSA : Hid (∀ W, Below W0.heap.size W0 W → Calls Tryz.prog 6 #[.agg #[.int .i64 e1, .int .i64 dk1, .int .i64 dn1, .slice da1 dm1 dc1, .int .i64 n1, .int .i64 li1, .string tx1, .slice ya1 ym1 yc1], .agg #[.int .i64 e1, .int .i64 dk1, .int .i64 dn1, .slice da1 dm1 dc1, .int .i64 n1, .int .i64 li1, .string tx1, .slice ya1 ym1 yc1]] W fun e w' => e = .returned (.bool true) ∧ Below W0.heap.size W0 w') := Lib.hid fun W hb => (malike_any k All All e1 dk1 dn1 n1 li1 e1 dk1 dn1 n1 li1 dl1 dl1 tx1 tx1 ys1 ys1 da1 da1 ya1 ya1 dm1 dc1 ym1 yc1 dm1 dc1 ym1 yc1 W (hd1.keep (descRd_ok _) (Fix.of_below (kp W hb))) (iok hy1 (kp W hb)) (hd1.keep (descRd_ok _) (Fix.of_below (kp W hb))) (iok hy1 (kp W hb))).mono fun e w' h => ⟨by rw [h.1, alikeB_self], hb.trans (h.2.mono hb.size)⟩
  have HB0 := Lib.hid hb0
  have hbz := Below.refl W0.heap.size W0
  obtain ⟨p0, p1, p2, p3, p4, p5, p6, p7, q0, q1, q2, q3, q4, q5, q6, q7⟩ := HC.out W0 hbz
  clear hd1 hy1 hd2 hy2 b1 b2 hb0 hz0 g0 g1 kp iok
  generalize alikeB (e1, .mk dk1 dn1 dl1, n1, li1, tx1, ys1) (e2, .mk dk2 dn2 dl2, n2, li2, tx2, ys2) = R at *
  generalize decide (80 < (DescV.mk dk1 dn1 dl1).nodes) = T1 at *
  generalize decide (80 < (DescV.mk dk2 dn2 dl2).nodes) = T2 at *
  have hRR : (R == R) = true := by simp
  go_enter Tryz.func3, Tryz.ntmps3
  go_upto_region 1 with fail
  rw [← hW0]
  clear hW0
  have HBZ := Lib.hid hbz
  clear hbz
  cases T1 with
  | true =>
    go_wp2_with (first
      | (go_at_call 4; (with_reducible refine (HM1.out _ HBZ.out).mono ?_); rintro e w1 ⟨rfl, hb1⟩; have HB1 := Lib.hid hb1; clear hb1 p0 p1 p2 p3 p4 p5 p6 p7 q0 q1 q2 q3 q4 q5 q6 q7)
      | (go_at_call 5; (with_reducible refine (HLV.out _ HB1.out).mono ?_); rintro e w2 ⟨rfl, hb2⟩; have HB2 := Lib.hid hb2; clear hb2))
    go_ret
    exact ⟨rfl, HB0.out.trans (HB2.out.mono HB0.out.size)⟩
  | false =>
    cases T2 with
    | true =>
      go_wp2_with (first
        | (go_at_call 4; (with_reducible refine (HM1.out _ HBZ.out).mono ?_); rintro e w1 ⟨rfl, hb1⟩; have HB1 := Lib.hid hb1; clear HBZ p0 p1 p2 p3 p4 p5 p6 p7 q0 q1 q2 q3 q4 q5 q6 q7; obtain ⟨p0, p1, p2, p3, p4, p5, p6, p7, q0, q1, q2, q3, q4, q5, q6, q7⟩ := HC.out w1 hb1; clear hb1)
        | (go_at_call 4; (with_reducible refine (HM2.out _ HB1.out).mono ?_); rintro e w3 ⟨rfl, hb3⟩; have HB3 := Lib.hid hb3; clear hb3 p0 p1 p2 p3 p4 p5 p6 p7 q0 q1 q2 q3 q4 q5 q6 q7)
        | (go_at_call 5; (with_reducible refine (HLV.out _ HB3.out).mono ?_); rintro e w2 ⟨rfl, hb2⟩; have HB2 := Lib.hid hb2; clear hb2))
      go_ret
      exact ⟨rfl, HB0.out.trans (HB2.out.mono HB0.out.size)⟩
    | false =>
      by_cases h1 : (100 : Int) < (ym1 : Int)
      · go_wp2_with (first
          | (go_at_call 4; (with_reducible refine (HM1.out _ HBZ.out).mono ?_); rintro e w1 ⟨rfl, hb1⟩; have HB1 := Lib.hid hb1; clear HBZ p0 p1 p2 p3 p4 p5 p6 p7 q0 q1 q2 q3 q4 q5 q6 q7; obtain ⟨p0, p1, p2, p3, p4, p5, p6, p7, q0, q1, q2, q3, q4, q5, q6, q7⟩ := HC.out w1 hb1; clear hb1)
          | (go_at_call 4; (with_reducible refine (HM2.out _ HB1.out).mono ?_); rintro e w3 ⟨rfl, hb3⟩; have HB3 := Lib.hid hb3; clear p0 p1 p2 p3 p4 p5 p6 p7 q0 q1 q2 q3 q4 q5 q6 q7; obtain ⟨p0, p1, p2, p3, p4, p5, p6, p7, q0, q1, q2, q3, q4, q5, q6, q7⟩ := HC.out w3 hb3; clear hb3)
          | (go_at_call 5; (with_reducible refine (HLV.out _ HB3.out).mono ?_); rintro e w2 ⟨rfl, hb2⟩; have HB2 := Lib.hid hb2; clear hb2))
        go_ret
        exact ⟨rfl, HB0.out.trans (HB2.out.mono HB0.out.size)⟩
      · by_cases h2 : (100 : Int) < (ym2 : Int)
        · go_wp2_with (first
            | (go_at_call 4; (with_reducible refine (HM1.out _ HBZ.out).mono ?_); rintro e w1 ⟨rfl, hb1⟩; have HB1 := Lib.hid hb1; clear HBZ p0 p1 p2 p3 p4 p5 p6 p7 q0 q1 q2 q3 q4 q5 q6 q7; obtain ⟨p0, p1, p2, p3, p4, p5, p6, p7, q0, q1, q2, q3, q4, q5, q6, q7⟩ := HC.out w1 hb1; clear hb1)
            | (go_at_call 4; (with_reducible refine (HM2.out _ HB1.out).mono ?_); rintro e w3 ⟨rfl, hb3⟩; have HB3 := Lib.hid hb3; clear p0 p1 p2 p3 p4 p5 p6 p7 q0 q1 q2 q3 q4 q5 q6 q7; obtain ⟨p0, p1, p2, p3, p4, p5, p6, p7, q0, q1, q2, q3, q4, q5, q6, q7⟩ := HC.out w3 hb3; clear hb3)
            | (go_at_call 5; (with_reducible refine (HLV.out _ HB3.out).mono ?_); rintro e w2 ⟨rfl, hb2⟩; have HB2 := Lib.hid hb2; clear hb2))
          go_ret
          exact ⟨rfl, HB0.out.trans (HB2.out.mono HB0.out.size)⟩
        · go_upto_region 3 with (first
            | (go_at_call 4; (with_reducible refine (HM1.out _ HBZ.out).mono ?_); rintro e w1 ⟨rfl, hb1⟩; have HB1 := Lib.hid hb1; clear HBZ p0 p1 p2 p3 p4 p5 p6 p7 q0 q1 q2 q3 q4 q5 q6 q7; obtain ⟨p0, p1, p2, p3, p4, p5, p6, p7, q0, q1, q2, q3, q4, q5, q6, q7⟩ := HC.out w1 hb1; clear hb1)
            | (go_at_call 4; (with_reducible refine (HM2.out _ HB1.out).mono ?_); rintro e w3 ⟨rfl, hb3⟩; have HB3 := Lib.hid hb3; clear p0 p1 p2 p3 p4 p5 p6 p7 q0 q1 q2 q3 q4 q5 q6 q7; obtain ⟨p0, p1, p2, p3, p4, p5, p6, p7, q0, q1, q2, q3, q4, q5, q6, q7⟩ := HC.out w3 hb3; clear hb3))
          have HS := Lib.hid HB3.out.drew
          clear p0 p1 p2 p3 p4 p5 p6 p7 q0 q1 q2 q3 q4 q5 q6 q7
          refine wp_region_held (S := fun W => Below W0.heap.size W0 W) (by kernel_rfl) ?_
          change wpAnyH _ _ _ _ _ 16 #[false, false, false, false, false, false, false, false, false, false, false, false, false, false, false, false] _ w3.drew
          (refine wpAnyH_take (i := 0) (v := ?_) rfl (by kernel_rfl) (by kernel_rfl) (by kernel_rfl) (fun _ _ _ h => h) (Or.inl ⟨by rfl, ?_⟩) HS.out ?_; rotate_left 1; (focus (intro w0 hw0; obtain ⟨p0, p1, p2, p3, p4, p5, p6, p7, q0, q1, q2, q3, q4, q5, q6, q7⟩ := HC.out w0 hw0; clear hw0; go_simp; try with_reducible rfl)); simp only [Act.put, List.getElem_toArray, List.getElem_cons_zero, List.getElem_cons_succ, List.setIfInBounds_toArray, List.set_cons_zero, List.set_cons_succ])
          (refine wpAnyH_take (i := 1) (v := ?_) rfl (by kernel_rfl) (by kernel_rfl) (by kernel_rfl) (fun _ _ _ h => h) (Or.inl ⟨by rfl, ?_⟩) HS.out ?_; rotate_left 1; (focus (intro w0 hw0; obtain ⟨p0, p1, p2, p3, p4, p5, p6, p7, q0, q1, q2, q3, q4, q5, q6, q7⟩ := HC.out w0 hw0; clear hw0; go_simp; try with_reducible rfl)); simp only [Act.put, List.getElem_toArray, List.getElem_cons_zero, List.getElem_cons_succ, List.setIfInBounds_toArray, List.set_cons_zero, List.set_cons_succ])
          (refine wpAnyH_take (i := 3) (v := ?_) rfl (by kernel_rfl) (by kernel_rfl) (by kernel_rfl) (fun _ _ _ h => h) (Or.inl ⟨by rfl, ?_⟩) HS.out ?_; rotate_left 1; (focus (intro w0 hw0; obtain ⟨p0, p1, p2, p3, p4, p5, p6, p7, q0, q1, q2, q3, q4, q5, q6, q7⟩ := HC.out w0 hw0; clear hw0; go_simp; try with_reducible rfl)); simp only [Act.put, List.getElem_toArray, List.getElem_cons_zero, List.getElem_cons_succ, List.setIfInBounds_toArray, List.set_cons_zero, List.set_cons_succ])
          (refine wpAnyH_take (i := 4) (v := ?_) rfl (by kernel_rfl) (by kernel_rfl) (by kernel_rfl) (fun _ _ _ h => h) (Or.inl ⟨by rfl, ?_⟩) HS.out ?_; rotate_left 1; (focus (intro w0 hw0; obtain ⟨p0, p1, p2, p3, p4, p5, p6, p7, q0, q1, q2, q3, q4, q5, q6, q7⟩ := HC.out w0 hw0; clear hw0; go_simp; try with_reducible rfl)); simp only [Act.put, List.getElem_toArray, List.getElem_cons_zero, List.getElem_cons_succ, List.setIfInBounds_toArray, List.set_cons_zero, List.set_cons_succ])
          (refine wpAnyH_one (i := 2) (vi := .bool R) rfl (by kernel_rfl) HS.out ?_ ?_; (focus (intro W K hW hK; (try simp only [Act.put, List.getElem_toArray, List.getElem_cons_zero, List.getElem_cons_succ, List.setIfInBounds_toArray, List.set_cons_zero, List.set_cons_succ]); refine wpOp_step rfl (fun K2 hK2 => ?_); go_simp; refine (HMA.out _ hW).mono ?_; rintro e w' ⟨rfl, hb⟩; exact hK2 _ _ (hK _ hb))); clear HS; intro wn hS; have HS := Lib.hid hS; clear hS; simp only [Act.put, List.getElem_toArray, List.getElem_cons_zero, List.getElem_cons_succ, List.setIfInBounds_toArray, List.set_cons_zero, List.set_cons_succ])
          (refine wpAnyH_one (i := 5) (vi := .bool R) rfl (by kernel_rfl) HS.out ?_ ?_; (focus (intro W K hW hK; (try simp only [Act.put, List.getElem_toArray, List.getElem_cons_zero, List.getElem_cons_succ, List.setIfInBounds_toArray, List.set_cons_zero, List.set_cons_succ]); refine wpOp_step rfl (fun K2 hK2 => ?_); go_simp; refine (HRA.out _ hW).mono ?_; rintro e w' ⟨rfl, hb⟩; exact hK2 _ _ (hK _ hb))); clear HS; intro wn hS; have HS := Lib.hid hS; clear hS; simp only [Act.put, List.getElem_toArray, List.getElem_cons_zero, List.getElem_cons_succ, List.setIfInBounds_toArray, List.set_cons_zero, List.set_cons_succ])
          (refine wpAnyH_take (i := 6) (v := ?_) rfl (by kernel_rfl) (by kernel_rfl) (by kernel_rfl) (fun _ _ _ h => h) (Or.inl ⟨by rfl, ?_⟩) HS.out ?_; rotate_left 1; (focus (intro w0 hw0; clear hw0; go_simp; try with_reducible rfl)); simp only [Act.put, List.getElem_toArray, List.getElem_cons_zero, List.getElem_cons_succ, List.setIfInBounds_toArray, List.set_cons_zero, List.set_cons_succ])
          try rw [hRR]
          (refine wpAnyH_take (i := 7) (v := ?_) rfl (by kernel_rfl) (by kernel_rfl) (by kernel_rfl) (fun _ _ _ h => h) (Or.inl ⟨by rfl, ?_⟩) HS.out ?_; rotate_left 1; (focus (intro w0 hw0; clear hw0; go_simp; try with_reducible rfl)); simp only [Act.put, List.getElem_toArray, List.getElem_cons_zero, List.getElem_cons_succ, List.setIfInBounds_toArray, List.set_cons_zero, List.set_cons_succ])
          (refine wpAnyH_take (i := 8) (v := ?_) rfl (by kernel_rfl) (by kernel_rfl) (by kernel_rfl) (fun _ _ _ h => h) (Or.inl ⟨by rfl, ?_⟩) HS.out ?_; rotate_left 1; (focus (intro w0 hw0; obtain ⟨p0, p1, p2, p3, p4, p5, p6, p7, q0, q1, q2, q3, q4, q5, q6, q7⟩ := HC.out w0 hw0; clear hw0; go_simp; try with_reducible rfl)); simp only [Act.put, List.getElem_toArray, List.getElem_cons_zero, List.getElem_cons_succ, List.setIfInBounds_toArray, List.set_cons_zero, List.set_cons_succ])
          (refine wpAnyH_take (i := 9) (v := ?_) rfl (by kernel_rfl) (by kernel_rfl) (by kernel_rfl) (fun _ _ _ h => h) (Or.inl ⟨by rfl, ?_⟩) HS.out ?_; rotate_left 1; (focus (intro w0 hw0; obtain ⟨p0, p1, p2, p3, p4, p5, p6, p7, q0, q1, q2, q3, q4, q5, q6, q7⟩ := HC.out w0 hw0; clear hw0; go_simp; try with_reducible rfl)); simp only [Act.put, List.getElem_toArray, List.getElem_cons_zero, List.getElem_cons_succ, List.setIfInBounds_toArray, List.set_cons_zero, List.set_cons_succ])
          (refine wpAnyH_one (i := 10) (vi := .bool true) rfl (by kernel_rfl) HS.out ?_ ?_; (focus (intro W K hW hK; (try simp only [Act.put, List.getElem_toArray, List.getElem_cons_zero, List.getElem_cons_succ, List.setIfInBounds_toArray, List.set_cons_zero, List.set_cons_succ]); refine wpOp_step rfl (fun K2 hK2 => ?_); go_simp; refine (HSA.out _ hW).mono ?_; rintro e w' ⟨rfl, hb⟩; exact hK2 _ _ (hK _ hb))); clear HS; intro wn hS; have HS := Lib.hid hS; clear hS; simp only [Act.put, List.getElem_toArray, List.getElem_cons_zero, List.getElem_cons_succ, List.setIfInBounds_toArray, List.set_cons_zero, List.set_cons_succ])
          (refine wpAnyH_take (i := 11) (v := ?_) rfl (by kernel_rfl) (by kernel_rfl) (by kernel_rfl) (fun _ _ _ h => h) (Or.inl ⟨by rfl, ?_⟩) HS.out ?_; rotate_left 1; (focus (intro w0 hw0; clear hw0; go_simp; try with_reducible rfl)); simp only [Act.put, List.getElem_toArray, List.getElem_cons_zero, List.getElem_cons_succ, List.setIfInBounds_toArray, List.set_cons_zero, List.set_cons_succ])
          (refine wpAnyH_take (i := 12) (v := ?_) rfl (by kernel_rfl) (by kernel_rfl) (by kernel_rfl) (fun _ _ _ h => h) (Or.inl ⟨by rfl, ?_⟩) HS.out ?_; rotate_left 1; (focus (intro w0 hw0; clear hw0; go_simp; try with_reducible rfl)); simp only [Act.put, List.getElem_toArray, List.getElem_cons_zero, List.getElem_cons_succ, List.setIfInBounds_toArray, List.set_cons_zero, List.set_cons_succ])
          (refine wpAnyH_one (i := 13) (vi := .bool true) rfl (by kernel_rfl) HS.out ?_ ?_; (focus (intro W K hW hK; (try simp only [Act.put, List.getElem_toArray, List.getElem_cons_zero, List.getElem_cons_succ, List.setIfInBounds_toArray, List.set_cons_zero, List.set_cons_succ]); refine wpOp_step rfl (fun K2 hK2 => ?_); go_simp; refine (HLV.out _ hW).mono ?_; rintro e w' ⟨rfl, hb⟩; exact hK2 _ _ (hK _ hb))); clear HS; intro wn hS; have HS := Lib.hid hS; clear hS; simp only [Act.put, List.getElem_toArray, List.getElem_cons_zero, List.getElem_cons_succ, List.setIfInBounds_toArray, List.set_cons_zero, List.set_cons_succ])
          (refine wpAnyH_take (i := 14) (v := ?_) rfl (by kernel_rfl) (by kernel_rfl) (by kernel_rfl) (fun _ _ _ h => h) (Or.inl ⟨by rfl, ?_⟩) HS.out ?_; rotate_left 1; (focus (intro w0 hw0; clear hw0; go_simp; try with_reducible rfl)); simp only [Act.put, List.getElem_toArray, List.getElem_cons_zero, List.getElem_cons_succ, List.setIfInBounds_toArray, List.set_cons_zero, List.set_cons_succ])
          (refine wpAnyH_take (i := 15) (v := ?_) rfl (by kernel_rfl) (by kernel_rfl) (by kernel_rfl) (fun _ _ _ h => h) (Or.inl ⟨by rfl, ?_⟩) HS.out ?_; rotate_left 1; (focus (intro w0 hw0; clear hw0; go_simp; try with_reducible rfl)); simp only [Act.put, List.getElem_toArray, List.getElem_cons_zero, List.getElem_cons_succ, List.setIfInBounds_toArray, List.set_cons_zero, List.set_cons_succ])
          refine wpAnyH_done (by kernel_rfl) ?_ _
          go_wp2_with fail
          go_ret
          exact ⟨rfl, HB0.out.trans (HS.out.mono HB0.out.size)⟩
end Go.Proofs.YtibabpahpiijgaaGreatDoor.Lex
/- ModelTold: what came in, opened. -/
namespace Go.Proofs.YtibabpahpiijgaaGreatDoor.Lex
open Go.RowKit Go.ChangeShapes Go.WideShapes Stab
set_option linter.unusedVariables false
theorem ob_u64s (N : Nat) : OB Tryz.prog 26 (.slice (.int .u64) 1 8) (fun x => 0) (N + 1) :=
  (ob_slice Tryz.underlying26 (by kernel_rfl) (by kernel_rfl) (by omega) (Rd.int_ok _) (ob_int Tryz.underlying52 N)).map id (fun h => h) (fun _ => Nat.zero_le _)
theorem ob_told (N : Nat) : OB Tryz.prog 28 (toldRd (N + 1)) (fun x => x.2.1.nodes) (N + 2) :=
  (ob_struct (tot := 8) Tryz.underlying28 (by kernel_rfl) (N := N + 1)
    (obf_cons (s := 1) rfl (by kernel_rfl) (ob_int Tryz.underlying22 _)
    (obf_cons (s := 3) rfl (by kernel_rfl) (ob_desc (N + 1))
    (obf_cons (s := 1) rfl (by kernel_rfl) (ob_int Tryz.underlying3 _)
    (obf_cons (s := 1) rfl (by kernel_rfl) (ob_int Tryz.underlying3 _)
    (obf_cons (s := 1) rfl (by kernel_rfl) (ob_str Tryz.underlying9 _)
    (obf_one (s := 1) rfl (by kernel_rfl) rfl (ob_u64s N)))))))).map id (fun h => h) (fun x => by show x.2.1.nodes ≤ 1 + (x.2.1.nodes + _) + 1; omega)
set_option maxRecDepth 100000 in
theorem told_open {H : Type} {enc : TypeId × Value → H} {w : World} {b0 : Nat} {s0 : Nat → Bool} {e0 : Bool} {v0 : Value} {d0 : DataW H} {p0 : List MemPlace} {ww : World} {rr : Reach} {bb : Nat}
    (hv0 : Value.okWide Tryz.prog ww rr bb 28 v0) (h0 : DataW.Trod enc Tryz.prog w b0 s0 e0 28 v0 d0 p0) (q0 : ∀ q ∈ DataW.weights Tryz.prog 28 d0, q ≤ reachBytes) (hb : Rows.uptoBulk d0 ≤ 1048576) :
    ∃ k e dk dn n li dl tx ys da dm dc ya ym yc, v0 = .agg #[.int .i64 e, .int .i64 dk, .int .i64 dn, .slice da dm dc, .int .i64 n, .int .i64 li, .string tx, .slice ya ym yc] ∧ RowOf (descRd k) 3 40 All w da dm dc dl ∧ RowOf (Rd.int .u64) 1 8 All w ya ym yc ys ∧ DescV.nodesL dl < 1048576 := by
  obtain ⟨f0, h0⟩ := h0
  obtain ⟨cs, rfl, _⟩ := Go.WideShapes.okWide_struct Tryz.underlying28 hv0
  obtain ⟨x, hx, hm⟩ := (ob_told f0).get enc w b0 s0 e0 f0 _ _ (by omega) h0 q0
  obtain ⟨e, d, n, li, tx, ys⟩ := x
  obtain ⟨c1, c2, e1, ⟨rfl, _⟩, c3, c4, rfl, hd, c5, c6, rfl, ⟨rfl, _⟩, c7, c8, rfl, ⟨rfl, _⟩, c9, c10, rfl, ⟨rfl, _⟩, ya, ym, yc, rfl, hy⟩ := hx
  obtain ⟨da, dm, dc, rfl, hk⟩ := descRd_cells' hd
  have e2 : cs = #[.int .i64 e, .int .i64 d.kind, .int .i64 d.n, .slice da dm dc, .int .i64 n, .int .i64 li, .string tx, .slice ya ym yc] := Array.toList_inj.1 e1
  subst e2
  have hn : d.nodes = DescV.nodesL d.kids + 1 := DescV.nodes_kids d
  have hm2 : d.nodes ≤ 1048576 := Nat.le_trans hm hb
  exact ⟨_, e, d.kind, d.n, n, li, d.kids, tx, ys, da, dm, dc, ya, ym, yc, rfl, hk, hy, by omega⟩
theorem row_mono {k m : Nat} (h : k ≤ m) {F : Foot} {w : World} {a : Option Addr} {n c : Nat} {l : List DescV} (hr : RowOf (descRd k) 3 40 F w a n c l) : RowOf (descRd m) 3 40 F w a n c l := hr.imp fun _ _ h2 => descRd_mono h h2
set_option maxRecDepth 100000 in
theorem told36_open {H : Type} {enc : TypeId × Value → H} {w : World} {b0 b1 : Nat} {s0 s1 : Nat → Bool} {e0 e1 : Bool} {v0 v1 : Value} {d0 d1 : DataW H} {p0 p1 : List MemPlace} {ww : World} {rr : Reach} {bb : Nat}
    (hv0 : Value.okWide Tryz.prog ww rr bb 28 v0) (h0 : DataW.Trod enc Tryz.prog w b0 s0 e0 28 v0 d0 p0) (q0 : ∀ q ∈ DataW.weights Tryz.prog 28 d0, q ≤ reachBytes) (hb0 : Rows.uptoBulk d0 ≤ 1048576)
    (hv1 : Value.okWide Tryz.prog ww rr bb 28 v1) (h1 : DataW.Trod enc Tryz.prog w b1 s1 e1 28 v1 d1 p1) (q1 : ∀ q ∈ DataW.weights Tryz.prog 28 d1, q ≤ reachBytes) (hb1 : Rows.uptoBulk d1 ≤ 1048576) :
    Calls Tryz.prog 3 #[v0, v1] w fun e w' => e = .returned (.bool true) ∧ Below w.heap.size w w' := by
  obtain ⟨k, e, dk, dn, n, li, dl, tx, ys, da, dm, dc, ya, ym, yc, rfl, r0, y0, n0⟩ := told_open hv0 h0 q0 hb0
  obtain ⟨j, e', dk', dn', n', li', dl', tx', ys', da', dm', dc', ya', ym', yc', rfl, r1, y1, n1⟩ := told_open hv1 h1 q1 hb1
  exact told36 (max k j) e dk dn n li e' dk' dn' n' li' dl dl' tx tx' ys ys' da da' ya ya' dm dc ym yc dm' dc' ym' yc' w (row_mono (Nat.le_max_left _ _) r0) y0 (row_mono (Nat.le_max_right _ _) r1) y1 n0 n1
end Go.Proofs.YtibabpahpiijgaaGreatDoor.Lex
