/- The statement on picks, walked. -/
import Derived.Test.YtbijacoiblbnfaaSlimH
namespace Go.Proofs.Ytbijacoiblbnfaa
open Go.RowKit
set_option linter.unusedSimpArgs false
set_option linter.unusedVariables false
theorem Fix.alloc' {F : Foot} {w w' : World} (h : Fix F w w') (o : Obj) : Fix F w (w'.alloc o) := h.trans (Fix.alloc _ _ _)
theorem Fix.drew' {F : Foot} {w w' : World} (h : Fix F w w') : Fix F w w'.drew := h.trans (Fix.drew _ _)
theorem Fix.after {F : Foot} {w w1 w2 : World} (h : Fix F w w1) (hb : Below w1.heap.size w1 w2) : Fix F w w2 := h.trans (.of_below hb)
/-- The five cells of a script at a block. -/
def Scr5 (wx : World) (X : Nat) (st rm : Int) (a1 : Option Addr) (n c1 : Nat) (a2 : Option Addr) (m c2 : Nat) (a3 : Option Addr) (q c3 : Nat) : Prop :=
  wx.cell? ⟨X, 0, none⟩ = some (.int .i64 st) ∧ wx.cell? ⟨X, 1, none⟩ = some (.int .i64 rm) ∧ wx.cell? ⟨X, 2, none⟩ = some (.slice a1 n c1) ∧ wx.cell? ⟨X, 3, none⟩ = some (.slice a2 m c2) ∧ wx.cell? ⟨X, 4, none⟩ = some (.slice a3 q c3)
theorem Scr5.keep {w wx : World} {X : Nat} {st rm : Int} {a1 a2 a3 : Option Addr} {n c1 m c2 q c3 : Nat} (h : Scr5 w X st rm a1 n c1 a2 m c2 a3 q c3) (hb : Below w.heap.size w wx) : Scr5 wx X st rm a1 n c1 a2 m c2 a3 q c3 := by
  have hX := World.block_lt_of_cell? w _ h.1
  have e : ∀ o, wx.cell? ⟨X, o, none⟩ = w.cell? ⟨X, o, none⟩ := fun o => hb.cell (p := ⟨X, o, none⟩) hX
  unfold Scr5
  simp only [e]
  exact h
/-- A script's rows. -/
structure Rows5 (F : Foot) (w : World) (L : List (List CallV)) (ps ts : List Int) (a1 : Option Addr) (n c1 : Nat) (a2 : Option Addr) (m c2 : Nat) (a3 : Option Addr) (q c3 : Nat) : Prop where
  c : RowOf rowsRd 1 24 F w a1 n c1 L
  p : RowOf rI 1 8 F w a2 m c2 ps
  t : RowOf rI 1 8 F w a3 q c3 ts
theorem Rows5.keep {F : Foot} {w w' : World} {L : List (List CallV)} {ps ts : List Int} {a1 a2 a3 : Option Addr} {n c1 m c2 q c3 : Nat} (h : Rows5 F w L ps ts a1 n c1 a2 m c2 a3 q c3) (hf : Fix F w w') : Rows5 F w' L ps ts a1 n c1 a2 m c2 a3 q c3 :=
  ⟨h.c.keep rowsRd_ok hf, h.p.keep (Rd.int_ok _) hf, h.t.keep (Rd.int_ok _) hf⟩
theorem Rows5.all {F : Foot} {w : World} {L : List (List CallV)} {ps ts : List Int} {a1 a2 a3 : Option Addr} {n c1 m c2 q c3 : Nat} (h : Rows5 F w L ps ts a1 n c1 a2 m c2 a3 q c3) : Rows5 All w L ps ts a1 n c1 a2 m c2 a3 q c3 :=
  ⟨h.c.mono rowsRd_ok fun _ _ _ => trivial, h.p.mono (Rd.int_ok _) fun _ _ _ => trivial, h.t.mono (Rd.int_ok _) fun _ _ _ => trivial⟩
theorem Rows5.bd {B : Nat} {w : World} {L : List (List CallV)} {ps ts : List Int} {a1 a2 a3 : Option Addr} {n c1 m c2 q c3 : Nat} (h : Rows5 (From B) w L ps ts a1 n c1 a2 m c2 a3 q c3) : Rows5 (fun b => B ≤ b ∧ b < w.heap.size) w L ps ts a1 n c1 a2 m c2 a3 q c3 :=
  ⟨h.c.mono rowsRd_ok fun _ hb hf => ⟨hf, hb⟩, h.p.mono (Rd.int_ok _) fun _ hb hf => ⟨hf, hb⟩, h.t.mono (Rd.int_ok _) fun _ hb hf => ⟨hf, hb⟩⟩
theorem cell_set_self {w : World} {b o : Nat} {v : Value} (h : (w.cell? ⟨b, o, none⟩).isSome = true) : (w.setCell ⟨b, o, none⟩ v).cell? ⟨b, o, none⟩ = some v := by
  simp only [World.cell?, World.setCell, Array.getElem?_modify] at h ⊢
  cases hb : w.heap[b]? with
  | none => rw [hb] at h; simp at h
  | some x =>
    cases x with
    | cells c e f =>
      rw [hb] at h
      simp at h ⊢
      simp [h]
    | _ => rw [hb] at h; simp at h
theorem Below.next {B : Nat} {w a b : World} (h : Below B w a) (k : Below a.heap.size a b) (hB : B ≤ w.heap.size) : Below B w b := h.trans (k.mono (Nat.le_trans hB h.size))
theorem isame_eq (xs : List Int) (F G : Foot) (a1 a2 : Option Addr) (n m c1 c2 : Nat) (w : World) (h1 : RowOf rI 1 8 F w a1 n c1 xs) (h2 : RowOf rI 1 8 G w a2 m c2 xs) :
    Calls Try.prog 10 #[.slice a1 n c1, .slice a2 m c2] w fun e w' => e = .returned (.bool true) ∧ Below w.heap.size w w' :=
  (isame_any xs xs F G a1 a2 n m c1 c2 w h1 h2).mono fun e w' ⟨h, d, hd⟩ => ⟨by rw [h]; simp, by rw [hd]; exact below_drewN (Below.refl _ _) _⟩
/-- What stands behind the two copies. -/
def P3 (W0 : World) (st rm : Int) (n m q K : Nat) (L : List (List CallV)) (ps ts : List Int) (v7 v8 : Value) (wx : World) : Prop :=
  Below W0.heap.size W0 wx ∧ ∃ X Y a1 c1 a2 c2 a3 c3 a4 c4 a5 c5 a6 c6, v7 = .pointer (some ⟨X, 0, none⟩) ∧ v8 = .pointer (some ⟨Y, 0, none⟩) ∧
    Scr5 wx X st rm a1 n c1 a2 K c2 a3 q c3 ∧ Scr5 wx Y st rm a4 n c4 a5 m c5 a6 q c6 ∧ Rows5 All wx L (ps.take K) ts a1 n c1 a2 K c2 a3 q c3 ∧ Rows5 All wx L ps ts a4 n c4 a5 m c5 a6 q c6
set_option maxRecDepth 100000 in
set_option maxHeartbeats 32000000 in
theorem picks_law (st rm z r : Int) (aC aP aT : Option Addr) (n m q cC cP cT : Nat) (L : List (List CallV)) (ps ts : List Int) (w : World) (hr1 : -9223372036854775808 ≤ r) (hr2 : r ≤ 9223372036854775807)
    (hC : RowOf rowsRd 1 24 All w aC n cC L) (hP : RowOf rI 1 8 All w aP m cP ps) (hT : RowOf rI 1 8 All w aT q cT ts) :
    Calls Try.prog 3 #[.agg #[.int .i64 st, .int .i64 rm, .slice aC n cC, .slice aP m cP, .slice aT q cT], .int .i64 z, .int .i64 r] w fun e w' => e = .returned (.bool true) ∧ Below w.heap.size w w' := by
  have hn := room64 hC.room (by omega)
  have hm := room64 hP.room (by omega)
  by_cases hg : 5000 < m ∨ 100 < n
  · by_cases hg1 : 5000 < m
    · clear hg hC hP hT
      go_enter Try.func3, Try.ntmps3
      go_wp2_with (go_at_call 5; refine (live_true _).mono ?_; rintro e w1 ⟨rfl, hb⟩)
      go_ret
      exact ⟨rfl, ((Below.refl _ _).alloc (Nat.le_refl _) _).trans (hb.mono (by simp))⟩
    · have hg2 : 100 < n := by omega
      clear hg hC hP hT
      go_enter Try.func3, Try.ntmps3
      go_wp2_with (go_at_call 5; refine (live_true _).mono ?_; rintro e w1 ⟨rfl, hb⟩)
      go_ret
      exact ⟨rfl, ((Below.refl _ _).alloc (Nat.le_refl _) _).trans (hb.mono (by simp))⟩
  · have hg1 : ¬ 5000 < m := by omega
    have hg2 : ¬ 100 < n := by omega
    clear hg
    obtain ⟨K, hK⟩ : ∃ K : Nat, (K : Int) = min (max z 0) m := ⟨(min (max z 0) m).toNat, by omega⟩
    have HK := Lib.hid hK
    have HN : Hid (n ≤ 100 ∧ m ≤ 5000) := Lib.hid (by omega)
    obtain ⟨W0, hW0⟩ : ∃ W0, W0 = w.alloc (.cells #[.int .i64 st, .int .i64 rm, .slice aC n cC, .slice aP m cP, .slice aT q cT] 25) := ⟨_, rfl⟩
    have hb0 : Below w.heap.size w W0 := by rw [hW0]; exact (Below.refl _ _).alloc (Nat.le_refl _) _
    have hz : W0.heap.size = w.heap.size + 1 := by rw [hW0]; simp
    have g0 : W0.heap[w.heap.size]? = some (.cells #[.int .i64 st, .int .i64 rm, .slice aC n cC, .slice aP m cP, .slice aT q cT] 25 (0, 0)) := by
      rw [hW0]
      exact heap_alloc_new w _
    have t0 := cell_at (o := 0) g0 rfl
    have t1 := cell_at (o := 1) g0 rfl
    have t2 := cell_at (o := 2) g0 rfl
    have t3 := cell_at (o := 3) g0 rfl
    have t4 := cell_at (o := 4) g0 rfl
    have HC := Lib.hid (hC.keep rowsRd_ok (Fix.of_below hb0))
    have HP := Lib.hid (hP.keep (Rd.int_ok _) (Fix.of_below hb0))
    have HT := Lib.hid (hT.keep (Rd.int_ok _) (Fix.of_below hb0))
    have HB0 := Lib.hid hb0
    have HG0 := Lib.hid g0
    have HZ := Lib.hid hz
    clear hC hP hT hb0 g0 hz hK
    go_enter Try.func3, Try.ntmps3
    go_upto_region 4 with (fail)
    rw [← hW0]
    clear hW0 hg1 hg2
    have HS : Hid (∀ W, Below W0.heap.size W0 W → W.cell? ⟨w.heap.size, 0, none⟩ = some (.int .i64 st) ∧ W.cell? ⟨w.heap.size, 1, none⟩ = some (.int .i64 rm) ∧ W.cell? ⟨w.heap.size, 2, none⟩ = some (.slice aC n cC) ∧ W.cell? ⟨w.heap.size, 3, none⟩ = some (.slice aP m cP) ∧ W.cell? ⟨w.heap.size, 4, none⟩ = some (.slice aT q cT)) := Lib.hid fun W hb => by
      have e : ∀ o, W.cell? ⟨w.heap.size, o, none⟩ = W0.cell? ⟨w.heap.size, o, none⟩ := fun o => hb.cell (p := ⟨w.heap.size, o, none⟩) (by have := HZ.out; show w.heap.size < _; omega)
      simp only [e]
      exact ⟨t0, t1, t2, t3, t4⟩
    have HF : ∀ {F : Foot} {W : World}, Below W0.heap.size W0 W → Fix F W0 W := fun h => Fix.of_below h
    go_cut [7, 8] (fun v7 v8 wx => P3 W0 st rm n m q K L ps ts v7 v8 wx)
    case first =>
      go_region_held3 (fun W => W.cell? ⟨w.heap.size, 0, none⟩ = some (.int .i64 st) ∧ W.cell? ⟨w.heap.size, 1, none⟩ = some (.int .i64 rm) ∧ W.cell? ⟨w.heap.size, 2, none⟩ = some (.slice aC n cC) ∧ W.cell? ⟨w.heap.size, 3, none⟩ = some (.slice aP m cP) ∧ W.cell? ⟨w.heap.size, 4, none⟩ = some (.slice aT q cT)) (first | exact HS.out _ (by ((repeat' (first | with_reducible exact HB2.out | with_reducible exact HB1.out | with_reducible exact Below.refl _ _ | with_reducible refine Below.drew ?_ | with_reducible refine Below.alloc ?_ ?_ _ | with_reducible refine Below.setCell ?_ ?_ _)) <;> (first | omega | (simp; done) | (simp; omega)))) | fail)
       (first
        | (go_at_call 6; (with_reducible refine (head_any st rm z All aC aP aT n m q cC cP cT K L ps ts _ HK.out (HC.out.keep rowsRd_ok (HF (by ((repeat' (first | with_reducible exact HB2.out | with_reducible exact HB1.out | with_reducible exact Below.refl _ _ | with_reducible refine Below.drew ?_ | with_reducible refine Below.alloc ?_ ?_ _ | with_reducible refine Below.setCell ?_ ?_ _)) <;> (first | omega | (simp; done) | (simp; omega)))))) (HP.out.keep (Rd.int_ok _) (HF (by ((repeat' (first | with_reducible exact HB2.out | with_reducible exact HB1.out | with_reducible exact Below.refl _ _ | with_reducible refine Below.drew ?_ | with_reducible refine Below.alloc ?_ ?_ _ | with_reducible refine Below.setCell ?_ ?_ _)) <;> (first | omega | (simp; done) | (simp; omega)))))) (HT.out.keep (Rd.int_ok _) (HF (by ((repeat' (first | with_reducible exact HB2.out | with_reducible exact HB1.out | with_reducible exact Below.refl _ _ | with_reducible refine Below.drew ?_ | with_reducible refine Below.alloc ?_ ?_ _ | with_reducible refine Below.setCell ?_ ?_ _)) <;> (first | omega | (simp; done) | (simp; omega))))))).mono ?_); rintro e w1 ⟨a1, c1, a2, c2, a3, c3, rfl, h1, h2, h3, hb1⟩; have HB1 : Hid (Below W0.heap.size W0 w1) := Lib.hid ((show Below W0.heap.size W0 _ from (by ((repeat' (first | with_reducible exact HB2.out | with_reducible exact HB1.out | with_reducible exact Below.refl _ _ | with_reducible refine Below.drew ?_ | with_reducible refine Below.alloc ?_ ?_ _ | with_reducible refine Below.setCell ?_ ?_ _)) <;> (first | omega | (simp; done) | (simp; omega))))).trans (hb1.mono (by first | exact Nat.le_refl _ | (simp; done) | (simp; omega)))); have hz1 := HB1.out.size; have hs1 := hb1.size; (try simp at hs1); (try have hl1 : W0.heap.size < w1.heap.size := by omega); (try have hl1' : W0.heap.size + 1 < w1.heap.size := by omega); have HR1 := Lib.hid (Rows5.mk h1 h2 h3).bd; have HBa := Lib.hid hb1; obtain ⟨kc1, kf1⟩ := bcell hb1; clear hb1 h1 h2 h3)
        | (go_at_call 7; (with_reducible refine (sclone_any st rm All aC aP aT n m q cC cP cT L ps ts _ (HC.out.keep rowsRd_ok (HF (by ((repeat' (first | with_reducible exact HB2.out | with_reducible exact HB1.out | with_reducible exact Below.refl _ _ | with_reducible refine Below.drew ?_ | with_reducible refine Below.alloc ?_ ?_ _ | with_reducible refine Below.setCell ?_ ?_ _)) <;> (first | omega | (simp; done) | (simp; omega)))))) (HP.out.keep (Rd.int_ok _) (HF (by ((repeat' (first | with_reducible exact HB2.out | with_reducible exact HB1.out | with_reducible exact Below.refl _ _ | with_reducible refine Below.drew ?_ | with_reducible refine Below.alloc ?_ ?_ _ | with_reducible refine Below.setCell ?_ ?_ _)) <;> (first | omega | (simp; done) | (simp; omega)))))) (HT.out.keep (Rd.int_ok _) (HF (by ((repeat' (first | with_reducible exact HB2.out | with_reducible exact HB1.out | with_reducible exact Below.refl _ _ | with_reducible refine Below.drew ?_ | with_reducible refine Below.alloc ?_ ?_ _ | with_reducible refine Below.setCell ?_ ?_ _)) <;> (first | omega | (simp; done) | (simp; omega))))))).mono ?_); rintro e w2 ⟨a4, c4, a5, c5, a6, c6, rfl, h4, h5, h6, hb2⟩; have HB2 : Hid (Below W0.heap.size W0 w2) := Lib.hid ((show Below W0.heap.size W0 _ from (by ((repeat' (first | with_reducible exact HB2.out | with_reducible exact HB1.out | with_reducible exact Below.refl _ _ | with_reducible refine Below.drew ?_ | with_reducible refine Below.alloc ?_ ?_ _ | with_reducible refine Below.setCell ?_ ?_ _)) <;> (first | omega | (simp; done) | (simp; omega))))).trans (hb2.mono (by first | exact hz1 | (simp; omega)))); have hz2 := HB2.out.size; have hs2 := hb2.size; (try simp at hs2); (try have hl2 : w1.heap.size < w2.heap.size := by omega); (try have hl2' : w1.heap.size + 1 < w2.heap.size := by omega); (try have hl3 : W0.heap.size < w2.heap.size := by omega); (try have hl3' : W0.heap.size + 1 < w2.heap.size := by omega); have HR2 := Lib.hid (Rows5.mk h4 h5 h6).bd; have HBb := Lib.hid hb2; obtain ⟨kc2, kf2⟩ := bcell hb2; clear hb2 h4 h5 h6))
      all_goals
        go_wp2_with fail
        go_meet
        refine ⟨by ((repeat' (first | with_reducible exact HB2.out | with_reducible exact HB1.out | with_reducible exact Below.refl _ _ | with_reducible refine Below.drew ?_ | with_reducible refine Below.alloc ?_ ?_ _ | with_reducible refine Below.setCell ?_ ?_ _)) <;> (first | omega | (simp; done) | (simp; omega))), _, _, a1, c1, a2, c2, a3, c3, a4, c4, a5, c5, a6, c6, rfl, rfl, ?_, ?_, (HR1.out.keep (by ((repeat' (first | with_reducible exact Fix.refl _ _ | with_reducible refine Fix.set_other ?_ ?_ _ | with_reducible refine Fix.alloc' ?_ _ | with_reducible refine Fix.drew' ?_ | with_reducible refine Fix.after ?_ HBb.out)) <;> (first | omega | (simp; done) | (simp; omega))))).all, (HR2.out.keep (by ((repeat' (first | with_reducible exact Fix.refl _ _ | with_reducible refine Fix.set_other ?_ ?_ _ | with_reducible refine Fix.alloc' ?_ _ | with_reducible refine Fix.drew' ?_ | with_reducible refine Fix.after ?_ HBb.out)) <;> (first | omega | (simp; done) | (simp; omega))))).all⟩
        all_goals (simp [Scr5, go_sem, *])
        all_goals (try (refine ⟨?_, ?_, ?_, ?_, ?_⟩ <;> (refine cell_set_self ?_; simp [go_sem, *])))
    case rest =>
      obtain ⟨HBX, X, Y, a1, c1, a2, c2, a3, c3, a4, c4, a5, c5, a6, c6, rfl, rfl, HX, HY, HRX, HRY⟩ := hcut
      have HX' := Lib.hid HX
      have HY' := Lib.hid HY
      have HX1 := Lib.hid HRX
      have HY1 := Lib.hid HRY
      have HT0 : Hid (Scr5 wc w.heap.size st rm aC n cC aP m cP aT q cT) := Lib.hid (HS.out _ HBX)
      have HR0 := Lib.hid ((Rows5.mk HC.out HP.out HT.out).keep (Fix.of_below HBX))
      have HBW : Hid (Below w.heap.size w wc) := Lib.hid (HB0.out.trans (HBX.mono (by have := HZ.out; omega)))
      clear HX HY HRX HRY HBX t0 t1 t2 t3 t4 HS HF HC HP HT
      obtain ⟨wx, rfl⟩ : ∃ wx : World, wx = wc := ⟨_, rfl⟩
      have HS : Hid (∀ W, Below wx.heap.size wx W → (W.cell? ⟨w.heap.size, 0, none⟩ = some (.int .i64 st) ∧ W.cell? ⟨w.heap.size, 1, none⟩ = some (.int .i64 rm) ∧ W.cell? ⟨w.heap.size, 2, none⟩ = some (.slice aC n cC) ∧ W.cell? ⟨w.heap.size, 3, none⟩ = some (.slice aP m cP) ∧ W.cell? ⟨w.heap.size, 4, none⟩ = some (.slice aT q cT)) ∧ (W.cell? ⟨X, 0, none⟩ = some (.int .i64 st) ∧ W.cell? ⟨X, 1, none⟩ = some (.int .i64 rm) ∧ W.cell? ⟨X, 2, none⟩ = some (.slice a1 n c1) ∧ W.cell? ⟨X, 3, none⟩ = some (.slice a2 K c2) ∧ W.cell? ⟨X, 4, none⟩ = some (.slice a3 q c3)) ∧ (W.cell? ⟨Y, 0, none⟩ = some (.int .i64 st) ∧ W.cell? ⟨Y, 1, none⟩ = some (.int .i64 rm) ∧ W.cell? ⟨Y, 2, none⟩ = some (.slice a4 n c4) ∧ W.cell? ⟨Y, 3, none⟩ = some (.slice a5 m c5) ∧ W.cell? ⟨Y, 4, none⟩ = some (.slice a6 q c6))) := Lib.hid fun W hb => ⟨HT0.out.keep hb, HX'.out.keep hb, HY'.out.keep hb⟩
      have hbz := Below.refl wx.heap.size wx
      go_upto_region 4 with (fail)
      go_cut [58] (fun v58 wy => v58 = .bool false ∧ Below wx.heap.size wx wy)
      case first =>
        go_region_held3 (fun W => (W.cell? ⟨w.heap.size, 0, none⟩ = some (.int .i64 st) ∧ W.cell? ⟨w.heap.size, 1, none⟩ = some (.int .i64 rm) ∧ W.cell? ⟨w.heap.size, 2, none⟩ = some (.slice aC n cC) ∧ W.cell? ⟨w.heap.size, 3, none⟩ = some (.slice aP m cP) ∧ W.cell? ⟨w.heap.size, 4, none⟩ = some (.slice aT q cT)) ∧ (W.cell? ⟨X, 0, none⟩ = some (.int .i64 st) ∧ W.cell? ⟨X, 1, none⟩ = some (.int .i64 rm) ∧ W.cell? ⟨X, 2, none⟩ = some (.slice a1 n c1) ∧ W.cell? ⟨X, 3, none⟩ = some (.slice a2 K c2) ∧ W.cell? ⟨X, 4, none⟩ = some (.slice a3 q c3)) ∧ (W.cell? ⟨Y, 0, none⟩ = some (.int .i64 st) ∧ W.cell? ⟨Y, 1, none⟩ = some (.int .i64 rm) ∧ W.cell? ⟨Y, 2, none⟩ = some (.slice a4 n c4) ∧ W.cell? ⟨Y, 3, none⟩ = some (.slice a5 m c5) ∧ W.cell? ⟨Y, 4, none⟩ = some (.slice a6 q c6))) (exact HS.out _ (by ((repeat' (first | with_reducible assumption | with_reducible refine Below.drew ?_)) <;> fail)))
         (first
          | (go_at_call 9; (with_reducible refine (like_any _ _ _ _ _ _ _ _ _ _ _ _).mono ?_); rintro e w1 ⟨rfl, hb1⟩; have HB : Below wx.heap.size wx w1 := Below.next (by ((repeat' (first | with_reducible assumption | with_reducible refine Below.drew ?_)) <;> fail)) hb1 (Nat.le_refl _); clear hb1)
          | (go_at_call 8; (with_reducible refine (clients_yes st rm All All a1 aC a3 aT _ _ n q c1 cC c3 cT _ _ _ _ L ts _ (HX1.out.c.keep rowsRd_ok (Fix.of_below (by ((repeat' (first | with_reducible assumption | with_reducible refine Below.drew ?_)) <;> fail)))) (HR0.out.c.keep rowsRd_ok (Fix.of_below (by ((repeat' (first | with_reducible assumption | with_reducible refine Below.drew ?_)) <;> fail)))) (HX1.out.t.keep (Rd.int_ok _) (Fix.of_below (by ((repeat' (first | with_reducible assumption | with_reducible refine Below.drew ?_)) <;> fail)))) (HR0.out.t.keep (Rd.int_ok _) (Fix.of_below (by ((repeat' (first | with_reducible assumption | with_reducible refine Below.drew ?_)) <;> fail))))).mono ?_); rintro e w1 ⟨rfl, hb1⟩; have HB : Below wx.heap.size wx w1 := Below.next (by ((repeat' (first | with_reducible assumption | with_reducible refine Below.drew ?_)) <;> fail)) hb1 (Nat.le_refl _); clear hb1)
          | (go_at_call 8; (with_reducible refine (clients_yes st rm All All a4 aC a6 aT _ _ n q c4 cC c6 cT _ _ _ _ L ts _ (HY1.out.c.keep rowsRd_ok (Fix.of_below (by ((repeat' (first | with_reducible assumption | with_reducible refine Below.drew ?_)) <;> fail)))) (HR0.out.c.keep rowsRd_ok (Fix.of_below (by ((repeat' (first | with_reducible assumption | with_reducible refine Below.drew ?_)) <;> fail)))) (HY1.out.t.keep (Rd.int_ok _) (Fix.of_below (by ((repeat' (first | with_reducible assumption | with_reducible refine Below.drew ?_)) <;> fail)))) (HR0.out.t.keep (Rd.int_ok _) (Fix.of_below (by ((repeat' (first | with_reducible assumption | with_reducible refine Below.drew ?_)) <;> fail))))).mono ?_); rintro e w1 ⟨rfl, hb1⟩; have HB : Below wx.heap.size wx w1 := Below.next (by ((repeat' (first | with_reducible assumption | with_reducible refine Below.drew ?_)) <;> fail)) hb1 (Nat.le_refl _); clear hb1)
          | (go_at_call 11; (with_reducible refine (rhead_any z All aP m cP K ps _ HK.out (HR0.out.p.keep (Rd.int_ok _) (Fix.of_below (by ((repeat' (first | with_reducible assumption | with_reducible refine Below.drew ?_)) <;> fail))))).mono ?_); rintro e w3 ⟨a7, c7, rfl, hr7, hb1⟩; have HR7 := Lib.hid hr7; have hb7 := Below.refl w3.heap.size w3; have HB : Below wx.heap.size wx w3 := Below.next (by ((repeat' (first | with_reducible assumption | with_reducible refine Below.drew ?_)) <;> fail)) hb1 (Nat.le_refl _); clear hb1 hr7)
          | (go_at_call 10; (with_reducible refine (isame_eq (ps.take K) All _ a2 a7 K K c2 c7 _ (HX1.out.p.keep (Rd.int_ok _) (Fix.of_below (by ((repeat' (first | with_reducible assumption | with_reducible refine Below.drew ?_)) <;> fail)))) (HR7.out.keep (Rd.int_ok _) (Fix.of_below (by ((repeat' (first | with_reducible assumption | with_reducible refine Below.drew ?_)) <;> fail))))).mono ?_); rintro e w1 ⟨rfl, hb1⟩; have HB : Below wx.heap.size wx w1 := Below.next (by ((repeat' (first | with_reducible assumption | with_reducible refine Below.drew ?_)) <;> fail)) hb1 (Nat.le_refl _); clear hb1)
          | (go_at_call 10; (with_reducible refine (isame_eq ps All All a5 aP m m c5 cP _ (HY1.out.p.keep (Rd.int_ok _) (Fix.of_below (by ((repeat' (first | with_reducible assumption | with_reducible refine Below.drew ?_)) <;> fail)))) (HR0.out.p.keep (Rd.int_ok _) (Fix.of_below (by ((repeat' (first | with_reducible assumption | with_reducible refine Below.drew ?_)) <;> fail))))).mono ?_); rintro e w1 ⟨rfl, hb1⟩; have HB : Below wx.heap.size wx w1 := Below.next (by ((repeat' (first | with_reducible assumption | with_reducible refine Below.drew ?_)) <;> fail)) hb1 (Nat.le_refl _); clear hb1))
        all_goals
          go_wp2_with fail
          go_meet
          exact ⟨rfl, by ((repeat' (first | with_reducible assumption | with_reducible refine Below.drew ?_)) <;> fail)⟩
      case rest =>
        obtain ⟨rfl, hby⟩ := hcut
        obtain ⟨wy, rfl⟩ : ∃ wy : World, wy = wc := ⟨_, rfl⟩
        obtain ⟨t0, t1, t2, t3, t4⟩ : Scr5 wy w.heap.size st rm aC n cC aP m cP aT q cT := HT0.out.keep hby
        have HR := Lib.hid (HR0.out.keep (Fix.of_below hby))
        have HBY : Hid (Below w.heap.size w wy) := Lib.hid (HBW.out.trans (hby.mono HBW.out.size))
        have hwy := hby.size
        clear HS HX' HY' HX1 HY1 HT0 HR0 HBW hbz hby HK
        have hbz := Below.refl wy.heap.size wy
        have HZW : Hid (w.heap.size < wy.heap.size) := Lib.hid (World.block_lt_of_cell? wy ⟨w.heap.size, 0, none⟩ t0)
        by_cases hr : r < 0
        · go_wp2_with (first
            | (go_at_call 12; (with_reducible refine (even_neg st rm r aC aP aT n m q cC cP cT _ hr).mono ?_); rintro e w1 ⟨rfl, hb1⟩; have HB : Below wy.heap.size wy w1 := Below.next (by ((repeat' (first | with_reducible assumption | with_reducible refine Below.drew ?_)) <;> fail)) hb1 (Nat.le_refl _); have hs1 := HB.size; have hl1 := Nat.lt_of_lt_of_le HZW.out HB.size; clear hb1)
            | (go_at_call 13; (with_reducible refine (none_zero _).mono ?_); rintro e w1 ⟨rfl, hb1⟩; have HB : Below wy.heap.size wy w1 := Below.next (by ((repeat' (first | with_reducible assumption | with_reducible refine Below.drew ?_ | (with_reducible refine Below.alloc ?_ ?_ _))) <;> first | assumption | (simp; done) | (simp; omega))) hb1 (Nat.le_refl _); clear hb1)
            | (go_at_call 5; (with_reducible refine (live_true _).mono ?_); rintro e w1 ⟨rfl, hb1⟩; have HB : Below wy.heap.size wy w1 := Below.next (by ((repeat' (first | with_reducible assumption | with_reducible refine Below.drew ?_ | (with_reducible refine Below.alloc ?_ ?_ _))) <;> first | assumption | (simp; done) | (simp; omega))) hb1 (Nat.le_refl _); clear hb1))
          go_ret
          exact ⟨rfl, Below.trans HBY.out (Below.mono (by ((repeat' (first | with_reducible assumption | with_reducible refine Below.drew ?_ | (with_reducible refine Below.alloc ?_ ?_ _))) <;> first | assumption | (simp; done) | (simp; omega))) HBY.out.size)⟩
        · obtain ⟨R, rfl⟩ : ∃ R : Nat, r = (R : Int) := ⟨r.toNat, by omega⟩
          have hR := hr2
          clear hr hr1 hr2
          by_cases hn0 : n = 0
          · subst hn0
            go_wp2_with (first
              | (go_at_call 12; (with_reducible refine (even_ok st rm R 0 All aC aP aT 0 m q cC cP cT L ps ts _ (by omega) (.inl rfl) (Nat.mul_zero R).symm (Nat.zero_le _) (HR.out.c.keep rowsRd_ok (Fix.of_below (by ((repeat' (first | with_reducible assumption | with_reducible refine Below.drew ?_)) <;> fail)))) (HR.out.p.keep (Rd.int_ok _) (Fix.of_below (by ((repeat' (first | with_reducible assumption | with_reducible refine Below.drew ?_)) <;> fail)))) (HR.out.t.keep (Rd.int_ok _) (Fix.of_below (by ((repeat' (first | with_reducible assumption | with_reducible refine Below.drew ?_)) <;> fail))))).mono ?_); rintro e w1 ⟨a1, c1, a2, c2, a3, c3, rfl, h1, h2, h3, hb1⟩; have HB : Below wy.heap.size wy w1 := Below.next (by ((repeat' (first | with_reducible assumption | with_reducible refine Below.drew ?_)) <;> fail)) hb1 (Nat.le_refl _); have hs1 := HB.size; have hl1 := Nat.lt_of_lt_of_le HZW.out HB.size; have z2 := (HB.cell (p := ⟨w.heap.size, 2, none⟩) HZW.out).trans t2; clear hb1 h1 h2 h3)
              | (go_at_call 5; (with_reducible refine (live_true _).mono ?_); rintro e w1 ⟨rfl, hb1⟩; have HB : Below wy.heap.size wy w1 := Below.next (by ((repeat' (first | with_reducible assumption | with_reducible refine Below.drew ?_ | (with_reducible refine Below.alloc ?_ ?_ _))) <;> first | assumption | (simp; done) | (simp; omega))) hb1 (Nat.le_refl _); clear hb1))
            go_ret
            exact ⟨rfl, Below.trans HBY.out (Below.mono (by ((repeat' (first | with_reducible assumption | with_reducible refine Below.drew ?_ | (with_reducible refine Below.alloc ?_ ?_ _))) <;> first | assumption | (simp; done) | (simp; omega))) HBY.out.size)⟩
          · have hnp : 0 < n := by omega
            have hn1 : (n : Int) ≠ 0 := by omega
            have hn2 : (0 : Int) ≤ (n : Int) := by omega
            by_cases hb : (4096 : Int) / n < (R : Int)
            · go_wp2_with (first
                | (go_at_call 12; (with_reducible refine (even_big st rm R aC aP aT n m q cC cP cT _ (by omega) hnp hn hb).mono ?_); rintro e w1 ⟨rfl, hb1⟩; have HB : Below wy.heap.size wy w1 := Below.next (by ((repeat' (first | with_reducible assumption | with_reducible refine Below.drew ?_)) <;> fail)) hb1 (Nat.le_refl _); have hs1 := HB.size; have hl1 := Nat.lt_of_lt_of_le HZW.out HB.size; have z2 := (HB.cell (p := ⟨w.heap.size, 2, none⟩) HZW.out).trans t2; clear hb1)
                | (go_at_call 13; (with_reducible refine (none_zero _).mono ?_); rintro e w1 ⟨rfl, hb1⟩; have HB : Below wy.heap.size wy w1 := Below.next (by ((repeat' (first | with_reducible assumption | with_reducible refine Below.drew ?_ | (with_reducible refine Below.alloc ?_ ?_ _))) <;> first | assumption | (simp; done) | (simp; omega))) hb1 (Nat.le_refl _); clear hb1)
                | (go_at_call 5; (with_reducible refine (live_true _).mono ?_); rintro e w1 ⟨rfl, hb1⟩; have HB : Below wy.heap.size wy w1 := Below.next (by ((repeat' (first | with_reducible assumption | with_reducible refine Below.drew ?_ | (with_reducible refine Below.alloc ?_ ?_ _))) <;> first | assumption | (simp; done) | (simp; omega))) hb1 (Nat.le_refl _); clear hb1))
              go_ret
              exact ⟨rfl, Below.trans HBY.out (Below.mono (by ((repeat' (first | with_reducible assumption | with_reducible refine Below.drew ?_ | (with_reducible refine Below.alloc ?_ ?_ _))) <;> first | assumption | (simp; done) | (simp; omega))) HBY.out.size)⟩
            · obtain ⟨T, hT⟩ : ∃ T : Nat, T = R * n := ⟨_, rfl⟩
              have hT4 : T ≤ 4096 := by
                have h1 : (R : Int) ≤ 4096 / (n : Int) := by omega
                have h2 : (R : Int) * n ≤ 4096 := by
                  have := Int.mul_le_of_le_ediv (by omega : (0 : Int) < n) h1
                  omega
                rw [hT]
                exact_mod_cast h2
              have HT := Lib.hid hT
              have HLE : Hid ((R : Int) ≤ 4096 / (n : Int)) := Lib.hid (by omega)
              clear hT
              go_wp2_with (go_at_call 12; (with_reducible refine (even_ok st rm R T All aC aP aT n m q cC cP cT L ps ts _ (by omega) (.inr ⟨hnp, HLE.out⟩) HT.out hT4 (HR.out.c.keep rowsRd_ok (Fix.of_below (by ((repeat' (first | with_reducible assumption | with_reducible refine Below.drew ?_)) <;> fail)))) (HR.out.p.keep (Rd.int_ok _) (Fix.of_below (by ((repeat' (first | with_reducible assumption | with_reducible refine Below.drew ?_)) <;> fail)))) (HR.out.t.keep (Rd.int_ok _) (Fix.of_below (by ((repeat' (first | with_reducible assumption | with_reducible refine Below.drew ?_)) <;> fail))))).mono ?_); rintro e w5 ⟨b1, d1, b2, d2, b3, d3, rfl, h1, h2, h3, hb1⟩; have HB : Below wy.heap.size wy w5 := Below.next (by ((repeat' (first | with_reducible assumption | with_reducible refine Below.drew ?_)) <;> fail)) hb1 (Nat.le_refl _); have hs1 := HB.size; have hl1 := Nat.lt_of_lt_of_le HZW.out HB.size; have z2 := (HB.cell (p := ⟨w.heap.size, 2, none⟩) HZW.out).trans t2; have HRV := Lib.hid (Rows5.mk h1 h2 h3).all; clear hb1 h1 h2 h3)
              obtain ⟨W6, hW6⟩ : ∃ W6, W6 = w5.alloc (.cells #[.int .i64 st, .int .i64 rm, .slice b1 n d1, .slice b2 T d2, .slice b3 q d3] 25) := ⟨_, rfl⟩
              rw [← hW6]
              have hb6 : Below w5.heap.size w5 W6 := by rw [hW6]; exact (Below.refl _ _).alloc (Nat.le_refl _) _
              have g9 : W6.heap[w5.heap.size]? = some (.cells #[.int .i64 st, .int .i64 rm, .slice b1 n d1, .slice b2 T d2, .slice b3 q d3] 25 (0, 0)) := by rw [hW6]; exact heap_alloc_new w5 _
              clear hW6
              obtain ⟨N9, hN9⟩ : ∃ N9, N9 = w5.heap.size := ⟨_, rfl⟩
              have hwb := Below.next HB hb6 (Nat.le_refl _)
              have HWB := Lib.hid hwb
              have HV6 := Lib.hid (HRV.out.keep (Fix.of_below hb6))
              have HR6 := Lib.hid (HR.out.keep (Fix.of_below hwb))
              have hx0 : Scr5 W6 w.heap.size st rm aC n cC aP m cP aT q cT := Scr5.keep ⟨t0, t1, t2, t3, t4⟩ hwb
              have hx9 : Scr5 W6 N9 st rm b1 n d1 b2 T d2 b3 q d3 := by rw [hN9]; exact ⟨cell_at (o := 0) g9 rfl, cell_at (o := 1) g9 rfl, cell_at (o := 2) g9 rfl, cell_at (o := 3) g9 rfl, cell_at (o := 4) g9 rfl⟩
              have HS : Hid (∀ W, Below W6.heap.size W6 W → (W.cell? ⟨w.heap.size, 0, none⟩ = some (.int .i64 st) ∧ W.cell? ⟨w.heap.size, 1, none⟩ = some (.int .i64 rm) ∧ W.cell? ⟨w.heap.size, 2, none⟩ = some (.slice aC n cC) ∧ W.cell? ⟨w.heap.size, 3, none⟩ = some (.slice aP m cP) ∧ W.cell? ⟨w.heap.size, 4, none⟩ = some (.slice aT q cT)) ∧ (W.cell? ⟨N9, 0, none⟩ = some (.int .i64 st) ∧ W.cell? ⟨N9, 1, none⟩ = some (.int .i64 rm) ∧ W.cell? ⟨N9, 2, none⟩ = some (.slice b1 n d1) ∧ W.cell? ⟨N9, 3, none⟩ = some (.slice b2 T d2) ∧ W.cell? ⟨N9, 4, none⟩ = some (.slice b3 q d3))) := Lib.hid fun W hb => ⟨hx0.keep hb, hx9.keep hb⟩
              rw [← hN9]
              clear hN9 g9 hb6 HB hs1 hl1 z2 hwb hx0 hx9 hbz t0 t1 t2 t3 t4 HR HRV
              have hbz := Below.refl W6.heap.size W6
              go_region_held3 (fun W => (W.cell? ⟨w.heap.size, 0, none⟩ = some (.int .i64 st) ∧ W.cell? ⟨w.heap.size, 1, none⟩ = some (.int .i64 rm) ∧ W.cell? ⟨w.heap.size, 2, none⟩ = some (.slice aC n cC) ∧ W.cell? ⟨w.heap.size, 3, none⟩ = some (.slice aP m cP) ∧ W.cell? ⟨w.heap.size, 4, none⟩ = some (.slice aT q cT)) ∧ (W.cell? ⟨N9, 0, none⟩ = some (.int .i64 st) ∧ W.cell? ⟨N9, 1, none⟩ = some (.int .i64 rm) ∧ W.cell? ⟨N9, 2, none⟩ = some (.slice b1 n d1) ∧ W.cell? ⟨N9, 3, none⟩ = some (.slice b2 T d2) ∧ W.cell? ⟨N9, 4, none⟩ = some (.slice b3 q d3))) (exact HS.out _ (by ((repeat' (first | with_reducible assumption | with_reducible refine Below.drew ?_)) <;> fail)))
               (first
                | (go_at_call 9; (with_reducible refine (like_any _ _ _ _ _ _ _ _ _ _ _ _).mono ?_); rintro e w1 ⟨rfl, hb1⟩; have HB : Below W6.heap.size W6 w1 := Below.next (by ((repeat' (first | with_reducible assumption | with_reducible refine Below.drew ?_)) <;> fail)) hb1 (Nat.le_refl _); clear hb1)
                | (go_at_call 8; (with_reducible refine (clients_yes st rm All All b1 aC b3 aT _ _ n q d1 cC d3 cT _ _ _ _ L ts _ (HV6.out.c.keep rowsRd_ok (Fix.of_below (by ((repeat' (first | with_reducible assumption | with_reducible refine Below.drew ?_)) <;> fail)))) (HR6.out.c.keep rowsRd_ok (Fix.of_below (by ((repeat' (first | with_reducible assumption | with_reducible refine Below.drew ?_)) <;> fail)))) (HV6.out.t.keep (Rd.int_ok _) (Fix.of_below (by ((repeat' (first | with_reducible assumption | with_reducible refine Below.drew ?_)) <;> fail)))) (HR6.out.t.keep (Rd.int_ok _) (Fix.of_below (by ((repeat' (first | with_reducible assumption | with_reducible refine Below.drew ?_)) <;> fail))))).mono ?_); rintro e w1 ⟨rfl, hb1⟩; have HB : Below W6.heap.size W6 w1 := Below.next (by ((repeat' (first | with_reducible assumption | with_reducible refine Below.drew ?_)) <;> fail)) hb1 (Nat.le_refl _); clear hb1)
                | (go_at_call 14; (with_reducible refine (reven_any n R _ hnp (by rw [← HT.out]; exact hT4)).mono ?_); rintro e w3 ⟨a7, c7, rfl, hr7, hb1⟩; have HR7 : Hid (RowOf rI 1 8 All w3 a7 (R * n) c7 (evenL n T)) := Lib.hid (by rw [HT.out]; exact hr7.mono (Rd.int_ok _) fun _ _ _ => trivial); have hb7 := Below.refl w3.heap.size w3; have HB : Below W6.heap.size W6 w3 := Below.next (by ((repeat' (first | with_reducible assumption | with_reducible refine Below.drew ?_)) <;> fail)) hb1 (Nat.le_refl _); clear hb1 hr7)
                | (go_at_call 10; (with_reducible refine (isame_eq (evenL n T) All All b2 a7 T (R * n) d2 c7 _ (HV6.out.p.keep (Rd.int_ok _) (Fix.of_below (by ((repeat' (first | with_reducible assumption | with_reducible refine Below.drew ?_)) <;> fail)))) (HR7.out.keep (Rd.int_ok _) (Fix.of_below (by ((repeat' (first | with_reducible assumption | with_reducible refine Below.drew ?_)) <;> fail))))).mono ?_); rintro e w1 ⟨rfl, hb1⟩; have HB : Below W6.heap.size W6 w1 := Below.next (by ((repeat' (first | with_reducible assumption | with_reducible refine Below.drew ?_)) <;> fail)) hb1 (Nat.le_refl _); clear hb1)
                | (go_at_call 5; (with_reducible refine (live_true _).mono ?_); rintro e w1 ⟨rfl, hb1⟩; have HB : Below W6.heap.size W6 w1 := Below.next (by ((repeat' (first | with_reducible assumption | with_reducible refine Below.drew ?_)) <;> fail)) hb1 (Nat.le_refl _); clear hb1))
              all_goals
                go_wp2_with fail
                go_ret
                exact ⟨rfl, Below.trans HBY.out (Below.mono (HWB.out.trans (Below.mono (by ((repeat' (first | with_reducible assumption | with_reducible refine Below.drew ?_)) <;> fail)) HWB.out.size)) HBY.out.size)⟩
end Go.Proofs.Ytbijacoiblbnfaa
