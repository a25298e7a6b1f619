/- Calls and scripts read out of memory; two scripts' clients compared. -/
import Derived.Test.YtbijacoiblbnfaaSlimA
import Derived.Deep.RegionHeld3
import Derived.Deep.DeepCutAuto
namespace Go.Proofs.Ytbijacoiblbnfaa
open Go.RowKit
set_option linter.unusedSimpArgs false
set_option linter.unusedVariables false
/-- A call, as memory shows it: kind, key, text, of, x. -/
abbrev CallV := Int × (Int × Int) × ByteArray × (Int × Int) × List Int
abbrev rI : Rd Int := Rd.int .i64
abbrev callRd : Rd CallV := .pair rI (.pair (.pair rI rI) (.pair .str (.pair (.pair rI rI) (.slice (.int .u64) 1 8))))
theorem callRd_ok : callRd.Ok 7 := Rd.pair_ok (Rd.int_ok _) (Rd.pair_ok (Rd.pair_ok (Rd.int_ok _) (Rd.int_ok _)) (Rd.pair_ok Rd.str_ok (Rd.pair_ok (Rd.pair_ok (Rd.int_ok _) (Rd.int_ok _)) (Rd.slice_ok (Rd.int_ok _) 8))))
abbrev rowsRd : Rd (List CallV) := .slice callRd 7 80
theorem rowsRd_ok : rowsRd.Ok 1 := Rd.slice_ok callRd_ok 80
def callCells (c : CallV) (a : Option Addr) (n cap : Nat) : List Value := [.int .i64 c.1, .int .i64 c.2.1.1, .int .i64 c.2.1.2, .string c.2.2.1, .int .i64 c.2.2.2.1.1, .int .i64 c.2.2.2.1.2, .slice a n cap]
structure CallWf (c : CallV) : Prop where
  kind : (Lit.int .i64 c.1).wf = true
  n : (Lit.int .i64 c.2.1.1).wf = true
  dir : (Lit.int .i64 c.2.1.2).wf = true
  text : c.2.2.1.size ≤ 140737488351232
  who : (Lit.int .i64 c.2.2.2.1.1).wf = true
  at_ : (Lit.int .i64 c.2.2.2.1.2).wf = true
theorem callRd_cells {F : Foot} {w : World} {cs : List Value} {c : CallV} (h : callRd F w cs c) : CallWf c ∧ ∃ a n cap, cs = callCells c a n cap ∧ RowOf (Rd.int .u64) 1 8 F w a n cap c.2.2.2.2 := by
  obtain ⟨_, _, rfl, ⟨rfl, w1⟩, _, _, rfl, ⟨_, _, rfl, ⟨rfl, w2⟩, rfl, w3⟩, _, _, rfl, ⟨rfl, w4⟩, _, _, rfl, ⟨_, _, rfl, ⟨rfl, w5⟩, rfl, w6⟩, a, n, cap, rfl, hr⟩ := h
  exact ⟨⟨w1, w2, w3, w4, w5, w6⟩, a, n, cap, rfl, hr⟩
theorem callRd_mk {F : Foot} {w : World} {c : CallV} {a : Option Addr} {n cap : Nat} (hw : CallWf c) (h : RowOf (Rd.int .u64) 1 8 F w a n cap c.2.2.2.2) : callRd F w (callCells c a n cap) c :=
  ⟨[_], _, rfl, ⟨rfl, hw.kind⟩, [_, _], _, rfl, ⟨[_], [_], rfl, ⟨rfl, hw.n⟩, rfl, hw.dir⟩, [_], _, rfl, ⟨rfl, hw.text⟩, [_, _], [_], rfl, ⟨[_], [_], rfl, ⟨rfl, hw.who⟩, rfl, hw.at_⟩, a, n, cap, rfl, h⟩
/-- An element of a row of calls. -/
theorem RowOf.call {F : Foot} {w : World} {a : Option Addr} {n cap : Nat} {l : List CallV} (h : RowOf callRd 7 80 F w a n cap l) (i : Nat) (hi : i < l.length) :
    CallWf (l[i]'hi) ∧ ∃ b off ax nx cx, a = some ⟨b, off, none⟩ ∧ b < w.heap.size ∧ F b ∧ RowOf (Rd.int .u64) 1 8 F w ax nx cx (l[i]'hi).2.2.2.2 ∧
      w.cell? ⟨b, off + i * 7, none⟩ = some (.int .i64 (l[i]'hi).1) ∧ w.cell? ⟨b, off + i * 7 + 1, none⟩ = some (.int .i64 (l[i]'hi).2.1.1) ∧ w.cell? ⟨b, off + i * 7 + 2, none⟩ = some (.int .i64 (l[i]'hi).2.1.2) ∧
      w.cell? ⟨b, off + i * 7 + 3, none⟩ = some (.string (l[i]'hi).2.2.1) ∧ w.cell? ⟨b, off + i * 7 + 4, none⟩ = some (.int .i64 (l[i]'hi).2.2.2.1.1) ∧ w.cell? ⟨b, off + i * 7 + 5, none⟩ = some (.int .i64 (l[i]'hi).2.2.2.1.2) ∧
      w.cell? ⟨b, off + i * 7 + 6, none⟩ = some (.slice ax nx cx) := by
  obtain ⟨b, off, cs, h1, h2, hf, _, h4, h5⟩ := h.at_ i _ (List.getElem?_eq_getElem hi)
  obtain ⟨hw, ax, nx, cx, rfl, hr⟩ := callRd_cells h5
  exact ⟨hw, b, off, ax, nx, cx, h1, h2, hf, hr, h4 0 _ rfl, h4 1 _ rfl, h4 2 _ rfl, h4 3 _ rfl, h4 4 _ rfl, h4 5 _ rfl, h4 6 _ rfl⟩
/-- An element of a row of slices. -/
theorem RowOf.row {α : Type} {r : Rd α} {size bytes : Nat} {F : Foot} {w : World} {a : Option Addr} {n cap : Nat} {L : List (List α)} (h : RowOf (Rd.slice r size bytes) 1 24 F w a n cap L) (i : Nat) (hi : i < L.length) :
    ∃ b off ax nx cx, a = some ⟨b, off, none⟩ ∧ b < w.heap.size ∧ F b ∧ w.cell? ⟨b, off + i, none⟩ = some (.slice ax nx cx) ∧ RowOf r size bytes F w ax nx cx (L[i]'hi) := by
  obtain ⟨b, off, cs, h1, h2, hf, _, h4, ax, nx, cx, rfl, hr⟩ := h.at_ i _ (List.getElem?_eq_getElem hi)
  exact ⟨b, off, ax, nx, cx, h1, h2, hf, by simpa using h4 0 _ rfl, hr⟩
set_option maxRecDepth 100000 in
set_option maxHeartbeats 16000000 in
theorem clients_yes (st rm : Int) (F G : Foot) (aC aD aT aU aP aQ : Option Addr) (n m cC cD cT cU nP nQ cP cQ : Nat) (L : List (List CallV)) (ts : List Int) (w : World)
    (hC : RowOf rowsRd 1 24 F w aC n cC L) (hD : RowOf rowsRd 1 24 G w aD n cD L) (hT : RowOf rI 1 8 F w aT m cT ts) (hU : RowOf rI 1 8 G w aU m cU ts) :
    Calls Try.prog 8 #[.agg #[.int .i64 st, .int .i64 rm, .slice aC n cC, .slice aP nP cP, .slice aT m cT], .agg #[.int .i64 st, .int .i64 rm, .slice aD n cD, .slice aQ nQ cQ, .slice aU m cU]] w fun e w' => e = .returned (.bool true) ∧ Below w.heap.size w w' := by
  have hn := room64 hC.room (by omega)
  have hm := room64 hT.room (by omega)
  have HL := Lib.hid hC.len
  have HTL := Lib.hid hT.len
  obtain ⟨W0, hW0⟩ : ∃ W0, W0 = (w.alloc (.cells #[.int .i64 st, .int .i64 rm, .slice aC n cC, .slice aP nP cP, .slice aT m cT] 30)).alloc (.cells #[.int .i64 st, .int .i64 rm, .slice aD n cD, .slice aQ nQ cQ, .slice aU m cU] 30) := ⟨_, rfl⟩
  have hb0 : Below w.heap.size w W0 := by rw [hW0]; exact ((Below.refl _ _).alloc (Nat.le_refl _) _).alloc (by simp) _
  have hz : W0.heap.size = w.heap.size + 1 + 1 := by rw [hW0]; simp
  have g0 : W0.heap[w.heap.size]? = some (.cells #[.int .i64 st, .int .i64 rm, .slice aC n cC, .slice aP nP cP, .slice aT m cT] 30 (0, 0)) := by
    rw [hW0, Lib.alloc_old _ _ _ (by simp)]
    exact heap_alloc_new w _
  have g1 : W0.heap[w.heap.size + 1]? = some (.cells #[.int .i64 st, .int .i64 rm, .slice aD n cD, .slice aQ nQ cQ, .slice aU m cU] 30 (0, 0)) := by
    rw [hW0]
    have := heap_alloc_new (w.alloc (.cells #[.int .i64 st, .int .i64 rm, .slice aC n cC, .slice aP nP cP, .slice aT m cT] 30)) (.cells #[.int .i64 st, .int .i64 rm, .slice aD n cD, .slice aQ nQ cQ, .slice aU m cU] 30)
    simpa using this
  have c02 := cell_at (o := 2) g0 rfl
  have c04 := cell_at (o := 4) g0 rfl
  have c12 := cell_at (o := 2) g1 rfl
  have c14 := cell_at (o := 4) g1 rfl
  have HC := Lib.hid (hC.keep rowsRd_ok (Fix.of_below hb0))
  have HD := Lib.hid (hD.keep rowsRd_ok (Fix.of_below hb0))
  have HT := Lib.hid (hT.keep (Rd.int_ok _) (Fix.of_below hb0))
  have HU := Lib.hid (hU.keep (Rd.int_ok _) (Fix.of_below hb0))
  have HB0 := Lib.hid hb0
  have HC02 := Lib.hid c02
  have HC12 := Lib.hid c12
  have HZ := Lib.hid hz
  clear hC hD hT hU hb0 g0 g1 hz
  go_enter Try.func8, Try.ntmps8
  go_wp2_with fail
  rw [← hW0]
  clear hW0
  go_loopg [5] m (fun g iv wr => ∃ k d : Nat, k ≤ m ∧ g = m - k ∧ iv = .int .i64 k ∧ wr = W0.drewN d)
  case atStart => exact ⟨0, 0, Nat.zero_le _, rfl, rfl, rfl⟩
  case round =>
    obtain ⟨k, d, hk, rfl, rfl, rfl⟩ := hrel
    by_cases hlt : k < m
    · obtain ⟨g1, o1, rfl, _, _, d1, _⟩ := HT.out.int k (by have := HTL.out; omega)
      obtain ⟨g2, o2, rfl, _, _, d2, _⟩ := HU.out.int k (by have := HTL.out; omega)
      generalize ts[k]'_ = z at *
      go_wp2_with fail
      go_quiet (fail)
      go_wp2_with fail
      go_roundg (m - (k + 1))
      case measure => omega
      case rel => exact ⟨k + 1, _, by omega, rfl, by go_num, rfl⟩
    · go_wp2_with fail
      go_loopg [6] n (fun g iv wr => ∃ i : Nat, i ≤ n ∧ g = n - i ∧ iv = .int .i64 i ∧ Below W0.heap.size W0 wr)
      case atStart => exact ⟨0, by omega, rfl, rfl, below_drewN (Below.refl _ _) _⟩
      case round =>
        obtain ⟨i, hi, rfl, rfl, hbo⟩ := hrel
        obtain ⟨wo, rfl⟩ : ∃ wo : World, wo = wr := ⟨_, rfl⟩
        have HBO := Lib.hid hbo
        have b0 : wo.cell? ⟨w.heap.size, 2, none⟩ = _ := (hbo.cell (p := ⟨w.heap.size, 2, none⟩) (by have := HZ.out; show w.heap.size < _; omega)).trans HC02.out
        have b1 : wo.cell? ⟨w.heap.size + 1, 2, none⟩ = _ := (hbo.cell (p := ⟨w.heap.size + 1, 2, none⟩) (by have := HZ.out; show w.heap.size + 1 < _; omega)).trans HC12.out
        clear c02 c04 c12 c14 hbo
        by_cases hli : i < n
        · obtain ⟨g1, o1, ax, nx, cx', rfl, lg1, _, e1', hx⟩ := HC.out.row i (by have := HL.out; omega)
          obtain ⟨g2, o2, ay, ny, cy, rfl, lg2, _, e2', hy⟩ := HD.out.row i (by have := HL.out; omega)
          obtain rfl : nx = ny := by rw [← hx.len, ← hy.len]
          have e1 := (HBO.out.cell (p := ⟨g1, o1 + i, none⟩) lg1).trans e1'
          have e2 := (HBO.out.cell (p := ⟨g2, o2 + i, none⟩) lg2).trans e2'
          have hnx := room64 hx.room (by omega)
          have HX := Lib.hid hx
          have HY := Lib.hid hy
          have HLL := Lib.hid hx.len
          clear hx hy
          generalize L[i]'_ = l at *
          go_wp2_with fail
          go_quiet (fail)
          go_wp2_with fail
          go_loopg [7] nx (fun g kv wr => ∃ k : Nat, k ≤ nx ∧ g = nx - k ∧ kv = .int .i64 k ∧ Below W0.heap.size W0 wr)
          case atStart => exact ⟨0, by omega, rfl, rfl, below_drewN HBO.out _⟩
          case round =>
            obtain ⟨j, hj, rfl, rfl, hbk⟩ := hrel
            obtain ⟨wk, rfl⟩ : ∃ wk : World, wk = wr := ⟨_, rfl⟩
            have HBK := Lib.hid hbk
            have k0 : wk.cell? ⟨w.heap.size, 2, none⟩ = _ := (hbk.cell (p := ⟨w.heap.size, 2, none⟩) (by have := HZ.out; show w.heap.size < _; omega)).trans HC02.out
            have k1 : wk.cell? ⟨w.heap.size + 1, 2, none⟩ = _ := (hbk.cell (p := ⟨w.heap.size + 1, 2, none⟩) (by have := HZ.out; show w.heap.size + 1 < _; omega)).trans HC12.out
            have e1k := (hbk.cell (p := ⟨g1, o1 + i, none⟩) lg1).trans e1'
            have e2k := (hbk.cell (p := ⟨g2, o2 + i, none⟩) lg2).trans e2'
            clear e1 e2 b0 b1
            by_cases hlj : j < nx
            · obtain ⟨_, g3, o3, a3, n3, x3, rfl, lg3, _, r3, p0, p1, p2, p3, p4, p5, p6⟩ := (HX.out.keep callRd_ok (Fix.of_below hbk)).call j (by have := HLL.out; omega)
              obtain ⟨_, g4, o4, a4, n4, x4, rfl, lg4, _, r4, q0, q1, q2, q3, q4, q5, q6⟩ := (HY.out.keep callRd_ok (Fix.of_below hbk)).call j (by have := HLL.out; omega)
              obtain rfl : n3 = n4 := by rw [← r3.len, ← r4.len]
              have R3 := Lib.hid r3
              have R4 := Lib.hid r4
              generalize l[j]'_ = c at *
              obtain ⟨ck, ⟨cn, cd⟩, ct, ⟨cw, ca⟩, cx⟩ := c
              simp only at p0 p1 p2 p3 p4 p5 p6 q0 q1 q2 q3 q4 q5 q6
              clear hbk r3 r4
              go_wp2_with fail
              have HS : Hid (∀ W, Below wk.heap.size wk W → W.cell? ⟨w.heap.size, 2, none⟩ = some (.slice (some ⟨g1, o1, none⟩) n cC) ∧ W.cell? ⟨w.heap.size + 1, 2, none⟩ = some (.slice (some ⟨g2, o2, none⟩) n cD) ∧ W.cell? ⟨g1, o1 + i, none⟩ = some (.slice (some ⟨g3, o3, none⟩) nx cx') ∧ W.cell? ⟨g2, o2 + i, none⟩ = some (.slice (some ⟨g4, o4, none⟩) nx cy) ∧ W.cell? ⟨g3, o3 + j * 7, none⟩ = some (.int .i64 ck) ∧ W.cell? ⟨g3, o3 + j * 7 + 1, none⟩ = some (.int .i64 cn) ∧ W.cell? ⟨g3, o3 + j * 7 + 2, none⟩ = some (.int .i64 cd) ∧ W.cell? ⟨g3, o3 + j * 7 + 3, none⟩ = some (.string ct) ∧ W.cell? ⟨g3, o3 + j * 7 + 4, none⟩ = some (.int .i64 cw) ∧ W.cell? ⟨g3, o3 + j * 7 + 5, none⟩ = some (.int .i64 ca) ∧ W.cell? ⟨g3, o3 + j * 7 + 6, none⟩ = some (.slice a3 n3 x3) ∧ W.cell? ⟨g4, o4 + j * 7, none⟩ = some (.int .i64 ck) ∧ W.cell? ⟨g4, o4 + j * 7 + 1, none⟩ = some (.int .i64 cn) ∧ W.cell? ⟨g4, o4 + j * 7 + 2, none⟩ = some (.int .i64 cd) ∧ W.cell? ⟨g4, o4 + j * 7 + 3, none⟩ = some (.string ct) ∧ W.cell? ⟨g4, o4 + j * 7 + 4, none⟩ = some (.int .i64 cw) ∧ W.cell? ⟨g4, o4 + j * 7 + 5, none⟩ = some (.int .i64 ca) ∧ W.cell? ⟨g4, o4 + j * 7 + 6, none⟩ = some (.slice a4 n3 x4)) := Lib.hid fun W hb => by
                have e : ∀ g o, g < wk.heap.size → W.cell? ⟨g, o, none⟩ = wk.cell? ⟨g, o, none⟩ := fun g o h => hb.cell (p := ⟨g, o, none⟩) h
                have z1 : w.heap.size < wk.heap.size := by have := HZ.out; have := HBK.out.size; omega
                have z2 : w.heap.size + 1 < wk.heap.size := by have := HZ.out; have := HBK.out.size; omega
                have z3 : g1 < wk.heap.size := Nat.lt_of_lt_of_le lg1 HBK.out.size
                have z4 : g2 < wk.heap.size := Nat.lt_of_lt_of_le lg2 HBK.out.size
                simp only [e _ _ z1, e _ _ z2, e _ _ z3, e _ _ z4, e _ _ lg3, e _ _ lg4]
                exact ⟨k0, k1, e1k, e2k, p0, p1, p2, p3, p4, p5, p6, q0, q1, q2, q3, q4, q5, q6⟩
              go_region_held3 (fun W => W.cell? ⟨w.heap.size, 2, none⟩ = some (.slice (some ⟨g1, o1, none⟩) n cC) ∧ W.cell? ⟨w.heap.size + 1, 2, none⟩ = some (.slice (some ⟨g2, o2, none⟩) n cD) ∧ W.cell? ⟨g1, o1 + i, none⟩ = some (.slice (some ⟨g3, o3, none⟩) nx cx') ∧ W.cell? ⟨g2, o2 + i, none⟩ = some (.slice (some ⟨g4, o4, none⟩) nx cy) ∧ W.cell? ⟨g3, o3 + j * 7, none⟩ = some (.int .i64 ck) ∧ W.cell? ⟨g3, o3 + j * 7 + 1, none⟩ = some (.int .i64 cn) ∧ W.cell? ⟨g3, o3 + j * 7 + 2, none⟩ = some (.int .i64 cd) ∧ W.cell? ⟨g3, o3 + j * 7 + 3, none⟩ = some (.string ct) ∧ W.cell? ⟨g3, o3 + j * 7 + 4, none⟩ = some (.int .i64 cw) ∧ W.cell? ⟨g3, o3 + j * 7 + 5, none⟩ = some (.int .i64 ca) ∧ W.cell? ⟨g3, o3 + j * 7 + 6, none⟩ = some (.slice a3 n3 x3) ∧ W.cell? ⟨g4, o4 + j * 7, none⟩ = some (.int .i64 ck) ∧ W.cell? ⟨g4, o4 + j * 7 + 1, none⟩ = some (.int .i64 cn) ∧ W.cell? ⟨g4, o4 + j * 7 + 2, none⟩ = some (.int .i64 cd) ∧ W.cell? ⟨g4, o4 + j * 7 + 3, none⟩ = some (.string ct) ∧ W.cell? ⟨g4, o4 + j * 7 + 4, none⟩ = some (.int .i64 cw) ∧ W.cell? ⟨g4, o4 + j * 7 + 5, none⟩ = some (.int .i64 ca) ∧ W.cell? ⟨g4, o4 + j * 7 + 6, none⟩ = some (.slice a4 n3 x4)) (first | go_keep | exact HS.out _ HW2.out)
                ((go_at_call 23; refine (one_yes ck cn cd ct cw ca cx F G a3 a4 n3 x3 x4 _ (R3.out.keep (Rd.int_ok _) (Fix.drew _ _)) (R4.out.keep (Rd.int_ok _) (Fix.drew _ _))).mono ?_; rintro e w2 ⟨rfl, hb2⟩; have HW2 := Lib.hid (show Below wk.heap.size wk w2 from (Below.refl _ _).drew.trans hb2); clear hb2))
              clear k0 k1 e1k e2k p0 p1 p2 p3 p4 p5 p6 q0 q1 q2 q3 q4 q5 q6
              go_wp2_with fail
              go_roundg (nx - (j + 1))
              case measure => omega
              case rel => exact ⟨j + 1, by omega, rfl, by go_num, HBK.out.trans (HW2.out.mono HBK.out.size)⟩
            · clear hbk
              go_wp2_with fail
              go_roundg (n - (i + 1))
              case measure => omega
              case rel => exact ⟨i + 1, by omega, rfl, by go_num, HBK.out⟩
        · go_wp2_with fail
          go_ret
          exact ⟨rfl, HB0.out.trans (HBO.out.mono (by have := HZ.out; omega))⟩
end Go.Proofs.Ytbijacoiblbnfaa
