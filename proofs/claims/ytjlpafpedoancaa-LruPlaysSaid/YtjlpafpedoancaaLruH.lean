/- The reference's Get, Put, Is. -/
import Derived.Test.YtjlpafpedoancaaLruG
namespace Go.Proofs.Ytjlpafpedoancaa.Ring
set_option linter.unusedSimpArgs false
set_option linter.unusedVariables false
open Go.RowKit
theorem ris (w : World) (room : Int) : Calls Try.prog 34 #[.int .i64 room] w fun e w' => e = .returned (.bool (decide (1 ≤ room ∧ room ≤ 64))) ∧ w = w' := by
  go_enter Try.func34, Try.ntmps34
  by_cases h1 : 1 ≤ room
  · by_cases h2 : room ≤ 64
    · go_wp2
      go_ret
      simp [h1, h2]
    · go_wp2
      go_ret
      simp [h1, h2]
  · go_wp2
    go_ret
    simp
    omega
theorem IRow.cut {w : World} {b o N c : Nat} {zs : List Int} (h : IRow w (some ⟨b, o, none⟩) (N + 1) c zs) : IRow w (some ⟨b, o, none⟩) N c (zs.take N) := by
  have hl := h.len
  have hle := h.row.le
  obtain ⟨b', o', e1, hlt, hc⟩ := h.row.at_ (by omega)
  cases e1
  refine ⟨⟨by simp; omega, by omega, h.row.max, by simp, fun _ => ⟨b, o, rfl, hlt, fun i u hu => hc i u ?_⟩⟩, fun x hx _ => h.block x hx (by omega)⟩
  rw [← hu]
  have hi := (List.getElem?_eq_some_iff.1 hu).1
  simp only [List.length_map, List.length_take] at hi
  rw [List.getElem?_map, List.getElem?_map, List.getElem?_take, if_pos (by omega)]
theorem IRow.drew {w : World} {a : Option Addr} {n c : Nat} {zs : List Int} (h : IRow w a n c zs) : IRow w.drew a n c zs := h.of_same fun _ _ _ => rfl
set_option maxHeartbeats 4000000 in
theorem rget_any (w : World) (room : Int) (a b : Option Addr) (n c m d : Nat) (K : List Kv) (k : Int) (h : IRow w a n c (K.map (·.1))) (h2 : IRow w b m d (K.map (·.2))) (hK : (K.map (·.1)).Nodup) (hn : n ≤ 1000000) :
    Calls Try.prog 37 #[.agg #[.int .i64 room, .slice a n c, .slice b m d], .int .i64 k] w fun e w' => ∃ a' c' b' d', e = .returned (.tuple #[.agg #[.int .i64 room, .slice a' (getS K k).length c', .slice b' (getS K k).length d'], .int .i64 (peekS K k).1.2, .bool (peekS K k).2]) ∧ IRow w' a' (getS K k).length c' ((getS K k).map (·.1)) ∧ IRow w' b' (getS K k).length d' ((getS K k).map (·.2)) ∧ Below w.heap.size w w' := by
  have H0 := Lib.hid (fun x0 x1 x2 => Box.start w room h h2 x0 x1 x2)
  have HP := Lib.hid (show ∀ W, IRow W a n c (K.map (·.1)) → IRow W b m d (K.map (·.2)) → _ from fun W hW hW2 => rpeek_any W room a b n c m d K k hW hW2 hK)
  have HF := Lib.hid (show ∀ W v, IRow W a n c (K.map (·.1)) → IRow W b m d (K.map (·.2)) → _ from fun W v hW hW2 => rfront_any W room a b n c m d K k v hW hW2 hK hn)
  have hl := h.len
  have hl2 := h2.len
  simp only [List.length_map] at hl hl2
  obtain rfl : n = m := by omega
  clear h h2 hK hl2
  cases hf : K.find? (fun x => x.1 = k) with
  | none =>
    have e9 : peekS K k = ((k, 0), false) := by simp only [peekS, hf]
    have e8 : getS K k = K := by simp only [getS, hf]
    rw [e9] at HP ⊢
    rw [e8, hl]
    clear e9 e8 hf HF hl
    go_enter Try.func37, Try.ntmps37
    go_wp2_with (go_at_call 39; (with_reducible refine (HP.out _ (H0.out _ _ _).k (H0.out _ _ _).v).mono ?_); rintro e w' ⟨rfl, hb⟩; have hB := Lib.hid ((H0.out _ _ _).keep hb); clear hb; have ⟨e0, e1, e2, g0, g1, g2, y0, y1, y2, r0, r1, r2, q0, q1, q2⟩ := hB.out.cells; have lX := hB.out.lt)
    obtain ⟨x0, x1, x2, hx⟩ := hB.out.res
    exact bodyPost_ret (v := .tuple #[.agg #[.int .i64 room, .slice a n c, .slice b n d], .int .i64 0, .bool false]) (by simp [results, Try.results37, go_sem, r0, r1, r2]) rfl ⟨_, _, _, _, rfl, hB.out.k.set3 hx (by decide) _ _ _ _ _ _, hB.out.v.set3 hx (by decide) _ _ _ _ _ _, ((hB.out.below.setCell (p := ⟨w.heap.size + 1, 0, none⟩) (by simp) _).setCell (p := ⟨w.heap.size + 1, 1, none⟩) (by simp) _).setCell (p := ⟨w.heap.size + 1, 2, none⟩) (by simp) _⟩
  | some x =>
    have e9 : peekS K k = ((k, x.2), true) := by simp only [peekS, hf]
    have e8 : getS K k = (k, x.2) :: without K k := by simp only [getS, hf]
    rw [e9] at HP ⊢
    rw [e8]
    clear e9 e8 hf hl
    simp only [List.length_cons]
    go_enter Try.func37, Try.ntmps37
    go_wp2_with (first | (go_at_call 39; (with_reducible refine (HP.out _ (H0.out _ _ _).k (H0.out _ _ _).v).mono ?_); rintro e w' ⟨rfl, hb⟩; have hB := Lib.hid ((H0.out _ _ _).keep hb); clear hb; have ⟨e0, e1, e2, g0, g1, g2, y0, y1, y2, r0, r1, r2, q0, q1, q2⟩ := hB.out.cells; have lX := hB.out.lt) | (go_at_call 68; (with_reducible refine (HF.out _ _ hB.out.k hB.out.v).mono ?_); rintro e w' ⟨a1, c1, b1, d1, rfl, hk, hv, hb⟩; have hB2 := Lib.hid (hB.out.keep hb); have hk := Lib.hid hk; have hv := Lib.hid hv; clear hb; have ⟨e0, e1, e2, g0, g1, g2, y0, y1, y2, r0, r1, r2, q0, q1, q2⟩ := hB2.out.cells))
    have hB3 := hB2.out.setAll hk.out hv.out
    obtain ⟨x0, x1, x2, hx⟩ := hB3.res
    exact bodyPost_ret (v := .tuple #[.agg #[.int .i64 room, .slice a1 ((without K k).length + 1) c1, .slice b1 ((without K k).length + 1) d1], .int .i64 x.2, .bool true]) (by simp [results, Try.results37, go_sem, r0, r1, r2]) rfl ⟨_, _, _, _, rfl, hB3.k.set3 hx (by decide) _ _ _ _ _ _, hB3.v.set3 hx (by decide) _ _ _ _ _ _, ((hB3.below.setCell (p := ⟨w.heap.size + 1, 0, none⟩) (by simp) _).setCell (p := ⟨w.heap.size + 1, 1, none⟩) (by simp) _).setCell (p := ⟨w.heap.size + 1, 2, none⟩) (by simp) _⟩
/-- What Put tells and leaves. -/
def rputS (room : Int) (K : List Kv) (k v : Int) : (Int × Bool) × List Kv :=
  if ((without K k).length : Int) = room then (((((k, v) :: without K k).map (·.2)).getD (without K k).length 0, true), ((k, v) :: without K k).take (without K k).length) else (((peekS K k).1.2, (peekS K k).2), (k, v) :: without K k)
set_option maxHeartbeats 4000000 in
theorem rput_any (w : World) (room : Int) (a b : Option Addr) (n c m d : Nat) (K : List Kv) (k v : Int) (h : IRow w a n c (K.map (·.1))) (h2 : IRow w b m d (K.map (·.2))) (hK : (K.map (·.1)).Nodup) (hn : n ≤ 1000000) :
    Calls Try.prog 40 #[.agg #[.int .i64 room, .slice a n c, .slice b m d], .int .i64 k, .int .i64 v] w fun e w' => ∃ a' c' b' d', e = .returned (.tuple #[.agg #[.int .i64 room, .slice a' (rputS room K k v).2.length c', .slice b' (rputS room K k v).2.length d'], .int .i64 (rputS room K k v).1.1, .bool (rputS room K k v).1.2]) ∧ IRow w' a' (rputS room K k v).2.length c' ((rputS room K k v).2.map (·.1)) ∧ IRow w' b' (rputS room K k v).2.length d' ((rputS room K k v).2.map (·.2)) ∧ Below w.heap.size w w' := by
  have H0 := Lib.hid (fun x0 x1 x2 => Box.start w room h h2 x0 x1 x2)
  have HP := Lib.hid (show ∀ W, IRow W a n c (K.map (·.1)) → IRow W b m d (K.map (·.2)) → _ from fun W hW hW2 => rpeek_any W room a b n c m d K k hW hW2 hK)
  have HF := Lib.hid (show ∀ W v, IRow W a n c (K.map (·.1)) → IRow W b m d (K.map (·.2)) → _ from fun W v hW hW2 => rfront_any W room a b n c m d K k v hW hW2 hK hn)
  have hln : (without K k).length ≤ 1000000 := by
    have := List.length_filter_le (fun x : Kv => decide (x.1 ≠ k)) K
    have := h.len
    simp only [List.length_map] at this
    unfold without
    omega
  have hlen : (((k, v) :: without K k).take (without K k).length).length = (without K k).length := by simp
  clear h h2 hK
  by_cases hr : ((without K k).length : Int) = room
  · simp only [rputS, if_pos hr, hlen]
    generalize hL : (without K k).length = N at *
    have HL := Lib.hid hL
    clear hL hlen
    subst hr
    generalize hq : peekS K k = q at *
    obtain ⟨⟨pk, pv⟩, po⟩ := q
    clear hq
    generalize hz : (((k, v) :: without K k).map (·.2)).getD N 0 = z at *
    have HZ := Lib.hid hz
    clear hz
    have s1 : IntKind.i64.wrap (((N + 1 : Nat) : Int) - 1) = (N : Int) := by
      rw [show ((N + 1 : Nat) : Int) - 1 = N by omega]
      exact IntWalk.i64_in _ (by omega)
    go_enter Try.func40, Try.ntmps40
    go_upto_region 2 with (first | (go_at_call 39; (with_reducible refine (HP.out _ (H0.out _ _ _).k (H0.out _ _ _).v).mono ?_); rintro e w' ⟨rfl, hb⟩; have hB := Lib.hid ((H0.out _ _ _).keep hb); clear hb; have ⟨e0, e1, e2, g0, g1, g2, y0, y1, y2, r0, r1, r2, q0, q1, q2⟩ := hB.out.cells; have lX := hB.out.lt) | fail)
    go_cut [] (fun wx => ∃ a' c' b' d', Box w wx w.heap.size N a' (N + 1) c' b' (N + 1) d' (((k, v) :: without K k).map (·.1)) (((k, v) :: without K k).map (·.2)))
    case first =>
      go_wp2_with (go_at_call 68; (with_reducible refine (HF.out _ _ hB.out.k hB.out.v).mono ?_); rintro e w' ⟨a1, c1, b1, d1, rfl, hk, hv, hb⟩; have hB2 := Lib.hid (hB.out.keep hb); have hk := Lib.hid hk; have hv := Lib.hid hv; clear hb; have ⟨e0, e1, e2, g0, g1, g2, y0, y1, y2, r0, r1, r2, q0, q1, q2⟩ := hB2.out.cells)
      go_meet
      exact ⟨a1, c1, b1, d1, hB2.out.setAll hk.out hv.out⟩
    case rest =>
      obtain ⟨a1, c1, b1, d1, hB⟩ := hcut
      have hlk := hB.k.row.le
      have hlv := hB.v.row.le
      have hmk := hB.k.row.max
      have hmv := hB.v.row.max
      unfold maxLen at hmk hmv
      obtain ⟨j0, o0, rfl, hc⟩ := hB.v.row.int N (by omega)
      obtain ⟨j1, o1, rfl, -⟩ := hB.k.row.at_ (by omega)
      rw [HZ.out] at hc
      clear r0 r1 r2 q0 q1 q2 e0 e1 e2 g0 g1 g2 lX
      have ⟨e0, e1, e2, g0, g1, g2, y0, y1, y2, r0, r1, r2, q0, q1, q2⟩ := hB.cells
      have hB := Lib.hid hB
      have lX := hB.out.lt
      go_upto_region 6 with (fail)
      go_region
      all_goals go_wp2_with fail
      have hB4 := (hB.out.setK hB.out.k.cut).setV (hB.out.v.cut.set1 hB.out.box (by decide) _ _)
      obtain ⟨x0, x1, x2, hx⟩ := hB4.res
      refine bodyPost_ret (v := .tuple #[.agg #[.int .i64 N, .slice (some ⟨j1, o1, none⟩) N c1, .slice (some ⟨j0, o0, none⟩) N d1], .int .i64 z, .bool true]) (by simp [results, Try.results40, go_sem, r0, r1, r2]) rfl ⟨_, _, _, _, rfl, ?_, ?_, ?_⟩
      · exact (by simpa using hB4.k.set3 hx (by decide) _ _ _ _ _ _ : IRow _ _ _ _ _).drew
      · exact (by simpa using hB4.v.set3 hx (by decide) _ _ _ _ _ _ : IRow _ _ _ _ _).drew
      · exact (((hB4.below.setCell (p := ⟨w.heap.size + 1, 0, none⟩) (by simp) _).setCell (p := ⟨w.heap.size + 1, 1, none⟩) (by simp) _).setCell (p := ⟨w.heap.size + 1, 2, none⟩) (by simp) _).drew
  · simp only [rputS, if_neg hr, List.length_cons]
    clear hlen
    generalize hL : (without K k).length = N at *
    generalize hq : peekS K k = q at *
    obtain ⟨⟨pk, pv⟩, po⟩ := q
    have HL := Lib.hid hL
    clear hL hq
    have s1 : IntKind.i64.wrap (((N + 1 : Nat) : Int) - 1) = (N : Int) := by
      rw [show ((N + 1 : Nat) : Int) - 1 = N by omega]
      exact IntWalk.i64_in _ (by omega)
    have t1 : ((N : Int) == room) = false := beq_eq_false_iff_ne.2 hr
    go_enter Try.func40, Try.ntmps40
    go_wp2_with (first | (go_at_call 39; (with_reducible refine (HP.out _ (H0.out _ _ _).k (H0.out _ _ _).v).mono ?_); rintro e w' ⟨rfl, hb⟩; have hB := Lib.hid ((H0.out _ _ _).keep hb); clear hb; have ⟨e0, e1, e2, g0, g1, g2, y0, y1, y2, r0, r1, r2, q0, q1, q2⟩ := hB.out.cells; have lX := hB.out.lt) | (go_at_call 68; (with_reducible refine (HF.out _ _ hB.out.k hB.out.v).mono ?_); rintro e w' ⟨a1, c1, b1, d1, rfl, hk, hv, hb⟩; have hB2 := Lib.hid (hB.out.keep hb); have hk := Lib.hid hk; have hv := Lib.hid hv; clear hb; have ⟨e0, e1, e2, g0, g1, g2, y0, y1, y2, r0, r1, r2, q0, q1, q2⟩ := hB2.out.cells))
    have hB3 := hB2.out.setAll hk.out hv.out
    obtain ⟨x0, x1, x2, hx⟩ := hB3.res
    exact bodyPost_ret (v := .tuple #[.agg #[.int .i64 room, .slice a1 (N + 1) c1, .slice b1 (N + 1) d1], .int .i64 pv, .bool po]) (by simp [results, Try.results40, go_sem, r0, r1, r2]) rfl ⟨_, _, _, _, rfl, hB3.k.set3 hx (by decide) _ _ _ _ _ _, hB3.v.set3 hx (by decide) _ _ _ _ _ _, ((hB3.below.setCell (p := ⟨w.heap.size + 1, 0, none⟩) (by simp) _).setCell (p := ⟨w.heap.size + 1, 1, none⟩) (by simp) _).setCell (p := ⟨w.heap.size + 1, 2, none⟩) (by simp) _⟩
end Go.Proofs.Ytjlpafpedoancaa.Ring
