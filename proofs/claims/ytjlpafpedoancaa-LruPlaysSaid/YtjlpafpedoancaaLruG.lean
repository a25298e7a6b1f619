/- The reference's Del at any key, Front. -/
import Derived.Test.YtjlpafpedoancaaLruD
namespace Go.Proofs.Ytjlpafpedoancaa.Ring
set_option linter.unusedSimpArgs false
set_option linter.unusedVariables false
open Go.RowKit
theorem kv_split {K : List Kv} {k : Int} {x : Kv} (hn : (K.map (·.1)).Nodup) (h : K.find? (fun x => x.1 = k) = some x) :
    ∃ A C, K = A ++ (k, x.2) :: C ∧ k ∉ A.map (·.1) ∧ A ++ C = without K k := by
  obtain ⟨hx, A, C, rfl, hA⟩ := List.find?_eq_some_iff_append.1 h
  simp only [decide_eq_true_eq] at hx
  have ex : x = (k, x.2) := by rw [← hx]
  have hAk : k ∉ A.map (·.1) := fun hm => by
    obtain ⟨y, hy, e1⟩ := List.mem_map.1 hm
    have := hA y hy
    simp [e1] at this
  refine ⟨A, C, by rw [← ex], hAk, ?_⟩
  simp only [List.map_append, List.map_cons, List.nodup_append, List.nodup_cons] at hn
  unfold without
  rw [List.filter_append, List.filter_cons, if_neg (by simp [hx]), List.filter_eq_self.2, List.filter_eq_self.2]
  · intro z hz
    simp only [decide_eq_true_eq]
    exact fun e1 => hn.2.1.1 (by rw [hx, ← e1]; exact List.mem_map_of_mem hz)
  · intro z hz
    simp only [decide_eq_true_eq]
    exact fun e1 => hAk (by rw [← e1]; exact List.mem_map_of_mem hz)
theorem kv_none {K : List Kv} {k : Int} (h : K.find? (fun x => x.1 = k) = none) : k ∉ K.map (·.1) := fun hm => by
  obtain ⟨y, hy, e1⟩ := List.mem_map.1 hm
  rw [List.find?_eq_none] at h
  exact h y hy (by simpa using e1)
theorem kv_without {K : List Kv} {k : Int} (h : K.find? (fun x => x.1 = k) = none) : without K k = K := by
  unfold without
  rw [List.filter_eq_self.2]
  intro z hz
  rw [List.find?_eq_none] at h
  simpa using h z hz
theorem rpeek_any (w : World) (room : Int) (a b : Option Addr) (n c m d : Nat) (K : List Kv) (k : Int) (h : IRow w a n c (K.map (·.1))) (h2 : IRow w b m d (K.map (·.2))) (hK : (K.map (·.1)).Nodup) :
    Calls Try.prog 39 #[.agg #[.int .i64 room, .slice a n c, .slice b m d], .int .i64 k] w fun e w' => e = .returned (.tuple #[.int .i64 (peekS K k).1.2, .bool (peekS K k).2]) ∧ Below w.heap.size w w' := by
  cases hf : K.find? (fun x => x.1 = k) with
  | none => simp only [peekS, hf]; exact rpeek_no w room a b n c m d K k h (kv_none hf)
  | some x =>
    obtain ⟨A, C, hL, hA, _⟩ := kv_split hK hf
    simp only [peekS, hf]
    rw [hL] at h h2
    exact rpeek_yes w room a b n c m d A C k x.2 h h2 hA
theorem rdel_any (w : World) (room : Int) (a b : Option Addr) (n c m d : Nat) (K : List Kv) (k : Int) (h : IRow w a n c (K.map (·.1))) (h2 : IRow w b m d (K.map (·.2))) (hK : (K.map (·.1)).Nodup) (hn : n ≤ 1000000) :
    Calls Try.prog 42 #[.agg #[.int .i64 room, .slice a n c, .slice b m d], .int .i64 k] w fun e w' => ∃ a' c' b' d', e = .returned (.agg #[.int .i64 room, .slice a' (without K k).length c', .slice b' (without K k).length d']) ∧ IRow w' a' (without K k).length c' ((without K k).map (·.1)) ∧ IRow w' b' (without K k).length d' ((without K k).map (·.2)) ∧ Below w.heap.size w w' := by
  have hl := h.len
  have hl2 := h2.len
  simp only [List.length_map] at hl hl2
  obtain rfl : n = m := by omega
  cases hf : K.find? (fun x => x.1 = k) with
  | none =>
    rw [kv_without hf]
    refine (rdel_no w room a b n c n d K k h (kv_none hf)).mono fun e w' ⟨he, hb⟩ => ⟨a, c, b, d, ?_, ?_, ?_, hb⟩
    · rw [he, hl]; rfl
    · rw [hl]; exact h.below hb
    · rw [hl2]; exact h2.below hb
  | some x =>
    obtain ⟨A, C, hL, hA, hw⟩ := kv_split hK hf
    rw [← hw]
    have hlen : (A ++ C).length = n - 1 := by rw [hL] at hl; simp at hl ⊢; omega
    have hlen2 : (A ++ C).length = n - 1 := by rw [hL] at hl2; simp at hl2 ⊢; omega
    rw [hL] at h h2
    refine (rdel_yes w room a b n c n d A C k x.2 h h2 hA hn).mono fun e w' ⟨a', c', b', d', he, hk, hv, hb⟩ => ⟨a', c', b', d', ?_, ?_, ?_, hb⟩
    · rw [he, hlen]
      rw [← hlen2, hlen]
      rfl
    · rw [hlen]; exact hk
    · rw [hlen2]; exact hv
/-- A call's own struct of rows, in the block X; its result's in the next. -/
structure Box (w wx : World) (X : Nat) (room : Int) (a : Option Addr) (n c : Nat) (b : Option Addr) (m d : Nat) (zs ys : List Int) : Prop where
  box : wx.heap[X]? = some (.cells #[.int .i64 room, .slice a n c, .slice b m d] 53 (0, 0))
  res : ∃ x0 x1 x2, wx.heap[X + 1]? = some (.cells #[x0, x1, x2] 53 (0, 0))
  k : IRow wx a n c zs
  v : IRow wx b m d ys
  below : Below X w wx
theorem Box.lt {w wx : World} {X : Nat} {room : Int} {a b : Option Addr} {n c m d : Nat} {zs ys : List Int} (h : Box w wx X room a n c b m d zs ys) : X < wx.heap.size := (Array.getElem?_eq_some_iff.1 h.box).1
theorem Box.lt1 {w wx : World} {X : Nat} {room : Int} {a b : Option Addr} {n c m d : Nat} {zs ys : List Int} (h : Box w wx X room a n c b m d zs ys) : X + 1 < wx.heap.size := by
  obtain ⟨_, _, _, h⟩ := h.res
  exact (Array.getElem?_eq_some_iff.1 h).1
theorem Box.keep {w wx w' : World} {X : Nat} {room : Int} {a b : Option Addr} {n c m d : Nat} {zs ys : List Int} (h : Box w wx X room a n c b m d zs ys) (hb : Below wx.heap.size wx w') : Box w w' X room a n c b m d zs ys := by
  obtain ⟨x0, x1, x2, hx⟩ := h.res
  exact ⟨(hb.block X h.lt).trans h.box, ⟨x0, x1, x2, (hb.block (X + 1) h.lt1).trans hx⟩, h.k.below hb, h.v.below hb, h.below.trans (hb.mono (Nat.le_of_lt h.lt))⟩
theorem Box.cells {w wx : World} {X : Nat} {room : Int} {a b : Option Addr} {n c m d : Nat} {zs ys : List Int} (h : Box w wx X room a n c b m d zs ys) :
    wx.cell? ⟨X, 0, none⟩ = some (.int .i64 room) ∧ wx.cell? ⟨X, 1, none⟩ = some (.slice a n c) ∧ wx.cell? ⟨X, 2, none⟩ = some (.slice b m d) ∧ wx.frozen? ⟨X, 0, none⟩ = false ∧ wx.frozen? ⟨X, 1, none⟩ = false ∧ wx.frozen? ⟨X, 2, none⟩ = false ∧
    ∃ x0 x1 x2, wx.cell? ⟨X + 1, 0, none⟩ = some x0 ∧ wx.cell? ⟨X + 1, 1, none⟩ = some x1 ∧ wx.cell? ⟨X + 1, 2, none⟩ = some x2 ∧ wx.frozen? ⟨X + 1, 0, none⟩ = false ∧ wx.frozen? ⟨X + 1, 1, none⟩ = false ∧ wx.frozen? ⟨X + 1, 2, none⟩ = false := by
  obtain ⟨x0, x1, x2, hx⟩ := h.res
  exact ⟨cell_at h.box rfl, cell_at h.box rfl, cell_at h.box rfl, free_at h.box, free_at h.box, free_at h.box, x0, x1, x2, cell_at hx rfl, cell_at hx rfl, cell_at hx rfl, free_at hx, free_at hx, free_at hx⟩
theorem heap_set_ne {w : World} {b o k : Nat} (v : Value) (h : k ≠ b) : (w.setCell ⟨b, o, none⟩ v).heap[k]? = w.heap[k]? := by
  simp only [World.setCell, Array.getElem?_modify]
  rw [if_neg (fun e => h e.symm)]
theorem Box.setK {w wx : World} {X : Nat} {room : Int} {a b a' : Option Addr} {n c m d n' c' : Nat} {zs ys zs' : List Int} (h : Box w wx X room a n c b m d zs ys) (hk : IRow wx a' n' c' zs') : Box w (wx.setCell ⟨X, 1, none⟩ (.slice a' n' c')) X room a' n' c' b m d zs' ys := by
  obtain ⟨x0, x1, x2, hx⟩ := h.res
  exact ⟨(heap_set_at _ h.box).trans rfl, ⟨x0, x1, x2, (heap_set_ne _ (by omega)).trans hx⟩, hk.set1 h.box (by decide) _ _, h.v.set1 h.box (by decide) _ _, h.below.setCell (Nat.le_refl _) _⟩
theorem Box.setV {w wx : World} {X : Nat} {room : Int} {a b b' : Option Addr} {n c m d m' d' : Nat} {zs ys ys' : List Int} (h : Box w wx X room a n c b m d zs ys) (hv : IRow wx b' m' d' ys') : Box w (wx.setCell ⟨X, 2, none⟩ (.slice b' m' d')) X room a n c b' m' d' zs ys' := by
  obtain ⟨x0, x1, x2, hx⟩ := h.res
  exact ⟨(heap_set_at _ h.box).trans rfl, ⟨x0, x1, x2, (heap_set_ne _ (by omega)).trans hx⟩, h.k.set1 h.box (by decide) _ _, hv.set1 h.box (by decide) _ _, h.below.setCell (Nat.le_refl _) _⟩
theorem Box.set0 {w wx : World} {X : Nat} {room : Int} {a b : Option Addr} {n c m d : Nat} {zs ys : List Int} (h : Box w wx X room a n c b m d zs ys) : Box w (wx.setCell ⟨X, 0, none⟩ (.int .i64 room)) X room a n c b m d zs ys := by
  obtain ⟨x0, x1, x2, hx⟩ := h.res
  exact ⟨(heap_set_at _ h.box).trans rfl, ⟨x0, x1, x2, (heap_set_ne _ (by omega)).trans hx⟩, h.k.set1 h.box (by decide) _ _, h.v.set1 h.box (by decide) _ _, h.below.setCell (Nat.le_refl _) _⟩
theorem Box.setAll {w wx : World} {X : Nat} {room : Int} {a b a' b' : Option Addr} {n c m d n' c' m' d' : Nat} {zs ys zs' ys' : List Int} (h : Box w wx X room a n c b m d zs ys) (hk : IRow wx a' n' c' zs') (hv : IRow wx b' m' d' ys') :
    Box w (((wx.setCell ⟨X, 0, none⟩ (.int .i64 room)).setCell ⟨X, 1, none⟩ (.slice a' n' c')).setCell ⟨X, 2, none⟩ (.slice b' m' d')) X room a' n' c' b' m' d' zs' ys' :=
  (h.set0.setK (hk.set1 h.box (by decide) _ _)).setV ((hv.set1 h.box (by decide) _ _).set1 h.set0.box (by decide) _ _)
/-- A box as the call lays it at its start. -/
theorem Box.start (w : World) (room : Int) {a b : Option Addr} {n c m d : Nat} {zs ys : List Int} (hk : IRow w a n c zs) (hv : IRow w b m d ys) (x0 x1 x2 : Value) :
    Box w ((w.alloc (.cells #[.int .i64 room, .slice a n c, .slice b m d] 53)).alloc (.cells #[x0, x1, x2] 53)) w.heap.size room a n c b m d zs ys := by
  have hb := ((Below.refl w.heap.size w).alloc (Nat.le_refl _) (.cells #[.int .i64 room, .slice a n c, .slice b m d] 53)).alloc (by simp) (.cells #[x0, x1, x2] 53)
  refine ⟨?_, ⟨x0, x1, x2, ?_⟩, hk.below hb, hv.below hb, hb⟩
  · simp only [heap_alloc_iff, World.size_alloc]; rw [if_neg (by omega), if_pos trivial]
  · simp only [heap_alloc_iff, World.size_alloc]; rw [if_pos trivial]
theorem own_one (w : World) (u : Value) : (w.alloc (.cells #[u] 3)).ownsRow w.heap.size 3 1 (.slice (some ⟨w.heap.size, 0, none⟩) 1 1) 1 [u] :=
  ⟨by simp, .inr ⟨w.heap.size, 1, #[u], rfl, Nat.le_refl _, heap_alloc_new w _, by decide, by unfold maxLen; omega, rfl, by simp⟩⟩
theorem app_keep {W w2 : World} {u : Value} (hg : (W.alloc (.cells #[u] 3)).grownBy w2 (some W.heap.size)) : Below W.heap.size W w2 :=
  ((Below.refl W.heap.size W).alloc (Nat.le_refl _) (.cells #[u] 3)).grown hg (by simp) (by intro k9 h9; cases h9; exact Nat.le_refl _)
set_option maxHeartbeats 4000000 in
theorem rfront_any (w : World) (room : Int) (a b : Option Addr) (n c m d : Nat) (K : List Kv) (k v : Int) (h : IRow w a n c (K.map (·.1))) (h2 : IRow w b m d (K.map (·.2))) (hK : (K.map (·.1)).Nodup) (hn : n ≤ 1000000) :
    Calls Try.prog 68 #[.agg #[.int .i64 room, .slice a n c, .slice b m d], .int .i64 k, .int .i64 v] w fun e w' => ∃ a' c' b' d', e = .returned (.agg #[.int .i64 room, .slice a' ((without K k).length + 1) c', .slice b' ((without K k).length + 1) d']) ∧ IRow w' a' ((without K k).length + 1) c' (((k, v) :: without K k).map (·.1)) ∧ IRow w' b' ((without K k).length + 1) d' (((k, v) :: without K k).map (·.2)) ∧ Below w.heap.size w w' := by
  have H0 := Lib.hid (fun x0 x1 x2 => Box.start w room h h2 x0 x1 x2)
  have HD := Lib.hid (show ∀ W, IRow W a n c (K.map (·.1)) → IRow W b m d (K.map (·.2)) → _ from fun W hW hW2 => rdel_any W room a b n c m d K k hW hW2 hK hn)
  have hln : (without K k).length ≤ 1000000 := by
    have := List.length_filter_le (fun x : Kv => decide (x.1 ≠ k)) K
    have := h.len
    simp only [List.length_map] at this
    unfold without
    omega
  clear h h2 hK
  go_enter Try.func68, Try.ntmps68
  go_upto_region 1 with (fail)
  generalize hL : (without K k).length = N at *
  go_cut [] (fun wx => ∃ a' c' b' d', Box w wx w.heap.size room a' N c' b' N d' ((without K k).map (·.1)) ((without K k).map (·.2)))
  case first =>
    go_wp2_with (go_at_call 42; (with_reducible refine (HD.out _ (H0.out _ _ _).k (H0.out _ _ _).v).mono ?_); rintro e w' ⟨a1, c1, b1, d1, rfl, hk, hv, hb⟩; have hB := Lib.hid ((H0.out _ _ _).keep hb); have hk := Lib.hid hk; have hv := Lib.hid hv; clear hb; have ⟨e0, e1, e2, g0, g1, g2, y0, y1, y2, r0, r1, r2, q0, q1, q2⟩ := hB.out.cells)
    go_meet
    exact ⟨a1, c1, b1, d1, hB.out.setAll hk.out hv.out⟩
  case rest =>
    obtain ⟨a1, c1, b1, d1, hB⟩ := hcut
    have ⟨e0, e1, e2, g0, g1, g2, y0, y1, y2, r0, r1, r2, q0, q1, q2⟩ := hB.cells
    have hB := Lib.hid hB
    have lX := hB.out.lt
    go_upto_region 2 with (fail)
    go_cut [] (fun wx => ∃ a' c', Box w wx w.heap.size room a' (N + 1) c' b1 N d1 (((k, v) :: without K k).map (·.1)) ((without K k).map (·.2)))
    case first =>
      go_wp2_with (at_builtin; refine wpl_append rfl _ _ 30 rfl elem _ 1 [.int .i64 k] rfl _ _ _ _ rfl (own_one _ _) (Src.of_row (hB.out.k.below ((Below.refl _ _).alloc (Nat.le_refl _) _)).row) (by unfold maxLen; omega) (by omega) (by simp) ?_; intro v2 w2 hown hg _; obtain ⟨a2, c2, rfl, hr2⟩ := Row.of_owns hown; have hk2 := app_keep hg; have hB2 := Lib.hid (hB.out.keep hk2); have ⟨e0, e1, e2, g0, g1, g2, y0, y1, y2, r0, r1, r2, q0, q1, q2⟩ := hB2.out.cells)
      go_meet
      have hI := IRow.of_own (zs := k :: (without K k).map (·.1)) (by simpa using hown)
      rw [Nat.add_comm 1 N] at hI ⊢
      exact ⟨a2, c2, hB2.out.setK hI⟩
    case rest =>
      obtain ⟨a2, c2, hB⟩ := hcut
      have ⟨e0, e1, e2, g0, g1, g2, y0, y1, y2, r0, r1, r2, q0, q1, q2⟩ := hB.cells
      have hB := Lib.hid hB
      have lX := hB.out.lt
      go_upto_region 3 with (fail)
      go_cut [] (fun wx => ∃ b' d', Box w wx w.heap.size room a2 (N + 1) c2 b' (N + 1) d' (((k, v) :: without K k).map (·.1)) (((k, v) :: without K k).map (·.2)))
      case first =>
        go_wp2_with (at_builtin; refine wpl_append rfl _ _ 30 rfl elem _ 1 [.int .i64 v] rfl _ _ _ _ rfl (own_one _ _) (Src.of_row (hB.out.v.below ((Below.refl _ _).alloc (Nat.le_refl _) _)).row) (by unfold maxLen; omega) (by omega) (by simp) ?_; intro v2 w2 hown hg _; obtain ⟨a3, c3, rfl, hr2⟩ := Row.of_owns hown; have hk2 := app_keep hg; have hB2 := Lib.hid (hB.out.keep hk2); have ⟨e0, e1, e2, g0, g1, g2, y0, y1, y2, r0, r1, r2, q0, q1, q2⟩ := hB2.out.cells)
        go_meet
        have hI := IRow.of_own (zs := v :: (without K k).map (·.2)) (by simpa using hown)
        rw [Nat.add_comm 1 N] at hI ⊢
        exact ⟨a3, c3, hB2.out.setV hI⟩
      case rest =>
        obtain ⟨b2, d2, hB⟩ := hcut
        have ⟨e0, e1, e2, g0, g1, g2, y0, y1, y2, r0, r1, r2, q0, q1, q2⟩ := hB.cells
        have hB := Lib.hid hB
        have lX := hB.out.lt
        go_wp2_with fail
        obtain ⟨x0, x1, x2, hx⟩ := hB.out.res
        exact bodyPost_ret (v := .agg #[.int .i64 room, .slice a2 (N + 1) c2, .slice b2 (N + 1) d2]) (by simp [results, Try.results68, go_sem, r0, r1, r2]) rfl ⟨_, _, _, _, rfl, hB.out.k.set3 hx (by decide) _ _ _ _ _ _, hB.out.v.set3 hx (by decide) _ _ _ _ _ _, ((hB.out.below.setCell (p := ⟨w.heap.size + 1, 0, none⟩) (by simp) _).setCell (p := ⟨w.heap.size + 1, 1, none⟩) (by simp) _).setCell (p := ⟨w.heap.size + 1, 2, none⟩) (by simp) _⟩
end Go.Proofs.Ytjlpafpedoancaa.Ring
