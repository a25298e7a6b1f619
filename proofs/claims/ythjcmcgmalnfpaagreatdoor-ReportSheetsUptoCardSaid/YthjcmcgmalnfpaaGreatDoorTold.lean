/- What a call told, as a text: report.Told. -/
import Derived.Test.YthjcmcgmalnfpaaGreatDoorWordE
import Derived.Test.YthjcmcgmalnfpaaGreatDoorGold
import Derived.Test.YthjcmcgmalnfpaaGreatDoorPrint23
import Derived.Test.YthjcmcgmalnfpaaGreatDoorOpV
import Derived.Deep.RegionHeld3
namespace Go.Proofs.YthjcmcgmalnfpaaGreatDoor.Lex
open Go.RowKit
set_option linter.unusedSimpArgs false
set_option linter.unusedVariables false
mutual
theorem textD_allok : ∀ {d : DescV} {t : List UInt8}, textD d = some t → d.heads.all okH = true
  | .mk k n l, t, h => by
    rw [textD] at h
    split at h
    · next hok =>
      obtain ⟨ts, hts, _⟩ := Option.map_eq_some_iff.1 h
      rw [DescV.heads, List.all_cons, hok, textsD_allok hts]
      rfl
    · cases h
theorem textsD_allok : ∀ {l : List DescV} {ts : List (List UInt8)}, textsD l = some ts → (DescV.headsL l).all okH = true
  | [], _, _ => rfl
  | d :: l, ts, h => by
    rw [textsD] at h
    cases ht : textD d with
    | none => rw [ht] at h; cases h
    | some t =>
      rw [ht] at h
      obtain ⟨r, hr, _⟩ := Option.map_eq_some_iff.1 h
      rw [DescV.headsL, List.all_append, textD_allok ht, textsD_allok hr]
      rfl
end
mutual
theorem textD_all : ∀ (d : DescV), d.heads.all okH = true → ∃ t, textD d = some t
  | .mk k n l, h => by
    rw [DescV.heads, List.all_cons, Bool.and_eq_true] at h
    obtain ⟨ts, hts⟩ := textsD_all l h.2
    rw [textD, if_pos h.1, hts]
    exact ⟨_, rfl⟩
theorem textsD_all : ∀ (l : List DescV), (DescV.headsL l).all okH = true → ∃ ts, textsD l = some ts
  | [], _ => ⟨[], rfl⟩
  | d :: l, h => by
    rw [DescV.headsL, List.all_append, Bool.and_eq_true] at h
    obtain ⟨t, ht⟩ := textD_all d h.1
    obtain ⟨ts, hts⟩ := textsD_all l h.2
    rw [textsD, ht, hts]
    exact ⟨_, rfl⟩
end
/-- A tree's text; none: a question mark. -/
def descT (d : DescV) : List UInt8 := if bigD d = true then [63] else match textD d with | none => [63] | some t => t
/-- What was told, as a text. -/
def toldL (kind e : Int) (d : DescV) (n li tl : Int) (ys : List Nat) : List UInt8 :=
  if e ≠ 0 then (if kind = 4 then errW e ++ [32] ++ Lib.itoa li else errW e)
  else if kind = 1 ∨ kind = 2 then errW e ++ [32] ++ descT d
  else if kind = 3 ∨ kind = 4 then errW e ++ [32] ++ Lib.itoa n
  else if kind = 5 then errW e ++ [32] ++ Lib.itoa tl
  else if kind = 6 then errW e ++ [32] ++ Lib.itoa ys.length ++ [32] ++ Lib.decDigits (sumF ys)
  else errW e
theorem descT_len {d : DescV} (h : d.nodes ≤ 1048576) : (descT d).length ≤ 20971520 := by
  unfold descT
  split
  · simp
  · cases ht : textD d with
    | none => simp
    | some t => have := textD_len ht; show t.length ≤ _; omega
theorem put_at (l : List Part) (cs : Array Value) (hcs : cs.toList = l.map Part.cell) (W W' : World) (T : TypeId) (hb : Below W.heap.size W W') (hc : W'.heap = (W.alloc (.cells cs T)).heap) (hok : ∀ p ∈ l, p.Ok) (hn : l.length ≤ 1024) (ht : HasTab W) :
    Calls Tryz.prog 15 #[.slice (some ⟨W.heap.size, 0, none⟩) l.length l.length] W' fun e w' => e = .returned (.string (bs (partsT l))) ∧ Below W.heap.size W w' := by
  refine (put_any l _ _ _ (fun i p hp => ⟨W.heap.size, rfl, by rw [hc]; simp, ?_⟩) hok hn (ht.below hb)).mono fun e w' h => ⟨h.1, hb.trans (h.2.mono hb.size)⟩
  have hx : cs[i]? = some p.cell := by rw [← Array.getElem?_toList, hcs, List.getElem?_map, hp]; rfl
  exact cell_at (e := T) (f := (0, 0)) (by rw [hc]; exact heap_alloc_new W _) hx
theorem put_new (l : List Part) (cs : Array Value) (hcs : cs.toList = l.map Part.cell) (W : World) (T : TypeId) (hok : ∀ p ∈ l, p.Ok) (hn : l.length ≤ 1024) (ht : HasTab W) :
    Calls Tryz.prog 15 #[.slice (some ⟨W.heap.size, 0, none⟩) l.length l.length] (W.alloc (.cells cs T)) fun e w' => e = .returned (.string (bs (partsT l))) ∧ Below W.heap.size W w' :=
  put_at l cs hcs W _ T ((Below.refl _ _).alloc (Nat.le_refl _) _) rfl hok hn ht
theorem put_newD (l : List Part) (cs : Array Value) (hcs : cs.toList = l.map Part.cell) (W : World) (T : TypeId) (hok : ∀ p ∈ l, p.Ok) (hn : l.length ≤ 1024) (ht : HasTab W) :
    Calls Tryz.prog 15 #[.slice (some ⟨W.heap.size, 0, none⟩) l.length l.length] (W.alloc (.cells cs T)).drew fun e w' => e = .returned (.string (bs (partsT l))) ∧ Below W.heap.size W w' :=
  put_at l cs hcs W _ T ((Below.refl _ _).alloc (Nat.le_refl _) _).drew rfl hok hn ht
theorem put_sn (x : List UInt8) (n : Int) (W : World) (hx : x.length ≤ 1073741824) (hn : InI n) (ht : HasTab W) :
    Calls Tryz.prog 15 #[.slice (some ⟨W.heap.size, 0, none⟩) 3 3] (W.alloc (.cells #[.iface 9 (.string (bs x)), .iface 9 (.string ⟨#[32]⟩), .iface 3 (.int .i64 n)] 20)) fun e w' => e = .returned (.string (bs (x ++ [32] ++ Lib.itoa n))) ∧ Below W.heap.size W w' := by
  have h := put_new [.s x, .s [32], .i n] #[.iface 9 (.string (bs x)), .iface 9 (.string ⟨#[32]⟩), .iface 3 (.int .i64 n)] rfl W 20 (fun p hp => by
    simp only [List.mem_cons, List.not_mem_nil, or_false] at hp
    rcases hp with rfl | rfl | rfl
    · exact hx
    · show 1 ≤ _; omega
    · exact hn) (by simp) ht
  rw [show partsT [.s x, .s [32], .i n] = x ++ [32] ++ Lib.itoa n by simp [partsT, Part.text]] at h
  exact h
theorem put_ss (x y : List UInt8) (W : World) (hx : x.length ≤ 1073741824) (hy : y.length ≤ 1073741824) (ht : HasTab W) :
    Calls Tryz.prog 15 #[.slice (some ⟨W.heap.size, 0, none⟩) 3 3] (W.alloc (.cells #[.iface 9 (.string (bs x)), .iface 9 (.string ⟨#[32]⟩), .iface 9 (.string (bs y))] 20)) fun e w' => e = .returned (.string (bs (x ++ [32] ++ y))) ∧ Below W.heap.size W w' := by
  have h := put_new [.s x, .s [32], .s y] #[.iface 9 (.string (bs x)), .iface 9 (.string ⟨#[32]⟩), .iface 9 (.string (bs y))] rfl W 20 (fun p hp => by
    simp only [List.mem_cons, List.not_mem_nil, or_false] at hp
    rcases hp with rfl | rfl | rfl
    · exact hx
    · show 1 ≤ _; omega
    · exact hy) (by simp) ht
  rw [show partsT [.s x, .s [32], .s y] = x ++ [32] ++ y by simp [partsT, Part.text]] at h
  exact h
theorem put_snu (x : List UInt8) (n : Int) (u : Nat) (W : World) (hx : x.length ≤ 1073741824) (hn : InI n) (hu : u < 18446744073709551616) (ht : HasTab W) :
    Calls Tryz.prog 15 #[.slice (some ⟨W.heap.size, 0, none⟩) 5 5] (W.alloc (.cells #[.iface 9 (.string (bs x)), .iface 9 (.string ⟨#[32]⟩), .iface 3 (.int .i64 n), .iface 9 (.string ⟨#[32]⟩), .iface 77 (.int .u64 (u : Int))] 20)).drew fun e w' => e = .returned (.string (bs (x ++ [32] ++ Lib.itoa n ++ [32] ++ Lib.decDigits u))) ∧ Below W.heap.size W w' := by
  have h := put_newD [.s x, .s [32], .i n, .s [32], .u u] #[.iface 9 (.string (bs x)), .iface 9 (.string ⟨#[32]⟩), .iface 3 (.int .i64 n), .iface 9 (.string ⟨#[32]⟩), .iface 77 (.int .u64 (u : Int))] rfl W 20 (fun p hp => by
    simp only [List.mem_cons, List.not_mem_nil, or_false] at hp
    rcases hp with rfl | rfl | rfl | rfl | rfl
    · exact hx
    · show 1 ≤ _; omega
    · exact hn
    · show 1 ≤ _; omega
    · exact hu) (by simp) ht
  rw [show partsT [.s x, .s [32], .i n, .s [32], .u u] = x ++ [32] ++ Lib.itoa n ++ [32] ++ Lib.decDigits u by simp [partsT, Part.text]] at h
  exact h
set_option maxRecDepth 100000 in
set_option maxHeartbeats 4000000 in
theorem told_any (kind e dk dn n li : Int) (dl : List DescV) (da : Option Addr) (dm dc : Nat) (tt : ByteArray) (ys : List Nat) (ya : Option Addr) (yc : Nat) (k : Nat) (F : Foot) (w : World)
    (hd : RowOf (descRd k) 3 40 F w da dm dc dl) (hnd : DescV.nodesL dl < 1048576) (hn : InI n) (hli : InI li) (htt : tt.size ≤ 9223372036854775807) (hu : U64s w ya ys) (hyl : ys.length ≤ 1048576) (hW : HasWords w) (hm : HasMax w) (ht : HasTab w) :
    Calls Tryz.prog 22 #[.int .i64 kind, .agg #[.int .i64 e, .int .i64 dk, .int .i64 dn, .slice da dm dc, .int .i64 n, .int .i64 li, .string tt, .slice ya ys.length yc]] w
      fun e' w' => e' = .returned (.string (bs (toldL kind e (.mk dk dn dl) n li tt.size ys))) ∧ Below w.heap.size w w' := by
  obtain ⟨W0, hW0⟩ : ∃ W0, W0 = w.alloc (.cells #[.int .i64 e, .int .i64 dk, .int .i64 dn, .slice da dm dc, .int .i64 n, .int .i64 li, .string tt, .slice ya ys.length yc] 56) := ⟨_, rfl⟩
  have hb0 : Below w.heap.size w W0 := by rw [hW0]; exact (Below.refl _ _).alloc (Nat.le_refl _) _
  have g0 : W0.heap[w.heap.size]? = some (.cells #[.int .i64 e, .int .i64 dk, .int .i64 dn, .slice da dm dc, .int .i64 n, .int .i64 li, .string tt, .slice ya ys.length yc] 56 (0, 0)) := by rw [hW0]; exact heap_alloc_new w _
  have HB0 := Lib.hid hb0
  have HT := Lib.hid (ht.below hb0)
  have t0 := cell_at (o := 0) g0 rfl
  have t1 := cell_at (o := 1) g0 rfl
  have t2 := cell_at (o := 2) g0 rfl
  have t3 := cell_at (o := 3) g0 rfl
  have t4 := cell_at (o := 4) g0 rfl
  have t5 := cell_at (o := 5) g0 rfl
  have t6 := cell_at (o := 6) g0 rfl
  have t7 := cell_at (o := 7) g0 rfl
  have HW := Lib.hid (wordE_any e W0 (hW.below hb0))
  have hel := errW_len e
  obtain ⟨R, hR⟩ : ∃ R, R = toldL kind e (.mk dk dn dl) n li tt.size ys := ⟨_, rfl⟩
  rw [← hR]
  by_cases he : e = 0
  · subst he
    have HX := Lib.hid hel
    have HTT := Lib.hid htt
    have enter : True := trivial
    by_cases h12 : kind = 1 ∨ kind = 2
    · have hR2 : R = errW 0 ++ [32] ++ descT (.mk dk dn dl) := by rw [hR, toldL, if_neg (by simp), if_pos h12]
      have hpr := print_any k F dk dn dl da dm dc W0 (hd.keep (descRd_ok _) (Fix.of_below hb0)) hnd (hm.below hb0) HT.out
      have bad : ∀ z : Int, (z != 0) = true → printD (.mk dk dn dl) = .tuple #[.string ⟨#[]⟩, .int .i64 z] → descT (.mk dk dn dl) = [63] → Calls Tryz.prog 22 #[.int .i64 kind, .agg #[.int .i64 0, .int .i64 dk, .int .i64 dn, .slice da dm dc, .int .i64 n, .int .i64 li, .string tt, .slice ya ys.length yc]] w
          fun e' w' => e' = .returned (.string (bs R)) ∧ Below w.heap.size w w' := by
        intro z hz hpd hdt
        rw [hpd] at hpr
        have HPR := Lib.hid hpr
        have HP : Hid (∀ W, HasTab W → Calls Tryz.prog 15 #[.slice (some ⟨W.heap.size, 0, none⟩) 3 3] (W.alloc (.cells #[.iface 9 (.string (bs (errW 0))), .iface 9 (.string ⟨#[32]⟩), .iface 9 (.string ⟨#[63]⟩)] 20)) fun e w' => e = .returned (.string (bs R)) ∧ Below W.heap.size W w') := Lib.hid fun W h => by
          rw [hR2, hdt]
          exact put_ss (errW 0) [63] W (by omega) (by simp) h
        generalize bs (errW 0) = sx at *
        clear hR2 hpr hR g0 hb0 hd hnd hn hli hu hyl hW hm ht hel hpd hdt htt
        rcases h12 with rfl | rfl
        all_goals
          go_enter Tryz.func22, Tryz.ntmps22
          go_upto_region 1 with fail
          rw [← hW0]
          clear hW0
          go_wp2_with (first
            | (go_at_call 34; (with_reducible refine HW.out.mono ?_); rintro e w1 ⟨rfl, rfl⟩)
            | (go_at_call 35; (with_reducible refine HPR.out.mono ?_); rintro e w2 ⟨rfl, hb2⟩; have HB2 := Lib.hid (HB0.out.trans (hb2.mono HB0.out.size)); have HT2 := Lib.hid (HT.out.below hb2); clear hb2)
            | (go_at_call 15; (with_reducible refine (HP.out _ HT2.out).mono ?_); rintro e w3 ⟨rfl, hb3⟩; have HB3 := Lib.hid (HB2.out.trans (hb3.mono HB2.out.size)); clear hb3))
          go_ret
          exact ⟨rfl, HB3.out⟩
      cases hbig : bigD (.mk dk dn dl) with
      | true => exact bad 12 rfl (by rw [printD, if_pos hbig]) (by rw [descT, if_pos hbig])
      | false =>
        have hnb : ¬ bigD (.mk dk dn dl) = true := by rw [hbig]; decide
        cases htx : textD (.mk dk dn dl) with
        | none => exact bad 8 rfl (by rw [printD, if_neg hnb, htx]) (by rw [descT, if_neg hnb, htx])
        | some t =>
          have hlen : t.length ≤ 1073741824 := by have := textD_len htx; rw [DescV.nodes] at this; omega
          have HPR : Hid (Calls Tryz.prog 35 #[.agg #[.int .i64 dk, .int .i64 dn, .slice da dm dc]] W0 fun e w' => e = .returned (.tuple #[.string (bs t), .int .i64 0]) ∧ Below W0.heap.size W0 w') := Lib.hid (by rw [printD, if_neg hnb, htx] at hpr; exact hpr)
          have HP : Hid (∀ W, HasTab W → Calls Tryz.prog 15 #[.slice (some ⟨W.heap.size, 0, none⟩) 3 3] (W.alloc (.cells #[.iface 9 (.string (bs (errW 0))), .iface 9 (.string ⟨#[32]⟩), .iface 9 (.string (bs t))] 20)) fun e w' => e = .returned (.string (bs R)) ∧ Below W.heap.size W w') := Lib.hid fun W h => by
            rw [hR2, descT, if_neg hnb, htx]
            exact put_ss (errW 0) t W (by omega) hlen h
          generalize bs (errW 0) = sx at *
          generalize bs t = st at *
          clear bad hR2 hpr hR g0 hb0 hd hnd hn hli hu hyl hW hm ht hel htt hlen htx hnb hbig
          rcases h12 with rfl | rfl
          all_goals
            go_enter Tryz.func22, Tryz.ntmps22
            go_upto_region 1 with fail
            rw [← hW0]
            clear hW0
            go_wp2_with (first
              | (go_at_call 34; (with_reducible refine HW.out.mono ?_); rintro e w1 ⟨rfl, rfl⟩)
              | (go_at_call 35; (with_reducible refine HPR.out.mono ?_); rintro e w2 ⟨rfl, hb2⟩; have HB2 := Lib.hid (HB0.out.trans (hb2.mono HB0.out.size)); have HT2 := Lib.hid (HT.out.below hb2); clear hb2)
              | (go_at_call 15; (with_reducible refine (HP.out _ HT2.out).mono ?_); rintro e w3 ⟨rfl, hb3⟩; have HB3 := Lib.hid (HB2.out.trans (hb3.mono HB2.out.size)); clear hb3))
            go_ret
            exact ⟨rfl, HB3.out⟩
    by_cases h34 : kind = 3 ∨ kind = 4
    · have hp := put_sn (errW 0) n W0 (by omega) hn HT.out
      rw [show errW 0 ++ [32] ++ Lib.itoa n = R by rw [hR, toldL, if_neg (by simp), if_neg h12, if_pos h34]] at hp
      have HP := Lib.hid hp
      generalize bs (errW 0) = sx at *
      clear hp hR g0 hb0 hd hnd hn hli hu hyl hW hm ht hel htt h12
      rcases h34 with rfl | rfl
      all_goals
        go_enter Tryz.func22, Tryz.ntmps22
        go_upto_region 1 with fail
        rw [← hW0]
        clear hW0
        go_wp2_with (first
          | (go_at_call 34; (with_reducible refine HW.out.mono ?_); rintro e w1 ⟨rfl, rfl⟩)
          | (go_at_call 15; (with_reducible refine HP.out.mono ?_); rintro e w2 ⟨rfl, hb2⟩; have HB2 := Lib.hid (HB0.out.trans (hb2.mono HB0.out.size)); clear hb2))
        go_ret
        exact ⟨rfl, HB2.out⟩
    by_cases h5 : kind = 5
    · have hp := put_sn (errW 0) tt.size W0 (by omega) ⟨by omega, by omega⟩ HT.out
      rw [show errW 0 ++ [32] ++ Lib.itoa tt.size = R by rw [hR, toldL, if_neg (by simp), if_neg h12, if_neg h34, if_pos h5]] at hp
      have HP := Lib.hid hp
      generalize bs (errW 0) = sx at *
      clear hp hR g0 hb0 hd hnd hn hli hu hyl hW hm ht hel htt h12 h34
      subst h5
      go_enter Tryz.func22, Tryz.ntmps22
      go_upto_region 1 with fail
      rw [← hW0]
      clear hW0
      go_wp2_with (first
        | (go_at_call 34; (with_reducible refine HW.out.mono ?_); rintro e w1 ⟨rfl, rfl⟩)
        | (go_at_call 15; (with_reducible refine HP.out.mono ?_); rintro e w2 ⟨rfl, hb2⟩; have HB2 := Lib.hid (HB0.out.trans (hb2.mono HB0.out.size)); clear hb2))
      go_ret
      exact ⟨rfl, HB2.out⟩
    by_cases h6 : kind = 6
    · have HP : Hid (∀ W, HasTab W → Calls Tryz.prog 15 #[.slice (some ⟨W.heap.size, 0, none⟩) 5 5] (W.alloc (.cells #[.iface 9 (.string (bs (errW 0))), .iface 9 (.string ⟨#[32]⟩), .iface 3 (.int .i64 (ys.length : Int)), .iface 9 (.string ⟨#[32]⟩), .iface 77 (.int .u64 (sumF ys : Nat))] 20)).drew fun e w' => e = .returned (.string (bs R)) ∧ Below W.heap.size W w') := Lib.hid fun W h => by
        rw [hR, toldL, if_neg (by simp), if_neg h12, if_neg h34, if_neg h5, if_pos h6]
        exact put_snu (errW 0) ys.length (sumF ys) W (by omega) ⟨by omega, by omega⟩ (by have := sumF_lt ys; omega) h
      have HSM : Hid (∀ W, Below W0.heap.size W0 W → Calls Tryz.prog 36 #[.slice ya ys.length yc] W fun e w' => e = .returned (.int .u64 (sumF ys : Nat)) ∧ W = w') := Lib.hid fun W hb => sum_any ys ya yc W ((hu.keep hb0).keep hb) hyl
      have HC : Hid (∀ W, Below W0.heap.size W0 W → W.cell? ⟨w.heap.size, 7, none⟩ = some (.slice ya ys.length yc)) := Lib.hid fun W hb => cell_at ((hb.block _ (Array.getElem?_eq_some_iff.1 g0).1).trans g0) rfl
      have hbz := Below.refl W0.heap.size W0
      generalize bs (errW 0) = sx at *
      generalize sumF ys = sm at *
      clear hR g0 hb0 hd hnd hn hli hu hW hm ht hel htt h12 h34 h5
      subst h6
      go_enter Tryz.func22, Tryz.ntmps22
      go_upto_region 1 with fail
      rw [← hW0]
      clear hW0
      go_wp2_with (go_at_call 34; (with_reducible refine HW.out.mono ?_); rintro e w1 ⟨rfl, rfl⟩)
      clear t0 t1 t2 t3 t4 t5 t6 t7
      go_region_held3 (fun W => W.cell? ⟨w.heap.size, 7, none⟩ = some (.slice ya ys.length yc)) ((refine HC.out _ ?_; ((repeat' (first | with_reducible assumption | with_reducible refine Below.drew ?_ | (with_reducible refine Below.alloc ?_ ?_ _))) <;> first | assumption | (simp; done) | (simp; omega))))
        ((first
          | (go_at_call 36; (with_reducible refine (HSM.out _ (by ((repeat' (first | with_reducible assumption | with_reducible refine Below.drew ?_ | (with_reducible refine Below.alloc ?_ ?_ _))) <;> first | assumption | (simp; done) | (simp; omega)))).mono ?_); rintro e w2 ⟨rfl, rfl⟩)
          | (go_at_call 15; (with_reducible refine (HP.out _ (HT.out.below (by ((repeat' (first | with_reducible assumption | with_reducible refine Below.drew ?_ | (with_reducible refine Below.alloc ?_ ?_ _))) <;> first | assumption | (simp; done) | (simp; omega))))).mono ?_); rintro e w3 ⟨rfl, hb3⟩; have hb3z : Below W0.heap.size W0 w3 := Below.trans (show Below W0.heap.size W0 _ by ((repeat' (first | with_reducible assumption | with_reducible refine Below.drew ?_ | (with_reducible refine Below.alloc ?_ ?_ _))) <;> first | assumption | (simp; done) | (simp; omega))) (hb3.mono (Nat.le_refl _)); clear hb3)))
      go_wp2_with fail
      go_ret
      exact ⟨rfl, HB0.out.trans (hb3z.mono HB0.out.size)⟩
    · have HR : Hid (R = errW 0) := Lib.hid (by rw [hR, toldL, if_neg (by simp), if_neg h12, if_neg h34, if_neg h5, if_neg h6])
      rw [← HR.out] at HW
      have k1 : (kind == 1) = false := by simp; omega
      have k2 : (kind == 2) = false := by simp; omega
      have k3 : (kind == 3) = false := by simp; omega
      have k4 : (kind == 4) = false := by simp; omega
      have k5 : (kind == 5) = false := by simp; omega
      have k6 : (kind == 6) = false := by simp; omega
      clear HR hR g0 hb0 hd hnd hn hli hu hyl hW hm ht hel htt h12 h34 h5 h6 HX
      go_enter Tryz.func22, Tryz.ntmps22
      go_upto_region 1 with fail
      rw [← hW0]
      clear hW0
      go_wp2_with (go_at_call 34; (with_reducible refine HW.out.mono ?_); rintro e w1 ⟨rfl, rfl⟩)
      go_ret
      exact ⟨rfl, HB0.out⟩
  · have hen : (e != 0) = true := by simpa using he
    by_cases hk : kind = 4
    · have HR : Hid (R = errW e ++ [32] ++ Lib.itoa li) := Lib.hid (by rw [hR, toldL, if_pos he, if_pos hk])
      have hp := put_sn (errW e) li W0 (by omega) hli HT.out
      rw [← HR.out] at hp
      have HP := Lib.hid hp
      clear hp
      subst hk
      generalize bs (errW e) = sx at *
      clear hR he g0 hb0 hd hnd hn hli hu hyl hW hm ht hel
      go_enter Tryz.func22, Tryz.ntmps22
      go_upto_region 1 with fail
      rw [← hW0]
      clear hW0
      go_wp2_with (first
        | (go_at_call 34; (with_reducible refine HW.out.mono ?_); rintro e w1 ⟨rfl, rfl⟩)
        | (go_at_call 15; (with_reducible refine HP.out.mono ?_); rintro e w2 ⟨rfl, hb2⟩; have HB2 := Lib.hid (HB0.out.trans (hb2.mono HB0.out.size)); clear hb2))
      go_ret
      exact ⟨rfl, HB2.out⟩
    · have hkb : (kind == 4) = false := by simpa using hk
      have HR : Hid (R = errW e) := Lib.hid (by rw [hR, toldL, if_pos he, if_neg hk])
      rw [← HR.out] at HW
      clear hR he hk g0 hb0 hd hnd hn hli hu hyl hW hm ht hel HR
      go_enter Tryz.func22, Tryz.ntmps22
      go_upto_region 1 with fail
      rw [← hW0]
      clear hW0
      go_wp2_with (go_at_call 34; (with_reducible refine HW.out.mono ?_); rintro e w1 ⟨rfl, rfl⟩)
      go_ret
      exact ⟨rfl, HB0.out⟩
end Go.Proofs.YthjcmcgmalnfpaaGreatDoor.Lex
