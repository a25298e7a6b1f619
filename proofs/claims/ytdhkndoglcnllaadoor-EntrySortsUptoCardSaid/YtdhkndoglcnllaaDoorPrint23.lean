/- dtext.Print; the reference's Text. -/
import Derived.Test.YtdhkndoglcnllaaDoorText23
import Derived.Deep.RegionHeld3
namespace Go.Proofs.YtdhkndoglcnllaaDoor.Lex
open Go.RowKit
set_option linter.unusedSimpArgs false
set_option linter.unusedVariables false
/-- What Print tells. -/
def printD (d : DescV) : Value := if bigD d = true then .tuple #[.string ⟨#[]⟩, .int .i64 12] else match textD d with | none => .tuple #[.string ⟨#[]⟩, .int .i64 8] | some t => .tuple #[.string (bs t), .int .i64 0]
set_option maxRecDepth 100000 in
set_option maxHeartbeats 1000000 in
theorem print_any (k : Nat) (F : Foot) (kd nd : Int) (l : List DescV) (a : Option Addr) (n cap : Nat) (w : World) (hl : RowOf (descRd k) 3 40 F w a n cap l) (hm : DescV.nodesL l < 1048576) (hx : HasMax w) (ht : HasTab w) :
    Calls Tryd.prog 20 #[.agg #[.int .i64 kd, .int .i64 nd, .slice a n cap]] w fun e w' => e = .returned (printD (.mk kd nd l)) ∧ Below w.heap.size w w' := by
  obtain ⟨hb0, hz0, hc⟩ := desc_box kd nd a n cap w
  obtain ⟨W0, hW0⟩ : ∃ W0, W0 = w.alloc (.cells #[.int .i64 kd, .int .i64 nd, .slice a n cap] 35) := ⟨_, rfl⟩
  rw [← hW0] at hb0 hz0 hc
  have HB0 := Lib.hid hb0
  have HC := Lib.hid hc
  have H1 := Lib.hid (big_any k F kd nd l a n cap W0 (hl.keep (descRd_ok _) (Fix.of_below hb0)) hm)
  have H2 : Hid (∀ W, Below W0.heap.size W0 W → Calls Tryd.prog 30 #[.agg #[.int .i64 kd, .int .i64 nd, .slice a n cap]] W fun e w' => e = .returned (tup2 (textD (.mk kd nd l))) ∧ Below W0.heap.size W0 w') := Lib.hid fun W hb =>
    (text_any k F kd nd l a n cap W (hl.keep (descRd_ok _) (Fix.of_below (hb0.trans (hb.mono hb0.size)))) hm (hx.below (hb0.trans (hb.mono hb0.size))) (ht.below (hb0.trans (hb.mono hb0.size)))).mono fun e w' h => ⟨h.1, hb.trans (h.2.mono hb.size)⟩
  obtain ⟨t00, t01, t02⟩ := hc W0 (Below.refl _ _)
  unfold printD
  obtain ⟨R, hR⟩ : ∃ R : Value, (if bigD (.mk kd nd l) = true then Value.tuple #[.string ⟨#[]⟩, .int .i64 12] else match textD (.mk kd nd l) with | none => .tuple #[.string ⟨#[]⟩, .int .i64 8] | some t => .tuple #[.string (bs t), .int .i64 0]) = R := ⟨_, rfl⟩
  rw [hR]
  have HR := Lib.hid hR
  clear hl hm hx ht hb0 hz0 hc hR
  generalize bigD (.mk kd nd l) = B at *
  generalize textD (.mk kd nd l) = T at *
  cases B with
  | true =>
    clear H2
    go_enter Tryd.func20, Tryd.ntmps20
    go_wp2_with (rw [← hW0]; clear hW0; (go_at_call 29; (with_reducible refine H1.out.mono ?_); rintro e w1 ⟨rfl, hb1⟩; have HB1 := Lib.hid hb1; clear hb1))
    go_ret2
    exact ⟨by rw [← HR.out]; rfl, HB0.out.trans (HB1.out.mono HB0.out.size)⟩
  | false =>
    cases T with
    | none =>
      dsimp only [tup2] at H2
      go_enter Tryd.func20, Tryd.ntmps20
      go_wp2_with (first
        | (rw [← hW0]; clear hW0; (go_at_call 29; (with_reducible refine H1.out.mono ?_); rintro e w1 ⟨rfl, hb1⟩; have HB1 := Lib.hid hb1; obtain ⟨t10, t11, t12⟩ := HC.out w1 hb1; clear hb1))
        | (go_at_call 30; (with_reducible refine (H2.out _ HB1.out).mono ?_); rintro e w2 ⟨rfl, hb2⟩; have HB2 := Lib.hid hb2; clear hb2))
      go_ret2
      exact ⟨by rw [← HR.out]; rfl, HB0.out.trans (HB2.out.mono HB0.out.size)⟩
    | some t =>
      dsimp only [tup2] at H2
      go_enter Tryd.func20, Tryd.ntmps20
      go_wp2_with (first
        | (rw [← hW0]; clear hW0; (go_at_call 29; (with_reducible refine H1.out.mono ?_); rintro e w1 ⟨rfl, hb1⟩; have HB1 := Lib.hid hb1; obtain ⟨t10, t11, t12⟩ := HC.out w1 hb1; clear hb1))
        | (go_at_call 30; (with_reducible refine (H2.out _ HB1.out).mono ?_); rintro e w2 ⟨rfl, hb2⟩; have HB2 := Lib.hid hb2; clear hb2))
      go_ret2
      exact ⟨by rw [← HR.out]; rfl, HB0.out.trans (HB2.out.mono HB0.out.size)⟩
theorem join_snoc (ts : List (List UInt8)) (t : List UInt8) (h : ts ≠ []) : Lib.join (ts ++ [t]) [44] = Lib.join ts [44] ++ [44] ++ t := by
  cases ts with
  | nil => exact absurd rfl h
  | cons a r =>
    rw [List.cons_append, Lib.join_cons, Lib.join_cons]
    simp [Lib.joinTail]
/-- What is told so far: a word, its digits, the first i kids. -/
def soFar (hd : List UInt8) (ts : List (List UInt8)) (i : Nat) : List UInt8 := hd ++ if i = 0 then [] else [40] ++ Lib.join (ts.take i) [44]
theorem soFar_zero (hd : List UInt8) (ts : List (List UInt8)) : soFar hd ts 0 = hd := by simp [soFar]
theorem soFar_one {hd : List UInt8} {ts : List (List UInt8)} {t : List UInt8} (h : ts[0]? = some t) : soFar hd ts 1 = hd ++ [40] ++ t := by
  cases ts with
  | nil => simp at h
  | cons a r =>
    obtain rfl : a = t := by simpa using h
    simp [soFar, Lib.join_one]
theorem soFar_succ {hd : List UInt8} {ts : List (List UInt8)} {t : List UInt8} {i : Nat} (h : ts[i]? = some t) (h0 : 0 < i) : soFar hd ts (i + 1) = soFar hd ts i ++ [44] ++ t := by
  have hi := (List.getElem?_eq_some_iff.1 h).1
  rw [soFar, soFar, if_neg (by omega), if_neg (by omega), List.take_succ_eq_append_getElem hi, (List.getElem?_eq_some_iff.1 h).2, join_snoc _ _ (fun e => by have := congrArg List.length e; rw [List.length_take, List.length_nil] at this; omega)]
  simp
theorem textsD_get : ∀ {l : List DescV} {ts : List (List UInt8)}, textsD l = some ts → ∀ {i : Nat} (hi : i < l.length), ∃ t, ts[i]? = some t ∧ textD (l[i]'hi) = some t
  | [], ts, h, i, hi => by simp at hi
  | a :: l, ts, h, i, hi => by
    rw [textsD] at h
    cases ht : textD a with
    | none => rw [ht] at h; cases h
    | some t =>
      rw [ht] at h
      obtain ⟨r, hr, rfl⟩ := Option.map_eq_some_iff.1 h
      cases i with
      | zero => exact ⟨t, rfl, by simpa using ht⟩
      | succ i =>
        obtain ⟨u, h1, h2⟩ := textsD_get hr (i := i) (by simpa using hi)
        exact ⟨u, by simpa using h1, by simpa using h2⟩
end Go.Proofs.YtdhkndoglcnllaaDoor.Lex
