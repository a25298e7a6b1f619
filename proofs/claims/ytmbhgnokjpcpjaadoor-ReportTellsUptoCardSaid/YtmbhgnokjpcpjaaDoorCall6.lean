/- script.call: a call's line, kind by kind (printed by tools/mk_call.py). -/
import Derived.Test.YtmbhgnokjpcpjaaDoorCall
import Derived.Deep.LoopGhost
namespace Go.Proofs.YtmbhgnokjpcpjaaDoor.Lex
open Go.RowKit
set_option linter.unusedSimpArgs false
set_option linter.unusedVariables false
theorem u64s_lt {w : World} {a : Option Addr} {xs : List Nat} (h : U64s w a xs) : ∀ u ∈ xs, u < 18446744073709551616 := fun u hu => by
  obtain ⟨i, hi, rfl⟩ := List.mem_iff_getElem.1 hu
  obtain ⟨_, _, _, _, _, h4⟩ := h i hi
  exact h4
theorem glue_len (l : List (List UInt8)) (m : Nat) (h : ∀ x ∈ l, x.length ≤ m) : (glue l).length ≤ l.length * (m + 1) := by
  induction l with
  | nil => simp [glue]
  | cons a l ih =>
    have h1 := ih fun x hx => h x (by simp [hx])
    have h2 := h a (by simp)
    cases l with
    | nil => simp [glue]; omega
    | cons b r =>
      simp only [glue, List.length_append, List.length_cons] at h1 ⊢
      rw [Nat.add_mul (r.length + 1) 1, Nat.one_mul]
      omega
theorem glue6 {who at' : Int} {xs : List Nat} (hw : InI who) (ha : InI at') (hx : ∀ u ∈ xs, u < 18446744073709551616) (hl : xs.length ≤ 4194304) :
    (glue ([101, 120, 101, 99, 117, 116, 101] :: ([Lib.itoa who, Lib.itoa at'] ++ xs.map Lib.decDigits))).length ≤ 1099511627776 := by
  refine Nat.le_trans (glue_len _ 20 fun x hm => ?_) ?_
  · simp only [List.mem_cons, List.mem_append, List.mem_map, List.mem_nil_iff, or_false] at hm
    rcases hm with rfl | (rfl | rfl) | ⟨u, hu, rfl⟩
    · simp
    · exact itoa_len hw
    · exact itoa_len ha
    · rw [Lib.decDigits_length]
      exact nDigits_le 19 u (by have := hx u hu; omega)
  · simp only [List.length_cons, List.length_append, List.length_map, List.length_nil]
    omega
set_option maxRecDepth 100000 in
set_option maxHeartbeats 8000000 in
theorem call_6 (n dir who at' : Int) (text : ByteArray) (a : Option Addr) (cap : Nat) (w : World) (hm : HasMax w) (ht : HasTab w) (hw : InI who) (ha : InI at') (xs : List Nat) (hxs : xs.length ≤ 4194304) (hx : U64s w a xs) :
    Calls Tryd.prog 33 #[.agg #[.int .i64 6, .int .i64 n, .int .i64 dir, .string text, .int .i64 who, .int .i64 at', .slice a xs.length cap]] w fun e w' => e = .returned (.string (bs (glue ([101, 120, 101, 99, 117, 116, 101] :: ([Lib.itoa who, Lib.itoa at'] ++ xs.map Lib.decDigits)) ++ [10]))) ∧ Below w.heap.size w w' := by
  have HB0 : Hid (Below w.heap.size w (w.alloc (.cells #[.int .i64 6, .int .i64 n, .int .i64 dir, .string text, .int .i64 who, .int .i64 at', .slice a xs.length cap] 28))) := Lib.hid ((Below.refl _ _).alloc (Nat.le_refl _) _)
  have HM := Lib.hid (hm.below HB0.out)
  have HT := Lib.hid (ht.below HB0.out)
  have HX := Lib.hid (box_new w 6 n dir text who at' (.slice a xs.length cap) 28)
  have HU := Lib.hid hx
  have HXL : Hid (∀ u ∈ xs, u < 18446744073709551616) := Lib.hid (u64s_lt hx)
  have HT0 := Lib.hid ht
  clear hx
  clear hm ht
  go_enter Tryd.func33, Tryd.ntmps33
  go_wp2_with fail
  generalize w.alloc (.cells #[.int .i64 6, .int .i64 n, .int .i64 dir, .string text, .int .i64 who, .int .i64 at', .slice a xs.length cap] 28) = W0 at *
  have c0 := HX.out.c0
  have w4 : IntKind.i64.wrap 5 = 5 := by decide
  go_region_with (first | (go_at_call 18; refine (split_names W0.drew HM.out).mono ?_; rintro e w1 ⟨rfl, hc, hb1'⟩; have hb1 : Below W0.heap.size W0 w1 := (Below.refl W0.heap.size W0).drew.trans hb1'; clear hb1'; have d1 : w1.cell? ⟨W0.heap.size, 5, none⟩ = some (.string (bs [101, 120, 101, 99, 117, 116, 101])) := hc 5 _ rfl; have s0 : w1.cell? ⟨w.heap.size, 0, none⟩ = some (.int .i64 6) := (HX.out.keep hb1).c0; have HX1 := Lib.hid (HX.out.keep hb1); have HT1 := Lib.hid (HT.out.below hb1); have HB01 := Lib.hid hb1; have HB1 := Lib.hid (HB0.out.trans (hb1.mono HB0.out.size)); clear hc hb1))
  all_goals
    have hs1 := HB1.out.size
    have c4 := HX1.out.c4
    have c5 := HX1.out.c5
    have c6 := HX1.out.c6
    go_wp2_with fail
    refine (ints_any [who, at'] _ 2 _ (by simp) (ints_two w1 who at' 3 hw ha) ((HT1.out).below ((Below.refl _ _).alloc (Nat.le_refl _) _))).mono ?_
    rintro e w2 ⟨v2, rfl, ho2, hb2⟩
    have HB12 := Lib.hid (((Below.refl w1.heap.size w1).alloc (Nat.le_refl _) (.cells #[.int .i64 who, .int .i64 at'] 3)).trans (hb2.mono (by simp)))
    have HB2 := Lib.hid (HB1.out.trans (HB12.out.mono hs1))
    have c62 := (HX1.out.keep HB12.out).c6
    have ho2' := own_mono ho2 (C' := w.heap.size) (by simp; omega)
    have HO2 := Lib.hid ho2'
    clear hb2 ho2 ho2' c4 c5 c6 d1 s0 c0
    go_wp2_with fail
    go_loopg [4, 59] xs.length (fun g v iv wr => ∃ j : Nat, j ≤ xs.length ∧ g = xs.length - j ∧ iv = .int .i64 j ∧ wr.ownsRow w.heap.size 9 1 v (2 + j) (([Lib.itoa who, Lib.itoa at'] ++ (xs.take j).map Lib.decDigits).map fun l => .string (bs l)) ∧ Below w.heap.size w wr)
    case atStart => exact ⟨0, by omega, by omega, rfl, by simpa using HO2.out, HB2.out⟩
    case round =>
      obtain ⟨j, hj, rfl, rfl, hown, hbw⟩ := hrel
      obtain ⟨wo, rfl⟩ : ∃ wo : World, wo = wr := ⟨_, rfl⟩
      have HO := Lib.hid hown
      have HB := Lib.hid hbw
      have HTW := Lib.hid (HT0.out.below hbw)
      have hsz := hbw.size
      by_cases hlt : j < xs.length
      · obtain ⟨g, off, rfl, _, e1, r1⟩ := HU.out.keep hbw j hlt
        have HTK : Hid (xs.take (j + 1) = xs.take j ++ [xs[j]'hlt]) := Lib.hid (List.take_succ_eq_append_getElem hlt)
        generalize xs[j]'hlt = x at *
        clear hown hbw
        go_wp2_with (first | (go_at_call 29; refine (fmtU_any x r1 _ HTW.out).mono ?_; rintro e w' ⟨rfl, hb2⟩; have HB3 := Lib.hid (HB.out.trans (hb2.mono HB.out.size)); have HO3 := Lib.hid (own_below HO.out hb2); have hsz3 := HB3.out.size; clear hb2) | (at_builtin; refine wpl_app1 rfl _ _ 55 rfl strElem _ _ _ rfl _ rfl rfl HO3.out HB3.out (Nat.le_refl _) hsz3 (by omega) (by unfold maxLen; omega) ?_; intro v' w4 hown4 hbw4 hg4; have HO4 := Lib.hid hown4; have HB4 := Lib.hid hbw4; clear hg4 hown4 hbw4))
        go_roundg (xs.length - (j + 1))
        case measure => omega
        case rel => exact ⟨j + 1, by omega, rfl, by go_num, by rw [HTK.out]; simpa [Nat.add_assoc] using HO4.out, HB4.out⟩
      · obtain rfl : j = xs.length := by omega
        obtain ⟨a5, cap5, rfl, hc5, hm5, hs5⟩ := shows_of hown
        have hn5 := own_nil hown
        rw [List.take_of_length_le (Nat.le_refl _)] at hs5
        have hll : ([Lib.itoa who, Lib.itoa at'] ++ xs.map Lib.decDigits).length = 2 + xs.length := by simp; omega
        have HLN := line_any [101, 120, 101, 99, 117, 116, 101] ([Lib.itoa who, Lib.itoa at'] ++ xs.map Lib.decDigits) a5 cap5 wo (glue6 hw ha HXL.out hxs) (by omega) (by omega) hn5 hs5
        rw [hll] at HLN
        have HLN2 := Lib.hid HLN
        clear HLN hll hown hbw hs5 hn5
        go_wp2_with (go_at_call 31; refine HLN2.out.mono ?_; rintro e w3 ⟨rfl, hb3⟩)
        go_ret
        exact ⟨rfl, HB.out.trans (hb3.mono HB.out.size)⟩
end Go.Proofs.YtmbhgnokjpcpjaaDoor.Lex
