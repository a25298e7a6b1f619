/- script.call: a call's line, kind by kind (printed by tools/mk_call.py). -/
import Derived.Test.YtmbhgnokjpcpjaaDoorCall
import Derived.Deep.LoopGhost
namespace Go.Proofs.YtmbhgnokjpcpjaaDoor.Lex
open Go.RowKit
set_option linter.unusedSimpArgs false
set_option linter.unusedVariables false
set_option maxRecDepth 100000 in
set_option maxHeartbeats 8000000 in
theorem call_1 (n dir who at' : Int) (text : ByteArray) (a : Option Addr) (len cap : Nat) (w : World) (hm : HasMax w) (ht : HasTab w) (hn : InI n) (hd : InI dir) :
    Calls Tryd.prog 33 #[.agg #[.int .i64 1, .int .i64 n, .int .i64 dir, .string text, .int .i64 who, .int .i64 at', .slice a len cap]] w fun e w' => e = .returned (.string (bs (glue ([103, 101, 116] :: ([Lib.itoa n, Lib.itoa dir])) ++ [10]))) ∧ Below w.heap.size w w' := by
  have HB0 : Hid (Below w.heap.size w (w.alloc (.cells #[.int .i64 1, .int .i64 n, .int .i64 dir, .string text, .int .i64 who, .int .i64 at', .slice a len cap] 28))) := Lib.hid ((Below.refl _ _).alloc (Nat.le_refl _) _)
  have HM := Lib.hid (hm.below HB0.out)
  have HT := Lib.hid (ht.below HB0.out)
  have HX := Lib.hid (box_new w 1 n dir text who at' (.slice a len cap) 28)
  clear hm ht
  go_enter Tryd.func33, Tryd.ntmps33
  go_wp2_with fail
  generalize w.alloc (.cells #[.int .i64 1, .int .i64 n, .int .i64 dir, .string text, .int .i64 who, .int .i64 at', .slice a len cap] 28) = W0 at *
  have c0 := HX.out.c0
  have w4 : IntKind.i64.wrap 0 = 0 := by decide
  go_region_with (first | (go_at_call 18; refine (split_names W0.drew HM.out).mono ?_; rintro e w1 ⟨rfl, hc, hb1'⟩; have hb1 : Below W0.heap.size W0 w1 := (Below.refl W0.heap.size W0).drew.trans hb1'; clear hb1'; have d1 : w1.cell? ⟨W0.heap.size, 0, none⟩ = some (.string (bs [103, 101, 116])) := hc 0 _ rfl; have s0 : w1.cell? ⟨w.heap.size, 0, none⟩ = some (.int .i64 1) := (HX.out.keep hb1).c0; have HX1 := Lib.hid (HX.out.keep hb1); have HT1 := Lib.hid (HT.out.below hb1); have HB1 := Lib.hid (HB0.out.trans (hb1.mono HB0.out.size)); clear hc hb1))
  all_goals
    have hs1 := HB1.out.size
    have c1 := HX1.out.c1
    have c2 := HX1.out.c2
    go_wp2_with fail
    refine (ints_shows [n, dir] _ 2 _ (by simp) (ints_two w1 n dir 3 hn hd) ((HT1.out).below ((Below.refl _ _).alloc (Nat.le_refl _) _))).mono ?_
    rintro e w2 ⟨a2, cap2, rfl, hs2, hc2, hn2, hb2⟩
    have HB2 := Lib.hid ((HB1.out.alloc hs1 _).trans (hb2.mono (by simp; omega)))
    clear hb2 c1 c2
    go_wp2_with (go_at_call 31; refine (line_any [103, 101, 116] [Lib.itoa n, Lib.itoa dir] a2 cap2 _ (by simp [glue]; have := itoa_len hn; have := itoa_len hd; omega) (by simp) hc2 hn2 hs2).mono ?_; rintro e w3 ⟨rfl, hb3⟩)
    go_ret
    exact ⟨rfl, HB2.out.trans (hb3.mono HB2.out.size)⟩
set_option maxRecDepth 100000 in
set_option maxHeartbeats 8000000 in
theorem call_2 (n dir who at' : Int) (text : ByteArray) (a : Option Addr) (len cap : Nat) (w : World) (hm : HasMax w) (ht : HasTab w) (hn : InI n) (hd : InI dir) :
    Calls Tryd.prog 33 #[.agg #[.int .i64 2, .int .i64 n, .int .i64 dir, .string text, .int .i64 who, .int .i64 at', .slice a len cap]] w fun e w' => e = .returned (.string (bs (glue ([108, 111, 111, 107, 117, 112] :: ([Lib.itoa n, Lib.itoa dir])) ++ [10]))) ∧ Below w.heap.size w w' := by
  have HB0 : Hid (Below w.heap.size w (w.alloc (.cells #[.int .i64 2, .int .i64 n, .int .i64 dir, .string text, .int .i64 who, .int .i64 at', .slice a len cap] 28))) := Lib.hid ((Below.refl _ _).alloc (Nat.le_refl _) _)
  have HM := Lib.hid (hm.below HB0.out)
  have HT := Lib.hid (ht.below HB0.out)
  have HX := Lib.hid (box_new w 2 n dir text who at' (.slice a len cap) 28)
  clear hm ht
  go_enter Tryd.func33, Tryd.ntmps33
  go_wp2_with fail
  generalize w.alloc (.cells #[.int .i64 2, .int .i64 n, .int .i64 dir, .string text, .int .i64 who, .int .i64 at', .slice a len cap] 28) = W0 at *
  have c0 := HX.out.c0
  have w4 : IntKind.i64.wrap 1 = 1 := by decide
  go_region_with (first | (go_at_call 18; refine (split_names W0.drew HM.out).mono ?_; rintro e w1 ⟨rfl, hc, hb1'⟩; have hb1 : Below W0.heap.size W0 w1 := (Below.refl W0.heap.size W0).drew.trans hb1'; clear hb1'; have d1 : w1.cell? ⟨W0.heap.size, 1, none⟩ = some (.string (bs [108, 111, 111, 107, 117, 112])) := hc 1 _ rfl; have s0 : w1.cell? ⟨w.heap.size, 0, none⟩ = some (.int .i64 2) := (HX.out.keep hb1).c0; have HX1 := Lib.hid (HX.out.keep hb1); have HT1 := Lib.hid (HT.out.below hb1); have HB1 := Lib.hid (HB0.out.trans (hb1.mono HB0.out.size)); clear hc hb1))
  all_goals
    have hs1 := HB1.out.size
    have c1 := HX1.out.c1
    have c2 := HX1.out.c2
    go_wp2_with fail
    refine (ints_shows [n, dir] _ 2 _ (by simp) (ints_two w1 n dir 3 hn hd) ((HT1.out).below ((Below.refl _ _).alloc (Nat.le_refl _) _))).mono ?_
    rintro e w2 ⟨a2, cap2, rfl, hs2, hc2, hn2, hb2⟩
    have HB2 := Lib.hid ((HB1.out.alloc hs1 _).trans (hb2.mono (by simp; omega)))
    clear hb2 c1 c2
    go_wp2_with (go_at_call 31; refine (line_any [108, 111, 111, 107, 117, 112] [Lib.itoa n, Lib.itoa dir] a2 cap2 _ (by simp [glue]; have := itoa_len hn; have := itoa_len hd; omega) (by simp) hc2 hn2 hs2).mono ?_; rintro e w3 ⟨rfl, hb3⟩)
    go_ret
    exact ⟨rfl, HB2.out.trans (hb3.mono HB2.out.size)⟩
set_option maxRecDepth 100000 in
set_option maxHeartbeats 8000000 in
theorem call_3 (n dir who at' : Int) (text : ByteArray) (a : Option Addr) (len cap : Nat) (w : World) (hm : HasMax w) (ht : HasTab w) (hn : InI n) (hd : InI dir) :
    Calls Tryd.prog 33 #[.agg #[.int .i64 3, .int .i64 n, .int .i64 dir, .string text, .int .i64 who, .int .i64 at', .slice a len cap]] w fun e w' => e = .returned (.string (bs (glue ([101, 118, 105, 99, 116] :: ([Lib.itoa n, Lib.itoa dir])) ++ [10]))) ∧ Below w.heap.size w w' := by
  have HB0 : Hid (Below w.heap.size w (w.alloc (.cells #[.int .i64 3, .int .i64 n, .int .i64 dir, .string text, .int .i64 who, .int .i64 at', .slice a len cap] 28))) := Lib.hid ((Below.refl _ _).alloc (Nat.le_refl _) _)
  have HM := Lib.hid (hm.below HB0.out)
  have HT := Lib.hid (ht.below HB0.out)
  have HX := Lib.hid (box_new w 3 n dir text who at' (.slice a len cap) 28)
  clear hm ht
  go_enter Tryd.func33, Tryd.ntmps33
  go_wp2_with fail
  generalize w.alloc (.cells #[.int .i64 3, .int .i64 n, .int .i64 dir, .string text, .int .i64 who, .int .i64 at', .slice a len cap] 28) = W0 at *
  have c0 := HX.out.c0
  have w4 : IntKind.i64.wrap 2 = 2 := by decide
  go_region_with (first | (go_at_call 18; refine (split_names W0.drew HM.out).mono ?_; rintro e w1 ⟨rfl, hc, hb1'⟩; have hb1 : Below W0.heap.size W0 w1 := (Below.refl W0.heap.size W0).drew.trans hb1'; clear hb1'; have d1 : w1.cell? ⟨W0.heap.size, 2, none⟩ = some (.string (bs [101, 118, 105, 99, 116])) := hc 2 _ rfl; have s0 : w1.cell? ⟨w.heap.size, 0, none⟩ = some (.int .i64 3) := (HX.out.keep hb1).c0; have HX1 := Lib.hid (HX.out.keep hb1); have HT1 := Lib.hid (HT.out.below hb1); have HB1 := Lib.hid (HB0.out.trans (hb1.mono HB0.out.size)); clear hc hb1))
  all_goals
    have hs1 := HB1.out.size
    have c1 := HX1.out.c1
    have c2 := HX1.out.c2
    go_wp2_with fail
    refine (ints_shows [n, dir] _ 2 _ (by simp) (ints_two w1 n dir 3 hn hd) ((HT1.out).below ((Below.refl _ _).alloc (Nat.le_refl _) _))).mono ?_
    rintro e w2 ⟨a2, cap2, rfl, hs2, hc2, hn2, hb2⟩
    have HB2 := Lib.hid ((HB1.out.alloc hs1 _).trans (hb2.mono (by simp; omega)))
    clear hb2 c1 c2
    go_wp2_with (go_at_call 31; refine (line_any [101, 118, 105, 99, 116] [Lib.itoa n, Lib.itoa dir] a2 cap2 _ (by simp [glue]; have := itoa_len hn; have := itoa_len hd; omega) (by simp) hc2 hn2 hs2).mono ?_; rintro e w3 ⟨rfl, hb3⟩)
    go_ret
    exact ⟨rfl, HB2.out.trans (hb3.mono HB2.out.size)⟩
set_option maxRecDepth 100000 in
set_option maxHeartbeats 8000000 in
theorem call_4 (n dir who at' : Int) (text : ByteArray) (a : Option Addr) (len cap : Nat) (w : World) (hm : HasMax w) (ht : HasTab w) (htx : text.size ≤ 4194304) :
    Calls Tryd.prog 33 #[.agg #[.int .i64 4, .int .i64 n, .int .i64 dir, .string text, .int .i64 who, .int .i64 at', .slice a len cap]] w fun e w' => e = .returned (.string (bs (glue ([105, 109, 112, 111, 114, 116] :: (hexW text.data.toList)) ++ [10]))) ∧ Below w.heap.size w w' := by
  have HB0 : Hid (Below w.heap.size w (w.alloc (.cells #[.int .i64 4, .int .i64 n, .int .i64 dir, .string text, .int .i64 who, .int .i64 at', .slice a len cap] 28))) := Lib.hid ((Below.refl _ _).alloc (Nat.le_refl _) _)
  have HM := Lib.hid (hm.below HB0.out)
  have HT := Lib.hid (ht.below HB0.out)
  have HX := Lib.hid (box_new w 4 n dir text who at' (.slice a len cap) 28)
  clear hm ht
  go_enter Tryd.func33, Tryd.ntmps33
  go_wp2_with fail
  generalize w.alloc (.cells #[.int .i64 4, .int .i64 n, .int .i64 dir, .string text, .int .i64 who, .int .i64 at', .slice a len cap] 28) = W0 at *
  have c0 := HX.out.c0
  have w4 : IntKind.i64.wrap 3 = 3 := by decide
  go_region_with (first | (go_at_call 18; refine (split_names W0.drew HM.out).mono ?_; rintro e w1 ⟨rfl, hc, hb1'⟩; have hb1 : Below W0.heap.size W0 w1 := (Below.refl W0.heap.size W0).drew.trans hb1'; clear hb1'; have d1 : w1.cell? ⟨W0.heap.size, 3, none⟩ = some (.string (bs [105, 109, 112, 111, 114, 116])) := hc 3 _ rfl; have s0 : w1.cell? ⟨w.heap.size, 0, none⟩ = some (.int .i64 4) := (HX.out.keep hb1).c0; have HX1 := Lib.hid (HX.out.keep hb1); have HT1 := Lib.hid (HT.out.below hb1); have HB1 := Lib.hid (HB0.out.trans (hb1.mono HB0.out.size)); clear hc hb1))
  all_goals
    have hs1 := HB1.out.size
    have c3 := HX1.out.c3
    go_wp2_with fail
    refine (hex_shows text _ (by omega)).mono ?_
    rintro e w2 ⟨a2, cap2, rfl, hs2, hc2, hn2, hb2⟩
    have HB2 := Lib.hid (HB1.out.trans (hb2.mono HB1.out.size))
    clear hb2 c3
    go_wp2_with (go_at_call 31; refine (line_any [105, 109, 112, 111, 114, 116] (hexW text.data.toList) a2 cap2 _ (hexW_glue htx) (hexW_len _) hc2 hn2 hs2).mono ?_; rintro e w3 ⟨rfl, hb3⟩)
    go_ret
    exact ⟨rfl, HB2.out.trans (hb3.mono HB2.out.size)⟩
set_option maxRecDepth 100000 in
set_option maxHeartbeats 8000000 in
theorem call_5 (n dir who at' : Int) (text : ByteArray) (a : Option Addr) (len cap : Nat) (w : World) (hm : HasMax w) (ht : HasTab w)  :
    Calls Tryd.prog 33 #[.agg #[.int .i64 5, .int .i64 n, .int .i64 dir, .string text, .int .i64 who, .int .i64 at', .slice a len cap]] w fun e w' => e = .returned (.string (bs (glue ([101, 120, 112, 111, 114, 116] :: ([])) ++ [10]))) ∧ Below w.heap.size w w' := by
  have HB0 : Hid (Below w.heap.size w (w.alloc (.cells #[.int .i64 5, .int .i64 n, .int .i64 dir, .string text, .int .i64 who, .int .i64 at', .slice a len cap] 28))) := Lib.hid ((Below.refl _ _).alloc (Nat.le_refl _) _)
  have HM := Lib.hid (hm.below HB0.out)
  have HT := Lib.hid (ht.below HB0.out)
  have HX := Lib.hid (box_new w 5 n dir text who at' (.slice a len cap) 28)
  clear hm ht
  go_enter Tryd.func33, Tryd.ntmps33
  go_wp2_with fail
  generalize w.alloc (.cells #[.int .i64 5, .int .i64 n, .int .i64 dir, .string text, .int .i64 who, .int .i64 at', .slice a len cap] 28) = W0 at *
  have c0 := HX.out.c0
  have w4 : IntKind.i64.wrap 4 = 4 := by decide
  go_region_with (first | (go_at_call 18; refine (split_names W0.drew HM.out).mono ?_; rintro e w1 ⟨rfl, hc, hb1'⟩; have hb1 : Below W0.heap.size W0 w1 := (Below.refl W0.heap.size W0).drew.trans hb1'; clear hb1'; have d1 : w1.cell? ⟨W0.heap.size, 4, none⟩ = some (.string (bs [101, 120, 112, 111, 114, 116])) := hc 4 _ rfl; have s0 : w1.cell? ⟨w.heap.size, 0, none⟩ = some (.int .i64 5) := (HX.out.keep hb1).c0; have HX1 := Lib.hid (HX.out.keep hb1); have HT1 := Lib.hid (HT.out.below hb1); have HB1 := Lib.hid (HB0.out.trans (hb1.mono HB0.out.size)); clear hc hb1))
  all_goals
    have hs1 := HB1.out.size
    go_wp2_with (go_at_call 31; refine (line_any [101, 120, 112, 111, 114, 116] [] none 0 _ (by simp [glue]) (by simp) (by simp) (fun _ => rfl) (fun i hi => absurd hi (by simp))).mono ?_; rintro e w3 ⟨rfl, hb3⟩)
    go_ret
    exact ⟨rfl, HB1.out.trans (hb3.mono HB1.out.size)⟩
set_option maxRecDepth 100000 in
set_option maxHeartbeats 8000000 in
theorem call_7 (n dir who at' : Int) (text : ByteArray) (a : Option Addr) (len cap : Nat) (w : World) (hm : HasMax w) (ht : HasTab w) (hw : InI who) (ha : InI at') :
    Calls Tryd.prog 33 #[.agg #[.int .i64 7, .int .i64 n, .int .i64 dir, .string text, .int .i64 who, .int .i64 at', .slice a len cap]] w fun e w' => e = .returned (.string (bs (glue ([114, 101, 108, 101, 97, 115, 101] :: ([Lib.itoa who, Lib.itoa at'])) ++ [10]))) ∧ Below w.heap.size w w' := by
  have HB0 : Hid (Below w.heap.size w (w.alloc (.cells #[.int .i64 7, .int .i64 n, .int .i64 dir, .string text, .int .i64 who, .int .i64 at', .slice a len cap] 28))) := Lib.hid ((Below.refl _ _).alloc (Nat.le_refl _) _)
  have HM := Lib.hid (hm.below HB0.out)
  have HT := Lib.hid (ht.below HB0.out)
  have HX := Lib.hid (box_new w 7 n dir text who at' (.slice a len cap) 28)
  clear hm ht
  go_enter Tryd.func33, Tryd.ntmps33
  go_wp2_with fail
  generalize w.alloc (.cells #[.int .i64 7, .int .i64 n, .int .i64 dir, .string text, .int .i64 who, .int .i64 at', .slice a len cap] 28) = W0 at *
  have c0 := HX.out.c0
  have w4 : IntKind.i64.wrap 6 = 6 := by decide
  go_region_with (first | (go_at_call 18; refine (split_names W0.drew HM.out).mono ?_; rintro e w1 ⟨rfl, hc, hb1'⟩; have hb1 : Below W0.heap.size W0 w1 := (Below.refl W0.heap.size W0).drew.trans hb1'; clear hb1'; have d1 : w1.cell? ⟨W0.heap.size, 6, none⟩ = some (.string (bs [114, 101, 108, 101, 97, 115, 101])) := hc 6 _ rfl; have s0 : w1.cell? ⟨w.heap.size, 0, none⟩ = some (.int .i64 7) := (HX.out.keep hb1).c0; have HX1 := Lib.hid (HX.out.keep hb1); have HT1 := Lib.hid (HT.out.below hb1); have HB1 := Lib.hid (HB0.out.trans (hb1.mono HB0.out.size)); clear hc hb1))
  all_goals
    have hs1 := HB1.out.size
    have c4 := HX1.out.c4
    have c5 := HX1.out.c5
    go_wp2_with fail
    refine (ints_shows [who, at'] _ 2 _ (by simp) (ints_two w1 who at' 3 hw ha) ((HT1.out).below ((Below.refl _ _).alloc (Nat.le_refl _) _))).mono ?_
    rintro e w2 ⟨a2, cap2, rfl, hs2, hc2, hn2, hb2⟩
    have HB2 := Lib.hid ((HB1.out.alloc hs1 _).trans (hb2.mono (by simp; omega)))
    clear hb2 c4 c5
    go_wp2_with (go_at_call 31; refine (line_any [114, 101, 108, 101, 97, 115, 101] [Lib.itoa who, Lib.itoa at'] a2 cap2 _ (by simp [glue]; have := itoa_len hw; have := itoa_len ha; omega) (by simp) hc2 hn2 hs2).mono ?_; rintro e w3 ⟨rfl, hb3⟩)
    go_ret
    exact ⟨rfl, HB2.out.trans (hb3.mono HB2.out.size)⟩
end Go.Proofs.YtmbhgnokjpcpjaaDoor.Lex
