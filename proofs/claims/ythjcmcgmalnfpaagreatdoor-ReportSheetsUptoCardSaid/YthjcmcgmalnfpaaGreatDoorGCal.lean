/- Call, Call2, Call6, Print, Print2: laid into one text. -/
import Derived.Test.YthjcmcgmalnfpaaGreatDoorScr
import Derived.Test.YthjcmcgmalnfpaaGreatDoorFmtU
import Derived.Test.YthjcmcgmalnfpaaGreatDoorSplit
import Derived.Deep.RegionHeld3
import Derived.Deep.RegionWith
import Derived.Deep.DeepCutAuto
import Derived.Deep.LoopGhost
/- script.call: a call's line, walked. -/
namespace Go.Proofs.YthjcmcgmalnfpaaGreatDoor.Lex
open Go.RowKit
set_option linter.unusedSimpArgs false
set_option linter.unusedVariables false
abbrev names : ByteArray := ⟨#[103, 101, 116, 32, 108, 111, 111, 107, 117, 112, 32, 101, 118, 105, 99, 116, 32, 105, 109, 112, 111, 114, 116, 32, 101, 120, 112, 111, 114, 116, 32, 101, 120, 101, 99, 117, 116, 101, 32, 114, 101, 108, 101, 97, 115, 101]⟩
def nameL : List (List UInt8) := [[103, 101, 116], [108, 111, 111, 107, 117, 112], [101, 118, 105, 99, 116], [105, 109, 112, 111, 114, 116], [101, 120, 112, 111, 114, 116], [101, 120, 101, 99, 117, 116, 101], [114, 101, 108, 101, 97, 115, 101]]
theorem names_pieces : pieces names.data.toList = nameL := by decide
/-- Split at the names. -/
theorem split_names (w : World) (hm : HasMax w) :
    Calls Tryz.prog 38 #[.string names, .string ⟨#[32]⟩] w fun e w' => e = .returned (.slice (some ⟨w.heap.size, 0, none⟩) 7 7) ∧ (∀ k l, nameL[k]? = some l → w'.cell? ⟨w.heap.size, k, none⟩ = some (.string (bs l))) ∧ Below w.heap.size w w' := by
  have h := split_any names w hm (by decide)
  rw [names_pieces] at h
  refine h.mono ?_
  rintro e w' ⟨h1, h2, h3⟩
  exact ⟨h1, fun k l hk => (own_cell h2 (i := k) (u := .string (bs l)) (by simp [hk])).1, h3⟩
/-- The box of a call: its cells. -/
structure Box (w : World) (N : Nat) (k n dir : Int) (text : ByteArray) (who at' : Int) (x : Value) : Prop where
  lt : N < w.heap.size
  c0 : w.cell? ⟨N, 0, none⟩ = some (.int .i64 k)
  c1 : w.cell? ⟨N, 1, none⟩ = some (.int .i64 n)
  c2 : w.cell? ⟨N, 2, none⟩ = some (.int .i64 dir)
  c3 : w.cell? ⟨N, 3, none⟩ = some (.string text)
  c4 : w.cell? ⟨N, 4, none⟩ = some (.int .i64 who)
  c5 : w.cell? ⟨N, 5, none⟩ = some (.int .i64 at')
  c6 : w.cell? ⟨N, 6, none⟩ = some x
theorem Box.keep {w w' : World} {N : Nat} {k n dir : Int} {text : ByteArray} {who at' : Int} {x : Value} (h : Box w N k n dir text who at' x) (hb : Below w.heap.size w w') : Box w' N k n dir text who at' x :=
  have e : ∀ i, w'.cell? ⟨N, i, none⟩ = w.cell? ⟨N, i, none⟩ := fun i => hb.cell (p := ⟨N, i, none⟩) h.lt
  ⟨Nat.lt_of_lt_of_le h.lt hb.size, (e 0).trans h.c0, (e 1).trans h.c1, (e 2).trans h.c2, (e 3).trans h.c3, (e 4).trans h.c4, (e 5).trans h.c5, (e 6).trans h.c6⟩
theorem box_new (w : World) (k n dir : Int) (text : ByteArray) (who at' : Int) (x : Value) (T : TypeId) : Box (w.alloc (.cells #[.int .i64 k, .int .i64 n, .int .i64 dir, .string text, .int .i64 who, .int .i64 at', x] T)) w.heap.size k n dir text who at' x :=
  have h := heap_alloc_new w (.cells #[.int .i64 k, .int .i64 n, .int .i64 dir, .string text, .int .i64 who, .int .i64 at', x] T)
  ⟨by simp, cell_at h rfl, cell_at h rfl, cell_at h rfl, cell_at h rfl, cell_at h rfl, cell_at h rfl, cell_at h rfl⟩
/-- A number that an int holds. -/
def InI (n : Int) : Prop := -9223372036854775808 ≤ n ∧ n ≤ 9223372036854775807
theorem itoa_len {n : Int} (h : InI n) : (Lib.itoa n).length ≤ 20 := by
  obtain ⟨h1, h2⟩ := h
  unfold Lib.itoa
  split
  · have := nDigits_le 18 n.natAbs (by omega)
    rw [List.length_cons, Lib.decDigits_length]
    omega
  · have := nDigits_le 18 n.toNat (by omega)
    rw [Lib.decDigits_length]
    omega
theorem ints_two (w : World) (x y : Int) (T : TypeId) (hx : InI x) (hy : InI y) : Ints (w.alloc (.cells #[.int .i64 x, .int .i64 y] T)) (some ⟨w.heap.size, 0, none⟩) [x, y] := by
  have h := heap_alloc_new w (.cells #[.int .i64 x, .int .i64 y] T)
  intro i hi
  match i, hi with
  | 0, _ => exact ⟨w.heap.size, 0, rfl, by simp, cell_at h rfl, hx.1, hx.2⟩
  | 1, _ => exact ⟨w.heap.size, 0, rfl, by simp, cell_at h rfl, hy.1, hy.2⟩
theorem own_nil {w : World} {base : Nat} {e : TypeId} {size n : Nat} {a : Option Addr} {cap : Nat} {xs : List Value} (h : w.ownsRow base e size (.slice a n cap) n xs) : a = none → cap = 0 := by
  rintro rfl
  rcases h.2 with ⟨h1, _⟩ | ⟨g, cap, cur, h1, _⟩
  · cases h1; rfl
  · cases h1
theorem ints_shows (xs : List Int) (a : Option Addr) (cap : Nat) (w : World) (hn : xs.length ≤ 1099511627776) (hi : Ints w a xs) (ht : HasTab w) :
    Calls Tryz.prog 55 #[.slice a xs.length cap] w fun e w' => ∃ a' cap', e = .returned (.slice a' xs.length cap') ∧ Shows w' a' (xs.map Lib.itoa) ∧ xs.length ≤ cap' ∧ (a' = none → cap' = 0) ∧ Below w.heap.size w w' := by
  refine (ints_any xs a cap w hn hi ht).mono ?_
  rintro e w' ⟨v, rfl, ho, hb⟩
  have ho2 : w'.ownsRow w.heap.size 9 1 v xs.length ((xs.map Lib.itoa).map fun l => .string (bs l)) := by rw [List.map_map]; exact ho
  obtain ⟨a', cap', rfl, h1, h2, h3⟩ := shows_of ho2
  exact ⟨a', cap', rfl, h3, h1, own_nil ho, hb⟩
theorem hex_shows (s : ByteArray) (w : World) (hs : s.size ≤ 1099511627776) :
    Calls Tryz.prog 81 #[.string s] w fun e w' => ∃ a' cap', e = .returned (.slice a' (hexW s.data.toList).length cap') ∧ Shows w' a' (hexW s.data.toList) ∧ (hexW s.data.toList).length ≤ cap' ∧ (a' = none → cap' = 0) ∧ Below w.heap.size w w' := by
  refine (hex_any s w hs).mono ?_
  rintro e w' ⟨v, rfl, ho, hb⟩
  obtain ⟨a', cap', rfl, h1, h2, h3⟩ := shows_of ho
  exact ⟨a', cap', rfl, h3, h1, own_nil ho, hb⟩
theorem hexW_len (l : List UInt8) : (hexW l).length ≤ 1099511627776 := by unfold hexW; split <;> simp
theorem hexW_glue {s : ByteArray} (h : s.size ≤ 4194304) : (glue ([105, 109, 112, 111, 114, 116] :: hexW s.data.toList)).length ≤ 1099511627776 := by
  have hl : s.data.toList.length = s.size := by simp
  unfold hexW
  split
  · simp [glue]
  · have := hexOf_len s.data.toList
    simp only [glue, List.length_append, List.length_cons, this]
    simp only [List.length_nil]
    omega
/-- What a slice of numbers of 64 bits shows. -/
def U64s (w : World) (a : Option Addr) (xs : List Nat) : Prop := ∀ i (h : i < xs.length), ∃ g off, a = some ⟨g, off, none⟩ ∧ g < w.heap.size ∧ w.cell? ⟨g, off + i, none⟩ = some (.int .u64 (xs[i]'h : Nat)) ∧ xs[i]'h < 18446744073709551616
theorem U64s.keep {w w' : World} {a : Option Addr} {xs : List Nat} (h : U64s w a xs) (hb : Below w.heap.size w w') : U64s w' a xs := fun i hi => by
  obtain ⟨g, off, h1, h2, h3, h4⟩ := h i hi
  exact ⟨g, off, h1, Nat.lt_of_lt_of_le h2 hb.size, (hb.cell (p := ⟨g, off + i, none⟩) h2).trans h3, h4⟩
end Go.Proofs.YthjcmcgmalnfpaaGreatDoor.Lex
/- script.call: a call's line, kind by kind (printed by tools/mk_call.py). -/
namespace Go.Proofs.YthjcmcgmalnfpaaGreatDoor.Lex
open Go.RowKit
set_option linter.unusedSimpArgs false
set_option linter.unusedVariables false
set_option maxRecDepth 100000 in
set_option maxHeartbeats 8000000 in
theorem call_1 (n dir who at' : Int) (text : ByteArray) (a : Option Addr) (len cap : Nat) (w : World) (hm : HasMax w) (ht : HasTab w) (hn : InI n) (hd : InI dir) :
    Calls Tryz.prog 56 #[.agg #[.int .i64 1, .int .i64 n, .int .i64 dir, .string text, .int .i64 who, .int .i64 at', .slice a len cap]] w fun e w' => e = .returned (.string (bs (glue ([103, 101, 116] :: ([Lib.itoa n, Lib.itoa dir])) ++ [10]))) ∧ Below w.heap.size w w' := by
  have HB0 : Hid (Below w.heap.size w (w.alloc (.cells #[.int .i64 1, .int .i64 n, .int .i64 dir, .string text, .int .i64 who, .int .i64 at', .slice a len cap] 50))) := Lib.hid ((Below.refl _ _).alloc (Nat.le_refl _) _)
  have HM := Lib.hid (hm.below HB0.out)
  have HT := Lib.hid (ht.below HB0.out)
  have HX := Lib.hid (box_new w 1 n dir text who at' (.slice a len cap) 50)
  clear hm ht
  go_enter Tryz.func56, Tryz.ntmps56
  go_wp2_with fail
  generalize w.alloc (.cells #[.int .i64 1, .int .i64 n, .int .i64 dir, .string text, .int .i64 who, .int .i64 at', .slice a len cap] 50) = W0 at *
  have c0 := HX.out.c0
  have w4 : IntKind.i64.wrap 0 = 0 := by decide
  go_region_with (first | (go_at_call 38; refine (split_names W0.drew HM.out).mono ?_; rintro e w1 ⟨rfl, hc, hb1'⟩; have hb1 : Below W0.heap.size W0 w1 := (Below.refl W0.heap.size W0).drew.trans hb1'; clear hb1'; have d1 : w1.cell? ⟨W0.heap.size, 0, none⟩ = some (.string (bs [103, 101, 116])) := hc 0 _ rfl; have s0 : w1.cell? ⟨w.heap.size, 0, none⟩ = some (.int .i64 1) := (HX.out.keep hb1).c0; have HX1 := Lib.hid (HX.out.keep hb1); have HT1 := Lib.hid (HT.out.below hb1); have HB1 := Lib.hid (HB0.out.trans (hb1.mono HB0.out.size)); clear hc hb1))
  all_goals
    have hs1 := HB1.out.size
    have c1 := HX1.out.c1
    have c2 := HX1.out.c2
    go_wp2_with fail
    refine (ints_shows [n, dir] _ 2 _ (by simp) (ints_two w1 n dir 3 hn hd) ((HT1.out).below ((Below.refl _ _).alloc (Nat.le_refl _) _))).mono ?_
    rintro e w2 ⟨a2, cap2, rfl, hs2, hc2, hn2, hb2⟩
    have HB2 := Lib.hid ((HB1.out.alloc hs1 _).trans (hb2.mono (by simp; omega)))
    clear hb2 c1 c2
    go_wp2_with (go_at_call 54; refine (line_any [103, 101, 116] [Lib.itoa n, Lib.itoa dir] a2 cap2 _ (by simp [glue]; have := itoa_len hn; have := itoa_len hd; omega) (by simp) hc2 hn2 hs2).mono ?_; rintro e w3 ⟨rfl, hb3⟩)
    go_ret
    exact ⟨rfl, HB2.out.trans (hb3.mono HB2.out.size)⟩
set_option maxRecDepth 100000 in
set_option maxHeartbeats 8000000 in
theorem call_2 (n dir who at' : Int) (text : ByteArray) (a : Option Addr) (len cap : Nat) (w : World) (hm : HasMax w) (ht : HasTab w) (hn : InI n) (hd : InI dir) :
    Calls Tryz.prog 56 #[.agg #[.int .i64 2, .int .i64 n, .int .i64 dir, .string text, .int .i64 who, .int .i64 at', .slice a len cap]] w fun e w' => e = .returned (.string (bs (glue ([108, 111, 111, 107, 117, 112] :: ([Lib.itoa n, Lib.itoa dir])) ++ [10]))) ∧ Below w.heap.size w w' := by
  have HB0 : Hid (Below w.heap.size w (w.alloc (.cells #[.int .i64 2, .int .i64 n, .int .i64 dir, .string text, .int .i64 who, .int .i64 at', .slice a len cap] 50))) := Lib.hid ((Below.refl _ _).alloc (Nat.le_refl _) _)
  have HM := Lib.hid (hm.below HB0.out)
  have HT := Lib.hid (ht.below HB0.out)
  have HX := Lib.hid (box_new w 2 n dir text who at' (.slice a len cap) 50)
  clear hm ht
  go_enter Tryz.func56, Tryz.ntmps56
  go_wp2_with fail
  generalize w.alloc (.cells #[.int .i64 2, .int .i64 n, .int .i64 dir, .string text, .int .i64 who, .int .i64 at', .slice a len cap] 50) = W0 at *
  have c0 := HX.out.c0
  have w4 : IntKind.i64.wrap 1 = 1 := by decide
  go_region_with (first | (go_at_call 38; refine (split_names W0.drew HM.out).mono ?_; rintro e w1 ⟨rfl, hc, hb1'⟩; have hb1 : Below W0.heap.size W0 w1 := (Below.refl W0.heap.size W0).drew.trans hb1'; clear hb1'; have d1 : w1.cell? ⟨W0.heap.size, 1, none⟩ = some (.string (bs [108, 111, 111, 107, 117, 112])) := hc 1 _ rfl; have s0 : w1.cell? ⟨w.heap.size, 0, none⟩ = some (.int .i64 2) := (HX.out.keep hb1).c0; have HX1 := Lib.hid (HX.out.keep hb1); have HT1 := Lib.hid (HT.out.below hb1); have HB1 := Lib.hid (HB0.out.trans (hb1.mono HB0.out.size)); clear hc hb1))
  all_goals
    have hs1 := HB1.out.size
    have c1 := HX1.out.c1
    have c2 := HX1.out.c2
    go_wp2_with fail
    refine (ints_shows [n, dir] _ 2 _ (by simp) (ints_two w1 n dir 3 hn hd) ((HT1.out).below ((Below.refl _ _).alloc (Nat.le_refl _) _))).mono ?_
    rintro e w2 ⟨a2, cap2, rfl, hs2, hc2, hn2, hb2⟩
    have HB2 := Lib.hid ((HB1.out.alloc hs1 _).trans (hb2.mono (by simp; omega)))
    clear hb2 c1 c2
    go_wp2_with (go_at_call 54; refine (line_any [108, 111, 111, 107, 117, 112] [Lib.itoa n, Lib.itoa dir] a2 cap2 _ (by simp [glue]; have := itoa_len hn; have := itoa_len hd; omega) (by simp) hc2 hn2 hs2).mono ?_; rintro e w3 ⟨rfl, hb3⟩)
    go_ret
    exact ⟨rfl, HB2.out.trans (hb3.mono HB2.out.size)⟩
set_option maxRecDepth 100000 in
set_option maxHeartbeats 8000000 in
theorem call_3 (n dir who at' : Int) (text : ByteArray) (a : Option Addr) (len cap : Nat) (w : World) (hm : HasMax w) (ht : HasTab w) (hn : InI n) (hd : InI dir) :
    Calls Tryz.prog 56 #[.agg #[.int .i64 3, .int .i64 n, .int .i64 dir, .string text, .int .i64 who, .int .i64 at', .slice a len cap]] w fun e w' => e = .returned (.string (bs (glue ([101, 118, 105, 99, 116] :: ([Lib.itoa n, Lib.itoa dir])) ++ [10]))) ∧ Below w.heap.size w w' := by
  have HB0 : Hid (Below w.heap.size w (w.alloc (.cells #[.int .i64 3, .int .i64 n, .int .i64 dir, .string text, .int .i64 who, .int .i64 at', .slice a len cap] 50))) := Lib.hid ((Below.refl _ _).alloc (Nat.le_refl _) _)
  have HM := Lib.hid (hm.below HB0.out)
  have HT := Lib.hid (ht.below HB0.out)
  have HX := Lib.hid (box_new w 3 n dir text who at' (.slice a len cap) 50)
  clear hm ht
  go_enter Tryz.func56, Tryz.ntmps56
  go_wp2_with fail
  generalize w.alloc (.cells #[.int .i64 3, .int .i64 n, .int .i64 dir, .string text, .int .i64 who, .int .i64 at', .slice a len cap] 50) = W0 at *
  have c0 := HX.out.c0
  have w4 : IntKind.i64.wrap 2 = 2 := by decide
  go_region_with (first | (go_at_call 38; refine (split_names W0.drew HM.out).mono ?_; rintro e w1 ⟨rfl, hc, hb1'⟩; have hb1 : Below W0.heap.size W0 w1 := (Below.refl W0.heap.size W0).drew.trans hb1'; clear hb1'; have d1 : w1.cell? ⟨W0.heap.size, 2, none⟩ = some (.string (bs [101, 118, 105, 99, 116])) := hc 2 _ rfl; have s0 : w1.cell? ⟨w.heap.size, 0, none⟩ = some (.int .i64 3) := (HX.out.keep hb1).c0; have HX1 := Lib.hid (HX.out.keep hb1); have HT1 := Lib.hid (HT.out.below hb1); have HB1 := Lib.hid (HB0.out.trans (hb1.mono HB0.out.size)); clear hc hb1))
  all_goals
    have hs1 := HB1.out.size
    have c1 := HX1.out.c1
    have c2 := HX1.out.c2
    go_wp2_with fail
    refine (ints_shows [n, dir] _ 2 _ (by simp) (ints_two w1 n dir 3 hn hd) ((HT1.out).below ((Below.refl _ _).alloc (Nat.le_refl _) _))).mono ?_
    rintro e w2 ⟨a2, cap2, rfl, hs2, hc2, hn2, hb2⟩
    have HB2 := Lib.hid ((HB1.out.alloc hs1 _).trans (hb2.mono (by simp; omega)))
    clear hb2 c1 c2
    go_wp2_with (go_at_call 54; refine (line_any [101, 118, 105, 99, 116] [Lib.itoa n, Lib.itoa dir] a2 cap2 _ (by simp [glue]; have := itoa_len hn; have := itoa_len hd; omega) (by simp) hc2 hn2 hs2).mono ?_; rintro e w3 ⟨rfl, hb3⟩)
    go_ret
    exact ⟨rfl, HB2.out.trans (hb3.mono HB2.out.size)⟩
set_option maxRecDepth 100000 in
set_option maxHeartbeats 8000000 in
theorem call_4 (n dir who at' : Int) (text : ByteArray) (a : Option Addr) (len cap : Nat) (w : World) (hm : HasMax w) (ht : HasTab w) (htx : text.size ≤ 4194304) :
    Calls Tryz.prog 56 #[.agg #[.int .i64 4, .int .i64 n, .int .i64 dir, .string text, .int .i64 who, .int .i64 at', .slice a len cap]] w fun e w' => e = .returned (.string (bs (glue ([105, 109, 112, 111, 114, 116] :: (hexW text.data.toList)) ++ [10]))) ∧ Below w.heap.size w w' := by
  have HB0 : Hid (Below w.heap.size w (w.alloc (.cells #[.int .i64 4, .int .i64 n, .int .i64 dir, .string text, .int .i64 who, .int .i64 at', .slice a len cap] 50))) := Lib.hid ((Below.refl _ _).alloc (Nat.le_refl _) _)
  have HM := Lib.hid (hm.below HB0.out)
  have HT := Lib.hid (ht.below HB0.out)
  have HX := Lib.hid (box_new w 4 n dir text who at' (.slice a len cap) 50)
  clear hm ht
  go_enter Tryz.func56, Tryz.ntmps56
  go_wp2_with fail
  generalize w.alloc (.cells #[.int .i64 4, .int .i64 n, .int .i64 dir, .string text, .int .i64 who, .int .i64 at', .slice a len cap] 50) = W0 at *
  have c0 := HX.out.c0
  have w4 : IntKind.i64.wrap 3 = 3 := by decide
  go_region_with (first | (go_at_call 38; refine (split_names W0.drew HM.out).mono ?_; rintro e w1 ⟨rfl, hc, hb1'⟩; have hb1 : Below W0.heap.size W0 w1 := (Below.refl W0.heap.size W0).drew.trans hb1'; clear hb1'; have d1 : w1.cell? ⟨W0.heap.size, 3, none⟩ = some (.string (bs [105, 109, 112, 111, 114, 116])) := hc 3 _ rfl; have s0 : w1.cell? ⟨w.heap.size, 0, none⟩ = some (.int .i64 4) := (HX.out.keep hb1).c0; have HX1 := Lib.hid (HX.out.keep hb1); have HT1 := Lib.hid (HT.out.below hb1); have HB1 := Lib.hid (HB0.out.trans (hb1.mono HB0.out.size)); clear hc hb1))
  all_goals
    have hs1 := HB1.out.size
    have c3 := HX1.out.c3
    go_wp2_with fail
    refine (hex_shows text _ (by omega)).mono ?_
    rintro e w2 ⟨a2, cap2, rfl, hs2, hc2, hn2, hb2⟩
    have HB2 := Lib.hid (HB1.out.trans (hb2.mono HB1.out.size))
    clear hb2 c3
    go_wp2_with (go_at_call 54; refine (line_any [105, 109, 112, 111, 114, 116] (hexW text.data.toList) a2 cap2 _ (hexW_glue htx) (hexW_len _) hc2 hn2 hs2).mono ?_; rintro e w3 ⟨rfl, hb3⟩)
    go_ret
    exact ⟨rfl, HB2.out.trans (hb3.mono HB2.out.size)⟩
set_option maxRecDepth 100000 in
set_option maxHeartbeats 8000000 in
theorem call_5 (n dir who at' : Int) (text : ByteArray) (a : Option Addr) (len cap : Nat) (w : World) (hm : HasMax w) (ht : HasTab w)  :
    Calls Tryz.prog 56 #[.agg #[.int .i64 5, .int .i64 n, .int .i64 dir, .string text, .int .i64 who, .int .i64 at', .slice a len cap]] w fun e w' => e = .returned (.string (bs (glue ([101, 120, 112, 111, 114, 116] :: ([])) ++ [10]))) ∧ Below w.heap.size w w' := by
  have HB0 : Hid (Below w.heap.size w (w.alloc (.cells #[.int .i64 5, .int .i64 n, .int .i64 dir, .string text, .int .i64 who, .int .i64 at', .slice a len cap] 50))) := Lib.hid ((Below.refl _ _).alloc (Nat.le_refl _) _)
  have HM := Lib.hid (hm.below HB0.out)
  have HT := Lib.hid (ht.below HB0.out)
  have HX := Lib.hid (box_new w 5 n dir text who at' (.slice a len cap) 50)
  clear hm ht
  go_enter Tryz.func56, Tryz.ntmps56
  go_wp2_with fail
  generalize w.alloc (.cells #[.int .i64 5, .int .i64 n, .int .i64 dir, .string text, .int .i64 who, .int .i64 at', .slice a len cap] 50) = W0 at *
  have c0 := HX.out.c0
  have w4 : IntKind.i64.wrap 4 = 4 := by decide
  go_region_with (first | (go_at_call 38; refine (split_names W0.drew HM.out).mono ?_; rintro e w1 ⟨rfl, hc, hb1'⟩; have hb1 : Below W0.heap.size W0 w1 := (Below.refl W0.heap.size W0).drew.trans hb1'; clear hb1'; have d1 : w1.cell? ⟨W0.heap.size, 4, none⟩ = some (.string (bs [101, 120, 112, 111, 114, 116])) := hc 4 _ rfl; have s0 : w1.cell? ⟨w.heap.size, 0, none⟩ = some (.int .i64 5) := (HX.out.keep hb1).c0; have HX1 := Lib.hid (HX.out.keep hb1); have HT1 := Lib.hid (HT.out.below hb1); have HB1 := Lib.hid (HB0.out.trans (hb1.mono HB0.out.size)); clear hc hb1))
  all_goals
    have hs1 := HB1.out.size
    go_wp2_with (go_at_call 54; refine (line_any [101, 120, 112, 111, 114, 116] [] none 0 _ (by simp [glue]) (by simp) (by simp) (fun _ => rfl) (fun i hi => absurd hi (by simp))).mono ?_; rintro e w3 ⟨rfl, hb3⟩)
    go_ret
    exact ⟨rfl, HB1.out.trans (hb3.mono HB1.out.size)⟩
set_option maxRecDepth 100000 in
set_option maxHeartbeats 8000000 in
theorem call_7 (n dir who at' : Int) (text : ByteArray) (a : Option Addr) (len cap : Nat) (w : World) (hm : HasMax w) (ht : HasTab w) (hw : InI who) (ha : InI at') :
    Calls Tryz.prog 56 #[.agg #[.int .i64 7, .int .i64 n, .int .i64 dir, .string text, .int .i64 who, .int .i64 at', .slice a len cap]] w fun e w' => e = .returned (.string (bs (glue ([114, 101, 108, 101, 97, 115, 101] :: ([Lib.itoa who, Lib.itoa at'])) ++ [10]))) ∧ Below w.heap.size w w' := by
  have HB0 : Hid (Below w.heap.size w (w.alloc (.cells #[.int .i64 7, .int .i64 n, .int .i64 dir, .string text, .int .i64 who, .int .i64 at', .slice a len cap] 50))) := Lib.hid ((Below.refl _ _).alloc (Nat.le_refl _) _)
  have HM := Lib.hid (hm.below HB0.out)
  have HT := Lib.hid (ht.below HB0.out)
  have HX := Lib.hid (box_new w 7 n dir text who at' (.slice a len cap) 50)
  clear hm ht
  go_enter Tryz.func56, Tryz.ntmps56
  go_wp2_with fail
  generalize w.alloc (.cells #[.int .i64 7, .int .i64 n, .int .i64 dir, .string text, .int .i64 who, .int .i64 at', .slice a len cap] 50) = W0 at *
  have c0 := HX.out.c0
  have w4 : IntKind.i64.wrap 6 = 6 := by decide
  go_region_with (first | (go_at_call 38; refine (split_names W0.drew HM.out).mono ?_; rintro e w1 ⟨rfl, hc, hb1'⟩; have hb1 : Below W0.heap.size W0 w1 := (Below.refl W0.heap.size W0).drew.trans hb1'; clear hb1'; have d1 : w1.cell? ⟨W0.heap.size, 6, none⟩ = some (.string (bs [114, 101, 108, 101, 97, 115, 101])) := hc 6 _ rfl; have s0 : w1.cell? ⟨w.heap.size, 0, none⟩ = some (.int .i64 7) := (HX.out.keep hb1).c0; have HX1 := Lib.hid (HX.out.keep hb1); have HT1 := Lib.hid (HT.out.below hb1); have HB1 := Lib.hid (HB0.out.trans (hb1.mono HB0.out.size)); clear hc hb1))
  all_goals
    have hs1 := HB1.out.size
    have c4 := HX1.out.c4
    have c5 := HX1.out.c5
    go_wp2_with fail
    refine (ints_shows [who, at'] _ 2 _ (by simp) (ints_two w1 who at' 3 hw ha) ((HT1.out).below ((Below.refl _ _).alloc (Nat.le_refl _) _))).mono ?_
    rintro e w2 ⟨a2, cap2, rfl, hs2, hc2, hn2, hb2⟩
    have HB2 := Lib.hid ((HB1.out.alloc hs1 _).trans (hb2.mono (by simp; omega)))
    clear hb2 c4 c5
    go_wp2_with (go_at_call 54; refine (line_any [114, 101, 108, 101, 97, 115, 101] [Lib.itoa who, Lib.itoa at'] a2 cap2 _ (by simp [glue]; have := itoa_len hw; have := itoa_len ha; omega) (by simp) hc2 hn2 hs2).mono ?_; rintro e w3 ⟨rfl, hb3⟩)
    go_ret
    exact ⟨rfl, HB2.out.trans (hb3.mono HB2.out.size)⟩
end Go.Proofs.YthjcmcgmalnfpaaGreatDoor.Lex
/- script.call: a call's line, kind by kind (printed by tools/mk_call.py). -/
namespace Go.Proofs.YthjcmcgmalnfpaaGreatDoor.Lex
open Go.RowKit
set_option linter.unusedSimpArgs false
set_option linter.unusedVariables false
theorem u64s_lt {w : World} {a : Option Addr} {xs : List Nat} (h : U64s w a xs) : ∀ u ∈ xs, u < 18446744073709551616 := fun u hu => by
  obtain ⟨i, hi, rfl⟩ := List.mem_iff_getElem.1 hu
  obtain ⟨_, _, _, _, _, h4⟩ := h i hi
  exact h4
theorem glue_len (l : List (List UInt8)) (m : Nat) (h : ∀ x ∈ l, x.length ≤ m) : (glue l).length ≤ l.length * (m + 1) := by
  induction l with
  | nil => simp [glue]
  | cons a l ih =>
    have h1 := ih fun x hx => h x (by simp [hx])
    have h2 := h a (by simp)
    cases l with
    | nil => simp [glue]; omega
    | cons b r =>
      simp only [glue, List.length_append, List.length_cons] at h1 ⊢
      rw [Nat.add_mul (r.length + 1) 1, Nat.one_mul]
      omega
theorem glue6 {who at' : Int} {xs : List Nat} (hw : InI who) (ha : InI at') (hx : ∀ u ∈ xs, u < 18446744073709551616) (hl : xs.length ≤ 4194304) :
    (glue ([101, 120, 101, 99, 117, 116, 101] :: ([Lib.itoa who, Lib.itoa at'] ++ xs.map Lib.decDigits))).length ≤ 1099511627776 := by
  refine Nat.le_trans (glue_len _ 20 fun x hm => ?_) ?_
  · simp only [List.mem_cons, List.mem_append, List.mem_map, List.mem_nil_iff, or_false] at hm
    rcases hm with rfl | (rfl | rfl) | ⟨u, hu, rfl⟩
    · simp
    · exact itoa_len hw
    · exact itoa_len ha
    · rw [Lib.decDigits_length]
      exact nDigits_le 19 u (by have := hx u hu; omega)
  · simp only [List.length_cons, List.length_append, List.length_map, List.length_nil]
    omega
set_option maxRecDepth 100000 in
set_option maxHeartbeats 8000000 in
theorem call_6 (n dir who at' : Int) (text : ByteArray) (a : Option Addr) (cap : Nat) (w : World) (hm : HasMax w) (ht : HasTab w) (hw : InI who) (ha : InI at') (xs : List Nat) (hxs : xs.length ≤ 4194304) (hx : U64s w a xs) :
    Calls Tryz.prog 56 #[.agg #[.int .i64 6, .int .i64 n, .int .i64 dir, .string text, .int .i64 who, .int .i64 at', .slice a xs.length cap]] w fun e w' => e = .returned (.string (bs (glue ([101, 120, 101, 99, 117, 116, 101] :: ([Lib.itoa who, Lib.itoa at'] ++ xs.map Lib.decDigits)) ++ [10]))) ∧ Below w.heap.size w w' := by
  have HB0 : Hid (Below w.heap.size w (w.alloc (.cells #[.int .i64 6, .int .i64 n, .int .i64 dir, .string text, .int .i64 who, .int .i64 at', .slice a xs.length cap] 50))) := Lib.hid ((Below.refl _ _).alloc (Nat.le_refl _) _)
  have HM := Lib.hid (hm.below HB0.out)
  have HT := Lib.hid (ht.below HB0.out)
  have HX := Lib.hid (box_new w 6 n dir text who at' (.slice a xs.length cap) 50)
  have HU := Lib.hid hx
  have HXL : Hid (∀ u ∈ xs, u < 18446744073709551616) := Lib.hid (u64s_lt hx)
  have HT0 := Lib.hid ht
  clear hx
  clear hm ht
  go_enter Tryz.func56, Tryz.ntmps56
  go_wp2_with fail
  generalize w.alloc (.cells #[.int .i64 6, .int .i64 n, .int .i64 dir, .string text, .int .i64 who, .int .i64 at', .slice a xs.length cap] 50) = W0 at *
  have c0 := HX.out.c0
  have w4 : IntKind.i64.wrap 5 = 5 := by decide
  go_region_with (first | (go_at_call 38; refine (split_names W0.drew HM.out).mono ?_; rintro e w1 ⟨rfl, hc, hb1'⟩; have hb1 : Below W0.heap.size W0 w1 := (Below.refl W0.heap.size W0).drew.trans hb1'; clear hb1'; have d1 : w1.cell? ⟨W0.heap.size, 5, none⟩ = some (.string (bs [101, 120, 101, 99, 117, 116, 101])) := hc 5 _ rfl; have s0 : w1.cell? ⟨w.heap.size, 0, none⟩ = some (.int .i64 6) := (HX.out.keep hb1).c0; have HX1 := Lib.hid (HX.out.keep hb1); have HT1 := Lib.hid (HT.out.below hb1); have HB01 := Lib.hid hb1; have HB1 := Lib.hid (HB0.out.trans (hb1.mono HB0.out.size)); clear hc hb1))
  all_goals
    have hs1 := HB1.out.size
    have c4 := HX1.out.c4
    have c5 := HX1.out.c5
    have c6 := HX1.out.c6
    go_wp2_with fail
    refine (ints_any [who, at'] _ 2 _ (by simp) (ints_two w1 who at' 3 hw ha) ((HT1.out).below ((Below.refl _ _).alloc (Nat.le_refl _) _))).mono ?_
    rintro e w2 ⟨v2, rfl, ho2, hb2⟩
    have HB12 := Lib.hid (((Below.refl w1.heap.size w1).alloc (Nat.le_refl _) (.cells #[.int .i64 who, .int .i64 at'] 3)).trans (hb2.mono (by simp)))
    have HB2 := Lib.hid (HB1.out.trans (HB12.out.mono hs1))
    have c62 := (HX1.out.keep HB12.out).c6
    have ho2' := own_mono ho2 (C' := w.heap.size) (by simp; omega)
    have HO2 := Lib.hid ho2'
    clear hb2 ho2 ho2' c4 c5 c6 d1 s0 c0
    go_wp2_with fail
    go_loopg [4, 59] xs.length (fun g v iv wr => ∃ j : Nat, j ≤ xs.length ∧ g = xs.length - j ∧ iv = .int .i64 j ∧ wr.ownsRow w.heap.size 9 1 v (2 + j) (([Lib.itoa who, Lib.itoa at'] ++ (xs.take j).map Lib.decDigits).map fun l => .string (bs l)) ∧ Below w.heap.size w wr)
    case atStart => exact ⟨0, by omega, by omega, rfl, by simpa using HO2.out, HB2.out⟩
    case round =>
      obtain ⟨j, hj, rfl, rfl, hown, hbw⟩ := hrel
      obtain ⟨wo, rfl⟩ : ∃ wo : World, wo = wr := ⟨_, rfl⟩
      have HO := Lib.hid hown
      have HB := Lib.hid hbw
      have HTW := Lib.hid (HT0.out.below hbw)
      have hsz := hbw.size
      by_cases hlt : j < xs.length
      · obtain ⟨g, off, rfl, _, e1, r1⟩ := HU.out.keep hbw j hlt
        have HTK : Hid (xs.take (j + 1) = xs.take j ++ [xs[j]'hlt]) := Lib.hid (List.take_succ_eq_append_getElem hlt)
        generalize xs[j]'hlt = x at *
        clear hown hbw
        go_wp2_with (first | (go_at_call 26; refine (fmtU_any x r1 _ HTW.out).mono ?_; rintro e w' ⟨rfl, hb2⟩; have HB3 := Lib.hid (HB.out.trans (hb2.mono HB.out.size)); have HO3 := Lib.hid (own_below HO.out hb2); have hsz3 := HB3.out.size; clear hb2) | (at_builtin; refine wpl_app1 rfl _ _ 96 rfl strElem _ _ _ rfl _ rfl rfl HO3.out HB3.out (Nat.le_refl _) hsz3 (by omega) (by unfold maxLen; omega) ?_; intro v' w4 hown4 hbw4 hg4; have HO4 := Lib.hid hown4; have HB4 := Lib.hid hbw4; clear hg4 hown4 hbw4))
        go_roundg (xs.length - (j + 1))
        case measure => omega
        case rel => exact ⟨j + 1, by omega, rfl, by go_num, by rw [HTK.out]; simpa [Nat.add_assoc] using HO4.out, HB4.out⟩
      · obtain rfl : j = xs.length := by omega
        obtain ⟨a5, cap5, rfl, hc5, hm5, hs5⟩ := shows_of hown
        have hn5 := own_nil hown
        rw [List.take_of_length_le (Nat.le_refl _)] at hs5
        have hll : ([Lib.itoa who, Lib.itoa at'] ++ xs.map Lib.decDigits).length = 2 + xs.length := by simp; omega
        have HLN := line_any [101, 120, 101, 99, 117, 116, 101] ([Lib.itoa who, Lib.itoa at'] ++ xs.map Lib.decDigits) a5 cap5 wo (glue6 hw ha HXL.out hxs) (by omega) (by omega) hn5 hs5
        rw [hll] at HLN
        have HLN2 := Lib.hid HLN
        clear HLN hll hown hbw hs5 hn5
        go_wp2_with (go_at_call 54; refine HLN2.out.mono ?_; rintro e w3 ⟨rfl, hb3⟩)
        go_ret
        exact ⟨rfl, HB.out.trans (hb3.mono HB.out.size)⟩
end Go.Proofs.YthjcmcgmalnfpaaGreatDoor.Lex
/- script.Print: walked. -/
namespace Go.Proofs.YthjcmcgmalnfpaaGreatDoor.Lex
open Go.RowKit
set_option linter.unusedSimpArgs false
set_option linter.unusedVariables false
/-- A call, as memory shows it. -/
structure CallV where
  kind : Int
  n : Int
  dir : Int
  text : ByteArray
  who : Int
  at_ : Int
  xs : List Nat
/-- Its numbers are ints; its row and its text are not too long for a walk. -/
structure CallV.Fits (c : CallV) : Prop where
  kind : InI c.kind
  n : InI c.n
  dir : InI c.dir
  who : InI c.who
  at_ : InI c.at_
  text : c.text.size ≤ 4194304
  xs : c.xs.length ≤ 4194304
abbrev CallV.val (c : CallV) (a : Option Addr) (cap : Nat) : Value := .agg #[.int .i64 c.kind, .int .i64 c.n, .int .i64 c.dir, .string c.text, .int .i64 c.who, .int .i64 c.at_, .slice a c.xs.length cap]
/-- A call's words; none: it has no kind. -/
def callW (c : CallV) : Option (List (List UInt8)) :=
  if c.kind = 1 then some ([103, 101, 116] :: [Lib.itoa c.n, Lib.itoa c.dir])
  else if c.kind = 2 then some ([108, 111, 111, 107, 117, 112] :: [Lib.itoa c.n, Lib.itoa c.dir])
  else if c.kind = 3 then some ([101, 118, 105, 99, 116] :: [Lib.itoa c.n, Lib.itoa c.dir])
  else if c.kind = 4 then some ([105, 109, 112, 111, 114, 116] :: hexW c.text.data.toList)
  else if c.kind = 5 then some ([101, 120, 112, 111, 114, 116] :: [])
  else if c.kind = 6 then some ([101, 120, 101, 99, 117, 116, 101] :: ([Lib.itoa c.who, Lib.itoa c.at_] ++ c.xs.map Lib.decDigits))
  else if c.kind = 7 then some ([114, 101, 108, 101, 97, 115, 101] :: [Lib.itoa c.who, Lib.itoa c.at_])
  else none
/-- A call's line; none: no text. -/
def callT (c : CallV) : List UInt8 := match callW c with | none => [] | some ws => glue ws ++ [10]
theorem call_none {k n dir who at' : Int} {text : ByteArray} {a : Option Addr} {len cap : Nat} (w : World) (h : k < 1 ∨ 7 < k) :
    Calls Tryz.prog 56 #[.agg #[.int .i64 k, .int .i64 n, .int .i64 dir, .string text, .int .i64 who, .int .i64 at', .slice a len cap]] w fun e w' => e = .returned (.string ⟨#[]⟩) ∧ Below w.heap.size w w' := by
  by_cases h0 : k < 1
  · clear h
    go_enter Tryz.func56, Tryz.ntmps56
    go_wp2_with fail
    go_ret
    exact ⟨rfl, (Below.refl _ _).alloc (Nat.le_refl _) _⟩
  · have h1 : 7 < k := by omega
    clear h
    go_enter Tryz.func56, Tryz.ntmps56
    go_wp2_with fail
    go_ret
    exact ⟨rfl, (Below.refl _ _).alloc (Nat.le_refl _) _⟩
theorem call_any (c : CallV) (hf : c.Fits) (a : Option Addr) (cap : Nat) (w : World) (hx : U64s w a c.xs) (hm : HasMax w) (ht : HasTab w) :
    Calls Tryz.prog 56 #[.agg #[.int .i64 c.kind, .int .i64 c.n, .int .i64 c.dir, .string c.text, .int .i64 c.who, .int .i64 c.at_, .slice a c.xs.length cap]] w fun e w' => e = .returned (.string (bs (callT c))) ∧ Below w.heap.size w w' := by
  obtain ⟨k, n, dir, text, who, at', xs⟩ := c
  obtain ⟨f1, f2, f3, f4, f5, f6, f7⟩ := hf
  simp only at *
  by_cases h : k < 1 ∨ 7 < k
  · have e : callT ⟨k, n, dir, text, who, at', xs⟩ = [] := by
      simp only [callT, callW]
      repeat rw [if_neg (by omega)]
    rw [e]
    exact call_none w h
  · rcases (by omega : k = 1 ∨ k = 2 ∨ k = 3 ∨ k = 4 ∨ k = 5 ∨ k = 6 ∨ k = 7) with rfl | rfl | rfl | rfl | rfl | rfl | rfl
    · exact call_1 n dir who at' text a xs.length cap w hm ht f2 f3
    · exact call_2 n dir who at' text a xs.length cap w hm ht f2 f3
    · exact call_3 n dir who at' text a xs.length cap w hm ht f2 f3
    · exact call_4 n dir who at' text a xs.length cap w hm ht f6
    · exact call_5 n dir who at' text a xs.length cap w hm ht
    · exact call_6 n dir who at' text a cap w hm ht f4 f5 xs f7 hx
    · exact call_7 n dir who at' text a xs.length cap w hm ht f4 f5
end Go.Proofs.YthjcmcgmalnfpaaGreatDoor.Lex
/- script.Print: the state of its walk. -/
namespace Go.Proofs.YthjcmcgmalnfpaaGreatDoor.Lex
open Go.RowKit
set_option linter.unusedSimpArgs false
set_option linter.unusedVariables false
/-- What a slice of calls shows. -/
def CallRow (w : World) (a : Option Addr) (l : List CallV) : Prop := ∀ k (h : k < l.length), ∃ g off ax cx, a = some ⟨g, off, none⟩ ∧ g < w.heap.size ∧
  w.cell? ⟨g, off + k * 7, none⟩ = some (.int .i64 (l[k]'h).kind) ∧ w.cell? ⟨g, off + k * 7 + 1, none⟩ = some (.int .i64 (l[k]'h).n) ∧ w.cell? ⟨g, off + k * 7 + 2, none⟩ = some (.int .i64 (l[k]'h).dir) ∧
  w.cell? ⟨g, off + k * 7 + 3, none⟩ = some (.string (l[k]'h).text) ∧ w.cell? ⟨g, off + k * 7 + 4, none⟩ = some (.int .i64 (l[k]'h).who) ∧ w.cell? ⟨g, off + k * 7 + 5, none⟩ = some (.int .i64 (l[k]'h).at_) ∧
  w.cell? ⟨g, off + k * 7 + 6, none⟩ = some (.slice ax (l[k]'h).xs.length cx) ∧ U64s w ax (l[k]'h).xs
theorem CallRow.keep {w w' : World} {a : Option Addr} {l : List CallV} (h : CallRow w a l) (hb : Below w.heap.size w w') : CallRow w' a l := fun k hk => by
  obtain ⟨g, off, ax, cx, h1, h2, c0, c1, c2, c3, c4, c5, c6, hu⟩ := h k hk
  have e : ∀ i, w'.cell? ⟨g, i, none⟩ = w.cell? ⟨g, i, none⟩ := fun i => hb.cell (p := ⟨g, i, none⟩) h2
  exact ⟨g, off, ax, cx, h1, Nat.lt_of_lt_of_le h2 hb.size, (e _).trans c0, (e _).trans c1, (e _).trans c2, (e _).trans c3, (e _).trans c4, (e _).trans c5, (e _).trans c6, hu.keep hb⟩
/-- What a slice of slices of calls shows. -/
def CallRows (w : World) (a : Option Addr) (L : List (List CallV)) : Prop := ∀ i (h : i < L.length), ∃ g off ax cx, a = some ⟨g, off, none⟩ ∧ g < w.heap.size ∧ w.cell? ⟨g, off + i, none⟩ = some (.slice ax (L[i]'h).length cx) ∧ CallRow w ax (L[i]'h)
theorem CallRows.keep {w w' : World} {a : Option Addr} {L : List (List CallV)} (h : CallRows w a L) (hb : Below w.heap.size w w') : CallRows w' a L := fun i hi => by
  obtain ⟨g, off, ax, cx, h1, h2, c0, hr⟩ := h i hi
  exact ⟨g, off, ax, cx, h1, Nat.lt_of_lt_of_le h2 hb.size, (hb.cell (p := ⟨g, off + i, none⟩) h2).trans c0, hr.keep hb⟩
/-- The state of a print: the script's box, the builder behind it. -/
structure PS (w0 W : World) (box : Array Value) (l : List UInt8) : Prop where
  below : Below w0.heap.size w0 W
  box : W.heap[w0.heap.size]? = some (.cells box 95 (0, 0))
  bld : Bld W (w0.heap.size + 1) (w0.heap.size + 2) l
  size : w0.heap.size + 2 ≤ W.heap.size
theorem PS.start (w : World) (box : Array Value) : PS w ((w.alloc (.cells box 95)).alloc (.cells #[.pointer none, .slice none 0 0] 64)) box [] := by
  refine ⟨((Below.refl _ _).alloc (Nat.le_refl _) _).alloc (by simp) _, ?_, ?_, by simp⟩
  · rw [Lib.alloc_old _ _ _ (by simp)]
    exact heap_alloc_new w _
  · have := bld_new (w.alloc (.cells box 95)) (w.heap.size + 2)
    simpa using this
theorem PS.keep {w0 W W' : World} {box : Array Value} {l : List UInt8} (h : PS w0 W box l) (hb : Below W.heap.size W W') : PS w0 W' box l :=
  ⟨h.below.trans (hb.mono h.below.size), (hb.block _ (by have := h.size; omega)).trans h.box, h.bld.keep hb, Nat.le_trans h.size hb.size⟩
theorem PS.write {w0 W : World} {box : Array Value} {l : List UInt8} (h : PS w0 W box l) (s : List UInt8) (hlen : l.length + s.length ≤ 140737488355328) :
    Calls Tryz.prog 14 #[.pointer (some ⟨w0.heap.size + 1, 0, none⟩), .string (bs s)] W fun e w' => e = .returned (.tuple #[.int .i64 (bs s).size, .nilIface]) ∧ PS w0 w' box (l ++ s) := by
  refine (bld_write _ _ l (bs s) W h.bld (by rw [size_bs]; exact hlen) h.size).mono ?_
  rintro e w' ⟨h1, h2, h3⟩
  exact ⟨h1, h.below.trans (h3.below (by omega) (by omega)), (h3.block _ (by omega) (by omega)).trans h.box, h2, Nat.le_trans h.size h3.size⟩
theorem PS.alloc {w0 W : World} {box : Array Value} {l : List UInt8} (h : PS w0 W box l) (o : Obj) : PS w0 (W.alloc o) box l := h.keep ((Below.refl _ _).alloc (Nat.le_refl _) _)
/-- A print's text: all its lines; of a call without a kind no line. -/
def playW : List UInt8 := [112, 108, 97, 121]
def picksW : List UInt8 := [112, 105, 99, 107, 115]
def ticksW : List UInt8 := [116, 105, 99, 107, 115]
def clientW : List UInt8 := [99, 108, 105, 101, 110, 116]
def intsL (word : List UInt8) (l : List Int) : List UInt8 := glue (word :: l.map Lib.itoa) ++ [10]
def headT (stripes room : Int) (picks ticks : List Int) : List UInt8 := intsL playW [stripes, room] ++ intsL picksW picks ++ intsL ticksW ticks
def callsT (l : List CallV) : List UInt8 := l.flatMap callT
def clientT (l : List CallV) : List UInt8 := (glue [clientW] ++ [10]) ++ callsT l
def clientsT (L : List (List CallV)) : List UInt8 := L.flatMap clientT
theorem PS.cell {w0 W : World} {box : Array Value} {l : List UInt8} (h : PS w0 W box l) (i : Nat) {u : Value} (hu : box[i]? = some u) : W.cell? ⟨w0.heap.size, i, none⟩ = some u := cell_at h.box hu
theorem line_ints (word : List UInt8) (xs : List Int) (a : Option Addr) (cap : Nat) (w : World) (hl : (intsL word xs).length ≤ 1099511627776) (hn : xs.length ≤ 1099511627776) (hc : xs.length ≤ cap) (hnil : a = none → cap = 0) (hs : Shows w a (xs.map Lib.itoa)) :
    Calls Tryz.prog 54 #[.string (bs word), .slice a xs.length cap] w fun e w' => e = .returned (.string (bs (intsL word xs))) ∧ Below w.heap.size w w' := by
  have h := line_any word (xs.map Lib.itoa) a cap w (by simp only [intsL, List.length_append] at hl; omega) (by simpa using hn) (by simpa using hc) hnil hs
  rw [List.length_map] at h
  exact h
theorem intsL_len (word : List UInt8) (l : List Int) : (glue (word :: l.map Lib.itoa)).length + 1 = (intsL word l).length := by simp [intsL]
theorem callT_none {c : CallV} (h : callW c = none) : callT c = [] := by rw [callT, h]
theorem callT_some {c : CallV} (h : callW c ≠ none) : callT c ≠ [] := by
  unfold callT
  cases e : callW c with
  | none => exact absurd e h
  | some ws => simp
/-- What Print makes of a script. -/
def PrintPost (L : List (List CallV)) (T : List UInt8) (w : World) (e : Ending) (w' : World) : Prop :=
  Below w.heap.size w w' ∧
  (((∃ l ∈ L, ∃ c ∈ l, callW c = none) ∧ e = .returned (.tuple #[.string ⟨#[]⟩, .int .i64 2])) ∨
   ((∀ l ∈ L, ∀ c ∈ l, callW c ≠ none) ∧ ((1048576 < T.length ∧ e = .returned (.tuple #[.string ⟨#[]⟩, .int .i64 12])) ∨ (T.length ≤ 1048576 ∧ e = .returned (.tuple #[.string (bs T), .int .i64 0])))))
theorem clients_take {L : List (List CallV)} {i : Nat} (h : i < L.length) : clientsT (L.take (i + 1)) = clientsT (L.take i) ++ clientT (L[i]'h) := by
  rw [List.take_succ_eq_append_getElem h]
  simp only [clientsT, List.flatMap_append, List.flatMap_cons, List.flatMap_nil, List.append_nil]
theorem calls_take {l : List CallV} {k : Nat} (h : k < l.length) : callsT (l.take (k + 1)) = callsT (l.take k) ++ callT (l[k]'h) := by
  rw [List.take_succ_eq_append_getElem h]
  simp only [callsT, List.flatMap_append, List.flatMap_cons, List.flatMap_nil, List.append_nil]
theorem clients_le (L : List (List CallV)) (i : Nat) : (clientsT (L.take i)).length ≤ (clientsT L).length := by
  have e : clientsT L = clientsT (L.take i) ++ clientsT (L.drop i) := by
    rw [clientsT, clientsT, clientsT, ← List.flatMap_append, List.take_append_drop]
  rw [e, List.length_append]
  omega
theorem calls_le (l : List CallV) (k : Nat) : (callsT (l.take k)).length ≤ (callsT l).length := by
  have e : callsT l = callsT (l.take k) ++ callsT (l.drop k) := by
    rw [callsT, callsT, callsT, ← List.flatMap_append, List.take_append_drop]
  rw [e, List.length_append]
  omega
set_option maxRecDepth 100000 in
set_option maxHeartbeats 16000000 in
theorem print_walk (stripes room : Int) (picks ticks : List Int) (L : List (List CallV)) (aC aP aT : Option Addr) (cC cP cT : Nat) (w : World) (hm : HasMax w) (ht : HasTab w)
    (hs : InI stripes) (hr : InI room) (hP : Ints w aP picks) (hT : Ints w aT ticks) (hC : CallRows w aC L) (hfit : ∀ l ∈ L, ∀ c ∈ l, c.Fits)
    (hpl : picks.length ≤ 4194304) (htl : ticks.length ≤ 4194304) (hLl : L.length ≤ 4194304) (hll : ∀ l ∈ L, l.length ≤ 4194304) (htot : (headT stripes room picks ticks ++ clientsT L).length ≤ 1099511627776) :
    Calls Tryz.prog 37 #[.agg #[.int .i64 stripes, .int .i64 room, .slice aC L.length cC, .slice aP picks.length cP, .slice aT ticks.length cT]] w (PrintPost L (headT stripes room picks ticks ++ clientsT L) w) := by
  have HP0 := Lib.hid (PS.start w #[.int .i64 stripes, .int .i64 room, .slice aC L.length cC, .slice aP picks.length cP, .slice aT ticks.length cT])
  have HT := Lib.hid ht
  have HM := Lib.hid hm
  have l1 : (intsL playW [stripes, room]).length ≤ 1099511627776 := by simp only [headT, List.length_append] at htot; omega
  have l2 : (intsL picksW picks).length ≤ 1099511627776 := by simp only [headT, List.length_append] at htot; omega
  have l3 : (intsL ticksW ticks).length ≤ 1099511627776 := by simp only [headT, List.length_append] at htot; omega
  have HPI := Lib.hid hP
  have HTI := Lib.hid hT
  have HCI := Lib.hid hC
  have HTOT := Lib.hid htot
  have HFIT := Lib.hid hfit
  have HLL := Lib.hid hll
  clear hm ht hP hT hC htot hfit hll
  go_enter Tryz.func37, Tryz.ntmps37
  go_wp2_with fail
  generalize hW2 : (w.alloc (.cells #[.int .i64 stripes, .int .i64 room, .slice aC L.length cC, .slice aP picks.length cP, .slice aT ticks.length cT] 95)).alloc (.cells #[.pointer none, .slice none 0 0] 64) = W2 at *
  have hz : W2.heap.size = w.heap.size + 1 + 1 := by rw [← hW2]; simp
  have hi2 := ints_two W2 stripes room 3 hs hr
  rw [hz] at hi2
  have HB2 := Lib.hid ((HP0.out.alloc (.cells #[.int .i64 stripes, .int .i64 room] 3)).below)
  have HP1 := Lib.hid (HP0.out.alloc (.cells #[.int .i64 stripes, .int .i64 room] 3))
  refine (ints_shows [stripes, room] _ 2 _ (by simp) hi2 (HT.out.below HB2.out)).mono ?_
  rintro e w3 ⟨a3, cap3, rfl, hs3, hc3, hn3, hb3⟩
  have HP3 := Lib.hid (HP1.out.keep hb3)
  clear hb3 hi2 hW2 hz
  go_wp2_with fail
  refine (line_any playW [Lib.itoa stripes, Lib.itoa room] a3 cap3 _ (by have := intsL_len playW [stripes, room]; simp only [List.map_cons, List.map_nil] at this; omega) (by simp) hc3 hn3 hs3).mono ?_
  rintro e w4 ⟨rfl, hb4⟩
  have HP4 := Lib.hid (HP3.out.keep hb4)
  clear hb4 hs3 hc3 hn3
  go_wp2_with fail
  refine (HP4.out.write (intsL playW [stripes, room]) (by simp; omega)).mono ?_
  rintro e w5 ⟨rfl, hp5⟩
  have HP5 := Lib.hid hp5
  have b3 := hp5.cell 3 rfl
  have b4 := hp5.cell 4 rfl
  have b2 := hp5.cell 2 rfl
  clear hp5
  go_wp2_with fail
  refine (ints_shows picks aP cP _ (by omega) (HPI.out.keep HP5.out.below) (HT.out.below HP5.out.below)).mono ?_
  rintro e w6 ⟨a6, cap6, rfl, hs6, hc6, hn6, hb6⟩
  have HP6 := Lib.hid (HP5.out.keep hb6)
  clear hb6 b2 b3 b4
  go_wp2_with fail
  refine (line_ints picksW picks a6 cap6 _ l2 (by omega) hc6 hn6 hs6).mono ?_
  rintro e w7 ⟨rfl, hb7⟩
  have HP7 := Lib.hid (HP6.out.keep hb7)
  clear hb7 hs6 hc6 hn6
  go_wp2_with fail
  refine (HP7.out.write (intsL picksW picks) (by simp only [List.nil_append]; omega)).mono ?_
  rintro e w8 ⟨rfl, hp8⟩
  have HP8 := Lib.hid hp8
  have b3 := hp8.cell 3 rfl
  have b4 := hp8.cell 4 rfl
  have b2 := hp8.cell 2 rfl
  clear hp8
  go_wp2_with fail
  refine (ints_shows ticks aT cT _ (by omega) (HTI.out.keep HP8.out.below) (HT.out.below HP8.out.below)).mono ?_
  rintro e w9 ⟨a9, cap9, rfl, hs9, hc9, hn9, hb9⟩
  have HP9 := Lib.hid (HP8.out.keep hb9)
  clear hb9 b2 b3 b4
  go_wp2_with fail
  refine (line_ints ticksW ticks a9 cap9 _ l3 (by omega) hc9 hn9 hs9).mono ?_
  rintro e w10 ⟨rfl, hb10⟩
  have HP10 := Lib.hid (HP9.out.keep hb10)
  clear hb10 hs9 hc9 hn9
  go_wp2_with fail
  refine (HP10.out.write (intsL ticksW ticks) (by simp only [List.nil_append, List.length_append]; omega)).mono ?_
  rintro e w11 ⟨rfl, hp11⟩
  have HP11 : Hid (PS w w11 _ (headT stripes room picks ticks)) := Lib.hid (by simpa [headT] using hp11)
  have b2 := hp11.cell 2 rfl
  clear hp11
  go_wp2_with fail
  go_loopg [31] L.length (fun g iv wr => ∃ i : Nat, i ≤ L.length ∧ g = L.length - i ∧ iv = .int .i64 i ∧ PS w wr #[.int .i64 stripes, .int .i64 room, .slice aC L.length cC, .slice aP picks.length cP, .slice aT ticks.length cT] (headT stripes room picks ticks ++ clientsT (L.take i)) ∧ ∀ l ∈ L.take i, ∀ c ∈ l, callW c ≠ none)
  case atStart => exact ⟨0, by omega, by omega, rfl, by simpa [clientsT] using HP11.out, by simp⟩
  case round =>
    obtain ⟨i, hi, rfl, rfl, hps, hok⟩ := hrel
    obtain ⟨wo, rfl⟩ : ∃ wo : World, wo = wr := ⟨_, rfl⟩
    have HPS := Lib.hid hps
    have HOK := Lib.hid hok
    clear hok b2
    by_cases hlt : i < L.length
    · obtain ⟨g, off, ax, cx, rfl, hg, e0', hrow⟩ := HCI.out i hlt
      have e0 := (hps.below.cell (p := ⟨g, off + i, none⟩) hg).trans e0'
      clear e0' hg
      have HROW := Lib.hid hrow
      have HTK := Lib.hid (clients_take hlt)
      have hci := clients_le L i
      have hci1 := clients_le L (i + 1)
      have HFL := Lib.hid (HFIT.out (L[i]'hlt) (List.getElem_mem hlt))
      have HLK := HLL.out (L[i]'hlt) (List.getElem_mem hlt)
      have HMEM := Lib.hid (List.getElem_mem hlt)
      have HTAKE : Hid (L.take (i + 1) = L.take i ++ [L[i]'hlt]) := Lib.hid (List.take_succ_eq_append_getElem hlt)
      generalize L[i]'hlt = l at *
      clear hps hrow
      go_wp2_with fail
      refine (line_any clientW [] none 0 _ (by simp [glue, clientW]) (by simp) (by simp) (fun _ => rfl) (fun i hi => absurd hi (by simp))).mono ?_
      rintro e w12 ⟨rfl, hb12⟩
      have HP12 := Lib.hid (HPS.out.keep hb12)
      clear hb12
      go_wp2_with fail
      refine (HP12.out.write (glue [clientW] ++ [10]) (by have := HTOT.out; simp [glue, clientW] at this ⊢; omega)).mono ?_
      rintro e w13 ⟨rfl, hp13⟩
      have HP13 := Lib.hid hp13
      clear hp13
      go_wp2_with fail
      have hlen1 : (headT stripes room picks ticks ++ clientsT (L.take i) ++ clientT l).length ≤ 1099511627776 := by
        have h1 := HTOT.out
        rw [HTK.out] at hci1
        simp only [List.length_append] at h1 hci1 ⊢
        omega
      have HLEN1 := Lib.hid hlen1
      clear hci hci1 hlen1
      go_loopg [39] l.length (fun g2 kv wr2 => ∃ k : Nat, k ≤ l.length ∧ g2 = l.length - k ∧ kv = .int .i64 k ∧ PS w wr2 #[.int .i64 stripes, .int .i64 room, .slice (some ⟨g, off, none⟩) L.length cC, .slice aP picks.length cP, .slice aT ticks.length cT] (headT stripes room picks ticks ++ clientsT (L.take i) ++ (glue [clientW] ++ [10]) ++ callsT (l.take k)) ∧ ∀ c ∈ l.take k, callW c ≠ none)
      case atStart => exact ⟨0, by omega, by omega, rfl, by simpa [callsT] using HP13.out, by simp⟩
      case round =>
        obtain ⟨k, hk, rfl, rfl, hps2, hok2⟩ := hrel
        obtain ⟨wk, rfl⟩ : ∃ wk : World, wk = wr := ⟨_, rfl⟩
        have HPS2 := Lib.hid hps2
        have HOK2 := Lib.hid hok2
        clear hok2
        by_cases hkl : k < l.length
        · obtain ⟨g3, off3, ax3, cx3, rfl, hg3, d0, d1, d2, d3, d4, d5, d6, hu⟩ := HROW.out.keep hps2.below k hkl
          have HU := Lib.hid hu
          have HCT := Lib.hid (calls_take hkl)
          have HFC := Lib.hid (HFL.out (l[k]'hkl) (List.getElem_mem hkl))
          have hck1 := calls_le l (k + 1)
          have HMC := Lib.hid (List.getElem_mem hkl)
          have HTK2 : Hid (l.take (k + 1) = l.take k ++ [l[k]'hkl]) := Lib.hid (List.take_succ_eq_append_getElem hkl)
          generalize l[k]'hkl = c at *
          clear hu
          go_wp2_with fail
          have HPA := Lib.hid (HPS2.out.alloc (.cells #[.int .i64 c.kind, .int .i64 c.n, .int .i64 c.dir, .string c.text, .int .i64 c.who, .int .i64 c.at_, .slice ax3 c.xs.length cx3] 50))
          refine (call_any c HFC.out ax3 cx3 _ (HU.out.keep ((Below.refl _ _).alloc (Nat.le_refl _) _)) (HM.out.below HPA.out.below) (HT.out.below HPA.out.below)).mono ?_
          rintro e w14 ⟨rfl, hb14⟩
          have HP14 := Lib.hid (HPA.out.keep hb14)
          clear hb14 d0 d1 d2 d3 d4 d5 d6 hps2
          by_cases hnone : callW c = none
          · have h1 : (bs (callT c)).toList.isEmpty = true := by rw [Lib.toList_data, callT_none hnone]; rfl
            have HNO := Lib.hid hnone
            clear hnone
            go_wp2_with fail
            go_ret2
            exact ⟨HP14.out.below, .inl ⟨⟨l, HMEM.out, c, HMC.out, HNO.out⟩, rfl⟩⟩
          · have h1 : (bs (callT c)).toList.isEmpty = false := by rw [Lib.toList_data]; exact (List.isEmpty_eq_false_iff).2 (callT_some hnone)
            have HYES := Lib.hid hnone
            clear hnone
            go_wp2_with fail
            refine (HP14.out.write (callT c) (by
              have h2 := HLEN1.out
              rw [HCT.out] at hck1
              simp only [clientT, List.length_append] at h2 hck1 ⊢
              omega)).mono ?_
            rintro e w15 ⟨rfl, hp15⟩
            have HP15 := Lib.hid hp15
            clear hp15
            go_wp2_with fail
            go_roundg (l.length - (k + 1))
            case measure => omega
            case rel => exact ⟨k + 1, by omega, rfl, by go_num, by rw [HCT.out]; simpa [List.append_assoc] using HP15.out, fun c' hc' => by
              rw [HTK2.out, List.mem_append, List.mem_singleton] at hc'
              rcases hc' with h | rfl
              · exact HOK2.out c' h
              · exact HYES.out⟩
        · have HLK2 : Hid (l.take k = l) := Lib.hid (List.take_of_length_le (by omega))
          have HPN : Hid (PS w wk #[.int .i64 stripes, .int .i64 room, .slice (some ⟨g, off, none⟩) L.length cC, .slice aP picks.length cP, .slice aT ticks.length cT] (headT stripes room picks ticks ++ clientsT (L.take (i + 1)))) := Lib.hid (by
            rw [HTK.out, clientT]
            rw [HLK2.out] at hps2
            simpa [List.append_assoc] using hps2)
          have HOKN : Hid (∀ l ∈ L.take (i + 1), ∀ c ∈ l, callW c ≠ none) := Lib.hid (by
            rw [HTAKE.out]
            intro l' hl' c hc
            rcases List.mem_append.1 hl' with h | h
            · exact HOK.out l' h c hc
            · rw [List.mem_singleton] at h
              subst h
              exact HOK2.out c (by rw [HLK2.out]; exact hc))
          clear hps2
          go_wp2_with fail
          go_roundg (L.length - (i + 1))
          case measure => omega
          case rel => exact ⟨i + 1, by omega, rfl, by go_num, HPN.out, HOKN.out⟩
    · have HB := Lib.hid hps.below
      have HTI2 : Hid (L.take i = L) := Lib.hid (List.take_of_length_le (by omega))
      have hT : ((headT stripes room picks ticks ++ clientsT L).length : Int) ≤ 1099511627776 := by have := HTOT.out; omega
      have HPT : Hid (PS w wo #[.int .i64 stripes, .int .i64 room, .slice aC L.length cC, .slice aP picks.length cP, .slice aT ticks.length cT] (headT stripes room picks ticks ++ clientsT L)) := Lib.hid (by rw [← HTI2.out]; rw [HTI2.out]; rw [HTI2.out] at hps; exact hps)
      have HOKL : Hid (∀ l ∈ L, ∀ c ∈ l, callW c ≠ none) := Lib.hid (by have := HOK.out; rw [HTI2.out] at this; exact this)
      clear hps
      generalize headT stripes room picks ticks ++ clientsT L = T at *
      by_cases hbig : 1048576 < T.length
      · go_wp2_with (go_at_call 57; refine (bld_len _ _ _ _ HPT.out.bld).mono ?_; rintro e w' ⟨rfl, rfl⟩)
        go_ret2
        exact ⟨HB.out, .inr ⟨HOKL.out, .inl ⟨hbig, rfl⟩⟩⟩
      · go_wp2_with (first | (go_at_call 57; refine (bld_len _ _ _ _ HPT.out.bld).mono ?_; rintro e w' ⟨rfl, rfl⟩) | (go_at_call 17; refine (bld_string _ _ _ _ HPT.out.bld (by have := HPT.out.size; omega)).mono ?_; rintro e w' ⟨rfl, hb⟩; have HBF := Lib.hid (HB.out.trans (hb.mono (by omega))); clear hb))
        go_ret2
        exact ⟨HBF.out, .inr ⟨HOKL.out, .inr ⟨by omega, rfl⟩⟩⟩
end Go.Proofs.YthjcmcgmalnfpaaGreatDoor.Lex
