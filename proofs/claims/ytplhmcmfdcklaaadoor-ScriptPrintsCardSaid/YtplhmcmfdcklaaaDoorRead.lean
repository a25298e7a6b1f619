/- A call read of words: script.read. -/
import Derived.Test.YtplhmcmfdcklaaaDoorTxt
import Derived.Test.YtplhmcmfdcklaaaDoorOwnA
import Derived.RegionTactic
import Derived.Deep.RegionHeld3
import Derived.Deep.DeepCutAuto
namespace Go.Proofs.YtplhmcmfdcklaaaDoor.Lex
open Go.RowKit
set_option linter.unusedSimpArgs false
set_option linter.unusedVariables false
/-- A word's place among names; -1: it is none. -/
def idxFrom : List (List UInt8) → List UInt8 → Nat → Int
  | [], _, _ => -1
  | n :: r, x, i => if n = x then (i : Int) else idxFrom r x (i + 1)
theorem idxFrom_drop {ns : List (List UInt8)} {x : List UInt8} {i : Nat} (h : i < ns.length) : idxFrom (ns.drop i) x i = if ns[i] = x then (i : Int) else idxFrom (ns.drop (i + 1)) x (i + 1) := by
  rw [List.drop_eq_getElem_cons h, idxFrom]
set_option maxRecDepth 100000 in
theorem index_any (ns : List (List UInt8)) (x : List UInt8) (g cap : Nat) (w : World) (hn : ns.length ≤ 1099511627776) (hc : ∀ (k : Nat) l, ns[k]? = some l → w.cell? ⟨g, k, none⟩ = some (.string (bs l))) :
    Calls Tryd.prog 61 #[.slice (some ⟨g, 0, none⟩) ns.length cap, .string (bs x)] w fun e w' => e = .returned (.int .i64 (idxFrom ns x 0)) ∧ w = w' := by
  have HC := Lib.hid hc
  clear hc
  go_enter Tryd.func61, Tryd.ntmps61
  go_wp2_with fail
  go_loopg [8] ns.length (fun gh iv wr => ∃ k : Nat, k ≤ ns.length ∧ gh = ns.length - k ∧ iv = .int .i64 (k : Int) ∧ wr = w ∧ idxFrom ns x 0 = idxFrom (ns.drop k) x k)
  case atStart => exact ⟨0, by omega, by omega, rfl, rfl, rfl⟩
  case round =>
    obtain ⟨k, hk, rfl, rfl, rfl, hx⟩ := hrel
    by_cases hlt : k < ns.length
    · have c1 := HC.out k _ (List.getElem?_eq_getElem hlt)
      have HX : Hid (idxFrom ns x 0 = if ns[k]'hlt = x then (k : Int) else idxFrom (ns.drop (k + 1)) x (k + 1)) := Lib.hid (hx.trans (idxFrom_drop hlt))
      generalize ns[k]'hlt = n at *
      clear hx
      by_cases he : n = x
      · have HR : Hid (idxFrom ns x 0 = (k : Int)) := Lib.hid (by rw [HX.out, if_pos he])
        subst he
        go_wp2_with fail
        go_ret
        exact ⟨ret_int HR.out.symm, rfl⟩
      · have HR : Hid (idxFrom ns x 0 = idxFrom (ns.drop (k + 1)) x (k + 1)) := Lib.hid (by rw [HX.out, if_neg he])
        have hne := text_ne fun e => he (bs_inj e).symm
        clear he
        go_wp2_with fail
        go_roundg (ns.length - (k + 1))
        case measure => omega
        case rel => exact ⟨k + 1, by omega, rfl, by go_num, rfl, HR.out⟩
    · obtain rfl : k = ns.length := by omega
      have HR : Hid (idxFrom ns x 0 = -1) := Lib.hid (by rw [hx, List.drop_length]; rfl)
      clear hx
      go_wp2_with fail
      go_ret
      exact ⟨ret_int HR.out.symm, rfl⟩
theorem names_keep {w : World} {g : Nat} (hc : ∀ (k : Nat) l, nameL[k]? = some l → w.cell? ⟨g, k, none⟩ = some (.string (bs l))) : ∀ W, Below w.heap.size w W → ∀ (k : Nat) l, nameL[k]? = some l → W.cell? ⟨g, k, none⟩ = some (.string (bs l)) := fun W hb k l hk =>
  (hb.cell (World.block_lt_of_cell? w _ (hc k l hk))).trans (hc k l hk)
theorem index_names (x : List UInt8) (g : Nat) (w : World) (hc : ∀ (k : Nat) l, nameL[k]? = some l → w.cell? ⟨g, k, none⟩ = some (.string (bs l))) :
    Calls Tryd.prog 61 #[.slice (some ⟨g, 0, none⟩) 7 7, .string (bs x)] w fun e w' => e = .returned (.int .i64 (idxFrom nameL x 0)) ∧ w = w' := index_any nameL x g 7 w (by decide) hc
theorem index_names' {x : List UInt8} {I : Int} (hI : idxFrom nameL x 0 = I) (g : Nat) (w : World) (hc : ∀ (k : Nat) l, nameL[k]? = some l → w.cell? ⟨g, k, none⟩ = some (.string (bs l))) :
    Calls Tryd.prog 61 #[.slice (some ⟨g, 0, none⟩) 7 7, .string (bs x)] w fun e w' => e = .returned (.int .i64 I) ∧ w = w' := by
  subst hI
  exact index_names x g w hc
/-- A name's kind; 0: it is none. -/
def kindW (x : List UInt8) : Int := idxFrom nameL x 0 + 1
theorem kindW_cases (x : List UInt8) : (kindW x = 1 ∧ x = [103, 101, 116]) ∨ (kindW x = 2 ∧ x = [108, 111, 111, 107, 117, 112]) ∨ (kindW x = 3 ∧ x = [101, 118, 105, 99, 116]) ∨ (kindW x = 4 ∧ x = [105, 109, 112, 111, 114, 116]) ∨
    (kindW x = 5 ∧ x = [101, 120, 112, 111, 114, 116]) ∨ (kindW x = 6 ∧ x = [101, 120, 101, 99, 117, 116, 101]) ∨ (kindW x = 7 ∧ x = [114, 101, 108, 101, 97, 115, 101]) ∨ (kindW x = 0 ∧ x ∉ nameL) := by
  unfold kindW nameL
  simp only [idxFrom]
  by_cases h1 : [103, 101, 116] = x
  · simp [h1.symm]
  by_cases h2 : [108, 111, 111, 107, 117, 112] = x
  · simp [h2.symm]
  by_cases h3 : [101, 118, 105, 99, 116] = x
  · simp [h3.symm]
  by_cases h4 : [105, 109, 112, 111, 114, 116] = x
  · simp [h4.symm]
  by_cases h5 : [101, 120, 112, 111, 114, 116] = x
  · simp [h5.symm]
  by_cases h6 : [101, 120, 101, 99, 117, 116, 101] = x
  · simp [h6.symm]
  by_cases h7 : [114, 101, 108, 101, 97, 115, 101] = x
  · simp [h7.symm]
  rw [if_neg h1, if_neg h2, if_neg h3, if_neg h4, if_neg h5, if_neg h6, if_neg h7]
  refine .inr (.inr (.inr (.inr (.inr (.inr (.inr ⟨rfl, ?_⟩))))))
  simp only [List.mem_cons, List.not_mem_nil, or_false, not_or]
  exact ⟨fun e => h1 e.symm, fun e => h2 e.symm, fun e => h3 e.symm, fun e => h4 e.symm, fun e => h5 e.symm, fun e => h6 e.symm, fun e => h7 e.symm⟩
theorem kindW_bd (x : List UInt8) : 0 ≤ kindW x ∧ kindW x ≤ 7 := by
  rcases kindW_cases x with h | h | h | h | h | h | h | h <;> (rw [h.1]; decide)
/-- Two numbers of words. -/
def twoW (ws : List (List UInt8)) : Option (Int × Int) := match numsW ws with
  | some [x, y] => some (x, y)
  | _ => none
theorem twoW_some {ws : List (List UInt8)} {x y : Int} : twoW ws = some (x, y) ↔ numsW ws = some [x, y] := by
  unfold twoW
  split
  · next a b h => rw [h]; simp
  · next h =>
    constructor
    · intro h; cases h
    · intro h2; exact absurd h2 (h x y)
theorem twoW_none {ws : List (List UInt8)} (h : twoW ws = none) : ∀ x y, numsW ws ≠ some [x, y] := fun x y e => by rw [twoW_some.2 e] at h; cases h
/-- A call of words; none: it is none. -/
def readW : List (List UInt8) → Option CallV
  | [] => none
  | h :: rest =>
    if kindW h = 1 ∨ kindW h = 2 ∨ kindW h = 3 then (twoW rest).map fun p => ⟨kindW h, p.1, p.2, ⟨#[]⟩, 0, 0, []⟩
    else if kindW h = 4 then (textW rest).map fun l => ⟨4, 0, 0, bs l, 0, 0, []⟩
    else if kindW h = 5 then (if rest = [] then some ⟨5, 0, 0, ⟨#[]⟩, 0, 0, []⟩ else none)
    else if kindW h = 7 then (twoW rest).map fun p => ⟨7, 0, 0, ⟨#[]⟩, p.1, p.2, []⟩
    else if kindW h = 6 then (if rest.length < 2 then none else match twoW (rest.take 2), usW (rest.drop 2) with
      | some p, some xs => some ⟨6, 0, 0, ⟨#[]⟩, p.1, p.2, xs⟩
      | _, _ => none)
    else none
/-- Numbers of 64 bits in blocks of their own kind. -/
def U64T (w : World) (a : Option Addr) (xs : List Nat) : Prop := ∀ i (h : i < xs.length), ∃ g off cs f, a = some ⟨g, off, none⟩ ∧ w.heap[g]? = some (.cells cs 57 f) ∧ cs[off + i]? = some (.int .u64 (xs[i]'h : Nat)) ∧ xs[i]'h < 18446744073709551616
theorem U64T.nil (w : World) (a : Option Addr) : U64T w a [] := fun i hi => by simp at hi
theorem U64T.keep {w w' : World} {a : Option Addr} {xs : List Nat} (h : U64T w a xs) (hb : Below w.heap.size w w') : U64T w' a xs := fun i hi => by
  obtain ⟨g, off, cs, f, h1, h2, h3⟩ := h i hi
  exact ⟨g, off, cs, f, h1, (hb.block g (Array.getElem?_eq_some_iff.1 h2).1).trans h2, h3⟩
theorem U64T.plain {w : World} {a : Option Addr} {xs : List Nat} (h : U64T w a xs) : U64s w a xs := fun i hi => by
  obtain ⟨g, off, cs, f, h1, h2, h3, h4⟩ := h i hi
  exact ⟨g, off, h1, (Array.getElem?_eq_some_iff.1 h2).1, cell_at h2 h3, h4⟩
theorem U64T.of_own {w : World} {base n : Nat} {a : Option Addr} {cap : Nat} {xs : List Nat} (h : w.ownsRow base 57 1 (.slice a n cap) n (xs.map fun n : Nat => Value.int .u64 n)) (hx : ∀ x ∈ xs, x < 18446744073709551616) : U64T w a xs ∧ xs.length ≤ cap ∧ (a = none → cap = 0) := by
  have hn : xs.length = n := by have := h.1; simpa using this
  rcases h.2 with ⟨hv, h0⟩ | ⟨g, cap', cur, hv, hb, hg, hle, hm, hs, ht⟩
  · cases hv
    have : xs = [] := List.eq_nil_of_length_eq_zero (by omega)
    subst this
    exact ⟨U64T.nil _ _, by simp, fun _ => rfl⟩
  · cases hv
    refine ⟨fun i hi => ⟨g, 0, cur, _, rfl, hg, ?_, hx _ (List.getElem_mem hi)⟩, by omega, by simp⟩
    have hc := h.cells (g := g) rfl i (.int .u64 (xs[i]'hi : Nat)) (by simp [hi])
    rw [Addr.add_lit, Nat.zero_add] at hc
    rw [Nat.zero_add]
    simp only [World.cell?, hg] at hc
    exact hc
theorem U64T.far {w : World} {base n : Nat} {a : Option Addr} {cap : Nat} {xs : List Nat} (h : w.ownsRow base 57 1 (.slice a n cap) n (xs.map fun n : Nat => Value.int .u64 n)) (hx : ∀ x ∈ xs, x < 18446744073709551616) : ∀ W : World, (∀ g, base ≤ g → W.heap[g]? = w.heap[g]?) → U64T W a xs := fun W hW => by
  have ht := (U64T.of_own h hx).1
  have hlt := own_lt h
  intro i hi
  obtain ⟨g, off, cs, f, rfl, h2, h3⟩ := ht i hi
  exact ⟨g, off, cs, f, rfl, (hW g (hlt g rfl)).trans h2, h3⟩
/-- What script.read makes of words. -/
def ReadPost (ws : List (List UInt8)) (w : World) (e : Ending) (w' : World) : Prop := Below w.heap.size w w' ∧ match readW ws with
  | none => ∃ k n d t y z ax xm xc, e = .returned (.tuple #[.agg #[.int .i64 k, .int .i64 n, .int .i64 d, .string t, .int .i64 y, .int .i64 z, .slice ax xm xc], .bool false])
  | some c => ∃ a cap, e = .returned (.tuple #[c.val a cap, .bool true]) ∧ U64T w' a c.xs ∧ c.xs.length ≤ cap ∧ (a = none → cap = 0)
theorem readPost_none {ws : List (List UInt8)} {w w' : World} {k n d y z : Int} {t : ByteArray} {ax : Option Addr} {xm xc : Nat} (h : readW ws = none) (hb : Below w.heap.size w w') : ReadPost ws w (.returned (.tuple #[.agg #[.int .i64 k, .int .i64 n, .int .i64 d, .string t, .int .i64 y, .int .i64 z, .slice ax xm xc], .bool false])) w' := by
  refine ⟨hb, ?_⟩
  rw [h]
  exact ⟨_, _, _, _, _, _, _, _, _, rfl⟩
theorem readPost_some {ws : List (List UInt8)} {w w' : World} {c : CallV} {a : Option Addr} {cap : Nat} (h : readW ws = some c) (hb : Below w.heap.size w w') (hx : U64T w' a c.xs) (hl : c.xs.length ≤ cap) (hn : a = none → cap = 0) : ReadPost ws w (.returned (.tuple #[c.val a cap, .bool true])) w' := by
  refine ⟨hb, ?_⟩
  rw [h]
  exact ⟨a, cap, rfl, hx, hl, hn⟩
theorem two_yes2 {ws : List (List UInt8)} {n : Nat} (hn : n = ws.length) (a : Option Addr) (cap : Nat) {w : World} (hs : Txt w a ws) (hsh : Short ws) (ht : HasTab w) (he : HasErrs w) (x y : Int) (h : numsW ws = some [x, y]) :
    Calls Tryd.prog 47 #[.slice a n cap] w fun e w' => e = .returned (.tuple #[.int .i64 x, .int .i64 y, .bool true]) ∧ Below w.heap.size w w' := by
  subst hn
  exact two_yes ws a cap w hs hsh ht he x y h
theorem two_no2 {ws : List (List UInt8)} {n : Nat} (hn : n = ws.length) (a : Option Addr) (cap : Nat) {w : World} (hs : Txt w a ws) (hsh : Short ws) (ht : HasTab w) (he : HasErrs w) (h : ∀ x y, numsW ws ≠ some [x, y]) :
    Calls Tryd.prog 47 #[.slice a n cap] w fun e w' => e = .returned (.tuple #[.int .i64 0, .int .i64 0, .bool false]) ∧ Below w.heap.size w w' := by
  subst hn
  exact two_no ws a cap w hs hsh ht he h
theorem row_any2 {ws : List (List UInt8)} {n : Nat} (hn : n = ws.length) (a : Option Addr) (cap : Nat) {w : World} (hs : Txt w a ws) (hsh : Short ws) (ht : HasTab w) (he : HasErrs w) :
    Calls Tryd.prog 63 #[.slice a n cap] w (RowPost 57 (fun n : Nat => Value.int .u64 n) (usW ws) w) := by
  subst hn
  exact row_any ws a cap w hs hsh ht he
/-- A call's box that may be written: of a kind, else zero. -/
structure Box8 (w : World) (N : Nat) (k : Int) : Prop where
  c0 : w.cell? ⟨N, 0, none⟩ = some (.int .i64 k)
  c1 : w.cell? ⟨N, 1, none⟩ = some (.int .i64 0)
  c2 : w.cell? ⟨N, 2, none⟩ = some (.int .i64 0)
  c3 : w.cell? ⟨N, 3, none⟩ = some (.string ⟨#[]⟩)
  c4 : w.cell? ⟨N, 4, none⟩ = some (.int .i64 0)
  c5 : w.cell? ⟨N, 5, none⟩ = some (.int .i64 0)
  c6 : w.cell? ⟨N, 6, none⟩ = some (.slice none 0 0)
  free : ∀ o, w.frozen? ⟨N, o, none⟩ = false
theorem box8_of {w : World} {N : Nat} {k : Int} {T : TypeId} {c : Array Value} (h : w.heap[N]? = some (.cells c T (0, 0))) (hc : c = #[.int .i64 k, .int .i64 0, .int .i64 0, .string ⟨#[]⟩, .int .i64 0, .int .i64 0, .slice none 0 0] := by rfl) : Box8 w N k := by
  subst hc
  exact ⟨cell_at h rfl, cell_at h rfl, cell_at h rfl, cell_at h rfl, cell_at h rfl, cell_at h rfl, cell_at h rfl, fun o => free_at h⟩
set_option maxRecDepth 100000 in
set_option maxHeartbeats 8000000 in
theorem read_core (h : List UInt8) (rest : List (List UInt8)) (g off cap : Nat) (w : World) (c0 : w.cell? ⟨g, off, none⟩ = some (.string (bs h))) (hr : Txt w (some ⟨g, off + 1, none⟩) rest) (hsh : Short rest) (hcap : rest.length + 1 ≤ cap) (hm : HasMax w) (ht : HasTab w) (he : HasErrs w) :
    Calls Tryd.prog 49 #[.slice (some ⟨g, off, none⟩) (rest.length + 1) cap] w (ReadPost (h :: rest) w) := by
  obtain ⟨W0, hW0⟩ : ∃ W0, W0 = w.alloc (.cells #[.int .i64 0, .int .i64 0, .int .i64 0, .string ⟨#[]⟩, .int .i64 0, .int .i64 0, .slice none 0 0] 28) := ⟨_, rfl⟩
  have hb0 : Below w.heap.size w W0 := by rw [hW0]; exact (Below.refl _ _).alloc (Nat.le_refl _) _
  have g0 : W0.heap[w.heap.size]? = some (.cells #[.int .i64 0, .int .i64 0, .int .i64 0, .string ⟨#[]⟩, .int .i64 0, .int .i64 0, .slice none 0 0] 28 (0, 0)) := by rw [hW0]; exact heap_alloc_new w _
  have hgw : g < w.heap.size := World.block_lt_of_cell? w _ c0
  have hz : w.heap.size < W0.heap.size := by rw [hW0]; simp
  have HC0 : Hid (W0.cell? ⟨g, off, none⟩ = some (.string (bs h))) := Lib.hid ((hb0.cell (p := ⟨g, off, none⟩) hgw).trans c0)
  have HR := Lib.hid (hr.keep hb0)
  have HM := Lib.hid (hm.below hb0)
  have HT := Lib.hid (ht.below hb0)
  have HE := Lib.hid (he.below hb0)
  have HB := Lib.hid hb0
  have HSH := Lib.hid hsh
  have HG0 := Lib.hid g0
  have hrl := hsh.1
  have HR0 := Lib.hid hr
  have HT0 := Lib.hid ht
  have HE0 := Lib.hid he
  clear c0 hr hm ht he hb0 g0 hsh
  go_enter Tryd.func49, Tryd.ntmps49
  go_upto_region 1 with fail
  rw [← hW0]
  clear hW0
  have hg0 : g < W0.heap.size := by omega
  have hbz := Below.refl W0.heap.size W0
  have HS : Hid (∀ W, Below W0.heap.size W0 W → W.cell? ⟨g, off, none⟩ = some (.string (bs h))) := Lib.hid fun W hb => (hb.cell (p := ⟨g, off, none⟩) hg0).trans HC0.out
  have HKI : Hid (kindW h = idxFrom nameL h 0 + 1) := Lib.hid rfl
  have hI : -1 ≤ idxFrom nameL h 0 ∧ idxFrom nameL h 0 ≤ 6 := by have := kindW_bd h; unfold kindW at this; omega
  obtain ⟨hI1, hI2⟩ := hI
  generalize hIX : idxFrom nameL h 0 = I at *
  have HIX := Lib.hid hIX
  clear hIX
  have hw1 : IntKind.i64.wrap (I + 1) = I + 1 := by rw [IntKind.wrap_i64]; omega
  go_cut [4] (fun v4 wx => ∃ N, v4 = .pointer (some ⟨N, 0, none⟩) ∧ W0.heap.size ≤ N ∧ Below W0.heap.size W0 wx ∧ Box8 wx N (I + 1))
  case first =>
    go_region_held3 (fun W => W.cell? ⟨g, off, none⟩ = some (.string (bs h))) (first | exact HS.out _ (by (repeat' (first | with_reducible assumption | with_reducible refine Below.drew ?_ | (with_reducible refine Below.alloc ?_ (by first | assumption | (simp; done) | (simp; omega)) _) | (with_reducible refine Below.setCell ?_ (by first | (show W0.heap.size ≤ W0.heap.size; omega) | (show W0.heap.size ≤ w1.heap.size; omega)) _)))) | (simp [go_sem, *]; done) | (simp [go_sem, *]; omega))
     (first
      | (go_at_call 39; (with_reducible refine (split_names _ (HM.out.below (by (repeat' (first | with_reducible assumption | with_reducible refine Below.drew ?_ | (with_reducible refine Below.alloc ?_ (by first | assumption | (simp; done) | (simp; omega)) _) | (with_reducible refine Below.setCell ?_ (by first | (show W0.heap.size ≤ W0.heap.size; omega) | (show W0.heap.size ≤ w1.heap.size; omega)) _)))))).mono ?_); rintro e w1 ⟨rfl, hc, hb1⟩; have HB1 : Below W0.heap.size W0 w1 := below_next (by (repeat' (first | with_reducible assumption | with_reducible refine Below.drew ?_ | (with_reducible refine Below.alloc ?_ (by first | assumption | (simp; done) | (simp; omega)) _) | (with_reducible refine Below.setCell ?_ (by first | (show W0.heap.size ≤ W0.heap.size; omega) | (show W0.heap.size ≤ w1.heap.size; omega)) _)))) hb1 (by simp); have HCN := Lib.hid (names_keep hc); have hbz1 := Below.refl w1.heap.size w1; obtain ⟨kc1, kf1⟩ := bcell hb1; have hz1 := hb1.size; have hzw := HB1.size; have HBK := Lib.hid hb1; clear hb1 hc)
      | (go_at_call 61; (with_reducible refine (index_names' HIX.out _ _ (by first | exact HCN.out _ (by (repeat' (first | with_reducible assumption | with_reducible refine Below.drew ?_ | (with_reducible refine Below.alloc ?_ (by first | assumption | (simp; done) | (simp; omega)) _) | (with_reducible refine Below.setCell ?_ (by first | (show W0.heap.size ≤ W0.heap.size; omega) | (show W0.heap.size ≤ w1.heap.size; omega)) _)))) | (intro k l hk; have hh := HCN.out w1 hbz1 k l hk; simpa using hh) | (intro k l hk; have hh := HCN.out _ (hbz1.alloc (Nat.le_refl _) (.cells #[.int .i64 0, .int .i64 0, .int .i64 0, .string ⟨#[]⟩, .int .i64 0, .int .i64 0, .slice none 0 0] 28)) k l hk; simpa using hh))).mono ?_); rintro e w2 ⟨rfl, rfl⟩))
    all_goals
      go_wp2_with fail
      go_meet
      first
        | exact ⟨_, rfl, hzw, HB1.alloc hzw _, box8_of (heap_alloc_new w1 _)⟩
        | (have e := (HBK.out.block W0.heap.size (by simp)).trans (heap_alloc_new W0 _)
           refine ⟨_, rfl, Nat.le_refl _, ?_, box8_of (heap_set_at (o := 6) (.slice none 0 0) (heap_set_at (o := 5) (.int .i64 0) (heap_set_at (o := 4) (.int .i64 0) (heap_set_at (o := 3) (.string ⟨#[]⟩) (heap_set_at (o := 2) (.int .i64 0) (heap_set_at (o := 1) (.int .i64 0) (heap_set_at (o := 0) (.int .i64 (I + 1)) e)))))))⟩
           repeat (refine Below.setCell ?_ (by show W0.heap.size ≤ W0.heap.size; omega) _)
           exact HB1)
  case rest =>
    obtain ⟨N, rfl, hN, hB, hbox⟩ := hcut
    obtain ⟨wx, rfl⟩ : ∃ wx : World, wx = wc := ⟨_, rfl⟩
    have hNx : N < wx.heap.size := World.block_lt_of_cell? wx _ hbox.c0
    have hNw : ¬ w.heap.size = N := by omega
    obtain ⟨c0, c1, c2, c3, c4, c5, c6, cf⟩ := hbox
    have gz := (hB.block _ hz).trans HG0.out
    have z0 := cell_at (o := 0) gz rfl
    have z1 := cell_at (o := 1) gz rfl
    have z2 := cell_at (o := 2) gz rfl
    have z3 := cell_at (o := 3) gz rfl
    have z4 := cell_at (o := 4) gz rfl
    have z5 := cell_at (o := 5) gz rfl
    have z6 := cell_at (o := 6) gz rfl
    have zf : ∀ o, wx.frozen? ⟨w.heap.size, o, none⟩ = false := fun o => free_at gz
    have hzx : w.heap.size < wx.heap.size := by have := hB.size; omega
    have HRx := Lib.hid (HR.out.keep hB)
    have HMx := Lib.hid (HM.out.below hB)
    have HTx := Lib.hid (HT.out.below hB)
    have HEx := Lib.hid (HE.out.below hB)
    have HBx := Lib.hid (HB.out.trans (hB.mono HB.out.size))
    clear hB gz HR HM HT HE HB HG0 HC0 HS hbz hg0 hgw hw1
    go_upto_region 5 with fail
    obtain ⟨ra, hra⟩ : ∃ ra : Option Addr, ra = (if cap = 1 then some ⟨g, off, none⟩ else some ⟨g, off + 1, none⟩) := ⟨_, rfl⟩
    have HRA : Hid (Txt wx ra rest) := Lib.hid (by
      rw [hra]
      split
      · intro i hi
        omega
      · exact HRx.out)
    have HSL := Lib.hid hra
    rw [← hra]
    clear hra
    have hk := kindW_cases h
    rw [HKI.out] at hk
    by_cases k1 : I = 0
    · subst k1
      cases htw : twoW rest with
      | some p =>
        obtain ⟨x, y⟩ := p
        have HRW : Hid (readW (h :: rest) = some ⟨1, x, y, ⟨#[]⟩, 0, 0, []⟩) := Lib.hid (by simp [readW, HKI.out, htw])
        have HTW := Lib.hid (twoW_some.1 htw)
        clear htw hk
        go_wp2_with (go_at_call 47; (with_reducible refine (two_yes rest ra _ _ HRA.out HSH.out HTx.out HEx.out x y HTW.out).mono ?_); rintro e w2 ⟨rfl, hb2⟩; obtain ⟨kc2, kf2⟩ := bcell hb2; have HB2 := Lib.hid hb2; have hzz := hb2.size; clear hb2)
        refine bodyPost_ret (v := .tuple #[.agg #[.int .i64 1, .int .i64 x, .int .i64 y, .string ⟨#[]⟩, .int .i64 0, .int .i64 0, .slice none 0 0], .bool true]) (by simp [results, Tryd.results49, go_sem, *]) rfl ?_
        exact readPost_some HRW.out (by
          repeat (refine Below.setCell ?_ (by first | (show w.heap.size ≤ N; omega) | (show w.heap.size ≤ w.heap.size; omega)) _)
          exact (HBx.out.trans (HB2.out.mono (by omega)))) (U64T.nil _ _) (by simp) (fun _ => rfl)
      | none =>
        have HRW : Hid (readW (h :: rest) = none) := Lib.hid (by simp [readW, HKI.out, htw])
        have HTW := Lib.hid (twoW_none htw)
        clear htw hk
        go_wp2_with (go_at_call 47; (with_reducible refine (two_no rest ra _ _ HRA.out HSH.out HTx.out HEx.out HTW.out).mono ?_); rintro e w2 ⟨rfl, hb2⟩; obtain ⟨kc2, kf2⟩ := bcell hb2; have HB2 := Lib.hid hb2; have hzz := hb2.size; clear hb2)
        refine bodyPost_ret (v := .tuple #[.agg #[.int .i64 1, .int .i64 0, .int .i64 0, .string ⟨#[]⟩, .int .i64 0, .int .i64 0, .slice none 0 0], .bool false]) (by simp [results, Tryd.results49, go_sem, *]) rfl ?_
        exact readPost_none HRW.out (by
          repeat (refine Below.setCell ?_ (by first | (show w.heap.size ≤ N; omega) | (show w.heap.size ≤ w.heap.size; omega)) _)
          exact (HBx.out.trans (HB2.out.mono (by omega))))
    by_cases k2 : I = 1
    · subst k2
      cases htw : twoW rest with
      | some p =>
        obtain ⟨x, y⟩ := p
        have HRW : Hid (readW (h :: rest) = some ⟨2, x, y, ⟨#[]⟩, 0, 0, []⟩) := Lib.hid (by simp [readW, HKI.out, htw])
        have HTW := Lib.hid (twoW_some.1 htw)
        clear htw hk
        go_wp2_with (go_at_call 47; (with_reducible refine (two_yes rest ra _ _ HRA.out HSH.out HTx.out HEx.out x y HTW.out).mono ?_); rintro e w2 ⟨rfl, hb2⟩; obtain ⟨kc2, kf2⟩ := bcell hb2; have HB2 := Lib.hid hb2; have hzz := hb2.size; clear hb2)
        refine bodyPost_ret (v := .tuple #[.agg #[.int .i64 2, .int .i64 x, .int .i64 y, .string ⟨#[]⟩, .int .i64 0, .int .i64 0, .slice none 0 0], .bool true]) (by simp [results, Tryd.results49, go_sem, *]) rfl ?_
        exact readPost_some HRW.out (by
          repeat (refine Below.setCell ?_ (by first | (show w.heap.size ≤ N; omega) | (show w.heap.size ≤ w.heap.size; omega)) _)
          exact (HBx.out.trans (HB2.out.mono (by omega)))) (U64T.nil _ _) (by simp) (fun _ => rfl)
      | none =>
        have HRW : Hid (readW (h :: rest) = none) := Lib.hid (by simp [readW, HKI.out, htw])
        have HTW := Lib.hid (twoW_none htw)
        clear htw hk
        go_wp2_with (go_at_call 47; (with_reducible refine (two_no rest ra _ _ HRA.out HSH.out HTx.out HEx.out HTW.out).mono ?_); rintro e w2 ⟨rfl, hb2⟩; obtain ⟨kc2, kf2⟩ := bcell hb2; have HB2 := Lib.hid hb2; have hzz := hb2.size; clear hb2)
        refine bodyPost_ret (v := .tuple #[.agg #[.int .i64 2, .int .i64 0, .int .i64 0, .string ⟨#[]⟩, .int .i64 0, .int .i64 0, .slice none 0 0], .bool false]) (by simp [results, Tryd.results49, go_sem, *]) rfl ?_
        exact readPost_none HRW.out (by
          repeat (refine Below.setCell ?_ (by first | (show w.heap.size ≤ N; omega) | (show w.heap.size ≤ w.heap.size; omega)) _)
          exact (HBx.out.trans (HB2.out.mono (by omega))))
    by_cases k3 : I = 2
    · subst k3
      cases htw : twoW rest with
      | some p =>
        obtain ⟨x, y⟩ := p
        have HRW : Hid (readW (h :: rest) = some ⟨3, x, y, ⟨#[]⟩, 0, 0, []⟩) := Lib.hid (by simp [readW, HKI.out, htw])
        have HTW := Lib.hid (twoW_some.1 htw)
        clear htw hk
        go_wp2_with (go_at_call 47; (with_reducible refine (two_yes rest ra _ _ HRA.out HSH.out HTx.out HEx.out x y HTW.out).mono ?_); rintro e w2 ⟨rfl, hb2⟩; obtain ⟨kc2, kf2⟩ := bcell hb2; have HB2 := Lib.hid hb2; have hzz := hb2.size; clear hb2)
        refine bodyPost_ret (v := .tuple #[.agg #[.int .i64 3, .int .i64 x, .int .i64 y, .string ⟨#[]⟩, .int .i64 0, .int .i64 0, .slice none 0 0], .bool true]) (by simp [results, Tryd.results49, go_sem, *]) rfl ?_
        exact readPost_some HRW.out (by
          repeat (refine Below.setCell ?_ (by first | (show w.heap.size ≤ N; omega) | (show w.heap.size ≤ w.heap.size; omega)) _)
          exact (HBx.out.trans (HB2.out.mono (by omega)))) (U64T.nil _ _) (by simp) (fun _ => rfl)
      | none =>
        have HRW : Hid (readW (h :: rest) = none) := Lib.hid (by simp [readW, HKI.out, htw])
        have HTW := Lib.hid (twoW_none htw)
        clear htw hk
        go_wp2_with (go_at_call 47; (with_reducible refine (two_no rest ra _ _ HRA.out HSH.out HTx.out HEx.out HTW.out).mono ?_); rintro e w2 ⟨rfl, hb2⟩; obtain ⟨kc2, kf2⟩ := bcell hb2; have HB2 := Lib.hid hb2; have hzz := hb2.size; clear hb2)
        refine bodyPost_ret (v := .tuple #[.agg #[.int .i64 3, .int .i64 0, .int .i64 0, .string ⟨#[]⟩, .int .i64 0, .int .i64 0, .slice none 0 0], .bool false]) (by simp [results, Tryd.results49, go_sem, *]) rfl ?_
        exact readPost_none HRW.out (by
          repeat (refine Below.setCell ?_ (by first | (show w.heap.size ≤ N; omega) | (show w.heap.size ≤ w.heap.size; omega)) _)
          exact (HBx.out.trans (HB2.out.mono (by omega))))
    by_cases k7 : I = 6
    · subst k7
      cases htw : twoW rest with
      | some p =>
        obtain ⟨x, y⟩ := p
        have HRW : Hid (readW (h :: rest) = some ⟨7, 0, 0, ⟨#[]⟩, x, y, []⟩) := Lib.hid (by simp [readW, HKI.out, htw])
        have HTW := Lib.hid (twoW_some.1 htw)
        clear htw hk
        go_wp2_with (go_at_call 47; (with_reducible refine (two_yes rest ra _ _ HRA.out HSH.out HTx.out HEx.out x y HTW.out).mono ?_); rintro e w2 ⟨rfl, hb2⟩; obtain ⟨kc2, kf2⟩ := bcell hb2; have HB2 := Lib.hid hb2; have hzz := hb2.size; clear hb2)
        refine bodyPost_ret (v := .tuple #[.agg #[.int .i64 7, .int .i64 0, .int .i64 0, .string ⟨#[]⟩, .int .i64 x, .int .i64 y, .slice none 0 0], .bool true]) (by simp [results, Tryd.results49, go_sem, *]) rfl ?_
        exact readPost_some HRW.out (by
          repeat (refine Below.setCell ?_ (by first | (show w.heap.size ≤ N; omega) | (show w.heap.size ≤ w.heap.size; omega)) _)
          exact (HBx.out.trans (HB2.out.mono (by omega)))) (U64T.nil _ _) (by simp) (fun _ => rfl)
      | none =>
        have HRW : Hid (readW (h :: rest) = none) := Lib.hid (by simp [readW, HKI.out, htw])
        have HTW := Lib.hid (twoW_none htw)
        clear htw hk
        go_wp2_with (go_at_call 47; (with_reducible refine (two_no rest ra _ _ HRA.out HSH.out HTx.out HEx.out HTW.out).mono ?_); rintro e w2 ⟨rfl, hb2⟩; obtain ⟨kc2, kf2⟩ := bcell hb2; have HB2 := Lib.hid hb2; have hzz := hb2.size; clear hb2)
        refine bodyPost_ret (v := .tuple #[.agg #[.int .i64 7, .int .i64 0, .int .i64 0, .string ⟨#[]⟩, .int .i64 0, .int .i64 0, .slice none 0 0], .bool false]) (by simp [results, Tryd.results49, go_sem, *]) rfl ?_
        exact readPost_none HRW.out (by
          repeat (refine Below.setCell ?_ (by first | (show w.heap.size ≤ N; omega) | (show w.heap.size ≤ w.heap.size; omega)) _)
          exact (HBx.out.trans (HB2.out.mono (by omega))))
    by_cases k4 : I = 3
    · subst k4
      cases htw : textW rest with
      | some l =>
        have HRW : Hid (readW (h :: rest) = some ⟨4, 0, 0, bs l, 0, 0, []⟩) := Lib.hid (by simp [readW, HKI.out, htw])
        have HTW := Lib.hid htw
        clear htw hk
        go_wp2_with (go_at_call 62; (with_reducible refine (text_any rest ra _ _ HRA.out HSH.out HEx.out).mono ?_); rintro e w2 ⟨hb2, tt, ok, rfl, hy, _⟩; obtain ⟨rfl, rfl⟩ := hy l HTW.out; clear hy; obtain ⟨kc2, kf2⟩ := bcell hb2; have HB2 := Lib.hid hb2; have hzz := hb2.size; clear hb2)
        refine bodyPost_ret (v := .tuple #[.agg #[.int .i64 4, .int .i64 0, .int .i64 0, .string (bs l), .int .i64 0, .int .i64 0, .slice none 0 0], .bool true]) (by simp [results, Tryd.results49, go_sem, *]) rfl ?_
        exact readPost_some HRW.out (by
          repeat (refine Below.setCell ?_ (by first | (show w.heap.size ≤ N; omega) | (show w.heap.size ≤ w.heap.size; omega)) _)
          exact (HBx.out.trans (HB2.out.mono (by omega)))) (U64T.nil _ _) (by simp) (fun _ => rfl)
      | none =>
        have HRW : Hid (readW (h :: rest) = none) := Lib.hid (by simp [readW, HKI.out, htw])
        have HTW := Lib.hid htw
        clear htw hk
        go_wp2_with (go_at_call 62; (with_reducible refine (text_any rest ra _ _ HRA.out HSH.out HEx.out).mono ?_); rintro e w2 ⟨hb2, tt, ok, rfl, _, hy⟩; obtain rfl := hy HTW.out; clear hy; obtain ⟨kc2, kf2⟩ := bcell hb2; have HB2 := Lib.hid hb2; have hzz := hb2.size; clear hb2)
        refine bodyPost_ret (v := .tuple #[.agg #[.int .i64 4, .int .i64 0, .int .i64 0, .string tt, .int .i64 0, .int .i64 0, .slice none 0 0], .bool false]) (by simp [results, Tryd.results49, go_sem, *]) rfl ?_
        exact readPost_none HRW.out (by
          repeat (refine Below.setCell ?_ (by first | (show w.heap.size ≤ N; omega) | (show w.heap.size ≤ w.heap.size; omega)) _)
          exact (HBx.out.trans (HB2.out.mono (by omega))))
    by_cases k5 : I = 4
    · subst k5
      by_cases hr0 : rest = []
      · have HRW : Hid (readW (h :: rest) = some ⟨5, 0, 0, ⟨#[]⟩, 0, 0, []⟩) := Lib.hid (by simp [readW, HKI.out, hr0])
        have hl : rest.length = 0 := by rw [hr0]; rfl
        clear hk hr0
        generalize rest.length = M at *
        subst hl
        go_wp2_with fail
        refine bodyPost_ret (v := .tuple #[.agg #[.int .i64 5, .int .i64 0, .int .i64 0, .string ⟨#[]⟩, .int .i64 0, .int .i64 0, .slice none 0 0], .bool true]) (by simp [results, Tryd.results49, go_sem, *]) rfl ?_
        exact readPost_some HRW.out (by
          repeat (refine Below.setCell ?_ (by first | (show w.heap.size ≤ N; omega) | (show w.heap.size ≤ w.heap.size; omega)) _)
          exact HBx.out) (U64T.nil _ _) (by simp) (fun _ => rfl)
      · have HRW : Hid (readW (h :: rest) = none) := Lib.hid (by simp [readW, HKI.out, hr0])
        have hl : ((rest.length : Int) == 0) = false := by
          have : rest.length ≠ 0 := fun e => hr0 (List.eq_nil_of_length_eq_zero e)
          simp only [beq_eq_false_iff_ne, ne_eq]
          omega
        clear hk hr0
        go_wp2_with fail
        refine bodyPost_ret (v := .tuple #[.agg #[.int .i64 5, .int .i64 0, .int .i64 0, .string ⟨#[]⟩, .int .i64 0, .int .i64 0, .slice none 0 0], .bool false]) (by simp [results, Tryd.results49, go_sem, *]) rfl ?_
        exact readPost_none HRW.out (by
          repeat (refine Below.setCell ?_ (by first | (show w.heap.size ≤ N; omega) | (show w.heap.size ≤ w.heap.size; omega)) _)
          exact HBx.out)
    by_cases k0 : I = -1
    · subst k0
      have HRW : Hid (readW (h :: rest) = none) := Lib.hid (by simp [readW, HKI.out])
      clear hk
      go_wp2_with fail
      refine bodyPost_ret (v := .tuple #[.agg #[.int .i64 0, .int .i64 0, .int .i64 0, .string ⟨#[]⟩, .int .i64 0, .int .i64 0, .slice none 0 0], .bool false]) (by simp [results, Tryd.results49, go_sem, *]) rfl ?_
      exact readPost_none HRW.out (by
        repeat (refine Below.setCell ?_ (by first | (show w.heap.size ≤ N; omega) | (show w.heap.size ≤ w.heap.size; omega)) _)
        exact HBx.out)
    obtain rfl : I = 5 := by omega
    by_cases hl2 : rest.length < 2
    · have HRW : Hid (readW (h :: rest) = none) := Lib.hid (by simp [readW, HKI.out, hl2])
      have hl2' : ¬ (2 : Int) ≤ rest.length := by omega
      clear hk
      go_wp2_with fail
      refine bodyPost_ret (v := .tuple #[.agg #[.int .i64 6, .int .i64 0, .int .i64 0, .string ⟨#[]⟩, .int .i64 0, .int .i64 0, .slice none 0 0], .bool false]) (by simp [results, Tryd.results49, go_sem, *]) rfl ?_
      exact readPost_none HRW.out (by
        repeat (refine Below.setCell ?_ (by first | (show w.heap.size ≤ N; omega) | (show w.heap.size ≤ w.heap.size; omega)) _)
        exact HBx.out)
    · have hl2' : (2 : Int) ≤ rest.length := by omega
      have hc1 : ¬ cap = 1 := by omega
      have hra2 := HSL.out
      rw [if_neg hc1] at hra2
      subst hra2
      have hlt : (rest.take 2).length = 2 := by rw [List.length_take]; omega
      have hld : (rest.drop 2).length = rest.length - 2 := List.length_drop
      have HT2 : Hid (Txt wx (some ⟨g, off + 1, none⟩) (rest.take 2)) := Lib.hid (HRA.out.take 2)
      have HS2 : Hid (Short (rest.take 2)) := Lib.hid ⟨by omega, fun w hw => HSH.out.2 w (List.mem_of_mem_take hw)⟩
      have HSD : Hid (Short (rest.drop 2)) := Lib.hid ⟨by omega, fun w hw => HSH.out.2 w (List.mem_of_mem_drop hw)⟩
      have HLT := Lib.hid hlt.symm
      have HLD := Lib.hid hld.symm
      clear hlt hld
      cases htw : twoW (rest.take 2) with
      | none =>
        have HRW : Hid (readW (h :: rest) = none) := Lib.hid (by simp [readW, HKI.out, htw])
        have HTW := Lib.hid (twoW_none htw)
        clear htw hk
        go_wp2_with (go_at_call 47; (with_reducible refine (two_no2 HLT.out _ _ HT2.out HS2.out HTx.out HEx.out HTW.out).mono ?_); rintro e w2 ⟨rfl, hb2⟩; obtain ⟨kc2, kf2⟩ := bcell hb2; have HB2 := Lib.hid hb2; have hzz := hb2.size; clear hb2)
        refine bodyPost_ret (v := .tuple #[.agg #[.int .i64 6, .int .i64 0, .int .i64 0, .string ⟨#[]⟩, .int .i64 0, .int .i64 0, .slice none 0 0], .bool false]) (by simp [results, Tryd.results49, go_sem, *]) rfl ?_
        exact readPost_none HRW.out (by
          repeat (refine Below.setCell ?_ (by first | (show w.heap.size ≤ N; omega) | (show w.heap.size ≤ w.heap.size; omega)) _)
          exact (HBx.out.trans (HB2.out.mono (by omega))))
      | some p =>
        obtain ⟨x, y⟩ := p
        have HTW := Lib.hid (twoW_some.1 htw)
        have HB4 : Hid (∀ w2, Below wx.heap.size wx w2 → Below w.heap.size w ((w2.setCell ⟨N, 4, none⟩ (.int .i64 x)).setCell ⟨N, 5, none⟩ (.int .i64 y))) := Lib.hid fun w2 hb => by
          refine Below.setCell (Below.setCell (HBx.out.trans (hb.mono (by omega))) (by show w.heap.size ≤ N; omega) _) (by show w.heap.size ≤ N; omega) _
        have HTD : Hid (∀ c, c = (some ⟨g, off + 1 + 2, none⟩ : Option Addr) ∨ (c = some ⟨g, off + 1, none⟩ ∧ cap = 3) → Txt w c (rest.drop 2)) := Lib.hid fun c hc => by
          rcases hc with rfl | ⟨rfl, h3⟩
          · exact HR0.out.drop 2
          · intro i hi
            rw [List.length_drop] at hi
            omega
        have hNs : w.heap.size < wx.heap.size := by omega
        by_cases hc3 : cap = 3
        · have HT3 := Lib.hid (HTD.out _ (.inr ⟨rfl, hc3⟩))
          subst hc3
          cases hus : usW (rest.drop 2) with
          | none =>
            have HRW : Hid (readW (h :: rest) = none) := Lib.hid (by simp [readW, HKI.out, htw, hus])
            have HUS := Lib.hid hus
            clear htw hk hus
            go_wp2_with (first | (go_at_call 47; (with_reducible refine (two_yes2 HLT.out _ _ HT2.out HS2.out HTx.out HEx.out x y HTW.out).mono ?_); rintro e w2 ⟨rfl, hb2⟩; obtain ⟨kc2, kf2⟩ := bcell hb2; have HB2 := Lib.hid hb2; have hzz := hb2.size; clear hb2; have hN2 : N < w2.heap.size := (by omega); have hs2 : w.heap.size < w2.heap.size := (by omega)) | (go_at_call 63; refine (row_any2 HLD.out _ _ (HT3.out.keep (HB4.out _ HB2.out)) HSD.out (HT0.out.below (HB4.out _ HB2.out)) (HE0.out.below (HB4.out _ HB2.out))).mono ?_; rintro e w5 hp; obtain ⟨hb5, rfl⟩ := rowPost_no hp HUS.out; obtain ⟨kc5, kf5⟩ := bcell hb5; have hzz5 := hb5.size; (try simp at hzz5); have HB5 := Lib.hid hb5; clear hb5 hp))
            refine bodyPost_ret (v := .tuple #[.agg #[.int .i64 6, .int .i64 0, .int .i64 0, .string ⟨#[]⟩, .int .i64 x, .int .i64 y, .slice none 0 0], .bool false]) (by simp [results, Tryd.results49, go_sem, *]) rfl ?_
            exact readPost_none HRW.out (by
              repeat (refine Below.setCell ?_ (by first | (show w.heap.size ≤ N; omega) | (show w.heap.size ≤ w.heap.size; omega)) _)
              exact (HB4.out _ HB2.out |>.trans (HB5.out.mono (by simp; omega))))
          | some xs =>
            have HRW : Hid (readW (h :: rest) = some ⟨6, 0, 0, ⟨#[]⟩, x, y, xs⟩) := Lib.hid (by simp [readW, HKI.out, htw, hus]; omega)
            have HUS := Lib.hid hus
            have HXB := Lib.hid (allW_map uW_iff hus).2
            clear htw hk hus
            go_wp2_with (first | (go_at_call 47; (with_reducible refine (two_yes2 HLT.out _ _ HT2.out HS2.out HTx.out HEx.out x y HTW.out).mono ?_); rintro e w2 ⟨rfl, hb2⟩; obtain ⟨kc2, kf2⟩ := bcell hb2; have HB2 := Lib.hid hb2; have hzz := hb2.size; clear hb2; have hN2 : N < w2.heap.size := (by omega); have hs2 : w.heap.size < w2.heap.size := (by omega)) | (go_at_call 63; refine (row_any2 HLD.out _ _ (HT3.out.keep (HB4.out _ HB2.out)) HSD.out (HT0.out.below (HB4.out _ HB2.out)) (HE0.out.below (HB4.out _ HB2.out))).mono ?_; rintro e w5 hp; obtain ⟨hb5, a5, c5, rfl, ho5⟩ := rowPost_get hp HUS.out; have HX5 := Lib.hid (U64T.of_own ho5 HXB.out); have HX6 := Lib.hid (U64T.far ho5 HXB.out); clear ho5; obtain ⟨kc5, kf5⟩ := bcell hb5; have hzz5 := hb5.size; (try simp at hzz5); have HB5 := Lib.hid hb5; clear hb5 hp))
            refine bodyPost_ret (v := .tuple #[.agg #[.int .i64 6, .int .i64 0, .int .i64 0, .string ⟨#[]⟩, .int .i64 x, .int .i64 y, .slice a5 xs.length c5], .bool true]) (by simp [results, Tryd.results49, go_sem, *]) rfl ?_
            exact readPost_some HRW.out (by
              repeat (refine Below.setCell ?_ (by first | (show w.heap.size ≤ N; omega) | (show w.heap.size ≤ w.heap.size; omega)) _)
              exact (HB4.out _ HB2.out |>.trans (HB5.out.mono (by simp; omega)))) (HX6.out _ (fun q hq => by
              have hq2 : w2.heap.size ≤ q := by simpa using hq
              repeat (refine (Below.heap_setCell _ _ _ _ (by first | (show N ≠ q; omega) | (show w.heap.size ≠ q; omega) | (show q ≠ N; omega) | (show q ≠ w.heap.size; omega))).trans ?_)
              rfl)) HX5.out.2.1 HX5.out.2.2
        · have HT3 := Lib.hid (HTD.out _ (.inl rfl))
          have hc3' : ¬ cap - 1 - 2 = 0 := by omega
          have hc3'' : ¬ cap - 1 = 2 := by omega
          cases hus : usW (rest.drop 2) with
          | none =>
            have HRW : Hid (readW (h :: rest) = none) := Lib.hid (by simp [readW, HKI.out, htw, hus])
            have HUS := Lib.hid hus
            clear htw hk hus
            go_wp2_with (first | (go_at_call 47; (with_reducible refine (two_yes2 HLT.out _ _ HT2.out HS2.out HTx.out HEx.out x y HTW.out).mono ?_); rintro e w2 ⟨rfl, hb2⟩; obtain ⟨kc2, kf2⟩ := bcell hb2; have HB2 := Lib.hid hb2; have hzz := hb2.size; clear hb2; have hN2 : N < w2.heap.size := (by omega); have hs2 : w.heap.size < w2.heap.size := (by omega)) | (go_at_call 63; refine (row_any2 HLD.out _ _ (HT3.out.keep (HB4.out _ HB2.out)) HSD.out (HT0.out.below (HB4.out _ HB2.out)) (HE0.out.below (HB4.out _ HB2.out))).mono ?_; rintro e w5 hp; obtain ⟨hb5, rfl⟩ := rowPost_no hp HUS.out; obtain ⟨kc5, kf5⟩ := bcell hb5; have hzz5 := hb5.size; (try simp at hzz5); have HB5 := Lib.hid hb5; clear hb5 hp))
            refine bodyPost_ret (v := .tuple #[.agg #[.int .i64 6, .int .i64 0, .int .i64 0, .string ⟨#[]⟩, .int .i64 x, .int .i64 y, .slice none 0 0], .bool false]) (by simp [results, Tryd.results49, go_sem, *]) rfl ?_
            exact readPost_none HRW.out (by
              repeat (refine Below.setCell ?_ (by first | (show w.heap.size ≤ N; omega) | (show w.heap.size ≤ w.heap.size; omega)) _)
              exact (HB4.out _ HB2.out |>.trans (HB5.out.mono (by simp; omega))))
          | some xs =>
            have HRW : Hid (readW (h :: rest) = some ⟨6, 0, 0, ⟨#[]⟩, x, y, xs⟩) := Lib.hid (by simp [readW, HKI.out, htw, hus]; omega)
            have HUS := Lib.hid hus
            have HXB := Lib.hid (allW_map uW_iff hus).2
            clear htw hk hus
            go_wp2_with (first | (go_at_call 47; (with_reducible refine (two_yes2 HLT.out _ _ HT2.out HS2.out HTx.out HEx.out x y HTW.out).mono ?_); rintro e w2 ⟨rfl, hb2⟩; obtain ⟨kc2, kf2⟩ := bcell hb2; have HB2 := Lib.hid hb2; have hzz := hb2.size; clear hb2; have hN2 : N < w2.heap.size := (by omega); have hs2 : w.heap.size < w2.heap.size := (by omega)) | (go_at_call 63; refine (row_any2 HLD.out _ _ (HT3.out.keep (HB4.out _ HB2.out)) HSD.out (HT0.out.below (HB4.out _ HB2.out)) (HE0.out.below (HB4.out _ HB2.out))).mono ?_; rintro e w5 hp; obtain ⟨hb5, a5, c5, rfl, ho5⟩ := rowPost_get hp HUS.out; have HX5 := Lib.hid (U64T.of_own ho5 HXB.out); have HX6 := Lib.hid (U64T.far ho5 HXB.out); clear ho5; obtain ⟨kc5, kf5⟩ := bcell hb5; have hzz5 := hb5.size; (try simp at hzz5); have HB5 := Lib.hid hb5; clear hb5 hp))
            refine bodyPost_ret (v := .tuple #[.agg #[.int .i64 6, .int .i64 0, .int .i64 0, .string ⟨#[]⟩, .int .i64 x, .int .i64 y, .slice a5 xs.length c5], .bool true]) (by simp [results, Tryd.results49, go_sem, *]) rfl ?_
            exact readPost_some HRW.out (by
              repeat (refine Below.setCell ?_ (by first | (show w.heap.size ≤ N; omega) | (show w.heap.size ≤ w.heap.size; omega)) _)
              exact (HB4.out _ HB2.out |>.trans (HB5.out.mono (by simp; omega)))) (HX6.out _ (fun q hq => by
              have hq2 : w2.heap.size ≤ q := by simpa using hq
              repeat (refine (Below.heap_setCell _ _ _ _ (by first | (show N ≠ q; omega) | (show w.heap.size ≠ q; omega) | (show q ≠ N; omega) | (show q ≠ w.heap.size; omega))).trans ?_)
              rfl)) HX5.out.2.1 HX5.out.2.2
end Go.Proofs.YtplhmcmfdcklaaaDoor.Lex
