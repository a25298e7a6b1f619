/- U64, OpC, OpS, RSortW: laid into one text. -/
import Derived.Test.YthjcmcgmalnfpaaGreatDoorGCal
import Derived.Deep.LoopGhost
import Derived.Lib.SliceRun
import Derived.Test.YthjcmcgmalnfpaaGreatDoorOpE
import Derived.Test.YthjcmcgmalnfpaaGreatDoorRow
import Derived.Test.YthjcmcgmalnfpaaGreatDoorGTree
import Derived.Test.YthjcmcgmalnfpaaGreatDoorGSrt
import Derived.Test.YthjcmcgmalnfpaaGreatDoorGSm
import Derived.Deep.DeepAppendRoom
import Derived.Great.BuildSlice
import Derived.Great.Walk
import Derived.Test.YthjcmcgmalnfpaaGreatDoorHeldZ
import Derived.Test.YthjcmcgmalnfpaaGreatDoorGStab
import Derived.Deep.DeepCutAuto
import Derived.Deep.CutBlock
import Derived.Deep.QuietTactic
import Derived.BigQuiet
import Derived.Deep.RegionLawGrows
import Derived.Deep.RegionLaw
/- Rows of numbers of 64 bits: compared. -/
namespace Go.Proofs.YthjcmcgmalnfpaaGreatDoor.Lex
open Go.RowKit
set_option linter.unusedSimpArgs false
set_option linter.unusedVariables false
theorem u64Elem : Elem Tryz.prog 48 77 1 8 := ⟨Tryz.underlying48, ⟨.int .u64 0, by kernel_rfl, rfl⟩, by omega⟩
theorem u64s_src {w : World} {a : Option Addr} {cap : Nat} {xs : List Nat} (h : U64s w a xs) (hc : xs.length ≤ cap) (hnil : a = none → cap = 0) : Src w a xs.length cap 1 (xs.map fun x => .int .u64 (x : Nat)) := by
  refine ⟨by simp, fun e => ⟨by have := hnil e; omega, hnil e⟩, fun x hx j u hu => ?_, fun u hu => ?_⟩
  · have hj : j < xs.length := by have := (List.getElem?_eq_some_iff.1 hu).1; simpa using this
    obtain ⟨g, off, e, _, c, _⟩ := h j hj
    rw [e] at hx
    cases hx
    rw [Addr.add_lit, c, ← hu]
    simp [hj]
  · obtain ⟨x, _, rfl⟩ := List.mem_map.1 hu
    rfl
set_option maxRecDepth 100000 in
set_option maxHeartbeats 1000000 in
theorem clone_some (xs : List Nat) (x : Addr) (cap : Nat) (w : World) (hn : xs.length ≤ 4194304) (h : U64s w (some x) xs) (hc : xs.length ≤ cap) :
    Calls Tryz.prog 42 #[.slice (some x) xs.length cap] w fun e w' => ∃ a' cap', e = .returned (.slice a' xs.length cap') ∧ U64s w' a' xs ∧ xs.length ≤ cap' ∧ (a' = none → cap' = 0) ∧ (∀ g o, a' = some ⟨g, o, none⟩ → w.heap.size ≤ g) ∧ Below w.heap.size w w' := by
  have HS := Lib.hid (u64s_src h hc (by simp))
  have he : ∀ (w : World), (binOp .eql 48 (.slice (some x) xs.length cap) (.slice none 0 0)).run Tryz.prog w = .ok (.bool false) w := fun w => by rw [Lib.run_eql_slice_nil w 48 77 (some x) xs.length cap 0 0 Tryz.underlying48]; rfl
  have hw : (w.alloc (.cells #[] 77)).ownsRow w.heap.size 77 1 (.slice (some ⟨w.heap.size, 0, none⟩) 0 0) 0 [] :=
    ⟨rfl, .inr ⟨w.heap.size, 0, _, rfl, Nat.le_refl _, heap_alloc_new w _, Nat.le_refl _, by simp, rfl, rfl⟩⟩
  have HW := Lib.hid hw
  have HS2 := Lib.hid (u64s_src (h.keep ((Below.refl _ w).alloc (Nat.le_refl _) (.cells #[] 77))) hc (by simp))
  have HL : Hid (∀ i (hi : i < xs.length), xs[i]'hi < 18446744073709551616) := Lib.hid fun i hi => by
    obtain ⟨_, _, _, _, _, h4⟩ := h i hi
    exact h4
  clear h hw HS
  go_enter Tryz.func42, Tryz.ntmps42
  go_wp2_with (at_builtin; refine wpl_append rfl _ _ 48 rfl u64Elem _ _ _ rfl _ _ _ _ rfl HW.out HS2.out (by unfold maxLen; omega) (by omega) (by simp) ?_; intro v' w3 hown3 hg3 _)
  obtain ⟨a', cap', rfl, q1, q2, q3⟩ := own_row hown3
  have hnil := own_nil hown3
  have HOL : Hid (∀ g o, a' = some ⟨g, o, none⟩ → w.heap.size ≤ g) := Lib.hid fun g o e => own_lt hown3 g (by rw [e]; rfl)
  have HB3 : Hid (Below w.heap.size w w3) := Lib.hid (((Below.refl _ w).alloc (Nat.le_refl _) _).grown hg3 (by simp) (fun k hk => by cases hk; exact Nat.le_refl _))
  have HR : Hid (U64s w3 a' xs) := Lib.hid fun i hi => by
    obtain ⟨g, e, c⟩ := q3 i (.int .u64 (xs[i]'hi : Nat)) (by simp [hi])
    exact ⟨g, 0, e, World.block_lt_of_cell? _ _ c, by rw [Nat.zero_add]; exact c, HL.out i hi⟩
  have HQ := Lib.hid q1
  have HNN := Lib.hid hnil
  clear hown3 hg3 q3 q1 hnil
  go_wp2_with fail
  go_ret
  exact ⟨a', cap', (congrArg (fun n => Ending.returned (Value.slice a' n cap')) (Nat.zero_add xs.length)), HR.out, by have := HQ.out; omega, HNN.out, HOL.out, HB3.out⟩
end Go.Proofs.YthjcmcgmalnfpaaGreatDoor.Lex
/- hist.clone: a copy of a call. -/
namespace Go.Proofs.YthjcmcgmalnfpaaGreatDoor.Lex
open Go.RowKit
set_option linter.unusedSimpArgs false
set_option linter.unusedVariables false
theorem clone64_nil (w : World) : Calls Tryz.prog 42 #[.slice none 0 0] w fun e w' => e = .returned (.slice none 0 0) ∧ w = w' := by
  have he : ∀ (w : World), (binOp .eql 48 (.slice none 0 0) (.slice none 0 0)).run Tryz.prog w = .ok (.bool true) w := fun w => by rw [Lib.run_eql_slice_nil w 48 77 none 0 0 0 0 Tryz.underlying48]; rfl
  go_enter Tryz.func42, Tryz.ntmps42
  go_wp2_with fail
  go_ret
  exact ⟨rfl, rfl⟩
theorem clone64 (xs : List Nat) (a : Option Addr) (cap : Nat) (w : World) (hn : xs.length ≤ 4194304) (h : U64s w a xs) (hc : xs.length ≤ cap) (hnil : a = none → cap = 0) :
    Calls Tryz.prog 42 #[.slice a xs.length cap] w fun e w' => ∃ a' cap', e = .returned (.slice a' xs.length cap') ∧ U64s w' a' xs ∧ xs.length ≤ cap' ∧ (a' = none → cap' = 0) ∧ (∀ g o, a' = some ⟨g, o, none⟩ → w.heap.size ≤ g) ∧ Below w.heap.size w w' := by
  cases a with
  | some x => exact clone_some xs x cap w hn h hc
  | none =>
    obtain rfl := hnil rfl
    obtain rfl : xs = [] := List.eq_nil_of_length_eq_zero (by omega)
    exact (clone64_nil w).mono fun e w' ⟨h1, h2⟩ => by subst h2; exact ⟨none, 0, h1, h, Nat.le_refl _, fun _ => rfl, fun _ _ e => (nomatch e), Below.refl _ _⟩
/-- A call as it lies in memory: what it shows, and where its rows lie. -/
structure OC where
  o : OpD
  xa : Option Addr
  xc : Nat
  da : Option Addr
  dm : Nat
  dc : Nat
  ya : Option Addr
  yc : Nat
def OC.cells (e : OC) : List Value := [.int .i64 e.o.who, .int .i64 e.o.at_, .int .i64 e.o.ki, .int .i64 e.o.kn, .int .i64 e.o.kd, .string e.o.tx, .int .i64 e.o.ow, .int .i64 e.o.oa, .slice e.xa e.o.xs.length e.xc, .int .i64 e.o.e, .int .i64 e.o.dk, .int .i64 e.o.dn, .slice e.da e.dm e.dc, .int .i64 e.o.n, .int .i64 e.o.li, .string e.o.tt, .slice e.ya e.o.ys.length e.yc, .int .i64 e.o.fr, .int .i64 e.o.tz]
theorem OC.one (e : OC) : ∀ v ∈ e.cells, v.oneCell' = true := by
  intro v hv
  simp only [OC.cells, List.mem_cons, List.not_mem_nil, or_false] at hv
  rcases hv with rfl | rfl | rfl | rfl | rfl | rfl | rfl | rfl | rfl | rfl | rfl | rfl | rfl | rfl | rfl | rfl | rfl | rfl | rfl <;> rfl
def OC.wc (e : OC) : StabW.WC := ⟨e.cells, e.o.fr, rfl, e.one, rfl⟩
/-- What a call shows, its rows in blocks of F. -/
structure OcIn (k : Nat) (F : Foot) (w : World) (e : OC) : Prop where
  core : OpIn k F w e.o e.xa e.xc e.da e.dm e.dc e.ya e.yc
  xf : ∀ g o, e.xa = some ⟨g, o, none⟩ → F g
  yf : ∀ g o, e.ya = some ⟨g, o, none⟩ → F g
  xc : e.o.xs.length ≤ e.xc
  xn : e.xa = none → e.xc = 0
  yc : e.o.ys.length ≤ e.yc
  yn : e.ya = none → e.yc = 0
theorem u64s_fix {F : Foot} {w w' : World} {a : Option Addr} {xs : List Nat} (h : U64s w a xs) (hF : ∀ g o, a = some ⟨g, o, none⟩ → F g) (hf : Fix F w w') : U64s w' a xs := fun i hi => by
  obtain ⟨g, off, h1, h2, h3, h4⟩ := h i hi
  exact ⟨g, off, h1, Nat.lt_of_lt_of_le h2 hf.size, (hf.cell h2 (hF g off h1)).trans h3, h4⟩
theorem OcIn.keep {k : Nat} {F : Foot} {w w' : World} {e : OC} (h : OcIn k F w e) (hf : Fix F w w') : OcIn k F w' e :=
  ⟨⟨h.core.call, u64s_fix h.core.xs h.xf hf, h.core.row.keep (descRd_ok _) hf, h.core.nd, h.core.who, h.core.at_, h.core.fr, h.core.tz, h.core.n, h.core.li, h.core.tt, u64s_fix h.core.ys h.yf hf, h.core.yl⟩, h.xf, h.yf, h.xc, h.xn, h.yc, h.yn⟩
theorem OcIn.mono {k : Nat} {F G : Foot} {w : World} {e : OC} (h : OcIn k F w e) (hg : ∀ b, F b → G b) : OcIn k G w e :=
  ⟨⟨h.core.call, h.core.xs, h.core.row.mono (descRd_ok _) (fun b _ hb => hg b hb), h.core.nd, h.core.who, h.core.at_, h.core.fr, h.core.tz, h.core.n, h.core.li, h.core.tt, h.core.ys, h.core.yl⟩, fun g o e => hg g (h.xf g o e), fun g o e => hg g (h.yf g o e), h.xc, h.xn, h.yc, h.yn⟩
def HClonePost (k : Nat) (x : OC) (w : World) (e : Ending) (w' : World) : Prop := ∃ y : OC, e = .returned (.agg y.cells.toArray) ∧ y.o = x.o ∧ OcIn k (From w.heap.size) w' y ∧ Below w.heap.size w w'
set_option maxRecDepth 100000 in
set_option maxHeartbeats 8000000 in
theorem hclone_any (k : Nat) (F : Foot) (x : OC) (w : World) (hx : OcIn k F w x) (hl : x.o.xs.length ≤ 4194304) (hl2 : x.o.ys.length ≤ 4194304) :
    Calls Tryz.prog 27 #[.agg x.cells.toArray] w (HClonePost k x w) := by
  obtain ⟨⟨who, at_, ki, kn, kd, tx, ow, oa, xs, e, dk, dn, dl, n, li, tt, ys, fr, tz⟩, xa, xc, da, dm, dc, ya, yc⟩ := x
  have HX := Lib.hid hx
  have HPOST : Hid (∀ (a1 : Option Addr) (c1 : Nat) (a2 : Option Addr) (c2 : Nat) (a3 : Option Addr) (c3 : Nat) (w' : World), U64s w' a1 xs → (∀ g o, a1 = some ⟨g, o, none⟩ → w.heap.size ≤ g) → xs.length ≤ c1 → (a1 = none → c1 = 0) → U64s w' a2 ys → (∀ g o, a2 = some ⟨g, o, none⟩ → w.heap.size ≤ g) → ys.length ≤ c2 → (a2 = none → c2 = 0) → RowOf (descRd k) 3 40 (From w.heap.size) w' a3 dm c3 dl → Below w.heap.size w w' →
      HClonePost k ⟨⟨who, at_, ki, kn, kd, tx, ow, oa, xs, e, dk, dn, dl, n, li, tt, ys, fr, tz⟩, xa, xc, da, dm, dc, ya, yc⟩ w (.returned (.agg #[.int .i64 who, .int .i64 at_, .int .i64 ki, .int .i64 kn, .int .i64 kd, .string tx, .int .i64 ow, .int .i64 oa, .slice a1 xs.length c1, .int .i64 e, .int .i64 dk, .int .i64 dn, .slice a3 dm c3, .int .i64 n, .int .i64 li, .string tt, .slice a2 ys.length c2, .int .i64 fr, .int .i64 tz])) w') := Lib.hid fun a1 c1 a2 c2 a3 c3 w' h1 f1 p1 q1 h2 f2 p2 q2 h3 hb =>
    ⟨⟨⟨who, at_, ki, kn, kd, tx, ow, oa, xs, e, dk, dn, dl, n, li, tt, ys, fr, tz⟩, a1, c1, a3, dm, c3, a2, c2⟩, rfl, rfl, ⟨⟨hx.core.call, h1, h3, hx.core.nd, hx.core.who, hx.core.at_, hx.core.fr, hx.core.tz, hx.core.n, hx.core.li, hx.core.tt, h2, hx.core.yl⟩, f1, f2, p1, q1, p2, q2⟩, hb⟩
  obtain ⟨W1, hW1⟩ : ∃ W1, W1 = (w.alloc (.cells #[.int .i64 who, .int .i64 at_, .int .i64 ki, .int .i64 kn, .int .i64 kd, .string tx, .int .i64 ow, .int .i64 oa, .slice xa xs.length xc, .int .i64 e, .int .i64 dk, .int .i64 dn, .slice da dm dc, .int .i64 n, .int .i64 li, .string tt, .slice ya ys.length yc, .int .i64 fr, .int .i64 tz] 58)).alloc (.cells #[.int .i64 0, .int .i64 0, .int .i64 0, .int .i64 0, .int .i64 0, .string ⟨#[]⟩, .int .i64 0, .int .i64 0, .slice none 0 0, .int .i64 0, .int .i64 0, .int .i64 0, .slice none 0 0, .int .i64 0, .int .i64 0, .string ⟨#[]⟩, .slice none 0 0, .int .i64 0, .int .i64 0] 58) := ⟨_, rfl⟩
  have hb1 : Below w.heap.size w W1 := by rw [hW1]; exact ((Below.refl _ _).alloc (Nat.le_refl _) _).alloc (by simp) _
  have hz1 : W1.heap.size = w.heap.size + 1 + 1 := by rw [hW1]; simp
  have g1 : W1.heap[w.heap.size]? = some (.cells #[.int .i64 who, .int .i64 at_, .int .i64 ki, .int .i64 kn, .int .i64 kd, .string tx, .int .i64 ow, .int .i64 oa, .slice xa xs.length xc, .int .i64 e, .int .i64 dk, .int .i64 dn, .slice da dm dc, .int .i64 n, .int .i64 li, .string tt, .slice ya ys.length yc, .int .i64 fr, .int .i64 tz] 58 (0, 0)) := by
    rw [hW1, Lib.alloc_old _ _ _ (by simp)]
    exact heap_alloc_new w _
  have k1 : W1.heap[w.heap.size + 1]? = some (.cells #[.int .i64 0, .int .i64 0, .int .i64 0, .int .i64 0, .int .i64 0, .string ⟨#[]⟩, .int .i64 0, .int .i64 0, .slice none 0 0, .int .i64 0, .int .i64 0, .int .i64 0, .slice none 0 0, .int .i64 0, .int .i64 0, .string ⟨#[]⟩, .slice none 0 0, .int .i64 0, .int .i64 0] 58 (0, 0)) := by
    have h := heap_alloc_new (w.alloc (.cells #[.int .i64 who, .int .i64 at_, .int .i64 ki, .int .i64 kn, .int .i64 kd, .string tx, .int .i64 ow, .int .i64 oa, .slice xa xs.length xc, .int .i64 e, .int .i64 dk, .int .i64 dn, .slice da dm dc, .int .i64 n, .int .i64 li, .string tt, .slice ya ys.length yc, .int .i64 fr, .int .i64 tz] 58)) (.cells #[.int .i64 0, .int .i64 0, .int .i64 0, .int .i64 0, .int .i64 0, .string ⟨#[]⟩, .int .i64 0, .int .i64 0, .slice none 0 0, .int .i64 0, .int .i64 0, .int .i64 0, .slice none 0 0, .int .i64 0, .int .i64 0, .string ⟨#[]⟩, .slice none 0 0, .int .i64 0, .int .i64 0] 58)
    rw [show (w.alloc (.cells #[.int .i64 who, .int .i64 at_, .int .i64 ki, .int .i64 kn, .int .i64 kd, .string tx, .int .i64 ow, .int .i64 oa, .slice xa xs.length xc, .int .i64 e, .int .i64 dk, .int .i64 dn, .slice da dm dc, .int .i64 n, .int .i64 li, .string tt, .slice ya ys.length yc, .int .i64 fr, .int .i64 tz] 58)).heap.size = w.heap.size + 1 by simp, ← hW1] at h
    exact h
  have HU1 := Lib.hid hx.core.xs
  have HU2 := Lib.hid hx.core.ys
  have HRW := Lib.hid hx.core.row
  have HC1 := Lib.hid (clone64 xs xa xc W1 hl (hx.core.xs.keep hb1) hx.xc hx.xn)
  have HCY := Lib.hid (And.intro hx.yc hx.yn)
  have HL2 := Lib.hid hl2
  have HB1 := Lib.hid hb1
  have HG1 := Lib.hid g1
  have HK1 := Lib.hid k1
  have HZ1 := Lib.hid hz1
  have t8 := cell_at (o := 8) g1 rfl
  clear hx hl hl2 hb1 hz1 g1 k1
  change Calls Tryz.prog 27 #[.agg #[.int .i64 who, .int .i64 at_, .int .i64 ki, .int .i64 kn, .int .i64 kd, .string tx, .int .i64 ow, .int .i64 oa, .slice xa xs.length xc, .int .i64 e, .int .i64 dk, .int .i64 dn, .slice da dm dc, .int .i64 n, .int .i64 li, .string tt, .slice ya ys.length yc, .int .i64 fr, .int .i64 tz]] w _
  go_enter Tryz.func27, Tryz.ntmps27
  go_upto_region 1 with fail
  rw [← hW1]
  clear hW1
  go_upto_region 2 with (go_at_call 42; (with_reducible refine HC1.out.mono ?_); rintro e1 w2 ⟨a1, c1, rfl, hu, hc, hnn, hfar, hb2⟩; have HA := Lib.hid hu; have HAC := Lib.hid (And.intro hc hnn); have HAF := Lib.hid hfar; have HB2 := Lib.hid hb2; have HG2 := Lib.hid ((hb2.block w.heap.size (by rw [HZ1.out]; omega)).trans HG1.out); have q8 := cell_at (o := 8) HG2.out rfl; have f8 := free_at (o := 8) HG2.out; clear hu hc hnn hfar hb2)
  obtain ⟨W2, hW2⟩ : ∃ W2, W2 = w2.setCell ⟨w.heap.size, 8, none⟩ (.slice a1 xs.length c1) := ⟨_, rfl⟩
  have HFX2 : Hid (Fix (From (w.heap.size + 1)) w2 W2) := Lib.hid (by rw [hW2]; exact Fix.setCell _ _ _ (by show ¬ w.heap.size + 1 ≤ w.heap.size; omega))
  have HBW2 : Hid (Below w.heap.size w W2) := Lib.hid (by rw [hW2]; exact (HB1.out.trans (HB2.out.mono HB1.out.size)).setCell (p := ⟨w.heap.size, 8, none⟩) (Nat.le_refl _) _)
  have HH2 : Hid (W2.heap[w.heap.size]? = some (.cells #[.int .i64 who, .int .i64 at_, .int .i64 ki, .int .i64 kn, .int .i64 kd, .string tx, .int .i64 ow, .int .i64 oa, .slice a1 xs.length c1, .int .i64 e, .int .i64 dk, .int .i64 dn, .slice da dm dc, .int .i64 n, .int .i64 li, .string tt, .slice ya ys.length yc, .int .i64 fr, .int .i64 tz] 58 (0, 0))) := Lib.hid (by rw [hW2]; exact heap_set_at (o := 8) _ HG2.out)
  have HK2 : Hid (W2.heap[w.heap.size + 1]? = some (.cells #[.int .i64 0, .int .i64 0, .int .i64 0, .int .i64 0, .int .i64 0, .string ⟨#[]⟩, .int .i64 0, .int .i64 0, .slice none 0 0, .int .i64 0, .int .i64 0, .int .i64 0, .slice none 0 0, .int .i64 0, .int .i64 0, .string ⟨#[]⟩, .slice none 0 0, .int .i64 0, .int .i64 0] 58 (0, 0))) := Lib.hid ((HFX2.out.same _ (Nat.lt_of_lt_of_le (by rw [HZ1.out]; omega) HB2.out.size) (Nat.le_refl _)).trans ((HB2.out.block _ (by rw [HZ1.out]; omega)).trans HK1.out))
  have HA2 : Hid (U64s W2 a1 xs) := Lib.hid (u64s_fix (F := From (w.heap.size + 1)) HA.out (fun g o h => by have := HAF.out g o h; rw [HZ1.out] at this; show w.heap.size + 1 ≤ g; omega) HFX2.out)
  have HZ2 : Hid (w.heap.size + 1 < W2.heap.size) := Lib.hid ((Array.getElem?_eq_some_iff.1 HK2.out).1)
  have HC2 := Lib.hid (clone64 ys ya yc W2 HL2.out (HU2.out.keep HBW2.out) HCY.out.1 HCY.out.2)
  rw [← hW2]
  clear hW2 q8 f8 t8 HC1
  have t16 := cell_at (o := 16) HH2.out rfl
  go_upto_region 3 with (go_at_call 42; (with_reducible refine HC2.out.mono ?_); rintro e1 w3 ⟨a2, c2, rfl, hu, hc, hnn, hfar, hb3⟩; have HY := Lib.hid hu; have HYC := Lib.hid (And.intro hc hnn); have HYF := Lib.hid hfar; have HB3 := Lib.hid hb3; have HG3 := Lib.hid ((hb3.block w.heap.size (by have := HZ2.out; omega)).trans HH2.out); have q16 := cell_at (o := 16) HG3.out rfl; have f16 := free_at (o := 16) HG3.out; clear hu hc hnn hfar hb3)
  obtain ⟨W3, hW3⟩ : ∃ W3, W3 = w3.setCell ⟨w.heap.size, 16, none⟩ (.slice a2 ys.length c2) := ⟨_, rfl⟩
  have HFX3 : Hid (Fix (From (w.heap.size + 1)) w3 W3) := Lib.hid (by rw [hW3]; exact Fix.setCell _ _ _ (by show ¬ w.heap.size + 1 ≤ w.heap.size; omega))
  have HBW3 : Hid (Below w.heap.size w W3) := Lib.hid (by rw [hW3]; exact (HBW2.out.trans (HB3.out.mono HBW2.out.size)).setCell (p := ⟨w.heap.size, 16, none⟩) (Nat.le_refl _) _)
  have HH3 : Hid (W3.heap[w.heap.size]? = some (.cells #[.int .i64 who, .int .i64 at_, .int .i64 ki, .int .i64 kn, .int .i64 kd, .string tx, .int .i64 ow, .int .i64 oa, .slice a1 xs.length c1, .int .i64 e, .int .i64 dk, .int .i64 dn, .slice da dm dc, .int .i64 n, .int .i64 li, .string tt, .slice a2 ys.length c2, .int .i64 fr, .int .i64 tz] 58 (0, 0))) := Lib.hid (by rw [hW3]; exact heap_set_at (o := 16) _ HG3.out)
  have HK3 : Hid (W3.heap[w.heap.size + 1]? = some (.cells #[.int .i64 0, .int .i64 0, .int .i64 0, .int .i64 0, .int .i64 0, .string ⟨#[]⟩, .int .i64 0, .int .i64 0, .slice none 0 0, .int .i64 0, .int .i64 0, .int .i64 0, .slice none 0 0, .int .i64 0, .int .i64 0, .string ⟨#[]⟩, .slice none 0 0, .int .i64 0, .int .i64 0] 58 (0, 0))) := Lib.hid ((HFX3.out.same _ (Nat.lt_of_lt_of_le HZ2.out HB3.out.size) (Nat.le_refl _)).trans ((HB3.out.block _ HZ2.out).trans HK2.out))
  have HF23 : Hid (Fix (From (w.heap.size + 1)) W2 W3) := Lib.hid ((Fix.of_below HB3.out).trans HFX3.out)
  have HA3 : Hid (U64s W3 a1 xs) := Lib.hid (u64s_fix (F := From (w.heap.size + 1)) HA2.out (fun g o h => by have := HAF.out g o h; rw [HZ1.out] at this; show w.heap.size + 1 ≤ g; omega) HF23.out)
  have HY3 : Hid (U64s W3 a2 ys) := Lib.hid (u64s_fix (F := From (w.heap.size + 1)) HY.out (fun g o h => by have := HYF.out g o h; have := HZ2.out; show w.heap.size + 1 ≤ g; omega) HFX3.out)
  have HZ3 : Hid (w.heap.size + 1 < W3.heap.size) := Lib.hid ((Array.getElem?_eq_some_iff.1 HK3.out).1)
  have HC3 := Lib.hid (clone_any k F dk dn dl da dm dc W3 (HRW.out.keep (descRd_ok _) (Fix.of_below HBW3.out)))
  rw [← hW3]
  clear hW3 q16 f16 t16 HC2
  have t10 := cell_at (o := 10) HH3.out rfl
  have t11 := cell_at (o := 11) HH3.out rfl
  have t12 := cell_at (o := 12) HH3.out rfl
  go_upto_region 4 with (go_at_call 43; (with_reducible refine HC3.out.mono ?_); rintro e1 w4 ⟨a3, c3, rfl, hr, hb4⟩; have HD := Lib.hid hr; have HB4 := Lib.hid hb4; have HG4 := Lib.hid ((hb4.block w.heap.size (by have := HZ3.out; omega)).trans HH3.out); have q10 := cell_at (o := 10) HG4.out rfl; have q11 := cell_at (o := 11) HG4.out rfl; have q12 := cell_at (o := 12) HG4.out rfl; have f4 := fun o => free_at (o := o) HG4.out; clear hr hb4)
  obtain ⟨W4, hW4⟩ : ∃ W4, W4 = ((w4.setCell ⟨w.heap.size, 10, none⟩ (.int .i64 dk)).setCell ⟨w.heap.size, 11, none⟩ (.int .i64 dn)).setCell ⟨w.heap.size, 12, none⟩ (.slice a3 dm c3) := ⟨_, rfl⟩
  have HFX4 : Hid (Fix (From (w.heap.size + 1)) w4 W4) := Lib.hid (by
    have hn : ¬ From (w.heap.size + 1) w.heap.size := by show ¬ w.heap.size + 1 ≤ w.heap.size; omega
    rw [hW4]; exact ((Fix.setCell _ ⟨_, _, none⟩ _ hn).trans (Fix.setCell _ ⟨_, _, none⟩ _ hn)).trans (Fix.setCell _ ⟨_, _, none⟩ _ hn))
  have HBW4 : Hid (Below w.heap.size w W4) := Lib.hid (by rw [hW4]; exact (((HBW3.out.trans (HB4.out.mono HBW3.out.size)).setCell (p := ⟨w.heap.size, 10, none⟩) (Nat.le_refl _) _).setCell (p := ⟨w.heap.size, 11, none⟩) (Nat.le_refl _) _).setCell (p := ⟨w.heap.size, 12, none⟩) (Nat.le_refl _) _)
  have HH4 : Hid (W4.heap[w.heap.size]? = some (.cells #[.int .i64 who, .int .i64 at_, .int .i64 ki, .int .i64 kn, .int .i64 kd, .string tx, .int .i64 ow, .int .i64 oa, .slice a1 xs.length c1, .int .i64 e, .int .i64 dk, .int .i64 dn, .slice a3 dm c3, .int .i64 n, .int .i64 li, .string tt, .slice a2 ys.length c2, .int .i64 fr, .int .i64 tz] 58 (0, 0))) := Lib.hid (by rw [hW4]; exact heap_set_at (o := 12) _ (heap_set_at (o := 11) _ (heap_set_at (o := 10) _ HG4.out)))
  have HK4 : Hid (W4.heap[w.heap.size + 1]? = some (.cells #[.int .i64 0, .int .i64 0, .int .i64 0, .int .i64 0, .int .i64 0, .string ⟨#[]⟩, .int .i64 0, .int .i64 0, .slice none 0 0, .int .i64 0, .int .i64 0, .int .i64 0, .slice none 0 0, .int .i64 0, .int .i64 0, .string ⟨#[]⟩, .slice none 0 0, .int .i64 0, .int .i64 0] 58 (0, 0))) := Lib.hid ((HFX4.out.same _ (Nat.lt_of_lt_of_le HZ3.out HB4.out.size) (Nat.le_refl _)).trans ((HB4.out.block _ HZ3.out).trans HK3.out))
  have HF34 : Hid (Fix (From (w.heap.size + 1)) W3 W4) := Lib.hid ((Fix.of_below HB4.out).trans HFX4.out)
  have HR1 : Hid (W4.rangeAt w.heap.size 0 [.int .i64 who, .int .i64 at_, .int .i64 ki, .int .i64 kn, .int .i64 kd, .string tx, .int .i64 ow, .int .i64 oa, .slice a1 xs.length c1, .int .i64 e, .int .i64 dk, .int .i64 dn, .slice a3 dm c3, .int .i64 n, .int .i64 li, .string tt, .slice a2 ys.length c2, .int .i64 fr, .int .i64 tz]) := Lib.hid (fun j u hu => by rw [Nat.zero_add]; exact cell_at (o := j) HH4.out (by simpa using hu))
  have HT1 : Hid (W4.there (w.heap.size + 1) 0 19) := Lib.hid (fun j hj => by
    rw [Nat.zero_add]
    exact ⟨by rw [cell_at (o := j) HK4.out (Array.getElem?_eq_getElem (by simpa using hj))]; rfl, free_at (o := j) HK4.out⟩)
  have HONE : Hid (∀ v ∈ ([.int .i64 who, .int .i64 at_, .int .i64 ki, .int .i64 kn, .int .i64 kd, .string tx, .int .i64 ow, .int .i64 oa, .slice a1 xs.length c1, .int .i64 e, .int .i64 dk, .int .i64 dn, .slice a3 dm c3, .int .i64 n, .int .i64 li, .string tt, .slice a2 ys.length c2, .int .i64 fr, .int .i64 tz] : List Value), v.oneCell' = true) := Lib.hid (OC.one ⟨⟨who, at_, ki, kn, kd, tx, ow, oa, xs, e, dk, dn, dl, n, li, tt, ys, fr, tz⟩, a1, c1, a3, dm, c3, a2, c2⟩)
  have HFIN : Hid (HClonePost k ⟨⟨who, at_, ki, kn, kd, tx, ow, oa, xs, e, dk, dn, dl, n, li, tt, ys, fr, tz⟩, xa, xc, da, dm, dc, ya, yc⟩ w (.returned (.agg #[.int .i64 who, .int .i64 at_, .int .i64 ki, .int .i64 kn, .int .i64 kd, .string tx, .int .i64 ow, .int .i64 oa, .slice a1 xs.length c1, .int .i64 e, .int .i64 dk, .int .i64 dn, .slice a3 dm c3, .int .i64 n, .int .i64 li, .string tt, .slice a2 ys.length c2, .int .i64 fr, .int .i64 tz])) (W4.setCells (w.heap.size + 1) 0 [.int .i64 who, .int .i64 at_, .int .i64 ki, .int .i64 kn, .int .i64 kd, .string tx, .int .i64 ow, .int .i64 oa, .slice a1 xs.length c1, .int .i64 e, .int .i64 dk, .int .i64 dn, .slice a3 dm c3, .int .i64 n, .int .i64 li, .string tt, .slice a2 ys.length c2, .int .i64 fr, .int .i64 tz])) := Lib.hid (by
    have e1 : ∀ g, From (w.heap.size + 1 + 1) g → From (w.heap.size + 1) g := fun g hg => Nat.le_of_succ_le hg
    have hfx : Fix (From (w.heap.size + 1 + 1)) W4 (W4.setCells (w.heap.size + 1) 0 [.int .i64 who, .int .i64 at_, .int .i64 ki, .int .i64 kn, .int .i64 kd, .string tx, .int .i64 ow, .int .i64 oa, .slice a1 xs.length c1, .int .i64 e, .int .i64 dk, .int .i64 dn, .slice a3 dm c3, .int .i64 n, .int .i64 li, .string tt, .slice a2 ys.length c2, .int .i64 fr, .int .i64 tz]) := ⟨Nat.le_of_eq (StabW.size_setCells _ _ _ _).symm, fun b hb hf => StabW.heap_setCells_ne _ _ _ _ _ (by have hf' : w.heap.size + 1 + 1 ≤ b := hf; omega)⟩
    have f1 : ∀ g o, a1 = some ⟨g, o, none⟩ → w.heap.size + 1 + 1 ≤ g := fun g o h => by have := HAF.out g o h; rw [HZ1.out] at this; exact this
    have f2 : ∀ g o, a2 = some ⟨g, o, none⟩ → w.heap.size + 1 + 1 ≤ g := fun g o h => by have := HYF.out g o h; have := HZ2.out; omega
    have hf4 := HF34.out.mono (G := From (w.heap.size + 1 + 1)) fun b _ hb => e1 b hb
    have hz3 := HZ3.out
    refine HPOST.out a1 c1 a2 c2 a3 c3 _ (u64s_fix (F := From (w.heap.size + 1 + 1)) HA3.out f1 (hf4.trans hfx)) (fun g o h => by have := f1 g o h; omega) HAC.out.1 HAC.out.2 (u64s_fix (F := From (w.heap.size + 1 + 1)) HY3.out f2 (hf4.trans hfx)) (fun g o h => by have := f2 g o h; omega) HYC.out.1 HYC.out.2 ?_ (StabW.below_setCells _ _ _ HBW4.out (by omega))
    refine (HD.out.keep (descRd_ok _) (((HFX4.out.mono (G := From (w.heap.size + 1 + 1)) fun b _ hb => e1 b hb).trans hfx).mono fun b _ hb => ?_)).mono (descRd_ok _) fun b _ hb => ?_
    · have hb' : W3.heap.size ≤ b := hb
      show w.heap.size + 1 + 1 ≤ b; omega
    · have hb' : W3.heap.size ≤ b := hb
      show w.heap.size ≤ b; omega)
  have HKK : Hid ((W4.setCells (w.heap.size + 1) 0 [.int .i64 who, .int .i64 at_, .int .i64 ki, .int .i64 kn, .int .i64 kd, .string tx, .int .i64 ow, .int .i64 oa, .slice a1 xs.length c1, .int .i64 e, .int .i64 dk, .int .i64 dn, .slice a3 dm c3, .int .i64 n, .int .i64 li, .string tt, .slice a2 ys.length c2, .int .i64 fr, .int .i64 tz]).heap[w.heap.size + 1]? = some (.cells #[.int .i64 who, .int .i64 at_, .int .i64 ki, .int .i64 kn, .int .i64 kd, .string tx, .int .i64 ow, .int .i64 oa, .slice a1 xs.length c1, .int .i64 e, .int .i64 dk, .int .i64 dn, .slice a3 dm c3, .int .i64 n, .int .i64 li, .string tt, .slice a2 ys.length c2, .int .i64 fr, .int .i64 tz] 58 (0, 0))) := Lib.hid (StabW.heap_setCells_all [.int .i64 who, .int .i64 at_, .int .i64 ki, .int .i64 kn, .int .i64 kd, .string tx, .int .i64 ow, .int .i64 oa, .slice a1 xs.length c1, .int .i64 e, .int .i64 dk, .int .i64 dn, .slice a3 dm c3, .int .i64 n, .int .i64 li, .string tt, .slice a2 ys.length c2, .int .i64 fr, .int .i64 tz] W4 (w.heap.size + 1) #[.int .i64 0, .int .i64 0, .int .i64 0, .int .i64 0, .int .i64 0, .string ⟨#[]⟩, .int .i64 0, .int .i64 0, .slice none 0 0, .int .i64 0, .int .i64 0, .int .i64 0, .slice none 0 0, .int .i64 0, .int .i64 0, .string ⟨#[]⟩, .slice none 0 0, .int .i64 0, .int .i64 0] 58 HK4.out rfl)
  rw [← hW4]
  clear hW4 q10 q11 q12 f4 t10 t11 t12 HC3
  go_wp2_with (first
    | (refine wpList_load_mid rfl 58 _ rfl w.heap.size 0 rfl [.int .i64 who, .int .i64 at_, .int .i64 ki, .int .i64 kn, .int .i64 kd, .string tx, .int .i64 ow, .int .i64 oa, .slice a1 xs.length c1, .int .i64 e, .int .i64 dk, .int .i64 dn, .slice a3 dm c3, .int .i64 n, .int .i64 li, .string tt, .slice a2 ys.length c2, .int .i64 fr, .int .i64 tz] _ HR1.out Tryz.underlying58 rfl (by kernel_rfl) ?_)
    | (refine wpList_store_mid rfl 58 _ _ rfl (w.heap.size + 1) 0 #[.int .i64 who, .int .i64 at_, .int .i64 ki, .int .i64 kn, .int .i64 kd, .string tx, .int .i64 ow, .int .i64 oa, .slice a1 xs.length c1, .int .i64 e, .int .i64 dk, .int .i64 dn, .slice a3 dm c3, .int .i64 n, .int .i64 li, .string tt, .slice a2 ys.length c2, .int .i64 fr, .int .i64 tz] rfl rfl HT1.out (by kernel_rfl) (all_oneCell_toArray HONE.out) ?_))
  exact bodyPost_ret (results_cell_row rfl _ _ (w.heap.size + 1) 58 _ (0, 0) _ rfl HKK.out Tryz.underlying58 rfl (by kernel_rfl)) rfl HFIN.out
end Go.Proofs.YthjcmcgmalnfpaaGreatDoor.Lex
/- hist.Sort: calls by their beginnings, copied. -/
namespace Go.Proofs.YthjcmcgmalnfpaaGreatDoor.Lex
open Go.RowKit
set_option linter.unusedSimpArgs false
set_option linter.unusedVariables false
theorem OC.len (e : OC) : e.cells.length = 19 := rfl
theorem mk_row1 (w : World) (e : OC) : (Instr.buildSlice 22 1 #[(0, .agg e.cells.toArray)]).run Tryz.prog w = .ok (.slice (some ⟨w.heap.size, 0, none⟩) 1 1) (w.alloc (.cells e.cells.toArray 58)) := by
  obtain ⟨i, hi, hz0, hz1, hz2⟩ := info_parts (show (Tryz.prog.info? 58).map (fun i => (i.zero, i.size, i.bytes)) = some (some (.agg #[.int .i64 0, .int .i64 0, .int .i64 0, .int .i64 0, .int .i64 0, .string ⟨#[]⟩, .int .i64 0, .int .i64 0, .slice none 0 0, .int .i64 0, .int .i64 0, .int .i64 0, .slice none 0 0, .int .i64 0, .int .i64 0, .string ⟨#[]⟩, .slice none 0 0, .int .i64 0, .int .i64 0]), 19, 216) by kernel_rfl)
  refine run_buildSlice w 22 58 1 _ _ i _ Tryz.underlying22 hi hz0 (by rw [hz1]; omega) (by rw [hz1]; omega) ?_
  rw [hz1]
  refine (Great.fill_whole (s := 19) (by omega) [.agg e.cells.toArray] _ (fun v hv => by rw [List.mem_singleton.1 hv]; rfl) (by simp)).trans ?_
  simp [Value.cells]
theorem built1 (e : OC) : Tryz.prog.builtSlice 58 1 [(0, .agg e.cells.toArray)] = some e.cells.toArray := by
  obtain ⟨i, hi, hz0, hz1, hz2⟩ := info_parts (show (Tryz.prog.info? 58).map (fun i => (i.zero, i.size, i.bytes)) = some (some (.agg #[.int .i64 0, .int .i64 0, .int .i64 0, .int .i64 0, .int .i64 0, .string ⟨#[]⟩, .int .i64 0, .int .i64 0, .slice none 0 0, .int .i64 0, .int .i64 0, .int .i64 0, .slice none 0 0, .int .i64 0, .int .i64 0, .string ⟨#[]⟩, .slice none 0 0, .int .i64 0, .int .i64 0]), 19, 216) by kernel_rfl)
  unfold Program.builtSlice
  simp only [hi, hz0, hz1]
  rw [if_neg (by omega)]
  refine (Great.fill_whole (s := 19) (by omega) [.agg e.cells.toArray] _ (fun v hv => by rw [List.mem_singleton.1 hv]; rfl) (by simp)).trans ?_
  simp [Value.cells]
theorem mk_ops (n : Nat) (hn : n ≤ 1048576) (w : World) : (Instr.makeSlice 22 (.int .i64 0) (.int .i64 (n : Int))).run Tryz.prog w = .ok (.slice (some ⟨w.heap.size, 0, none⟩) 0 n) (w.alloc (.cells (madeCells #[.int .i64 0, .int .i64 0, .int .i64 0, .int .i64 0, .int .i64 0, .string ⟨#[]⟩, .int .i64 0, .int .i64 0, .slice none 0 0, .int .i64 0, .int .i64 0, .int .i64 0, .slice none 0 0, .int .i64 0, .int .i64 0, .string ⟨#[]⟩, .slice none 0 0, .int .i64 0, .int .i64 0] (n * 19)) 58)) := by
  obtain ⟨i, hi, hz0, hz1, hz2⟩ := info_parts (show (Tryz.prog.info? 58).map (fun i => (i.zero, i.size, i.bytes)) = some (some (.agg #[.int .i64 0, .int .i64 0, .int .i64 0, .int .i64 0, .int .i64 0, .string ⟨#[]⟩, .int .i64 0, .int .i64 0, .slice none 0 0, .int .i64 0, .int .i64 0, .int .i64 0, .slice none 0 0, .int .i64 0, .int .i64 0, .string ⟨#[]⟩, .slice none 0 0, .int .i64 0, .int .i64 0]), 19, 216) by kernel_rfl)
  have hr := run_make (P := Tryz.prog) w 22 58 i _ Tryz.underlying22 hi hz0 .i64 .i64 0 n (by omega) (by omega) (by rw [hz2]; omega) (by omega)
  simp only [Int.toNat_natCast, hz1] at hr
  exact hr
theorem opElem : Elem Tryz.prog 22 58 19 216 := ⟨Tryz.underlying22, ⟨.agg #[.int .i64 0, .int .i64 0, .int .i64 0, .int .i64 0, .int .i64 0, .string ⟨#[]⟩, .int .i64 0, .int .i64 0, .slice none 0 0, .int .i64 0, .int .i64 0, .int .i64 0, .slice none 0 0, .int .i64 0, .int .i64 0, .string ⟨#[]⟩, .slice none 0 0, .int .i64 0, .int .i64 0], by kernel_rfl, rfl⟩, by omega⟩
theorem wpl_appS {P : Program} {w : World} {ops : Array Oper} {rest : List Oper} {o : Oper} {a : Act} {Q : Exit → Act → World → Prop} (hgd : o.guard = none) (s x : Operand) (t : TypeId)
    (ho : o.op = .call { callee := .builtin .append, args := #[s, x], argTypes := #[t, t] })
    {base : Nat} {e : TypeId} {size bytes : Nat} (E : Elem P t e size bytes)
    (g n cap : Nat) (xs : List Value) (hs : a.eval s = .slice (some ⟨g, 0, none⟩) n cap) (ad : Addr) (m c : Nat) (news : List Value) (hx : a.eval x = .slice (some ad) m c)
    (hown : w.ownsRow base e size (.slice (some ⟨g, 0, none⟩) n cap) n xs) (hsrc : Src w (some ad) m c size news) (hroom : n + m ≤ cap)
    (h : ∀ w', w'.ownsRow base e size (.slice (some ⟨g, 0, none⟩) (n + m) cap) (n + m) (xs ++ news) → w.grownBy w' (some g) → wpList P ops Q rest (a.put o.dst (.slice (some ⟨g, 0, none⟩) (n + m) cap)) w') :
    wpList P ops Q (o :: rest) a w := by
  obtain ⟨z, hi, hzs⟩ := E.row
  obtain ⟨i, hi, hz0, hz1, hz2⟩ := info_parts hi
  exact wpList_append_own_spare w hgd s x t ho base e i size E.ht hi hz1 g n cap xs hs hown ad m c news hx hsrc.len (hsrc.at_ ad rfl) hsrc.one hroom h
def cellsW (L : List OC) : List Value := (L.map OC.cells).flatten
theorem cellsW_len : ∀ L : List OC, (cellsW L).length = L.length * 19
  | [] => rfl
  | e :: L => by
    have := cellsW_len L
    show (e.cells ++ cellsW L).length = _
    rw [List.length_append, this, e.len]
    simp only [List.length_cons]
    omega
theorem cellsW_app (A B : List OC) : cellsW (A ++ B) = cellsW A ++ cellsW B := by simp [cellsW]
theorem cellsW_get : ∀ {L : List OC} {i : Nat} {e : OC} {j : Nat} {v : Value}, L[i]? = some e → e.cells[j]? = some v → (cellsW L)[i * 19 + j]? = some v
  | [], i, e, j, v, h, _ => by simp at h
  | x :: L, 0, e, j, v, h, hv => by
    obtain rfl : x = e := by simpa using h
    show (x.cells ++ cellsW L)[0 * 19 + j]? = _
    rw [Nat.zero_mul, Nat.zero_add, List.getElem?_append_left (List.getElem?_eq_some_iff.1 hv).1]
    exact hv
  | x :: L, i + 1, e, j, v, h, hv => by
    show (x.cells ++ cellsW L)[(i + 1) * 19 + j]? = _
    rw [List.getElem?_append_right (by rw [x.len]; omega), show (i + 1) * 19 + j - x.cells.length = i * 19 + j by rw [x.len]; omega]
    exact cellsW_get (by simpa using h) hv
/-- Calls as they lie in a row. -/
def OcRow (k : Nat) (F : Foot) (w : World) (a : Option Addr) (l : List OC) : Prop :=
  ∀ i (h : i < l.length), ∃ g off, a = some ⟨g, off, none⟩ ∧ g < w.heap.size ∧ w.rangeAt g (off + i * 19) (l[i]'h).cells ∧ OcIn k F w (l[i]'h)
theorem OcRow.keep {k : Nat} {F : Foot} {w w' : World} {a : Option Addr} {l : List OC} (h : OcRow k F w a l) (hb : Below w.heap.size w w') : OcRow k F w' a l := fun i hi => by
  obtain ⟨g, off, h1, h2, h3, h4⟩ := h i hi
  exact ⟨g, off, h1, Nat.lt_of_lt_of_le h2 hb.size, fun j v hj => (hb.cell (p := ⟨g, off + i * 19 + j, none⟩) h2).trans (h3 j v hj), h4.keep (Fix.of_below hb)⟩
/-- A row of n places in block g, of which the first ones are filled; what its calls show lies behind block g. -/
structure Ops (k B g n : Nat) (w : World) (L : List OC) : Prop where
  row : w.ownsRow B 58 19 (.slice (some ⟨g, 0, none⟩) L.length n) L.length (cellsW L)
  in_ : ∀ e ∈ L, OcIn k (From (g + 1)) w e
theorem Ops.below {k B g n : Nat} {w w' : World} {L : List OC} (h : Ops k B g n w L) (hb : Below w.heap.size w w') : Ops k B g n w' L :=
  ⟨own_below h.row hb, fun e he => (h.in_ e he).keep (Fix.of_below hb)⟩
theorem Ops.add {k B g n : Nat} {wm w3 : World} {L : List OC} {e : OC} (h : Ops k B g n wm L) (hd : OcIn k (From (g + 1)) wm e)
    (ho : w3.ownsRow B 58 19 (.slice (some ⟨g, 0, none⟩) (L.length + 1) n) (L.length + 1) (cellsW L ++ e.cells)) (hg : wm.grownBy w3 (some g)) : Ops k B g n w3 (L ++ [e]) := by
  have fx : Fix (From (g + 1)) wm w3 := .of_grown hg fun b _ hf e => by have h2 := Option.some.inj e; have hf' : g + 1 ≤ b := hf; omega
  refine ⟨by rw [List.length_append, cellsW_app]; simpa [cellsW] using ho, fun e' he => ?_⟩
  rcases List.mem_append.1 he with he | he
  · exact (h.in_ e' he).keep fx
  · obtain rfl := List.mem_singleton.1 he
    exact hd.keep fx
/-- A row that is full lies in its block. -/
theorem Ops.full {k B g : Nat} {w : World} {L : List OC} (h : Ops k B g L.length w L) : ∃ C T, w.heap[g]? = some (.cells C T (0, 0)) ∧ StabW.Lies (L.map OC.wc) C := by
  rcases h.row.2 with ⟨h0, _⟩ | ⟨g', cap, cur, hv, hb, hg, hn, hm, hs, ht⟩
  · cases h0
  · cases hv
    refine ⟨cur, _, hg, by rw [List.length_map]; exact hs, fun i e hi j v hj => ?_⟩
    rw [List.getElem?_map, Option.map_eq_some_iff] at hi
    obtain ⟨x, hx, rfl⟩ := hi
    have hc := cellsW_get hx hj
    rw [← ht] at hc
    rw [List.getElem?_take] at hc
    split at hc
    · rw [← Array.getElem?_toList]; exact hc
    · cases hc
/-- Calls by their beginnings. -/
def sortO (l : List OpD) : List OpD := Stab.isort (fun x y => StabW.ltW x.fr y.fr) l
theorem ins_map {α β : Type} (f : α → β) (k : β → β → Bool) (x : α) : ∀ l : List α, (Stab.ins (fun a b => k (f a) (f b)) x l).map f = Stab.ins k (f x) (l.map f)
  | [] => rfl
  | b :: l => by
    simp only [Stab.ins, List.map_cons]
    split
    · rfl
    · rw [List.map_cons, ins_map f k x l]
theorem isort_map {α β : Type} (f : α → β) (k : β → β → Bool) (l : List α) : (Stab.isort (fun a b => k (f a) (f b)) l).map f = Stab.isort k (l.map f) := by
  have : ∀ (l acc : List α), (l.foldl (fun acc x => Stab.ins (fun a b => k (f a) (f b)) x acc) acc).map f = (l.map f).foldl (fun acc x => Stab.ins k x acc) (acc.map f) := by
    intro l
    induction l with
    | nil => intro acc; rfl
    | cons x l ih =>
      intro acc
      rw [List.foldl_cons, ih, ins_map, List.map_cons, List.foldl_cons]
  exact this l []
/-- What a stable sorting of calls' cells comes to. -/
theorem sorted_oc {L : List OC} {M : List StabW.WC} (hs : Stab.Srt (fun x y => decide (StabW.cfW x y < 0)) M) (sm : Stab.Same (fun x y => decide (StabW.cfW x y < 0)) (L.map OC.wc) M) :
    ∃ L' : List OC, M = L'.map OC.wc ∧ L'.map (·.o) = sortO (L.map (·.o)) ∧ ∀ e ∈ L', e ∈ L := by
  obtain ⟨g1, g2⟩ := Stab.isort_spec (Stab.ord_by StabW.ltW_ord fun x : OC => x.o.fr) L
  obtain ⟨Z, e1, e2, e3⟩ := Stab.pair_sort (k := StabW.ltW) StabW.ltW_ord (ka := fun x : StabW.WC => x.fr) (kb := fun x : OC => x.o.fr) (Z := L.map fun x => (x.wc, x)) (fun z hz => by
    obtain ⟨x, _, rfl⟩ := List.mem_map.1 hz
    rfl) hs (by rw [List.map_map]; exact sm) g1 (by rw [List.map_map, show (Prod.snd ∘ fun x : OC => (x.wc, x)) = id from rfl, List.map_id]; exact g2)
  have hz : ∀ z ∈ Z, z.1 = z.2.wc ∧ z.2 ∈ L := fun z hz => by
    obtain ⟨x, hx, rfl⟩ := List.mem_map.1 (e3 z hz)
    exact ⟨rfl, hx⟩
  refine ⟨Z.map Prod.snd, ?_, ?_, fun e he => ?_⟩
  · rw [← e1, List.map_map]
    exact List.map_congr_left fun z h => (hz z h).1
  · rw [e2]
    exact isort_map (fun x : OC => x.o) (fun x y => StabW.ltW x.fr y.fr) L
  · obtain ⟨z, h, rfl⟩ := List.mem_map.1 he
    exact (hz z h).2
theorem OC.wc_inj {a b : OC} (h : a.wc = b.wc) : a.cells = b.cells := congrArg StabW.WC.cells h
/-- Behind the sorting. -/
def HSortPost (k : Nat) (l : List OC) (w : World) (e : Ending) (w' : World) : Prop :=
  ∃ L', e = .returned (.slice (some ⟨w.heap.size, 0, none⟩) l.length l.length) ∧ OcRow k (From w.heap.size) w' (some ⟨w.heap.size, 0, none⟩) L' ∧ L'.map (·.o) = sortO (l.map (·.o)) ∧ Below w.heap.size w w'
set_option maxRecDepth 100000 in
set_option maxHeartbeats 8000000 in
theorem hsort_any (k : Nat) (F : Foot) (l : List OC) (a : Option Addr) (cap : Nat) (w : World) (hn : l.length ≤ 1048576) (hl : OcRow k F w a l) (hx : ∀ e ∈ l, e.o.xs.length ≤ 4194304 ∧ e.o.ys.length ≤ 4194304) :
    Calls Tryz.prog 16 #[.slice a l.length cap] w (HSortPost k l w) := by
  have HL := Lib.hid hl
  have HX := Lib.hid hx
  obtain ⟨n, hnn⟩ : ∃ n, n = l.length := ⟨_, rfl⟩
  rw [← hnn] at hn ⊢
  have HN := Lib.hid hnn
  have hmk := mk_ops n hn
  obtain ⟨N, hNN⟩ : ∃ N, N = w.heap.size := ⟨_, rfl⟩
  obtain ⟨W1, hW1⟩ : ∃ W1, W1 = w.alloc (.cells (madeCells #[.int .i64 0, .int .i64 0, .int .i64 0, .int .i64 0, .int .i64 0, .string ⟨#[]⟩, .int .i64 0, .int .i64 0, .slice none 0 0, .int .i64 0, .int .i64 0, .int .i64 0, .slice none 0 0, .int .i64 0, .int .i64 0, .string ⟨#[]⟩, .slice none 0 0, .int .i64 0, .int .i64 0] (n * 19)) 58) := ⟨_, rfl⟩
  have HS0 : Hid (Ops k N N n W1 [] ∧ Below N w W1 ∧ N < W1.heap.size) := Lib.hid (by
    have h2 := heap_alloc_new w (.cells (madeCells #[.int .i64 0, .int .i64 0, .int .i64 0, .int .i64 0, .int .i64 0, .string ⟨#[]⟩, .int .i64 0, .int .i64 0, .slice none 0 0, .int .i64 0, .int .i64 0, .int .i64 0, .slice none 0 0, .int .i64 0, .int .i64 0, .string ⟨#[]⟩, .slice none 0 0, .int .i64 0, .int .i64 0] (n * 19)) 58)
    rw [← hW1, ← hNN] at h2
    refine ⟨⟨⟨rfl, .inr ⟨N, n, _, rfl, Nat.le_refl _, h2, Nat.zero_le _, by unfold maxLen; omega, by rw [size_madeCells], by simp [cellsW]⟩⟩, fun e he => by simp at he⟩, ?_, (Array.getElem?_eq_some_iff.1 h2).1⟩
    rw [hW1, hNN]; exact (Below.refl _ _).alloc (Nat.le_refl _) _)
  have HNN := Lib.hid hNN
  clear hl hx hnn
  go_enter Tryz.func16, Tryz.ntmps16
  go_upto_region 2 with fail
  rw [← hW1, ← hNN]
  clear hW1 hmk hNN
  go_upto_region 3 with fail
  go_loopg [3, 11] n (fun g lv iv wr => ∃ i : Nat, i ≤ n ∧ g = n - i ∧ lv = .slice (some ⟨N, 0, none⟩) i n ∧ iv = .int .i64 i ∧ ∃ L : List OC, L.length = i ∧ L.map (·.o) = (l.take i).map (·.o) ∧ Ops k N N n wr L ∧ Below N w wr ∧ N < wr.heap.size)
  case atStart => exact ⟨0, by omega, rfl, rfl, rfl, [], rfl, rfl, HS0.out.1, HS0.out.2⟩
  case round =>
    obtain ⟨i, hi, rfl, rfl, rfl, L, rfl, hLo, hE, hB, hz⟩ := hrel
    obtain ⟨wo, rfl⟩ : ∃ wo : World, wo = wr := ⟨_, rfl⟩
    have HLO := Lib.hid hLo
    have HE := Lib.hid hE
    have HB := Lib.hid hB
    clear hLo hE hB
    by_cases hlt : L.length < n
    · have hlti : (L.length : Int) < (n : Int) := by omega
      have hil : L.length < l.length := by have := HN.out; omega
      obtain ⟨g, off, rfl, hg, hrg, hin⟩ := (HL.out.keep (by rw [← HNN.out]; exact HB.out)) L.length hil
      have HTK := Lib.hid (List.take_succ_eq_append_getElem hil)
      have HXX := Lib.hid (HX.out (l[L.length]'hil) (List.getElem_mem hil))
      generalize l[L.length]'hil = x at *
      have HRG := Lib.hid hrg
      have HIN := Lib.hid hin
      clear hrg hin
      obtain ⟨W4, hW4⟩ : ∃ W4, W4 = wo.alloc (.cells x.cells.toArray 58) := ⟨_, rfl⟩
      have HB4 : Hid (Below wo.heap.size wo W4) := Lib.hid (by rw [hW4]; exact (Below.refl _ _).alloc (Nat.le_refl _) _)
      have HR4 : Hid (W4.rangeAt wo.heap.size 0 x.cells) := Lib.hid (by
        have g4 : W4.heap[wo.heap.size]? = some (.cells x.cells.toArray 58 (0, 0)) := by rw [hW4]; exact heap_alloc_new wo _
        intro j u hu
        rw [Nat.zero_add]
        exact cell_at (o := j) g4 (by simpa using hu))
      go_upto_region 5 with (first
        | (refine wpList_load_mid rfl 58 _ rfl g (off + L.length * 19) rfl x.cells _ HRG.out Tryz.underlying58 rfl (by kernel_rfl) ?_)
        | (refine wpList_store_new rfl 58 _ _ rfl wo.heap.size rfl x.cells rfl rfl rfl (by kernel_rfl) x.one ?_))
      rw [← hW4]
      clear hW4
      have HCL := Lib.hid (hclone_any k F x W4 (HIN.out.keep (Fix.of_below HB4.out)) HXX.out.1 HXX.out.2)
      have H6 : Hid (∀ (y : OC) (w5 : World), y.o = x.o → OcIn k (From W4.heap.size) w5 y → Below W4.heap.size W4 w5 → Ops k N N n (w5.alloc (.cells y.cells.toArray 58)) L ∧ OcIn k (From (N + 1)) (w5.alloc (.cells y.cells.toArray 58)) y ∧ Src (w5.alloc (.cells y.cells.toArray 58)) (some ⟨w5.heap.size, 0, none⟩) 1 1 19 y.cells ∧ Below N w (w5.alloc (.cells y.cells.toArray 58)) ∧ N < (w5.alloc (.cells y.cells.toArray 58)).heap.size) := Lib.hid fun y w5 hy hin hb => by
        have hz4 := HB4.out.size
        have hb6 : Below wo.heap.size wo (w5.alloc (.cells y.cells.toArray 58)) := (HB4.out.trans (hb.mono hz4)).alloc (Nat.le_trans hz4 hb.size) _
        exact ⟨HE.out.below hb6, ((hin.keep (Fix.alloc _ _ _)).mono fun b hb => by have hb' : W4.heap.size ≤ b := hb; show N + 1 ≤ b; omega), src_new3 _ 58 19 rfl y.one, HB.out.trans (hb6.mono (by omega)), by have := hb6.size; omega⟩
      go_upto_region 6 with (first
        | (refine wpList_load_mid rfl 58 _ rfl wo.heap.size 0 rfl x.cells _ HR4.out Tryz.underlying58 rfl (by kernel_rfl) ?_)
        | (go_at_call 27; (with_reducible refine HCL.out.mono ?_); rintro e w5 ⟨y, rfl, hyo, hyi, hb5⟩; have HYO := Lib.hid hyo; obtain ⟨h61, h62, h63, h64, h65⟩ := H6.out y w5 hyo hyi hb5; have HE6 := Lib.hid h61; have HI6 := Lib.hid h62; have HS6 := Lib.hid h63; have HB6 := Lib.hid h64; have HZ6 := Lib.hid h65; clear hyo hyi hb5 h61 h62 h63 h64 h65)
        | (refine Great.wpList_buildSliceTo rfl 22 58 1 _ rfl _ rfl _ rfl Tryz.underlying22 y.cells.toArray ?_ ?_; (focus (simp only [List.map_toArray, List.map_cons, List.map_nil]; exact built1 y)))
        | (at_builtin; refine wpl_appS rfl _ _ 22 rfl opElem _ _ _ _ rfl _ _ _ _ rfl HE6.out.row HS6.out (by omega) ?_; intro w7 ho7 hg7; have HE7 := Lib.hid (HE6.out.add HI6.out ho7 hg7); have HB7 : Hid (Below N w w7) := Lib.hid (HB6.out.grown hg7 (by have := HB6.out.size; rw [← HNN.out] at this; exact this) (fun q hq => by cases hq; exact Nat.le_refl _)); have HZ7 : Hid (N < w7.heap.size) := Lib.hid (Nat.lt_of_lt_of_le HZ6.out hg7.size); clear ho7 hg7))
      go_wp2_with fail
      go_roundg (n - (L.length + 1))
      case measure => omega
      case rel =>
        refine ⟨L.length + 1, by omega, rfl, rfl, by go_num, L ++ [y], by simp, ?_, HE7.out, HB7.out, HZ7.out⟩
        rw [HTK.out, List.map_append, List.map_append, HLO.out, List.map_cons, List.map_cons, HYO.out]
    · have hni : n = L.length := by omega
      have hlti : ¬ (L.length : Int) < (n : Int) := by omega
      subst hni
      have hst : StabW.St N N wo (L.map OC.wc) wo := ⟨HE.out.full, Below.refl _ _, fun _ _ _ => rfl⟩
      have HC := Lib.hid (StabW.ssf_any (Nat.le_refl _) StabW.cmpAtW (cap := L.length) (N := L.length) (by omega) (L.map OC.wc) (by simp) wo hst)
      clear hst
      go_wp2_with (go_at_call 28; (with_reducible refine HC.out.mono ?_); rintro e w2 ⟨rfl, M, hs1, hs2, hs3, hs4⟩; have HP1 := Lib.hid hs1; have HP2 := Lib.hid hs2; have HP4 := Lib.hid hs4; clear hs1 hs2 hs3 hs4)
      go_ret
      obtain ⟨L', rfl, hO, hmem⟩ := sorted_oc HP1.out HP2.out
      have hll : L.map (·.o) = l.map (·.o) := by
        rw [HLO.out, List.take_of_length_le (by rw [← HN.out]; exact Nat.le_refl _)]
      have hfx : Fix (From (N + 1)) wo w2 := HP4.out.fix fun b hb e => by have hb' : N + 1 ≤ b := hb; omega
      unfold HSortPost
      rw [← HN.out, ← HNN.out]
      refine ⟨L', rfl, fun i hi => ?_, by rw [hO, hll], HB.out.trans HP4.out.below⟩
      have hget : (L'.map OC.wc)[i]? = some (L'[i]'hi).wc := by rw [List.getElem?_map, List.getElem?_eq_getElem hi]; rfl
      refine ⟨N, 0, rfl, HP4.out.lt, ?_, ((HE.out.in_ _ (hmem _ (List.getElem_mem hi))).keep hfx).mono fun b hb => by have hb' : N + 1 ≤ b := hb; show N ≤ b; omega⟩
      rw [Nat.zero_add]
      exact HP4.out.range hget
end Go.Proofs.YthjcmcgmalnfpaaGreatDoor.Lex
/- The reference's sort of calls (printed by tools/mk_rsortw.py off XRSort24). -/
namespace Go.Proofs.YthjcmcgmalnfpaaGreatDoor.Lex
open Go Go.RowKit Stab StabW
set_option linter.unusedSimpArgs false
set_option linter.unusedVariables false
/-- How calls stand to each other. -/
def cfO (x y : OC) : Int := c3W x.o.fr y.o.fr
theorem cfO_ord : Ord fun x y => decide (cfO x y < 0) := ord_by ltW_ord fun x : OC => x.o.fr
theorem cfO_iff {x y : OC} : cfO x y < 0 ↔ x.o.fr < y.o.fr := by
  have := ltW_iff (x := x.o.fr) (y := y.o.fr)
  unfold ltW at this
  rw [decide_eq_true_iff] at this
  exact this
/-- The first part and the rest of a row of one's own, as what is appended. -/
theorem own_parts {w : World} {B : Nat} {e : TypeId} {size : Nat} {v : Value} {m : Nat} {xs : List Value} (h : w.ownsRow B e size v m xs) (h1 : ∀ u ∈ xs, u.oneCell' = true) {k : Nat} (hk : k ≤ m) :
    ∃ a cap, v = .slice a m cap ∧ m ≤ cap ∧ Src w a k cap size (xs.take (k * size)) ∧ Src w (if cap = k then a else a.map (·.add (k * size))) (m - k) (cap - k) size (xs.drop (k * size)) := by
  have hsp : k * size ≤ m * size := Nat.mul_le_mul_right _ hk
  have hsub : m * size - k * size = (m - k) * size := (Nat.sub_mul _ _ _).symm
  rcases h.2 with ⟨rfl, rfl⟩ | ⟨g, cap, cur, rfl, hb, hg, hle, hmx, hs, ht⟩
  · obtain rfl : k = 0 := by omega
    have hx : xs = [] := List.eq_nil_of_length_eq_zero (by rw [h.1]; simp)
    subst hx
    exact ⟨none, 0, rfl, Nat.le_refl _, ⟨by simp, fun _ => ⟨rfl, rfl⟩, fun x hx => by simp at hx, by simp⟩, ⟨by simp, fun _ => ⟨rfl, rfl⟩, fun x hx => by simp at hx, by simp⟩⟩
  · have hcell := fun j u hu => h.cells (g := g) rfl j u hu
    refine ⟨_, cap, rfl, hle, ⟨by rw [List.length_take, h.1]; omega, by simp, fun x hx j u hu => ?_, fun u hu => h1 u (List.mem_of_mem_take hu)⟩, ⟨by rw [List.length_drop, h.1, hsub], ?_, fun x hx j u hu => ?_, fun u hu => h1 u (List.mem_of_mem_drop hu)⟩⟩
    · cases hx
      have hj := (List.getElem?_eq_some_iff.1 hu).1
      rw [List.length_take] at hj
      rw [List.getElem?_take_of_lt (by omega)] at hu
      exact hcell j u hu
    · split <;> simp
    · rw [List.getElem?_drop] at hu
      have := hcell _ u hu
      split at hx
      · next hc =>
        have hl := (List.getElem?_eq_some_iff.1 hu).1
        rw [h.1] at hl
        have hmk : m = k := by omega
        subst hmk
        omega
      · cases hx
        rw [Addr.add_lit] at this
        rw [Deep.add_add, Addr.add_lit]
        exact this
section
variable {P : Program} {ops : Array Oper} {S : World → Prop}
theorem yieldsIf_slice_h {op : Oper} {a : Act} (hw : Region.wanted op (yielded ops a.tmps) = true) (t : TypeId) (x h : Operand) (ho : op.op = .slice t x none (some h) none) (ht : P.underlying t = some (.slice (P.elem t)))
    {ad : Option Addr} {m cap k : Nat} (hx : a.eval x = .slice ad m cap) (hh : a.eval h = .int .i64 (k : Int)) (hk : k ≤ cap) {s : Nat} (hsz : ∀ w, (sizeOf (P.elem t)).run P w = .ok s w) : YieldsIf P ops S op (.slice ad k cap) a :=
  .inl ⟨hw, fun w _ => by
    have hr := run_slice_h (w := w) (P := P) t ad m cap ht .i64 (k : Int) (by omega) (by omega)
    have e : sliced ad 0 (k : Int).toNat cap s = .slice ad k cap := by
      unfold sliced
      rw [Int.toNat_natCast, Nat.sub_zero, Nat.sub_zero]
      split
      · rfl
      · cases ad <;> simp [Addr.add]
    unfold execOp
    simp only [ho, Option.map_some, Option.map_none, hx, hh, Sem.run_bind, Sem.run_pure, run_sliceAt_slice (h := ht), hr, Result.andThen_ok, hsz, e]⟩
theorem yieldsIf_slice_l {op : Oper} {a : Act} (hw : Region.wanted op (yielded ops a.tmps) = true) (t : TypeId) (x h : Operand) (ho : op.op = .slice t x (some h) none none) (ht : P.underlying t = some (.slice (P.elem t)))
    {ad : Option Addr} {m cap k : Nat} (hx : a.eval x = .slice ad m cap) (hh : a.eval h = .int .i64 (k : Int)) (hk : k ≤ m) {s : Nat} (hsz : ∀ w, (sizeOf (P.elem t)).run P w = .ok s w) : YieldsIf P ops S op (.slice (if cap = k then ad else ad.map (·.add (k * s))) (m - k) (cap - k)) a :=
  .inl ⟨hw, fun w _ => by
    have hr := run_slice_l (w := w) (P := P) t ad m cap ht .i64 (k : Int) (by omega) (by omega)
    have e : sliced ad (k : Int).toNat m cap s = .slice (if cap = k then ad else ad.map (·.add (k * s))) (m - k) (cap - k) := by
      unfold sliced
      rw [Int.toNat_natCast]
    unfold execOp
    simp only [ho, Option.map_some, Option.map_none, hx, hh, Sem.run_bind, Sem.run_pure, run_sliceAt_slice (h := ht), hr, Result.andThen_ok, hsz, e]⟩
end
theorem cellsW_one (L : List OC) : ∀ u ∈ cellsW L, u.oneCell' = true := by
  intro u hu
  unfold cellsW at hu
  rw [List.mem_flatten] at hu
  obtain ⟨cs, hcs, hu⟩ := hu
  obtain ⟨e, _, rfl⟩ := List.mem_map.1 hcs
  exact e.one u hu
theorem drop_cons {α : Type} {l : List α} {i : Nat} {y : α} (h : l[i]? = some y) : l.drop i = y :: l.drop (i + 1) := by
  obtain ⟨hi, rfl⟩ := List.getElem?_eq_some_iff.1 h
  exact List.drop_eq_getElem_cons hi
theorem take_last {α : Type} {l : List α} {i : Nat} {y : α} (h : l[i]? = some y) : (l.take (i + 1)).getLast? = some y := by
  obtain ⟨hi, rfl⟩ := List.getElem?_eq_some_iff.1 h
  rw [List.take_succ_eq_append_getElem hi, List.getLast?_append]
  rfl
theorem cellsW_take (L : List OC) (j : Nat) : (cellsW L).take (j * 19) = cellsW (L.take j) := by
  by_cases h : j ≤ L.length
  · conv => lhs; rw [← List.take_append_drop j L, cellsW_app]
    rw [List.take_left']
    rw [cellsW_len, List.length_take, Nat.min_eq_left h]
  · rw [List.take_of_length_le (by rw [cellsW_len]; omega), List.take_of_length_le (by omega)]
theorem cellsW_drop (L : List OC) (j : Nat) : (cellsW L).drop (j * 19) = cellsW (L.drop j) := by
  by_cases h : j ≤ L.length
  · conv => lhs; rw [← List.take_append_drop j L, cellsW_app]
    rw [List.drop_left']
    rw [cellsW_len, List.length_take, Nat.min_eq_left h]
  · rw [List.drop_of_length_le (by rw [cellsW_len]; omega), List.drop_of_length_le (by omega)]
    rfl
/-- A row that is being put together: behind all that was there. -/
structure OwnW (w wo W : World) (v : Value) (n : Nat) (xs : List Value) : Prop where
  row : W.ownsRow w.heap.size 58 19 v n xs
  new : ∀ g, v.ownBlock = some g → wo.heap.size ≤ g
/-- One entry by itself in a block of its own, of no row. -/
structure TmpW (wo W : World) (x : OC) (g : Nat) : Prop where
  at_ : W.heap[g]? = some (.cells x.cells.toArray 58 (0, 0))
  new : wo.heap.size ≤ g
theorem TmpW.src {wo W : World} {x : OC} {g : Nat} (h : TmpW wo W x g) : Src W (some ⟨g, 0, none⟩) 1 1 19 x.cells := by
  refine ⟨rfl, by simp, fun y hy j u hu => ?_, x.one⟩
  cases hy
  rw [Addr.add_lit, Nat.zero_add]
  exact cell_at h.at_ (by simpa using hu)
theorem new0 {w wo W : World} (h : w.heap.size ≤ wo.heap.size) (hb : Below wo.heap.size wo W) : Below wo.heap.size wo (W.alloc (.cells #[] 58)) ∧ OwnW w wo (W.alloc (.cells #[] 58)) (.slice (some ⟨W.heap.size, 0, none⟩) 0 0) 0 [] ∧
    ∀ x g, TmpW wo W x g → TmpW wo (W.alloc (.cells #[] 58)) x g ∧ some g ≠ (Value.slice (some ⟨W.heap.size, 0, none⟩) 0 0).ownBlock := by
  have hz := hb.size
  refine ⟨hb.alloc hz _, ⟨World.ownsRow_made W #[] 0 (by omega) (Nat.zero_le _) (by simp), fun g hg => by simp [Value.ownBlock] at hg; omega⟩, fun x g ht => ?_⟩
  have hg := (Array.getElem?_eq_some_iff.1 ht.at_).1
  exact ⟨⟨by rw [Lib.alloc_old _ _ _ hg]; exact ht.at_, ht.new⟩, by simp [Value.ownBlock]; omega⟩
theorem new9 {w wo W : World} (x : OC) (hb : Below wo.heap.size wo W) : Below wo.heap.size wo (W.alloc (.cells x.cells.toArray 58)) ∧
    TmpW wo (W.alloc (.cells x.cells.toArray 58)) x W.heap.size ∧
    ∀ v n xs, OwnW w wo W v n xs → OwnW w wo (W.alloc (.cells x.cells.toArray 58)) v n xs ∧ some W.heap.size ≠ v.ownBlock := by
  have hz := hb.size
  refine ⟨hb.alloc hz _, ⟨heap_alloc_new _ _, hz⟩, fun v n xs ho => ⟨⟨own_below ho.row ((Below.refl _ _).alloc (Nat.le_refl _) _), ho.new⟩, fun e => ?_⟩⟩
  have := (ho.row.lt _ e.symm).2
  omega
/-- An append onto the row that is being put together. -/
theorem appW {w wo W : World} {ops : Array Oper} {o : Oper} {a : Act} {K : Act → World → Prop} {Q : Exit → Act → World → Prop} {E0 : Prop} (hgd : o.guard = none) (s x : Operand)
    (ho : o.op = .call { callee := .builtin .append, args := #[s, x], argTypes := #[22, 22] }) (v : Value) (n : Nat) (xs : List Value) (hs : a.eval s = v) (ad : Option Addr) (m c : Nat) (news : List Value) (hx : a.eval x = .slice ad m c)
    (hww : w.heap.size ≤ wo.heap.size) (hb : Below wo.heap.size wo W) (hown : OwnW w wo W v n xs) (hsrc : Src W ad m c 19 news) (hbytes : (n + m) * 216 ≤ 140737488355328)
    (h : ∀ v' W', Below wo.heap.size wo W' → OwnW w wo W' v' (n + m) (xs ++ news) → (∀ y g, TmpW wo W y g ∧ some g ≠ v.ownBlock → TmpW wo W' y g ∧ some g ≠ v'.ownBlock) → K (a.put o.dst v') W') :
    if Region.wanted o (yielded ops a.tmps) = true then Oper.wp Tryz.prog o a W K Q else E0 := by
  have hz := hb.size
  cases ad with
  | some ad =>
    refine step_appT hgd s x 22 ho opElem v n xs hs ad m c news hx hown.row hsrc (by unfold maxLen; omega) hbytes (by omega) fun v' W' h1 h2 h3 => h v' W' (hb.grown h2 hz hown.new) ⟨h1, fun g hg => ?_⟩ fun y g ht => ?_
    · rcases h3 with e | e
      · exact hown.new g (by rw [← e]; exact hg)
      · rw [e] at hg; cases hg; exact hz
    · have hg := (Array.getElem?_eq_some_iff.1 ht.1.at_).1
      refine ⟨⟨(h2.block g hg ht.2).trans ht.1.at_, ht.1.new⟩, fun e => ?_⟩
      rcases h3 with e2 | e2
      · exact ht.2 (e.trans e2)
      · rw [e2] at e; cases e; omega
  | none =>
    have hw : Region.wanted o (yielded ops a.tmps) = true := by simp [Region.wanted, hgd]
    rw [if_pos hw]
    obtain ⟨z, hi, hzs⟩ := opElem.row
    obtain ⟨i, hi, hz0, hz1, hz2⟩ := info_parts hi
    obtain ⟨rfl, rfl⟩ := hsrc.nil rfl
    have hn : news = [] := List.eq_nil_of_length_eq_zero (by have := hsrc.len; omega)
    subst hn
    have hrun := run_append_owned_none (P := Tryz.prog) (w := W) w.heap.size 22 o.type 58 i 19 opElem.ht hi v n xs hown.row
    unfold Oper.wp
    simp [execOp, ho, resolve, invoke, builtin, hs, hx, hrun, Result.andThen]
    exact h v W hb (by simpa using hown) (fun y g h => h)
theorem step_buildTo {P : Program} {w : World} {ops : Array Oper} {o : Oper} {a : Act} {K : Act → World → Prop} {Q : Exit → Act → World → Prop} {E0 : Prop} (hw : Region.wanted o (yielded ops a.tmps) = true) (t e : TypeId) (len : Nat) (parts : Array (Nat × Operand)) (ho : o.op = .buildSlice t len parts)
    (hu : P.underlying t = some (.slice e)) (cells : Array Value) (hf : P.builtSlice e len (parts.map fun (i, x) => (i, a.eval x)).toList = some cells)
    (h : K (a.put o.dst (.slice (some ⟨w.heap.size, 0, none⟩) len len)) (w.alloc (.cells cells e))) : if Region.wanted o (yielded ops a.tmps) = true then Oper.wp P o a w K Q else E0 := by
  rw [if_pos hw]
  unfold Program.builtSlice at hf
  cases hie : P.info? e with
  | none => simp [hie] at hf
  | some ie =>
    simp only [hie] at hf
    cases hz : ie.zero with
    | none => simp [hz] at hf
    | some z =>
      simp only [hz] at hf
      by_cases hc : len * ie.size > 2 ^ 24 ∨ len * ie.size = 0
      · simp [hc] at hf
      · rw [if_neg hc] at hf
        exact wp_buildSlice t e len parts ho cells ie z hu hie hz (fun h' => hc (Or.inl h')) (fun h' => hc (Or.inr h')) hf h
def RSortPost (k : Nat) (l : List OC) (w : World) (e : Ending) (w' : World) : Prop :=
  ∃ a c L', e = .returned (.slice a l.length c) ∧ OcRow k All w' a L' ∧ L'.map (·.o) = sortO (l.map (·.o)) ∧ Below w.heap.size w w'
set_option maxRecDepth 100000 in
set_option maxHeartbeats 4000000 in
theorem rsort_any (k : Nat) (l : List OC) (a : Option Addr) (cap : Nat) (w : World) (hn0 : l.length ≤ 1048576) (hl : OcRow k All w a l) :
    Calls Tryz.prog 18 #[.slice a l.length cap] w (RSortPost k l w) := by
  obtain ⟨n, hnn⟩ : ∃ n, n = l.length := ⟨_, rfl⟩
  rw [← hnn] at hn0 ⊢
  have hn : n ≤ 1048576 := hn0
  have HLN : Hid (l.length = n) := Lib.hid hnn.symm
  have HL := Lib.hid hl
  clear hl hnn hn0
  go_enter Tryz.func18, Tryz.ntmps18
  go_upto_region 3 with fail
  go_loopg [3, 4] n (fun g ov iv wr => ∃ (i : Nat) (out : List OC), i ≤ n ∧ g = n - i ∧ iv = .int .i64 i ∧ out.length = i ∧ wr.ownsRow w.heap.size 58 19 ov i (cellsW out) ∧ Srt (fun x y => decide (cfO x y < 0)) out ∧ Same (fun x y => decide (cfO x y < 0)) (l.take i) out ∧ Below w.heap.size w wr)
  case atStart => exact ⟨0, [], by omega, rfl, rfl, rfl, World.ownsRow_nil _ _ _ _, List.Pairwise.nil, by rw [List.take_zero]; exact Same.refl _, Below.refl _ _⟩
  case round =>
    obtain ⟨i, out, hi, rfl, rfl, hol, hown, hsrt, hsame, hB⟩ := hrel
    obtain ⟨wo, rfl⟩ : ∃ wo : World, wo = wr := ⟨_, rfl⟩
    have HOL := Lib.hid hol
    have HOWN := Lib.hid hown
    have HSRT := Lib.hid hsrt
    have HSAME := Lib.hid hsame
    have HB := Lib.hid hB
    obtain ⟨oa, oc, hov, _⟩ := own_parts hown (cellsW_one out) (Nat.zero_le i)
    subst hov
    clear hol hown hsrt hsame hB
    by_cases hlt : i < n
    · have hlti : (i : Int) < (n : Int) := by omega
      obtain ⟨x, hx⟩ : ∃ x, l[i]? = some x := ⟨_, List.getElem?_eq_getElem (by rw [HLN.out]; exact hlt)⟩
      have HX := Lib.hid hx
      obtain ⟨hi0, hxe⟩ := List.getElem?_eq_some_iff.1 hx
      obtain ⟨b, o, rfl, hbw, hrg, hoi⟩ := HL.out i hi0
      rw [hxe] at hrg hoi
      have HOI := Lib.hid hoi
      have HXC : Hid (∀ W, Below w.heap.size w W → W.rangeAt b (o + i * 19) x.cells) := Lib.hid fun W hb j v hj => (hb.cell (p := ⟨b, o + i * 19 + j, none⟩) hbw).trans (hrg j v hj)
      clear hx hrg hxe hi0 hoi
      go_upto_block 2 with fail
      go_cut [5] from 14 to 31 (fun kv wx => ∃ j : Nat, j ≤ i ∧ kv = .int .i64 j ∧ (∀ y ∈ out.drop j, cfO x y < 0) ∧ (∀ y, (out.take j).getLast? = some y → ¬ cfO x y < 0) ∧ Below wo.heap.size wo wx)
      case first =>
        go_wp2_with fail
        go_loopg [5] i (fun g kv wr => ∃ j : Nat, j ≤ i ∧ j = g ∧ kv = .int .i64 j ∧ (∀ y ∈ out.drop j, cfO x y < 0) ∧ Below wo.heap.size wo wr)
        case atStart => exact ⟨i, by omega, rfl, rfl, by rw [List.drop_of_length_le (by rw [HOL.out]; omega)]; simp, Below.refl _ _⟩
        case round =>
          obtain ⟨j, hji, rfl, rfl, hlow, hB1⟩ := hrel
          obtain ⟨w1, rfl⟩ : ∃ w1 : World, w1 = wr := ⟨_, rfl⟩
          have HLOW := Lib.hid hlow
          have HB1 := Lib.hid hB1
          clear hlow hB1
          by_cases hj0 : j = 0
          · subst hj0
            go_upto_region 6 with fail
            go_quiet (fail)
            go_wp2_with fail
            go_meet
            exact ⟨0, Nat.zero_le _, rfl, HLOW.out, by simp, by first | exact HB1.out.drew | exact HB1.out | exact below_drewN HB1.out _⟩
          · have hji0 : (0 : Int) < (j : Int) := by omega
            obtain ⟨jm, hjm, hjm'⟩ : ∃ jm, j ≤ jm + 1 ∧ jm + 1 ≤ j := ⟨j - 1, by omega, by omega⟩
            have wj : IntKind.i64.wrap ((j : Int) - 1) = (jm : Int) := wrapS (n := j) (m := 1) (i := jm) (by omega) (by omega)
            have HJ : Hid (j = jm + 1) := Lib.hid (by omega)
            obtain ⟨y, hy⟩ : ∃ y, out[jm]? = some y := ⟨_, List.getElem?_eq_getElem (by rw [HOL.out]; omega)⟩
            obtain ⟨g, rfl⟩ : ∃ g, oa = some ⟨g, 0, none⟩ := by
              rcases HOWN.out.2 with ⟨_, h0⟩ | ⟨g, _, _, hv, _⟩
              · omega
              · cases hv; exact ⟨g, rfl⟩
            have hg := (HOWN.out.lt g rfl).2
            have hcell : ∀ t v, y.cells[t]? = some v → wo.cell? ⟨g, jm * 19 + t, none⟩ = some v := fun t v hv => by
              have h := HOWN.out.cells (g := g) rfl (jm * 19 + t) v (cellsW_get hy hv)
              rw [Addr.add_lit, Nat.zero_add] at h
              exact h
            have hxf : w1.cell? ⟨b, o + i * 19 + 17, none⟩ = some (.int .i64 x.o.fr) := HXC.out w1 (HB.out.trans (HB1.out.mono HB.out.size)) 17 _ rfl
            have hyf : w1.cell? ⟨g, jm * 19 + 17, none⟩ = some (.int .i64 y.o.fr) := (HB1.out.cell (p := ⟨g, jm * 19 + 17, none⟩) hg).trans (hcell 17 _ rfl)
            have jmi : (jm : Int) < (i : Int) := by omega
            have jm0 : (0 : Int) ≤ (jm : Int) := by omega
            have hj0n : 0 < j := by omega
            have hj0b : decide (0 < j) = true := by simpa using hj0n
            have HY := Lib.hid hy
            clear hcell hg hy
            by_cases hcf : cfO x y < 0
            · have HCF := Lib.hid hcf
              have hff : x.o.fr < y.o.fr := cfO_iff.1 hcf
              have hfb : decide (x.o.fr < y.o.fr) = true := by simpa using hff
              clear hcf
              go_upto_region 6 with fail
              go_quiet (fail)
              clear hxf hyf
              go_wp2_with fail
              go_roundg jm
              case measure => omega
              case rel =>
                refine ⟨jm, by omega, rfl, rfl, fun z hz => ?_, by first | exact HB1.out.drew | exact HB1.out | exact below_drewN HB1.out _⟩
                rw [drop_cons HY.out, ← HJ.out] at hz
                rcases List.mem_cons.1 hz with rfl | hz
                · exact HCF.out
                · exact HLOW.out z hz
            · have HCF := Lib.hid hcf
              have hff : ¬ x.o.fr < y.o.fr := fun h => hcf (cfO_iff.2 h)
              have hfb : decide (x.o.fr < y.o.fr) = false := by simpa using hff
              clear hcf
              go_upto_region 6 with fail
              go_quiet (fail)
              clear hxf hyf
              go_wp2_with fail
              go_meet
              refine ⟨j, hji, rfl, HLOW.out, fun z hz => ?_, by first | exact HB1.out.drew | exact HB1.out | exact below_drewN HB1.out _⟩
              rw [HJ.out, take_last HY.out] at hz
              cases hz
              exact HCF.out
      case rest =>
        obtain ⟨j, hji, rfl, hlow, hhi, hB1⟩ := hcut
        obtain ⟨w1, rfl⟩ : ∃ w1 : World, w1 = wc := ⟨_, rfl⟩
        have HB0 : Hid (Below wo.heap.size wo w1.drew) := Lib.hid hB1.drew
        have HXT : Hid (∀ W, Below wo.heap.size wo W → W.rangeAt b (o + i * 19) x.cells) := Lib.hid fun W hb => HXC.out W (HB.out.trans (hb.mono HB.out.size))
        obtain ⟨oa', oc', hv, hjc, hsr1, hsr2⟩ := own_parts HOWN.out (cellsW_one out) hji
        cases hv
        have HSR1 : Hid (∀ W, Below wo.heap.size wo W → Src W oa j oc 19 ((cellsW out).take (j * 19))) := Lib.hid fun W hb => by
          obtain ⟨oa2, oc2, hv2, _, h1, _⟩ := own_parts (own_below HOWN.out hb) (cellsW_one out) hji
          cases hv2
          exact h1
        have HSR2 : Hid (∀ W, Below wo.heap.size wo W → Src W (if oc = j then oa else oa.map (·.add (j * 19))) (i - j) (oc - j) 19 ((cellsW out).drop (j * 19))) := Lib.hid fun W hb => by
          obtain ⟨oa2, oc2, hv2, _, _, h2⟩ := own_parts (own_below HOWN.out hb) (cellsW_one out) hji
          cases hv2
          exact h2
        have HSLH : Hid (j ≤ oc) := Lib.hid (by omega)
        have hT0 := Lib.hid (HXT.out w1.drew HB0.out)
        have HRM : Hid (n * 216 ≤ 140737488351232) := Lib.hid (by omega)
        have HFIN : Hid (∀ (v : Value) (W : World), OwnW w wo W v (0 + j + 1 + (i - j)) (([] ++ (cellsW out).take (j * 19)) ++ x.cells ++ (cellsW out).drop (j * 19)) → Below wo.heap.size wo W → ∃ out' : List OC, out'.length = i + 1 ∧ W.ownsRow w.heap.size 58 19 v (i + 1) (cellsW out') ∧ Srt (fun x y => decide (cfO x y < 0)) out' ∧ Same (fun x y => decide (cfO x y < 0)) (l.take (i + 1)) out' ∧ Below w.heap.size w W) := Lib.hid fun v W ho hb => by
          have e : ([] ++ (cellsW out).take (j * 19)) ++ x.cells ++ (cellsW out).drop (j * 19) = cellsW (out.take j ++ x :: out.drop j) := by
            rw [cellsW_take, cellsW_drop]
            simp [cellsW]
          have hs := HSRT.out
          rw [← List.take_append_drop j out] at hs
          obtain ⟨g1, g2⟩ := insert_step cfO_ord (x := x) hs (fun y hy => by simpa using hhi y hy) (fun y hy => by simpa using hlow y hy)
          rw [List.take_append_drop] at g2
          have ho' := ho.row
          rw [e, show 0 + j + 1 + (i - j) = i + 1 by omega] at ho'
          refine ⟨_, by rw [List.length_append, List.length_cons, List.length_take, List.length_drop, HOL.out]; omega, ho', g1, ?_, HB.out.trans (hb.mono HB.out.size)⟩
          refine Same.trans ?_ g2
          obtain ⟨hi2, hx2⟩ := List.getElem?_eq_some_iff.1 HX.out
          rw [List.take_succ_eq_append_getElem hi2, hx2]
          exact HSAME.out.append (Same.refl _)
        have i0' : (0 : Int) ≤ (i : Int) := by omega
        generalize hoa2 : (if oc = j then oa else oa.map (·.add (j * 19))) = oa2 at *
        have HOA2 := Lib.hid hoa2
        clear hlow hhi hB1 hsr1 hsr2 hoa2 hjc
        go_upto_region 8 with fail
        refine Lex.wp_region_z (fun W => W.rangeAt b (o + i * 19) x.cells) 15 (by kernel_rfl) ?_
        change Lex.wpZ _ _ _ _ _ _ 16 #[false, false, false, false, false, false, false, false, false, false, false, false, false, false, false, false] _ w1.drew
        generalize w1.drew = wd at *
        (refine Lex.wpZ_take (i := 1) (v := ?_) rfl (by kernel_rfl) (by kernel_rfl) (by kernel_rfl) (by kernel_rfl) (fun _ _ _ h => h) hT0.out (Or.inl ⟨by rfl, ?_⟩) ?_; rotate_left 1; (focus (intro w0 hw0; clear hw0; go_simp; try with_reducible rfl)); simp only [Act.put, List.getElem_toArray, List.getElem_cons_zero, List.getElem_cons_succ, List.setIfInBounds_toArray, List.set_cons_zero, List.set_cons_succ])
        (refine Lex.wpZ_take (i := 2) (v := ?_) rfl (by kernel_rfl) (by kernel_rfl) (by kernel_rfl) (by kernel_rfl) (fun _ _ _ h => h) hT0.out (Or.inl ⟨by rfl, ?_⟩) ?_; rotate_left 1; (focus (intro w0 hw0; clear hw0; go_simp; try with_reducible rfl)); simp only [Act.put, List.getElem_toArray, List.getElem_cons_zero, List.getElem_cons_succ, List.setIfInBounds_toArray, List.set_cons_zero, List.set_cons_succ])
        refine Lex.wpZ_take (i := 3) (v := .slice oa j oc) rfl (by kernel_rfl) (by kernel_rfl) (by kernel_rfl) (by kernel_rfl) (fun _ _ _ h => h) hT0.out (yieldsIf_slice_h rfl 22 _ _ rfl Tryz.underlying22 rfl rfl HSLH.out (s := 19) (fun w => by kernel_rfl)) ?_
        simp only [Act.put, List.getElem_toArray, List.getElem_cons_zero, List.getElem_cons_succ, List.setIfInBounds_toArray, List.set_cons_zero, List.set_cons_succ]
        (refine Lex.wpZ_take (i := 5) (v := ?_) rfl (by kernel_rfl) (by kernel_rfl) (by kernel_rfl) (by kernel_rfl) (fun _ _ _ h => h) hT0.out (Or.inl ⟨by rfl, ?_⟩) ?_; rotate_left 1; (focus (intro w0 hw0; clear hw0; go_simp; try with_reducible rfl)); simp only [Act.put, List.getElem_toArray, List.getElem_cons_zero, List.getElem_cons_succ, List.setIfInBounds_toArray, List.set_cons_zero, List.set_cons_succ])
        (refine Lex.wpZ_take (i := 6) (v := ?_) rfl (by kernel_rfl) (by kernel_rfl) (by kernel_rfl) (by kernel_rfl) (fun _ _ _ h => h) hT0.out (Or.inl ⟨by rfl, ?_⟩) ?_; rotate_left 1; (focus (intro w0 hw0; clear hw0; go_simp; try with_reducible rfl)); simp only [Act.put, List.getElem_toArray, List.getElem_cons_zero, List.getElem_cons_succ, List.setIfInBounds_toArray, List.set_cons_zero, List.set_cons_succ])
        (refine Lex.wpZ_take (i := 7) (v := ?_) rfl (by kernel_rfl) (by kernel_rfl) (by kernel_rfl) (by kernel_rfl) (fun _ _ _ h => h) hT0.out (Or.inl ⟨by rfl, ?_⟩) ?_; rotate_left 1; (focus (intro w0 hw0; clear hw0; go_simp; try with_reducible rfl)); simp only [Act.put, List.getElem_toArray, List.getElem_cons_zero, List.getElem_cons_succ, List.setIfInBounds_toArray, List.set_cons_zero, List.set_cons_succ])
        refine Lex.wpZ_take (i := 8) (v := .agg x.cells.toArray) rfl (by kernel_rfl) (by kernel_rfl) (by kernel_rfl) (by kernel_rfl) (fun _ _ _ h => h) hT0.out (yieldsIf_load_mid (by rfl) 58 _ rfl b (o + i * 19) rfl x.cells _ (fun W h => h) Tryz.underlying58 rfl (by kernel_rfl)) ?_
        simp only [Act.put, List.getElem_toArray, List.getElem_cons_zero, List.getElem_cons_succ, List.setIfInBounds_toArray, List.set_cons_zero, List.set_cons_succ]
        (refine Lex.wpZ_take (i := 11) (v := ?_) rfl (by kernel_rfl) (by kernel_rfl) (by kernel_rfl) (by kernel_rfl) (fun _ _ _ h => h) hT0.out (Or.inl ⟨by rfl, ?_⟩) ?_; rotate_left 1; (focus (intro w0 hw0; clear hw0; go_simp; try with_reducible rfl)); simp only [Act.put, List.getElem_toArray, List.getElem_cons_zero, List.getElem_cons_succ, List.setIfInBounds_toArray, List.set_cons_zero, List.set_cons_succ])
        (refine Lex.wpZ_take (i := 12) (v := ?_) rfl (by kernel_rfl) (by kernel_rfl) (by kernel_rfl) (by kernel_rfl) (fun _ _ _ h => h) hT0.out (Or.inl ⟨by rfl, ?_⟩) ?_; rotate_left 1; (focus (intro w0 hw0; clear hw0; go_simp; try with_reducible rfl)); simp only [Act.put, List.getElem_toArray, List.getElem_cons_zero, List.getElem_cons_succ, List.setIfInBounds_toArray, List.set_cons_zero, List.set_cons_succ])
        refine Lex.wpZ_take (i := 13) (v := .slice oa2 (i - j) (oc - j)) rfl (by kernel_rfl) (by kernel_rfl) (by kernel_rfl) (by kernel_rfl) (fun _ _ _ h => h) hT0.out (by rw [← HOA2.out]; exact yieldsIf_slice_l rfl 22 _ _ rfl Tryz.underlying22 rfl rfl hji (s := 19) (fun w => by kernel_rfl)) ?_
        simp only [Act.put, List.getElem_toArray, List.getElem_cons_zero, List.getElem_cons_succ, List.setIfInBounds_toArray, List.set_cons_zero, List.set_cons_succ]
        refine Lex.wpZ_ready (rs := [0, 9]) (by kernel_rfl) (by simp) ?_
        refine Lex.ReadyZ.cons rfl (fun K hK => ?_) (Lex.ReadyZ.cons rfl (fun K hK => ?_) Lex.ReadyZ.nil)
        · skip
          go_simp
          obtain ⟨b0, o0, k0⟩ := new0 HB.out.size HB0.out
          clear k0
          refine hK.out _ _ (.inr (HXT.out _ b0)) ?_
          clear hK K
          try simp only [Act.put, List.getElem_toArray, List.getElem_cons_zero, List.getElem_cons_succ, List.setIfInBounds_toArray, List.set_cons_zero, List.set_cons_succ]
          generalize World.alloc wd (.cells #[] 58) = z0 at *
          refine Lex.wpZ_ready (rs := [4, 9]) (by kernel_rfl) (by simp) ?_
          refine Lex.ReadyZ.cons rfl (fun K hK => ?_) (Lex.ReadyZ.cons rfl (fun K hK => ?_) Lex.ReadyZ.nil)
          · skip
            refine appW rfl _ _ rfl _ _ _ rfl _ _ _ _ rfl HB.out.size b0 o0 (HSR1.out _ b0) (by have := HRM.out; omega) ?_
            intro v4 y4 b4 o4 k4
            clear k4
            refine hK.out _ _ (.inr (HXT.out _ b4)) ?_
            clear hK K
            try simp only [Act.put, List.getElem_toArray, List.getElem_cons_zero, List.getElem_cons_succ, List.setIfInBounds_toArray, List.set_cons_zero, List.set_cons_succ]
            refine Lex.wpZ_ready (rs := [9]) (by kernel_rfl) (by simp) ?_
            refine Lex.ReadyZ.cons rfl (fun K hK => ?_) Lex.ReadyZ.nil
            refine step_buildTo (by rfl) 22 58 1 _ rfl Tryz.underlying22 x.cells.toArray ?_ ?_
            · simp only [List.map_toArray, List.map_cons, List.map_nil]
              exact built1 x
            obtain ⟨b9, t9, k9⟩ := new9 (w := w) x b4
            obtain ⟨o9, n9⟩ := k9 _ _ _ o4
            clear k9
            refine hK.out _ _ (.inr (HXT.out _ b9)) ?_
            clear hK K
            try simp only [Act.put, List.getElem_toArray, List.getElem_cons_zero, List.getElem_cons_succ, List.setIfInBounds_toArray, List.set_cons_zero, List.set_cons_succ]
            generalize World.alloc y4 (.cells x.cells.toArray 58) = z9 at *
            refine Lex.wpZ_ready (rs := [10]) (by kernel_rfl) (by simp) ?_
            refine Lex.ReadyZ.cons rfl (fun K hK => ?_) Lex.ReadyZ.nil
            refine appW rfl _ _ rfl _ _ _ rfl _ _ _ _ rfl HB.out.size b9 o9 t9.src (by have := HRM.out; omega) ?_
            intro vt yt bt ot kt
            clear kt
            refine hK.out _ _ (.inr (HXT.out _ bt)) ?_
            clear hK K
            try simp only [Act.put, List.getElem_toArray, List.getElem_cons_zero, List.getElem_cons_succ, List.setIfInBounds_toArray, List.set_cons_zero, List.set_cons_succ]
            refine Lex.wpZ_ready (rs := [14]) (by kernel_rfl) (by simp) ?_
            refine Lex.ReadyZ.cons rfl (fun K hK => ?_) Lex.ReadyZ.nil
            refine appW rfl _ _ rfl _ _ _ rfl _ _ _ _ rfl HB.out.size bt ot (HSR2.out _ bt) (by have := HRM.out; omega) ?_
            intro vu yu bu ou ku
            clear ku
            refine hK.out _ _ (.inr (HXT.out _ bu)) ?_
            clear hK K
            try simp only [Act.put, List.getElem_toArray, List.getElem_cons_zero, List.getElem_cons_succ, List.setIfInBounds_toArray, List.set_cons_zero, List.set_cons_succ]
            refine Lex.wpZ_ready (rs := [15]) (by kernel_rfl) (by simp) ?_
            refine Lex.ReadyZ.cons rfl (fun K hK => ?_) Lex.ReadyZ.nil
            go_simp
            refine hK.out _ _ (.inl rfl) ?_
            clear hK K
            try simp only [Act.put, List.getElem_toArray, List.getElem_cons_zero, List.getElem_cons_succ, List.setIfInBounds_toArray, List.set_cons_zero, List.set_cons_succ]
            refine Lex.wpZ_done (by kernel_rfl) ?_ _
            have HOU := Lib.hid ou
            have HBU := Lib.hid bu
            clear ou bu
            go_wp2_with fail
            go_roundg (n - (i + 1))
            case measure => omega
            case rel =>
              obtain ⟨out2, q1, q2, q3, q4, q5⟩ := HFIN.out _ _ HOU.out HBU.out
              exact ⟨i + 1, out2, by omega, rfl, by go_num, q1, q2, q3, q4, q5⟩
          · skip
            refine step_buildTo (by rfl) 22 58 1 _ rfl Tryz.underlying22 x.cells.toArray ?_ ?_
            · simp only [List.map_toArray, List.map_cons, List.map_nil]
              exact built1 x
            obtain ⟨b9, t9, k9⟩ := new9 (w := w) x b0
            obtain ⟨o9, n9⟩ := k9 _ _ _ o0
            clear k9
            refine hK.out _ _ (.inr (HXT.out _ b9)) ?_
            clear hK K
            try simp only [Act.put, List.getElem_toArray, List.getElem_cons_zero, List.getElem_cons_succ, List.setIfInBounds_toArray, List.set_cons_zero, List.set_cons_succ]
            generalize World.alloc z0 (.cells x.cells.toArray 58) = z9 at *
            refine Lex.wpZ_ready (rs := [4]) (by kernel_rfl) (by simp) ?_
            refine Lex.ReadyZ.cons rfl (fun K hK => ?_) Lex.ReadyZ.nil
            refine appW rfl _ _ rfl _ _ _ rfl _ _ _ _ rfl HB.out.size b9 o9 (HSR1.out _ b9) (by have := HRM.out; omega) ?_
            intro v4 y4 b4 o4 k4
            obtain ⟨t4, n4⟩ := k4 x _ ⟨t9, n9⟩
            clear k4
            refine hK.out _ _ (.inr (HXT.out _ b4)) ?_
            clear hK K
            try simp only [Act.put, List.getElem_toArray, List.getElem_cons_zero, List.getElem_cons_succ, List.setIfInBounds_toArray, List.set_cons_zero, List.set_cons_succ]
            refine Lex.wpZ_ready (rs := [10]) (by kernel_rfl) (by simp) ?_
            refine Lex.ReadyZ.cons rfl (fun K hK => ?_) Lex.ReadyZ.nil
            refine appW rfl _ _ rfl _ _ _ rfl _ _ _ _ rfl HB.out.size b4 o4 t4.src (by have := HRM.out; omega) ?_
            intro vt yt bt ot kt
            clear kt
            refine hK.out _ _ (.inr (HXT.out _ bt)) ?_
            clear hK K
            try simp only [Act.put, List.getElem_toArray, List.getElem_cons_zero, List.getElem_cons_succ, List.setIfInBounds_toArray, List.set_cons_zero, List.set_cons_succ]
            refine Lex.wpZ_ready (rs := [14]) (by kernel_rfl) (by simp) ?_
            refine Lex.ReadyZ.cons rfl (fun K hK => ?_) Lex.ReadyZ.nil
            refine appW rfl _ _ rfl _ _ _ rfl _ _ _ _ rfl HB.out.size bt ot (HSR2.out _ bt) (by have := HRM.out; omega) ?_
            intro vu yu bu ou ku
            clear ku
            refine hK.out _ _ (.inr (HXT.out _ bu)) ?_
            clear hK K
            try simp only [Act.put, List.getElem_toArray, List.getElem_cons_zero, List.getElem_cons_succ, List.setIfInBounds_toArray, List.set_cons_zero, List.set_cons_succ]
            refine Lex.wpZ_ready (rs := [15]) (by kernel_rfl) (by simp) ?_
            refine Lex.ReadyZ.cons rfl (fun K hK => ?_) Lex.ReadyZ.nil
            go_simp
            refine hK.out _ _ (.inl rfl) ?_
            clear hK K
            try simp only [Act.put, List.getElem_toArray, List.getElem_cons_zero, List.getElem_cons_succ, List.setIfInBounds_toArray, List.set_cons_zero, List.set_cons_succ]
            refine Lex.wpZ_done (by kernel_rfl) ?_ _
            have HOU := Lib.hid ou
            have HBU := Lib.hid bu
            clear ou bu
            go_wp2_with fail
            go_roundg (n - (i + 1))
            case measure => omega
            case rel =>
              obtain ⟨out2, q1, q2, q3, q4, q5⟩ := HFIN.out _ _ HOU.out HBU.out
              exact ⟨i + 1, out2, by omega, rfl, by go_num, q1, q2, q3, q4, q5⟩
        · skip
          refine step_buildTo (by rfl) 22 58 1 _ rfl Tryz.underlying22 x.cells.toArray ?_ ?_
          · simp only [List.map_toArray, List.map_cons, List.map_nil]
            exact built1 x
          obtain ⟨b9, t9, k9⟩ := new9 (w := w) x HB0.out
          clear k9
          refine hK.out _ _ (.inr (HXT.out _ b9)) ?_
          clear hK K
          try simp only [Act.put, List.getElem_toArray, List.getElem_cons_zero, List.getElem_cons_succ, List.setIfInBounds_toArray, List.set_cons_zero, List.set_cons_succ]
          generalize World.alloc wd (.cells x.cells.toArray 58) = z9 at *
          refine Lex.wpZ_ready (rs := [0]) (by kernel_rfl) (by simp) ?_
          refine Lex.ReadyZ.cons rfl (fun K hK => ?_) Lex.ReadyZ.nil
          go_simp
          obtain ⟨b0, o0, k0⟩ := new0 HB.out.size b9
          obtain ⟨t0, n0⟩ := k0 x _ t9
          clear k0
          refine hK.out _ _ (.inr (HXT.out _ b0)) ?_
          clear hK K
          try simp only [Act.put, List.getElem_toArray, List.getElem_cons_zero, List.getElem_cons_succ, List.setIfInBounds_toArray, List.set_cons_zero, List.set_cons_succ]
          generalize World.alloc z9 (.cells #[] 58) = z0 at *
          refine Lex.wpZ_ready (rs := [4]) (by kernel_rfl) (by simp) ?_
          refine Lex.ReadyZ.cons rfl (fun K hK => ?_) Lex.ReadyZ.nil
          refine appW rfl _ _ rfl _ _ _ rfl _ _ _ _ rfl HB.out.size b0 o0 (HSR1.out _ b0) (by have := HRM.out; omega) ?_
          intro v4 y4 b4 o4 k4
          obtain ⟨t4, n4⟩ := k4 x _ ⟨t0, n0⟩
          clear k4
          refine hK.out _ _ (.inr (HXT.out _ b4)) ?_
          clear hK K
          try simp only [Act.put, List.getElem_toArray, List.getElem_cons_zero, List.getElem_cons_succ, List.setIfInBounds_toArray, List.set_cons_zero, List.set_cons_succ]
          refine Lex.wpZ_ready (rs := [10]) (by kernel_rfl) (by simp) ?_
          refine Lex.ReadyZ.cons rfl (fun K hK => ?_) Lex.ReadyZ.nil
          refine appW rfl _ _ rfl _ _ _ rfl _ _ _ _ rfl HB.out.size b4 o4 t4.src (by have := HRM.out; omega) ?_
          intro vt yt bt ot kt
          clear kt
          refine hK.out _ _ (.inr (HXT.out _ bt)) ?_
          clear hK K
          try simp only [Act.put, List.getElem_toArray, List.getElem_cons_zero, List.getElem_cons_succ, List.setIfInBounds_toArray, List.set_cons_zero, List.set_cons_succ]
          refine Lex.wpZ_ready (rs := [14]) (by kernel_rfl) (by simp) ?_
          refine Lex.ReadyZ.cons rfl (fun K hK => ?_) Lex.ReadyZ.nil
          refine appW rfl _ _ rfl _ _ _ rfl _ _ _ _ rfl HB.out.size bt ot (HSR2.out _ bt) (by have := HRM.out; omega) ?_
          intro vu yu bu ou ku
          clear ku
          refine hK.out _ _ (.inr (HXT.out _ bu)) ?_
          clear hK K
          try simp only [Act.put, List.getElem_toArray, List.getElem_cons_zero, List.getElem_cons_succ, List.setIfInBounds_toArray, List.set_cons_zero, List.set_cons_succ]
          refine Lex.wpZ_ready (rs := [15]) (by kernel_rfl) (by simp) ?_
          refine Lex.ReadyZ.cons rfl (fun K hK => ?_) Lex.ReadyZ.nil
          go_simp
          refine hK.out _ _ (.inl rfl) ?_
          clear hK K
          try simp only [Act.put, List.getElem_toArray, List.getElem_cons_zero, List.getElem_cons_succ, List.setIfInBounds_toArray, List.set_cons_zero, List.set_cons_succ]
          refine Lex.wpZ_done (by kernel_rfl) ?_ _
          have HOU := Lib.hid ou
          have HBU := Lib.hid bu
          clear ou bu
          go_wp2_with fail
          go_roundg (n - (i + 1))
          case measure => omega
          case rel =>
            obtain ⟨out2, q1, q2, q3, q4, q5⟩ := HFIN.out _ _ HOU.out HBU.out
            exact ⟨i + 1, out2, by omega, rfl, by go_num, q1, q2, q3, q4, q5⟩
    · obtain rfl : i = n := by omega
      have hlti : ¬ (i : Int) < (i : Int) := by omega
      go_wp2_with fail
      go_ret
      have hsame := HSAME.out
      rw [List.take_of_length_le (by rw [HLN.out]; exact Nat.le_refl _)] at hsame
      have hLO : out.map (·.o) = sortO (l.map (·.o)) := by
        obtain ⟨g1, g2⟩ := isort_spec (ord_by ltW_ord fun x : OC => x.o.fr) l
        have e := uniq cfO_ord HSRT.out g1 (Same.trans (Same.symm hsame) g2)
        rw [e]
        exact isort_map (fun x : OC => x.o) (fun x y => ltW x.fr y.fr) l
      have hmem : ∀ e ∈ out, e ∈ l := fun e he => (Same.symm hsame).mem cfO_ord he
      refine ⟨oa, oc, out, by rw [HLN.out]; rfl, fun t ht => ?_, hLO, HB.out⟩
      have hge := List.getElem_mem ht
      obtain ⟨q, hq, hqe⟩ := List.getElem_of_mem (hmem _ hge)
      obtain ⟨_, _, _, _, _, hin⟩ := (HL.out.keep HB.out) q hq
      rw [hqe] at hin
      rcases HOWN.out.2 with ⟨h0, h1⟩ | ⟨g, cap', cur, hv, _⟩
      · have := HOL.out; cases h0; omega
      · cases hv
        have hg := (HOWN.out.lt g rfl).2
        refine ⟨g, 0, rfl, hg, fun j v hj => ?_, hin⟩
        have h := HOWN.out.cells (g := g) rfl (t * 19 + j) v (cellsW_get (List.getElem?_eq_getElem ht) hj)
        rw [Addr.add_lit, Nat.zero_add] at h
        rw [Nat.zero_add]
        exact h
end Go.Proofs.YthjcmcgmalnfpaaGreatDoor.Lex
