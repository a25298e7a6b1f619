/- Two blocks of a row of entries change places. -/
import Derived.Test.YtdhkndoglcnllaaDoorRowE
import Derived.BigRegion
import Derived.Deep.Cut
import Derived.Deep.LoopGhost
import Derived.Test.YtdhkndoglcnllaaDoorProg
import Derived.WalkKit
import Derived.Deep.RegionHeld3
namespace Go.Proofs.YtdhkndoglcnllaaDoor.Stab
open Go Go.RowKit
set_option linter.unusedSimpArgs false
set_option linter.unusedVariables false
theorem wrapN {n m i : Nat} (h : i = n + m) (hi : i < 4611686018427387904) : IntKind.i64.wrap ((n : Int) + (m : Int)) = (i : Int) := by
  subst h
  simp only [IntKind.wrap, IntKind.bits, IntKind.signed]
  simp
  omega
set_option maxRecDepth 100000 in
set_option maxHeartbeats 4000000 in
theorem swapr_any (B b : Nat) (W0 : World) (hB : B ≤ b) (L : List EC) (cap a c n : Nat) (v : Value) (hac : a + n ≤ c) (hcn : c + n ≤ L.length) (hl : L.length ≤ 1099511627776) (W : World) (hst : St B b W0 L W) :
    Calls Tryd.prog 62 #[.slice (some ⟨b, 0, none⟩) L.length cap, .int .i64 a, .int .i64 c, .int .i64 n, v] W fun e w' => e = .returned (.tuple #[]) ∧ ∃ L', Turned (sig a c n) L L' ∧ St B b W0 L' w' := by
  have HST := Lib.hid hst
  obtain ⟨N, hN⟩ : ∃ N, N = L.length := ⟨_, rfl⟩
  rw [← hN] at hcn hl ⊢
  have HN := Lib.hid hN
  have HAC := Lib.hid hac
  clear hst hN
  go_enter Tryd.func62, Tryd.ntmps62
  go_wp2_with fail
  go_loopg [10] n (fun g iv wr => ∃ k : Nat, ∃ L' : List EC, k ≤ n ∧ g = n - k ∧ iv = .int .i64 (k : Int) ∧ Turned (sig a c k) L L' ∧ St B b W0 L' wr)
  case atStart => exact ⟨0, L, by omega, rfl, rfl, ⟨rfl, fun t => by rw [sig_none]⟩, HST.out⟩
  case round =>
    obtain ⟨k, L', hk, rfl, rfl, ht, hs⟩ := hrel
    obtain ⟨wo, rfl⟩ : ∃ wo : World, wo = wr := ⟨_, rfl⟩
    have HT := Lib.hid ht
    have HS := Lib.hid hs
    clear ht hs
    by_cases hlt : k < n
    · obtain ⟨i, hi⟩ : ∃ i, i = a + k := ⟨_, rfl⟩
      obtain ⟨j, hj⟩ : ∃ j, j = c + k := ⟨_, rfl⟩
      have hlen : L'.length = N := by rw [HT.out.len, HN.out]
      have hiN : i < N := by omega
      have hjN : j < N := by omega
      have hij : i < j := by omega
      obtain ⟨x, hx⟩ : ∃ x, L'[i]? = some x := ⟨_, List.getElem?_eq_getElem (by omega)⟩
      obtain ⟨y, hy⟩ : ∃ y, L'[j]? = some y := ⟨_, List.getElem?_eq_getElem (by omega)⟩
      have wi : IntKind.i64.wrap ((a : Int) + (k : Int)) = (i : Int) := wrapN hi (by omega)
      have wj : IntKind.i64.wrap ((c : Int) + (k : Int)) = (j : Int) := wrapN hj (by omega)
      have i0 : (0 : Int) ≤ (i : Int) := by omega
      have j0 : (0 : Int) ≤ (j : Int) := by omega
      have iN : (i : Int) < (N : Int) := by omega
      have jN : (j : Int) < (N : Int) := by omega
      obtain ⟨x0, x1, x2, x3, x4⟩ := HS.out.cell hx
      obtain ⟨y0, y1, y2, y3, y4⟩ := HS.out.cell hy
      have fr := fun o => HS.out.free o
      have HX := Lib.hid hx
      have HY := Lib.hid hy
      have HI := Lib.hid hi
      have HJ := Lib.hid hj
      have HLEN := Lib.hid hlen
      clear hx hy hi hj hlen
      go_upto_region 3 with fail
      go_region
      have hS9 : St B b W0 ((L'.set i y).set j x) (set5 (set5 wo b i y) b j x).drew := ((HS.out.put hB (by rw [HLEN.out]; omega) y).put hB (by rw [List.length_set, HLEN.out]; omega) x).drew hB
      have HS9 := Lib.hid hS9
      obtain ⟨W9, hW9⟩ : ∃ W9, W9 = (set5 (set5 wo b i y) b j x).drew := ⟨_, rfl⟩
      rw [← hW9] at HS9
      unfold set5 at hW9
      rw [← hW9]
      clear hW9 hS9 x0 x1 x2 x3 x4 y0 y1 y2 y3 y4 fr
      go_wp2_with fail
      go_roundg (n - (k + 1))
      case measure => omega
      case rel =>
        refine ⟨k + 1, (L'.set i y).set j x, by omega, rfl, by go_num, ?_, HS9.out⟩
        refine (HT.out.trans (turned_swap hij HX.out HY.out)).congr fun t => ?_
        rw [HI.out, HJ.out]
        exact sig_step (by have := HAC.out; omega)
    · obtain rfl : k = n := by omega
      go_wp2_with fail
      go_end0
      exact ⟨rfl, L', HT.out, HS.out⟩
end Go.Proofs.YtdhkndoglcnllaaDoor.Stab
