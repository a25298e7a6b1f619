/- Sums in the field: gold.Sum, and the reference's Dot with ones. -/
import Derived.Test.YthjcmcgmalnfpaaGreatDoorGCal
import Derived.Laws.Externs
import Derived.BigQuiet
import Derived.Deep.LoopGhost
namespace Go.Proofs.YthjcmcgmalnfpaaGreatDoor.Lex
open Go.RowKit
set_option linter.unusedSimpArgs false
set_option linter.unusedVariables false
theorem add64_run (x y : Nat) (hx : x < 18446744073709551616) (hy : y < 18446744073709551616) (w : World) : (callFunc 80 #[.int .u64 (x : Int), .int .u64 (y : Int), .int .u64 0]).run Tryz.prog w =
    .ok (.value (.tuple #[.int .u64 (((x + y) % 18446744073709551616 : Nat) : Int), .int .u64 (((x + y) / 18446744073709551616 : Nat) : Int)])) w := by
  rw [run_callFunc_extern Tryz.func80 (by kernel_rfl) (by kernel_rfl) (by kernel_rfl) (e := add64Entry) (by kernel_rfl)]
  rw [run_add64 (x : Int) (y : Int) 0 (by omega) (by omega) (by omega) (by omega)]
  simp only [Result.andThen, Int.add_zero]
  congr 5 <;> omega
/-- A number of the field. -/
def fP (x : Nat) : Nat := x % 18446744069414584321
set_option maxRecDepth 100000 in
theorem red_any (x : Nat) (hx : x < 18446744073709551616) (w : World) : Calls Tryz.prog 79 #[.int .u64 (x : Int)] w fun e w' => e = .returned (.int .u64 (fP x : Nat)) ∧ w = w' := by
  by_cases h : 18446744069414584321 ≤ x
  · have h' : (18446744069414584321 : Int) ≤ (x : Int) := by omega
    have hw : IntKind.u64.wrap ((x : Int) - 18446744069414584321) = ((x - 18446744069414584321 : Nat) : Int) := by
      rw [show (x : Int) - 18446744069414584321 = ((x - 18446744069414584321 : Nat) : Int) by omega]
      exact IntWalk.u64_in _ (by omega)
    have HE : Hid (fP x = x - 18446744069414584321) := Lib.hid (by unfold fP; omega)
    clear h
    go_enter Tryz.func79, Tryz.ntmps79
    go_wp2_with fail
    go_ret
    exact ⟨by rw [HE.out]; rfl, rfl⟩
  · have h' : ¬ (18446744069414584321 : Int) ≤ (x : Int) := by omega
    have HE : Hid (fP x = x) := Lib.hid (by unfold fP; omega)
    clear h
    go_enter Tryz.func79, Tryz.ntmps79
    go_wp2_with fail
    go_ret
    exact ⟨by rw [HE.out]; rfl, rfl⟩
theorem fP_lt (x : Nat) : fP x < 18446744069414584321 := Nat.mod_lt _ (by omega)
def addF (x y : Nat) : Nat := fP (fP x + fP y)
set_option maxRecDepth 100000 in
theorem add_any (x y : Nat) (hx : x < 18446744073709551616) (hy : y < 18446744073709551616) (w : World) : Calls Tryz.prog 53 #[.int .u64 (x : Int), .int .u64 (y : Int)] w fun e w' => e = .returned (.int .u64 (addF x y : Nat)) ∧ w = w' := by
  have H1 := Lib.hid (red_any x hx w)
  have H2 := Lib.hid (red_any y hy w)
  have ha := fP_lt x
  have hb := fP_lt y
  obtain ⟨r, hr⟩ : ∃ r, r = addF x y := ⟨_, rfl⟩
  rw [← hr]
  unfold addF at hr
  generalize fP x = a at *
  generalize fP y = b at *
  unfold fP at hr
  have hadd := add64_run a b (by omega) (by omega)
  have HR := Lib.hid hr
  by_cases h1 : a + b < 18446744069414584321
  · have e1 : (a + b) % 18446744073709551616 = a + b := by omega
    have e2 : (a + b) / 18446744073709551616 = 0 := by omega
    rw [e1, e2] at hadd
    obtain rfl : r = a + b := by omega
    have h' : ¬ (18446744069414584321 : Int) ≤ ((a + b : Nat) : Int) := by omega
    generalize a + b = s at *
    clear e1 e2 h1 hr hx hy ha hb
    go_enter Tryz.func53, Tryz.ntmps53
    go_wp2_with (first
      | (go_at_call 79; (with_reducible refine H1.out.mono ?_); rintro e w' ⟨rfl, rfl⟩)
      | (go_at_call 79; (with_reducible refine H2.out.mono ?_); rintro e w' ⟨rfl, rfl⟩)
      | simp only [hadd])
    go_ret
    exact ⟨rfl, rfl⟩
  · by_cases h2 : a + b < 18446744073709551616
    · have e1 : (a + b) % 18446744073709551616 = a + b := by omega
      have e2 : (a + b) / 18446744073709551616 = 0 := by omega
      rw [e1, e2] at hadd
      have hr2 : r = a + b - 18446744069414584321 := by omega
      have h' : (18446744069414584321 : Int) ≤ ((a + b : Nat) : Int) := by omega
      have hw : IntKind.u64.wrap (((a + b : Nat) : Int) - 18446744069414584321) = ((r : Nat) : Int) := by
        rw [show ((a + b : Nat) : Int) - 18446744069414584321 = ((r : Nat) : Int) by omega]
        exact IntWalk.u64_in _ (by omega)
      generalize a + b = s at *
      clear e1 e2 h1 hr hx hy ha hb h2 hr2
      go_enter Tryz.func53, Tryz.ntmps53
      go_wp2_with (first
        | (go_at_call 79; (with_reducible refine H1.out.mono ?_); rintro e w' ⟨rfl, rfl⟩)
        | (go_at_call 79; (with_reducible refine H2.out.mono ?_); rintro e w' ⟨rfl, rfl⟩)
        | simp only [hadd])
      go_ret
      exact ⟨rfl, rfl⟩
    · obtain ⟨s, hs⟩ : ∃ s, a + b = s + 18446744073709551616 := ⟨a + b - 18446744073709551616, by omega⟩
      have e1 : (a + b) % 18446744073709551616 = s := by omega
      have e2 : (a + b) / 18446744073709551616 = 1 := by omega
      rw [e1, e2] at hadd
      have hr2 : r = s + 4294967295 := by omega
      have hw : IntKind.u64.wrap ((s : Int) - 18446744069414584321) = ((r : Nat) : Int) := by
        have e3 : ∀ z : Int, IntKind.u64.wrap z = z % 18446744073709551616 := fun z => rfl
        rw [e3]
        omega
      clear hs
      clear e1 e2 h1 hr hx hy ha hb h2 hr2
      go_enter Tryz.func53, Tryz.ntmps53
      go_wp2_with (first
        | (go_at_call 79; (with_reducible refine H1.out.mono ?_); rintro e w' ⟨rfl, rfl⟩)
        | (go_at_call 79; (with_reducible refine H2.out.mono ?_); rintro e w' ⟨rfl, rfl⟩)
        | simp only [hadd])
      go_ret
      exact ⟨rfl, rfl⟩
/-- The sum of all. -/
def sumF (l : List Nat) : Nat := l.foldl addF 0
theorem sumF_take {l : List Nat} {j : Nat} (h : j < l.length) : sumF (l.take (j + 1)) = addF (sumF (l.take j)) (l[j]'h) := by
  unfold sumF
  rw [List.take_succ_eq_append_getElem h, List.foldl_append]
  rfl
theorem addF_lt (x y : Nat) : addF x y < 18446744069414584321 := fP_lt _
theorem sumF_lt : ∀ l : List Nat, sumF l < 18446744069414584321 := fun l => by
  rcases List.eq_nil_or_concat l with rfl | ⟨l, x, rfl⟩
  · unfold sumF; simp
  · unfold sumF
    rw [List.concat_eq_append, List.foldl_append]
    exact addF_lt _ _
set_option maxRecDepth 100000 in
theorem sum_any (xs : List Nat) (a : Option Addr) (cap : Nat) (w : World) (h : U64s w a xs) (hn : xs.length ≤ 1048576) :
    Calls Tryz.prog 36 #[.slice a xs.length cap] w fun e w' => e = .returned (.int .u64 (sumF xs : Nat)) ∧ w = w' := by
  have HU := Lib.hid h
  have HLT := Lib.hid (sumF_lt)
  clear h
  go_enter Tryz.func36, Tryz.ntmps36
  go_wp2_with fail
  go_loopg [3, 8] xs.length (fun g sv iv wr => ∃ j : Nat, j ≤ xs.length ∧ g = xs.length - j ∧ iv = .int .i64 (j : Int) ∧ sv = .int .u64 (sumF (xs.take j) : Nat) ∧ wr = w)
  case atStart => exact ⟨0, by omega, by omega, rfl, rfl, rfl⟩
  case round =>
    obtain ⟨j, hj, rfl, rfl, rfl, rfl⟩ := hrel
    obtain ⟨wo, rfl⟩ : ∃ wo : World, wo = wr := ⟨_, rfl⟩
    by_cases hlt : j < xs.length
    · obtain ⟨g, off, rfl, hg, c0, hx⟩ := HU.out j hlt
      have HTK := Lib.hid (sumF_take hlt)
      have hs := HLT.out (xs.take j)
      have HA := Lib.hid (add_any (sumF (xs.take j)) (xs[j]'hlt) (by omega) hx wo)
      generalize xs[j]'hlt = x at *
      generalize sumF (xs.take j) = sv at *
      clear hs hx
      go_wp2_with (go_at_call 53; (with_reducible refine HA.out.mono ?_); rintro e w' ⟨rfl, rfl⟩)
      go_roundg (xs.length - (j + 1))
      case measure => omega
      case rel => exact ⟨j + 1, by omega, rfl, by go_num, by rw [HTK.out], rfl⟩
    · obtain rfl : j = xs.length := by omega
      rw [List.take_length]
      go_wp2_with fail
      go_ret
      exact ⟨rfl, rfl⟩
/-! ### The reference's -/
set_option maxRecDepth 100000 in
theorem rred_any (x : Nat) (hx : x < 18446744073709551616) (w : World) : Calls Tryz.prog 73 #[.int .u64 (x : Int)] w fun e w' => e = .returned (.int .u64 (fP x : Nat)) ∧ w = w' := by
  go_enter Tryz.func73, Tryz.ntmps73
  go_wp2_with fail
  go_ret
  exact ⟨ret_int (by unfold fP; omega), rfl⟩
set_option maxRecDepth 100000 in
theorem radd_any (x y : Nat) (hx : x < 18446744069414584321) (hy : y < 18446744069414584321) (w : World) : Calls Tryz.prog 71 #[.int .u64 (x : Int), .int .u64 (y : Int)] w fun e w' => e = .returned (.int .u64 (fP (x + y) : Nat)) ∧ w = w' := by
  have hw1 : IntKind.u64.wrap (18446744069414584321 - (y : Int)) = ((18446744069414584321 - y : Nat) : Int) := by
    rw [show 18446744069414584321 - (y : Int) = ((18446744069414584321 - y : Nat) : Int) by omega]
    exact IntWalk.u64_in _ (by omega)
  obtain ⟨q, hq⟩ : ∃ q, q = 18446744069414584321 - y := ⟨_, rfl⟩
  rw [← hq] at hw1
  by_cases h : q ≤ x
  · have h' : (q : Int) ≤ (x : Int) := by omega
    have HE : Hid (fP (x + y) = x - q) := Lib.hid (by unfold fP; omega)
    have hw2 : IntKind.u64.wrap ((x : Int) - (q : Int)) = ((x - q : Nat) : Int) := by
      rw [show (x : Int) - (q : Int) = ((x - q : Nat) : Int) by omega]
      exact IntWalk.u64_in _ (by omega)
    clear hq
    go_enter Tryz.func71, Tryz.ntmps71
    go_wp2_with fail
    go_ret
    exact ⟨by rw [HE.out]; rfl, rfl⟩
  · have h' : ¬ (q : Int) ≤ (x : Int) := by omega
    have HE : Hid (fP (x + y) = x + y) := Lib.hid (by unfold fP; omega)
    have hw2 : IntKind.u64.wrap ((x : Int) + (y : Int)) = ((x + y : Nat) : Int) := by
      rw [show (x : Int) + (y : Int) = ((x + y : Nat) : Int) by omega]
      exact IntWalk.u64_in _ (by omega)
    clear hq
    go_enter Tryz.func71, Tryz.ntmps71
    go_wp2_with fail
    go_ret
    exact ⟨by rw [HE.out]; rfl, rfl⟩
set_option maxRecDepth 100000 in
set_option maxHeartbeats 2000000 in
theorem rmul_one (x : Nat) (hx : x < 18446744069414584321) (w : World) : Calls Tryz.prog 72 #[.int .u64 (x : Int), .int .u64 1] w fun e w' => e = .returned (.int .u64 (x : Int)) ∧ w = w' := by
  go_enter Tryz.func72, Tryz.ntmps72
  go_wp2_with fail
  go_loopg [5, 6] 64 (fun g sv iv wr => ∃ k : Nat, k = g ∧ k ≤ 64 ∧ iv = .int .i64 ((k : Int) - 1) ∧ sv = .int .u64 ((x / 2 ^ k : Nat) : Int) ∧ wr = w)
  case atStart => exact ⟨64, rfl, by omega, rfl, by rw [Nat.div_eq_of_lt (by omega)]; rfl, rfl⟩
  case round =>
    obtain ⟨k, rfl, hk, rfl, rfl, rfl⟩ := hrel
    obtain ⟨wo, rfl⟩ : ∃ wo : World, wo = wr := ⟨_, rfl⟩
    by_cases h0 : 0 < k
    · obtain ⟨k, rfl⟩ : ∃ q, k = q + 1 := ⟨k - 1, by omega⟩
      have e1 : x / 2 ^ (k + 1) = x / 2 ^ k / 2 := by rw [Nat.pow_succ, Nat.div_div_eq_div_mul]
      have e2 : x / 2 ^ k ≤ x := Nat.div_le_self _ _
      have e3 : ((k + 1 : Nat) : Int) - 1 = (k : Int) := by omega
      rw [e1, e3]
      obtain ⟨h, hh⟩ : ∃ h, h = x / 2 ^ k / 2 := ⟨_, rfl⟩
      obtain ⟨b, hb⟩ : ∃ b, b = x / 2 ^ k % 2 := ⟨_, rfl⟩
      have hy : x / 2 ^ k = 2 * h + b := by omega
      have hb2 : b < 2 := by omega
      rw [← hh]
      have e4 : fP (h + h) = 2 * h := by unfold fP; omega
      have hs := radd_any h h (by omega) (by omega) wo
      rw [e4] at hs
      have HS := Lib.hid hs
      obtain ⟨m, hm⟩ : ∃ m, m = 2 * h := ⟨_, rfl⟩
      rw [← hm] at HS
      have HY : Hid (x / 2 ^ k = m + b) := Lib.hid (by omega)
      have hk0 : (0 : Int) ≤ (k : Int) := by omega
      have hxm : x / 2 ^ k = m + b := HY.out
      have hmx : m + b ≤ x := by omega
      have ht : ((x : Int) / 2 ^ k).tmod 2 = (b : Int) := by
        rw [show (x : Int) / 2 ^ k = ((x / 2 ^ k : Nat) : Int) by rw [Int.natCast_ediv]; simp, hxm, Int.tmod_eq_emod_of_nonneg (by omega), hm]
        omega
      have HT := Lib.hid ht
      rcases (by omega : b = 0 ∨ b = 1) with rfl | rfl
      · have t1 : (((x : Int) / 2 ^ k).tmod 2 == 1) = false := by rw [ht]; rfl
        clear e1 e2 e3 e4 hs hy h0 hh hb hm ht hxm
        go_wp2_with (go_at_call 71; (with_reducible refine HS.out.mono ?_); rintro e w' ⟨rfl, rfl⟩)
        go_roundg k
        case measure => omega
        case rel => exact ⟨k, rfl, by omega, rfl, by rw [HY.out]; rfl, rfl⟩
      · have t1 : (((x : Int) / 2 ^ k).tmod 2 == 1) = true := by rw [ht]; rfl
        have e5 : fP (m + 1) = m + 1 := by unfold fP; omega
        have hs2 := radd_any m 1 (by omega) (by omega) wo
        rw [e5] at hs2
        have HS2 : Hid (Calls Tryz.prog 71 #[.int .u64 (m : Int), .int .u64 1] wo fun e w' => e = .returned (.int .u64 ((m + 1 : Nat) : Int)) ∧ wo = w') := Lib.hid hs2
        clear e1 e2 e3 e4 hs hy h0 hh hb hm ht hxm e5 hs2
        go_wp2_with (first
          | (go_at_call 71; (with_reducible refine HS.out.mono ?_); rintro e w' ⟨rfl, rfl⟩)
          | (go_at_call 71; (with_reducible refine HS2.out.mono ?_); rintro e w' ⟨rfl, rfl⟩))
        go_roundg k
        case measure => omega
        case rel => exact ⟨k, rfl, by omega, rfl, by rw [HY.out]; rfl, rfl⟩
    · obtain rfl : k = 0 := by omega
      have hk0 : ¬ (0 : Int) ≤ ((0 : Nat) : Int) - 1 := by omega
      rw [Nat.pow_zero, Nat.div_one]
      go_wp2_with fail
      go_ret
      exact ⟨rfl, rfl⟩
set_option maxRecDepth 100000 in
set_option maxHeartbeats 2000000 in
/-- Dot with ones. -/
theorem dot_any (xs : List Nat) (a b : Option Addr) (cap n cap' : Nat) (w : World) (h : U64s w a xs) (h1 : ∀ i, i < xs.length → ∃ g, b = some ⟨g, 0, none⟩ ∧ w.cell? ⟨g, i, none⟩ = some (.int .u64 1)) (hnn : xs.length ≤ n) (hn : xs.length ≤ 1048576) :
    Calls Tryz.prog 50 #[.slice a xs.length cap, .slice b n cap'] w fun e w' => e = .returned (.int .u64 (sumF xs : Nat)) ∧ ∃ q, w' = w.drewN q := by
  have HU := Lib.hid h
  have HO := Lib.hid h1
  have HLT := Lib.hid (sumF_lt)
  clear h h1
  go_enter Tryz.func50, Tryz.ntmps50
  go_wp2_with fail
  go_loopg [5, 6] xs.length (fun g sv iv wr => ∃ j q : Nat, j ≤ xs.length ∧ g = xs.length - j ∧ iv = .int .i64 (j : Int) ∧ sv = .int .u64 (sumF (xs.take j) : Nat) ∧ wr = w.drewN q)
  case atStart => exact ⟨0, 0, by omega, by omega, rfl, rfl, rfl⟩
  case round =>
    obtain ⟨j, q, hj, rfl, rfl, rfl, hw⟩ := hrel
    obtain ⟨wo, rfl⟩ : ∃ wo : World, wo = wr := ⟨_, rfl⟩
    have HQ := Lib.hid hw
    by_cases hlt : j < xs.length
    · obtain ⟨g, off, rfl, hg, c0, hx⟩ := HU.out j hlt
      obtain ⟨g1, rfl, c1⟩ := HO.out j hlt
      have c0 : wo.cell? ⟨g, off + j, none⟩ = some (.int .u64 ((xs[j]'hlt : Nat) : Int)) := by rw [hw]; exact c0
      have c1 : wo.cell? ⟨g1, j, none⟩ = some (.int .u64 1) := by rw [hw]; exact c1
      clear hw
      have HTK := Lib.hid (sumF_take hlt)
      have hs := HLT.out (xs.take j)
      have HR : Hid (∀ W, Calls Tryz.prog 73 #[.int .u64 ((xs[j]'hlt : Nat) : Int)] W fun e w' => e = .returned (.int .u64 (fP (xs[j]'hlt) : Nat)) ∧ W = w') := Lib.hid fun W => rred_any _ hx W
      have HR1 : Hid (∀ W, Calls Tryz.prog 73 #[.int .u64 1] W fun e w' => e = .returned (.int .u64 1) ∧ W = w') := Lib.hid fun W => rred_any 1 (by omega) W
      have HM : Hid (∀ W, Calls Tryz.prog 72 #[.int .u64 (fP (xs[j]'hlt) : Nat), .int .u64 1] W fun e w' => e = .returned (.int .u64 (fP (xs[j]'hlt) : Nat)) ∧ W = w') := Lib.hid fun W => rmul_one _ (fP_lt _) W
      have hsf : fP (sumF (xs.take j)) = sumF (xs.take j) := Nat.mod_eq_of_lt hs
      have HA : Hid (∀ W, Calls Tryz.prog 71 #[.int .u64 (sumF (xs.take j) : Nat), .int .u64 (fP (xs[j]'hlt) : Nat)] W fun e w' => e = .returned (.int .u64 (addF (sumF (xs.take j)) (xs[j]'hlt) : Nat)) ∧ W = w') := Lib.hid fun W => by
        unfold addF
        rw [hsf]
        exact radd_any _ _ hs (fP_lt _) W
      generalize addF (sumF (xs.take j)) (xs[j]'hlt) = nv at *
      generalize fP (xs[j]'hlt) = fx at *
      generalize xs[j]'hlt = x at *
      generalize sumF (xs.take j) = sv at *
      clear hs hx hsf
      have hjn : j < n := by omega
      have hjn' : (j : Int) < (n : Int) := by omega
      have hjl : (j : Int) < (xs.length : Int) := by omega
      go_wp2_with fail
      go_quiet ((first
        | (go_at_call 73; exact qsame (HR1.out _))
        | (go_at_call 73; exact qsame (HR.out _))
        | (go_at_call 72; exact qsame (HM.out _))
        | (go_at_call 71; exact qsame (HA.out _))))
      go_wp2_with fail
      go_roundg (xs.length - (j + 1))
      case measure => omega
      case rel => exact ⟨j + 1, q + nq, by omega, rfl, by go_num, by rw [HTK.out], by rw [HQ.out, World.drewN_drewN]⟩
    · obtain rfl : j = xs.length := by omega
      rw [List.take_length]
      clear hw
      go_wp2_with fail
      go_ret
      exact ⟨rfl, q, HQ.out⟩
end Go.Proofs.YthjcmcgmalnfpaaGreatDoor.Lex
