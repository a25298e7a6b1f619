/- Fact, Val, NodeV, Node, Wrong, BigV, ForV, PrintE, Law24, Open24: laid into one text. -/
import Derived.Test.YtdhkndoglcnllaaDoorDescM
import Derived.Test.YtdhkndoglcnllaaDoorProg
import Derived.Deep.LoopGhost
import Derived.Deep.DeepCutAuto
import Derived.Deep.CutBlock
import Derived.Deep.RegionHeld3
import Derived.WalkMore
import Derived.Test.YtdhkndoglcnllaaDoorHeldZ
import Derived.Deep.RegionLawGrows
import Derived.Test.YtdhkndoglcnllaaDoorNodes
import Derived.Test.YtdhkndoglcnllaaDoorDepth
import Derived.Test.YtdhkndoglcnllaaDoorPrint23
import Derived.Test.YtdhkndoglcnllaaDoorNum
import Derived.Test.YtdhkndoglcnllaaDoorShelf
import Derived.Test.YtdhkndoglcnllaaDoorSortE
import Derived.Test.YtdhkndoglcnllaaDoorRSort24
import Derived.WalkKit
import Derived.OpenShut
/- fact.Gcd, fact.Factors, fact.Prime. -/
namespace Go.Proofs.YtdhkndoglcnllaaDoor
open Go.RowKit
set_option linter.unusedSimpArgs false
set_option linter.unusedVariables false
/-- The greatest common divisor; of numbers below zero: 0. -/
def gcdI (a b : Int) : Int := if a < 0 ∨ b < 0 then 0 else (Nat.gcd a.toNat b.toNat : Nat)
theorem wrapI {n : Int} (h0 : -9223372036854775808 ≤ n) (h1 : n ≤ 9223372036854775807) : IntKind.i64.wrap n = n := by rw [IntKind.wrap_i64]; omega
theorem rem_nat {a b : Nat} (hb : 0 < b) (ha : a ≤ 9223372036854775807) : IntKind.i64.wrap (Int.tmod (a : Int) (b : Int)) = ((a % b : Nat) : Int) := by
  have h : Int.tmod (a : Int) (b : Int) = ((a % b : Nat) : Int) := by rw [← Int.ofNat_tmod]
  rw [h]
  have := Nat.mod_le a b
  exact wrapI (by omega) (by omega)
theorem quo_nat {a b : Nat} (hb : 0 < b) (ha : a ≤ 9223372036854775807) : IntKind.i64.wrap (Int.tdiv (a : Int) (b : Int)) = ((a / b : Nat) : Int) := by
  have h : Int.tdiv (a : Int) (b : Int) = ((a / b : Nat) : Int) := by rw [← Int.ofNat_tdiv]
  rw [h]
  have := Nat.div_le_self a b
  generalize a / b = q at *
  exact wrapI (by omega) (by omega)
set_option maxRecDepth 100000 in
set_option maxHeartbeats 4000000 in
theorem gcd_any (a b : Int) (w : World) (ha : (Lit.int .i64 a).wf = true) (hb : (Lit.int .i64 b).wf = true) : Calls Tryd.prog 74 #[.int .i64 a, .int .i64 b] w fun e w' => e = .returned (.int .i64 (gcdI a b)) ∧ Below w.heap.size w w' := by
  have ha1 := (wf_i64_bd ha).2
  have hb1 := (wf_i64_bd hb).2
  clear ha hb
  by_cases h1 : a < 0
  · have HG : Hid (gcdI a b = 0) := Lib.hid (if_pos (.inl h1))
    go_enter Tryd.func74, Tryd.ntmps74
    go_wp2_with fail
    go_ret
    exact ⟨by rw [HG.out]; rfl, Below.refl _ _⟩
  · by_cases h2 : b < 0
    · have HG : Hid (gcdI a b = 0) := Lib.hid (if_pos (.inr h2))
      go_enter Tryd.func74, Tryd.ntmps74
      go_wp2_with fail
      go_ret
      exact ⟨by rw [HG.out]; rfl, Below.refl _ _⟩
    · obtain ⟨m, rfl⟩ : ∃ m : Nat, a = m := ⟨a.toNat, by omega⟩
      obtain ⟨n, rfl⟩ : ∃ n : Nat, b = n := ⟨b.toNat, by omega⟩
      have HG : Hid (gcdI m n = (Nat.gcd m n : Nat)) := Lib.hid (by unfold gcdI; rw [if_neg (by omega), Int.toNat_natCast, Int.toNat_natCast])
      go_enter Tryd.func74, Tryd.ntmps74
      go_wp2_with fail
      go_loopg [0, 1] n (fun g av bv wr => ∃ x y : Nat, y = g ∧ av = .int .i64 (x : Int) ∧ bv = .int .i64 (y : Int) ∧ x ≤ 9223372036854775807 ∧ y ≤ 9223372036854775807 ∧ Nat.gcd x y = Nat.gcd m n ∧ Below w.heap.size w wr)
      case atStart => exact ⟨m, n, rfl, rfl, rfl, by omega, by omega, rfl, Below.refl _ _⟩
      case round =>
        obtain ⟨x, y, rfl, rfl, rfl, hx, hy, hg, hB⟩ := hrel
        obtain ⟨wo, rfl⟩ : ∃ wo : World, wo = wr := ⟨_, rfl⟩
        have HGG := Lib.hid hg
        have HB := Lib.hid hB
        clear hg hB
        by_cases hy0 : y = 0
        · subst hy0
          go_wp2_with fail
          go_ret
          exact ⟨by rw [HG.out, ← HGG.out, Nat.gcd_zero_right]; rfl, HB.out⟩
        · have hyi : ¬ (y : Int) = 0 := by omega
          have hyb : ((y : Int) != 0) = true := by simpa using hyi
          have hr := rem_nat (a := x) (b := y) (by omega) hx
          have HZ : Hid ((x : Int) % (y : Int) = ((x % y : Nat) : Int)) := Lib.hid (Int.natCast_emod x y).symm
          have hlt := Nat.mod_lt x (by omega : 0 < y)
          have HE : Hid (Nat.gcd y (x % y) = Nat.gcd x y) := Lib.hid (by rw [Nat.gcd_comm y, ← Nat.gcd_rec, Nat.gcd_comm])
          generalize x % y = z at *
          go_upto_region 4 with fail
          go_quiet (fail)
          go_wp2_with fail
          go_roundg z
          case measure => omega
          case rel => exact ⟨y, z, rfl, rfl, congrArg _ HZ.out, hy, by omega, by rw [HE.out, HGG.out], by first | exact HB.out.drew | exact below_drewN HB.out _⟩
/-- Is it a prime, and no greater than may be asked for? -/
def primI (n : Int) : Bool := decide (2 ≤ n ∧ n ≤ 16777216 ∧ ∀ d : Nat, d < n.toNat → 2 ≤ d → d * d ≤ n.toNat → ¬ d ∣ n.toNat)
/-- What the factors found so far tell of n0, when d is up next and n is left: none yet, or the first one. -/
def FacSt (n0 n d : Nat) (xs : List Value) : Prop :=
  1 ≤ n ∧ n ≤ n0 ∧ ((xs = [] ∧ n = n0 ∧ ∀ q, 2 ≤ q → q < d → ¬ q ∣ n0) ∨
    ∃ (p e : Nat) (r : List Value), xs = .int .i64 p :: .int .i64 e :: r ∧ 2 ≤ p ∧ p * p ≤ n0 ∧ p ∣ n0 ∧ (r = [] → n0 = p ^ e * n))
/-- What comes back: as many cells as twice the number of primes; one, once: a prime. -/
def FacEnd (n0 : Nat) (xs : List Value) : Prop := ∃ m, xs.length = m * 2 ∧ ((∃ e : Nat, m = 1 ∧ xs[1]? = some (.int .i64 e) ∧ (primI n0 = decide (e = 1))) ∨ (m ≠ 1 ∧ primI n0 = false))
theorem primI_no {n d : Nat} (h1 : 2 ≤ d) (h2 : d * d ≤ n) (h3 : d ∣ n) : primI n = false := by
  unfold primI
  rw [decide_eq_false_iff_not]
  rintro ⟨_, _, h⟩
  rw [Int.toNat_natCast] at h
  refine h d ?_ h1 h2 h3
  have : 2 * d ≤ d * d := Nat.mul_le_mul_right d h1
  omega
theorem facEnd_one {n0 d : Nat} {xs : List Value} (h : FacSt n0 1 d xs) (hl : ∃ m, xs.length = m * 2) : FacEnd n0 xs := by
  obtain ⟨m, hm⟩ := hl
  obtain ⟨_, _, ⟨rfl, h1, _⟩ | ⟨p, e, r, rfl, h1, h2, h3, h4⟩⟩ := h
  · subst h1
    refine ⟨0, rfl, .inr ⟨by omega, ?_⟩⟩
    unfold primI
    rw [decide_eq_false_iff_not]
    rintro ⟨h, _⟩
    omega
  · refine ⟨m, hm, ?_⟩
    by_cases hm1 : m = 1
    · refine .inl ⟨e, hm1, rfl, ?_⟩
      have hr : r = [] := List.eq_nil_of_length_eq_zero (by simp at hm; omega)
      rw [primI_no h1 h2 h3]
      symm
      rw [decide_eq_false_iff_not]
      rintro rfl
      have := h4 hr
      rw [Nat.pow_one, Nat.mul_one] at this
      have h6 : p * 2 ≤ p * p := Nat.mul_le_mul_left p h1
      omega
    · exact .inr ⟨hm1, primI_no h1 h2 h3⟩
theorem facEnd_more {n0 n d : Nat} {xs : List Value} (h : FacSt n0 n d xs) (hd : n < d * d) (hn : 1 < n) (hmax : n0 ≤ 16777216) (hl : ∃ m, xs.length = m * 2) : FacEnd n0 (xs ++ [.int .i64 n, .int .i64 1]) := by
  obtain ⟨m, hm⟩ := hl
  refine ⟨m + 1, by rw [List.length_append, hm]; simp; omega, ?_⟩
  obtain ⟨_, _, ⟨rfl, h1, h2⟩ | ⟨p, e, r, rfl, h1, h2, h3, h4⟩⟩ := h
  · subst h1
    refine .inl ⟨1, by simp at hm; omega, rfl, ?_⟩
    rw [decide_eq_true rfl]
    unfold primI
    rw [decide_eq_true_iff, Int.toNat_natCast]
    refine ⟨by omega, by omega, fun q _ h3 h4 h5 => ?_⟩
    refine h2 q h3 ?_ h5
    rcases Nat.lt_or_ge q d with h | h
    · exact h
    · have := Nat.mul_le_mul h h
      omega
  · exact .inr ⟨by simp at hm; omega, primI_no h1 h2 h3⟩
/-- No power of d is taken off: d does not divide what is left. -/
theorem facSt_skip {n0 n d : Nat} {xs : List Value} (h : FacSt n0 n d xs) (hd : n % d ≠ 0) : FacSt n0 n (d + 1) xs := by
  obtain ⟨g1, g2, ⟨rfl, h1, h2⟩ | h⟩ := h
  · refine ⟨g1, g2, .inl ⟨rfl, h1, fun q h3 h4 h5 => ?_⟩⟩
    by_cases e : q = d
    · subst e
      subst h1
      exact hd (Nat.mod_eq_zero_of_dvd h5)
    · exact h2 q h3 (by omega) h5
  · exact ⟨g1, g2, .inr h⟩
theorem facSt_take {n0 n d n' e : Nat} {xs : List Value} (h : FacSt n0 n d xs) (h2 : 2 ≤ d) (hdd : d * d ≤ n) (he : 1 ≤ e) (hn : n = d ^ e * n') (hn' : 1 ≤ n') : FacSt n0 n' (d + 1) (xs ++ [.int .i64 d, .int .i64 e]) := by
  obtain ⟨g1, g2, h⟩ := h
  have hle : n' ≤ n := by
    rw [hn]
    exact Nat.le_mul_of_pos_left _ (Nat.pow_pos (by omega))
  refine ⟨hn', Nat.le_trans hle g2, .inr ?_⟩
  rcases h with ⟨rfl, h1, _⟩ | ⟨p, e', r, rfl, k1, k2, k3, k4⟩
  · subst h1
    refine ⟨d, e, [], rfl, h2, hdd, ?_, fun _ => hn⟩
    rw [hn]
    obtain ⟨e1, rfl⟩ : ∃ e1, e = e1 + 1 := ⟨e - 1, by omega⟩
    rw [Nat.pow_succ, Nat.mul_comm (d ^ e1), Nat.mul_assoc]
    exact Nat.dvd_mul_right _ _
  · exact ⟨p, e', r ++ [.int .i64 d, .int .i64 e], rfl, k1, k2, k3, fun hr => by simp at hr⟩
theorem powElem : Elem Tryd.prog 114 118 2 16 := ⟨Tryd.underlying114, ⟨.agg #[.int .i64 0, .int .i64 0], by kernel_rfl, rfl⟩, by omega⟩
theorem one2 {k n : Int} : ∀ u ∈ [Value.int .i64 k, .int .i64 n], u.oneCell' = true := by
  intro u hu
  simp only [List.mem_cons, List.not_mem_nil, or_false] at hu
  rcases hu with rfl | rfl <;> rfl
def thereB (n : Int) : Bool := decide (1 ≤ n ∧ n ≤ 16777216)
set_option maxHeartbeats 1000000 in
theorem there_any (n : Int) (w : World) : Calls Tryd.prog 93 #[.int .i64 n] w fun e w' => e = .returned (.bool (thereB n)) ∧ w = w' := by
  by_cases h1 : 1 ≤ n
  · by_cases h2 : n ≤ 16777216
    · have HD : Hid (thereB n = true) := Lib.hid (decide_eq_true ⟨h1, h2⟩)
      go_enter Tryd.func93, Tryd.ntmps93
      go_wp2_with fail
      go_ret
      exact ⟨by rw [HD.out]; rfl, rfl⟩
    · have HD : Hid (thereB n = false) := Lib.hid (decide_eq_false fun h => h2 h.2)
      go_enter Tryd.func93, Tryd.ntmps93
      go_wp2_with fail
      go_ret
      exact ⟨by rw [HD.out]; rfl, rfl⟩
  · have HD : Hid (thereB n = false) := Lib.hid (decide_eq_false fun h => h1 h.1)
    go_enter Tryd.func93, Tryd.ntmps93
    go_wp2_with fail
    go_ret
    exact ⟨by rw [HD.out]; rfl, rfl⟩
def FacPost (n0 : Nat) (w : World) (e : Ending) (w' : World) : Prop :=
  ∃ v m xs, e = .returned (.tuple #[v, .int .i64 0]) ∧ w'.ownsRow w.heap.size 118 2 v m xs ∧ FacEnd n0 xs ∧ Below w.heap.size w w'
set_option maxRecDepth 100000 in
set_option maxHeartbeats 4000000 in
theorem factors_yes (n0 : Nat) (w : World) (h1 : 1 ≤ n0) (h2 : n0 ≤ 16777216) : Calls Tryd.prog 87 #[.int .i64 n0] w (FacPost n0 w) := by
  have HT : Hid (∀ W, Calls Tryd.prog 93 #[.int .i64 n0] W fun e w' => e = .returned (.bool true) ∧ W = w') := Lib.hid fun W => by
    have h := there_any n0 W
    rw [show thereB (n0 : Int) = true from decide_eq_true ⟨by omega, by omega⟩] at h
    exact h
  go_enter Tryd.func87, Tryd.ntmps87
  go_wp2_with fail
  go_step3
  go_wp2_with (go_at_call 93; (with_reducible refine (HT.out _).mono ?_); rintro e w' ⟨rfl, rfl⟩)
  go_step3
  go_wp2_with fail
  go_loopg [0, 4, 5] 4098 (fun g nv lv dv wr => ∃ (n d m : Nat) (xs : List Value), g = 4100 - d ∧ nv = .int .i64 (n : Int) ∧ dv = .int .i64 (d : Int) ∧ 2 ≤ d ∧ d ≤ 4097 ∧ m ≤ d ∧ FacSt n0 n d xs ∧ wr.ownsRow w.heap.size 118 2 lv m xs ∧ Below w.heap.size w wr)
  case atStart => exact ⟨n0, 2, 0, [], rfl, rfl, rfl, by omega, by omega, by omega, ⟨h1, Nat.le_refl _, .inl ⟨rfl, rfl, fun q _ _ => by omega⟩⟩, World.ownsRow_nil _ _ _ _, Below.refl _ _⟩
  case round =>
    obtain ⟨n, d, m, xs, rfl, rfl, rfl, hd2, hdm, hmd, hst, hown, hB⟩ := hrel
    obtain ⟨wo, rfl⟩ : ∃ wo : World, wo = wr := ⟨_, rfl⟩
    have HST := Lib.hid hst
    have HOWN := Lib.hid hown
    have HB := Lib.hid hB
    have hn1 := hst.1
    have hn2 := hst.2.1
    obtain ⟨la, lc, rfl⟩ := own_val hown
    clear hst hown hB
    obtain ⟨q, hq1, hq2⟩ : ∃ q, q ≤ d * d ∧ d * d ≤ q := ⟨d * d, Nat.le_refl _, Nat.le_refl _⟩
    have hqq : d * d ≤ 4097 * 4097 := Nat.mul_le_mul hdm hdm
    have HQ : Hid (d * d = q) := Lib.hid (by omega)
    have wq : IntKind.i64.wrap ((d : Int) * (d : Int)) = (q : Int) := by
      rw [show (d : Int) * (d : Int) = ((d * d : Nat) : Int) by simp, HQ.out]
      exact wrapI (by omega) (by omega)
    clear hq1 hq2 hqq
    by_cases hle : q ≤ n
    · have hlei : (q : Int) ≤ (n : Int) := by omega
      have hdn : d ≤ 4096 := by
        rcases Nat.lt_or_ge 4096 d with h | h
        · have h2 := Nat.mul_le_mul h h
          have := HQ.out
          omega
        · exact h
      obtain ⟨d1, hd11, hd12⟩ : ∃ d1, d1 ≤ d + 1 ∧ d + 1 ≤ d1 := ⟨d + 1, by omega, by omega⟩
      have wd1 : IntKind.i64.wrap ((d : Int) + 1) = (d1 : Int) := by rw [wrapI (by omega) (by omega)]; omega
      have HD1 : Hid (d + 1 = d1) := Lib.hid (by omega)
      have hd0 : ¬ (d : Int) = 0 := by omega
      obtain ⟨W1, hW1⟩ : ∃ W1, W1 = wo.alloc (.cells #[.int .i64 d, .int .i64 0] 118) := ⟨_, rfl⟩
      have hb1 : Below wo.heap.size wo W1 := by rw [hW1]; exact (Below.refl _ _).alloc (Nat.le_refl _) _
      have g1 : W1.heap[wo.heap.size]? = some (.cells #[.int .i64 d, .int .i64 0] 118 (0, 0)) := by rw [hW1]; exact heap_alloc_new wo _
      have HB1 := Lib.hid hb1
      have HG1 := Lib.hid g1
      go_wp2_with fail
      rw [← hW1]
      clear hW1 hb1 g1
      go_loopg [0] n (fun g nv wr => ∃ (n' e : Nat), n' = g ∧ nv = .int .i64 (n' : Int) ∧ 1 ≤ n' ∧ e + n' ≤ n ∧ n = d ^ e * n' ∧ wr.heap[wo.heap.size]? = some (.cells #[.int .i64 d, .int .i64 (e : Int)] 118 (0, 0)) ∧ Below wo.heap.size wo wr)
      case atStart => exact ⟨n, 0, rfl, rfl, by omega, by omega, by simp, HG1.out, HB1.out⟩
      case round =>
        obtain ⟨n', e, rfl, rfl, hn'1, hen, hpow, hg, hB1⟩ := hrel
        obtain ⟨w1, rfl⟩ : ∃ w1 : World, w1 = wr := ⟨_, rfl⟩
        have HPOW := Lib.hid hpow
        have HG := Lib.hid hg
        have HB2 := Lib.hid hB1
        have hr := rem_nat (a := n') (b := d) (by omega) (by omega)
        have hq := quo_nat (a := n') (b := d) (by omega) (by omega)
        have c0 := cell_at (o := 0) hg rfl
        have c1 := cell_at (o := 1) hg rfl
        have f1 := free_at (o := 1) hg
        clear hpow hg hB1
        by_cases hz : n' % d = 0
        · have HDV : Hid (n' = d * (n' / d)) := Lib.hid (by have := Nat.div_add_mod n' d; omega)
          obtain ⟨e1, he1, he2⟩ : ∃ e1, e1 ≤ e + 1 ∧ e + 1 ≤ e1 := ⟨e + 1, by omega, by omega⟩
          have we1 : IntKind.i64.wrap ((e : Int) + 1) = (e1 : Int) := by rw [wrapI (by omega) (by omega)]; omega
          have hzi : (n' : Int) % (d : Int) = 0 := by omega
          generalize hqd : n' / d = n2 at *
          have HQD : Hid ((n' : Int) / (d : Int) = (n2 : Int)) := Lib.hid (by rw [← hqd]; simp)
          have hn2 : 2 * n2 ≤ n' := by
            have h := HDV.out
            have h2 := Nat.mul_le_mul_right n2 hd2
            omega
          have hn21 : 1 ≤ n2 := by
            rcases Nat.eq_zero_or_pos n2 with h | h
            · have h2 := HDV.out
              rw [h, Nat.mul_zero] at h2
              omega
            · exact h
          have HPW2 : Hid (n = d ^ e1 * n2) := Lib.hid (by
            rw [show e1 = e + 1 by omega, Nat.pow_succ, Nat.mul_assoc, ← HDV.out]
            exact HPOW.out)
          have HG2 := Lib.hid (heap_set_at (o := 1) (.int .i64 (e1 : Int)) HG.out)
          have HBS := Lib.hid (HB2.out.setCell (p := ⟨wo.heap.size, 1, none⟩) (Nat.le_refl _) (.int .i64 (e1 : Int)))
          clear hqd
          go_wp2_with fail
          go_roundg n2
          case measure => omega
          case rel => exact ⟨n2, e1, rfl, by first | rfl | exact congrArg _ (by rw [HQD.out]; unfold wrap64; omega), hn21, by omega, HPW2.out, HG2.out, HBS.out⟩
        · have hzi : ¬ (n' : Int) % (d : Int) = 0 := by omega
          have HZ := Lib.hid hz
          have HBW : Hid (Below w.heap.size w w1) := Lib.hid (HB.out.trans (HB2.out.mono HB.out.size))
          by_cases he0 : e = 0
          · have HSK : Hid (FacSt n0 n' d1 xs) := Lib.hid (by
              have h := HPOW.out
              rw [he0, Nat.pow_zero, Nat.one_mul] at h
              rw [← HD1.out]
              exact facSt_skip (by rw [← h]; exact HST.out) HZ.out)
            have HOW := Lib.hid (own_below HOWN.out HB2.out)
            subst he0
            clear hz
            go_wp2_with fail
            go_roundg (4100 - d1)
            case measure => omega
            case rel => exact ⟨n', d1, m, xs, rfl, rfl, rfl, by omega, by omega, by omega, HSK.out, HOW.out, HBW.out⟩
          · have hei : ¬ (e : Int) = 0 := by omega
            have HTK : Hid (FacSt n0 n' d1 (xs ++ [.int .i64 d, .int .i64 e])) := Lib.hid (by
              rw [← HD1.out]
              exact facSt_take HST.out hd2 (by rw [HQ.out]; exact hle) (by omega) HPOW.out hn'1)
            have HOW := Lib.hid (own_below HOWN.out HB2.out)
            have HZW := Lib.hid (Nat.le_trans HB.out.size HB2.out.size)
            clear hz
            go_wp2_with (at_builtin; refine wpl_append rfl _ _ 114 rfl powElem _ _ _ rfl _ _ _ [.int .i64 d, .int .i64 e] rfl (own_below HOW.out ((Below.refl _ _).alloc (Nat.le_refl _) _)) (src_new3 _ 118 2 rfl one2) (by unfold maxLen; omega) (by omega) (by have := HZW.out; simp; omega) ?_; intro v' w3 ho3 hg3 _; have HO3 := Lib.hid ho3; have HG3 := Lib.hid hg3; clear ho3 hg3)
            go_roundg (4100 - d1)
            case measure => omega
            case rel =>
              refine ⟨n', d1, m + 1, _, rfl, rfl, rfl, by omega, by omega, by omega, HTK.out, HO3.out, ?_⟩
              exact (HBW.out.trans (((Below.refl _ _).alloc (Nat.le_refl _) _).mono HBW.out.size)).grown HG3.out (by have := HZW.out; simp; omega) fun k hk => (HOW.out.lt k hk).1
    · have hlei : ¬ (q : Int) ≤ (n : Int) := by omega
      by_cases hn : 1 < n
      · have hni : (1 : Int) < (n : Int) := by omega
        have HFE := Lib.hid (facEnd_more HST.out (by rw [HQ.out]; omega) hn h2 ⟨m, HOWN.out.1⟩)
        go_wp2_with (at_builtin; refine wpl_append rfl _ _ 114 rfl powElem _ _ _ rfl _ _ _ [.int .i64 n, .int .i64 1] rfl (own_below HOWN.out ((Below.refl _ _).alloc (Nat.le_refl _) _)) (src_new3 _ 118 2 rfl one2) (by unfold maxLen; omega) (by omega) (by have := HB.out.size; simp; omega) ?_; intro v' w3 ho3 hg3 _; have HO3 := Lib.hid ho3; have HG3 := Lib.hid hg3; clear ho3 hg3)
        try rw [Exit.noGoto_ret]
        go_ret2
        exact ⟨_, _, _, rfl, HO3.out, HFE.out, (HB.out.trans (((Below.refl _ _).alloc (Nat.le_refl _) _).mono HB.out.size)).grown HG3.out (by have := HB.out.size; simp; omega) fun k hk => (HOWN.out.lt k hk).1⟩
      · have hni : ¬ (1 : Int) < (n : Int) := by omega
        obtain rfl : n = 1 := by omega
        have HFE := Lib.hid (facEnd_one HST.out ⟨m, HOWN.out.1⟩)
        go_wp2_with fail
        try rw [Exit.noGoto_ret]
        go_ret2
        exact ⟨_, _, _, rfl, HOWN.out, HFE.out, HB.out⟩
set_option maxRecDepth 100000 in
set_option maxHeartbeats 4000000 in
theorem factors_no (n : Int) (w : World) (h : ¬ (1 ≤ n ∧ n ≤ 16777216)) : Calls Tryd.prog 87 #[.int .i64 n] w fun e w' => e = .returned (.tuple #[.slice none 0 0, .int .i64 3]) ∧ w = w' := by
  have HT : Hid (∀ W, Calls Tryd.prog 93 #[.int .i64 n] W fun e w' => e = .returned (.bool false) ∧ W = w') := Lib.hid fun W => by
    have h2 := there_any n W
    rw [show thereB n = false from decide_eq_false h] at h2
    exact h2
  clear h
  go_enter Tryd.func87, Tryd.ntmps87
  go_wp2_with fail
  go_step3
  go_wp2_with (go_at_call 93; (with_reducible refine (HT.out _).mono ?_); rintro e w' ⟨rfl, rfl⟩)
  try rw [Exit.noGoto_ret]
  go_ret2
  exact ⟨rfl, rfl⟩
set_option maxRecDepth 100000 in
set_option maxHeartbeats 4000000 in
theorem prime_any (n : Int) (w : World) : Calls Tryd.prog 76 #[.int .i64 n] w fun e w' => e = .returned (.bool (primI n)) ∧ Below w.heap.size w w' := by
  by_cases h : 1 ≤ n ∧ n ≤ 16777216
  · obtain ⟨m, rfl⟩ : ∃ m : Nat, n = m := ⟨n.toNat, by omega⟩
    have HC := Lib.hid (factors_yes m w (by omega) (by omega))
    clear h
    go_enter Tryd.func76, Tryd.ntmps76
    go_upto_region 2 with (go_at_call 87; (with_reducible refine HC.out.mono ?_); rintro e w2 ⟨v, k, xs, rfl, ho, ⟨k', hk, hw⟩, hb⟩; have HO := Lib.hid ho; have HB := Lib.hid hb; obtain ⟨a2, c2, rfl⟩ := own_val ho; obtain rfl : k' = k := (by have := ho.1; omega); have HW := Lib.hid hw; clear ho hb hk hw)
    obtain ⟨W2, rfl⟩ : ∃ W : World, W = w2 := ⟨_, rfl⟩
    rcases HW.out with ⟨e, h1, hx, hp⟩ | ⟨h1, hp⟩
    · subst h1
      obtain ⟨g, rfl⟩ : ∃ g, a2 = some ⟨g, 0, none⟩ := by
        rcases HO.out.2 with ⟨_, h0⟩ | ⟨g, _, _, hv, _⟩
        · omega
        · cases hv; exact ⟨g, rfl⟩
      have hc := HO.out.cells (g := g) rfl 1 _ hx
      rw [Addr.add_lit, Nat.zero_add] at hc
      have HP := Lib.hid hp
      clear hx hp HW HC
      by_cases he : e = 1
      · subst he
        go_wp2_with fail
        go_ret
        exact ⟨by rw [HP.out]; rfl, HB.out⟩
      · have hei : ¬ (e : Int) = 1 := by omega
        have heb : ((e : Int) == 1) = false := by simpa using hei
        have HF : Hid (decide (e = 1) = false) := Lib.hid (decide_eq_false he)
        clear he
        go_wp2_with fail
        go_ret
        exact ⟨by rw [HP.out, HF.out]; rfl, HB.out⟩
    · have hei : ¬ (k' : Int) = 1 := by omega
      have heb : ((k' : Int) == 1) = false := by simpa using hei
      have HP := Lib.hid hp
      clear hp HW h1 HC
      go_wp2_with fail
      go_ret
      exact ⟨by rw [HP.out]; rfl, HB.out⟩
  · have HP : Hid (primI n = false) := Lib.hid (by
      unfold primI
      rw [decide_eq_false_iff_not]
      rintro ⟨h1, h2, _⟩
      exact h ⟨by omega, h2⟩)
    have HC := Lib.hid (factors_no n w h)
    clear h
    go_enter Tryd.func76, Tryd.ntmps76
    go_wp2_with (go_at_call 87; (with_reducible refine HC.out.mono ?_); rintro e w2 ⟨rfl, rfl⟩)
    go_ret
    exact ⟨by rw [HP.out]; rfl, Below.refl _ _⟩
end Go.Proofs.YtdhkndoglcnllaaDoor
/- Which sizes there are: root.Has, small.Has, stock.Has. -/
namespace Go.Proofs.YtdhkndoglcnllaaDoor
open Go.RowKit
set_option linter.unusedSimpArgs false
set_option linter.unusedVariables false
def hasB (n : Int) : Bool := decide (1 ≤ n ∧ n ≤ 16777216 ∧ (18446744069414584320 : Int) % n = 0)
set_option maxRecDepth 100000 in
set_option maxHeartbeats 4000000 in
theorem has_any (n : Int) (w : World) : Calls Tryd.prog 36 #[.int .i64 n] w fun e w' => e = .returned (.bool (hasB n)) ∧ w = w' := by
  by_cases h1 : 1 ≤ n
  · by_cases h2 : n ≤ 16777216
    · have h0 : 0 ≤ n := by omega
      have hn0 : ¬ n = 0 := by omega
      have hw : IntKind.u64.wrap n = n := by rw [IntKind.wrap_u64]; omega
      by_cases h3 : (18446744069414584320 : Int) % n = 0
      · have HH : Hid (hasB n = true) := Lib.hid (decide_eq_true ⟨h1, h2, h3⟩)
        go_enter Tryd.func36, Tryd.ntmps36
        go_wp2_with fail
        go_ret
        exact ⟨by rw [HH.out]; rfl, rfl⟩
      · have HH : Hid (hasB n = false) := Lib.hid (decide_eq_false fun h => h3 h.2.2)
        have h3b : ((18446744069414584320 : Int) % n == 0) = false := by simpa using h3
        go_enter Tryd.func36, Tryd.ntmps36
        go_wp2_with fail
        go_ret
        exact ⟨by rw [HH.out]; rfl, rfl⟩
    · have HH : Hid (hasB n = false) := Lib.hid (decide_eq_false fun h => h2 h.2.1)
      go_enter Tryd.func36, Tryd.ntmps36
      go_wp2_with fail
      go_ret
      exact ⟨by rw [HH.out]; rfl, rfl⟩
  · have HH : Hid (hasB n = false) := Lib.hid (decide_eq_false fun h => h1 h.1)
    go_enter Tryd.func36, Tryd.ntmps36
    go_wp2_with fail
    go_ret
    exact ⟨by rw [HH.out]; rfl, rfl⟩
def smallB (n : Int) : Bool := decide (1 ≤ n ∧ n ≤ 5)
set_option maxHeartbeats 1000000 in
theorem small_any (n : Int) (w : World) : Calls Tryd.prog 72 #[.int .i64 n] w fun e w' => e = .returned (.bool (smallB n)) ∧ w = w' := by
  by_cases h1 : 1 ≤ n
  · by_cases h2 : n ≤ 5
    · have HH : Hid (smallB n = true) := Lib.hid (decide_eq_true ⟨h1, h2⟩)
      go_enter Tryd.func72, Tryd.ntmps72
      go_wp2_with fail
      go_ret
      exact ⟨by rw [HH.out]; rfl, rfl⟩
    · have HH : Hid (smallB n = false) := Lib.hid (decide_eq_false fun h => h2 h.2)
      go_enter Tryd.func72, Tryd.ntmps72
      go_wp2_with fail
      go_ret
      exact ⟨by rw [HH.out]; rfl, rfl⟩
  · have HH : Hid (smallB n = false) := Lib.hid (decide_eq_false fun h => h1 h.1)
    go_enter Tryd.func72, Tryd.ntmps72
    go_wp2_with fail
    go_ret
    exact ⟨by rw [HH.out]; rfl, rfl⟩
/-- Is it a power of two? (As the program asks.) -/
def powB (n : Int) : Bool := decide (0 < n) && (bits BinOp.and IntKind.i64 n (wrap64 (n - 1)) == 0)
set_option maxRecDepth 100000 in
set_option maxHeartbeats 1000000 in
theorem power_any (n : Int) (w : World) : Calls Tryd.prog 86 #[.int .i64 n] w fun e w' => e = .returned (.bool (powB n)) ∧ w = w' := by
  by_cases h1 : 0 < n
  · have HH : Hid (powB n = (bits BinOp.and IntKind.i64 n (wrap64 (n - 1)) == 0)) := Lib.hid (by unfold powB; rw [decide_eq_true h1]; rfl)
    go_enter Tryd.func86, Tryd.ntmps86
    go_wp2_with fail
    go_ret
    exact ⟨by rw [HH.out]; rfl, rfl⟩
  · have HH : Hid (powB n = false) := Lib.hid (by unfold powB; rw [decide_eq_false h1]; rfl)
    go_enter Tryd.func86, Tryd.ntmps86
    go_wp2_with fail
    go_ret
    exact ⟨by rw [HH.out]; rfl, rfl⟩
def stockB (n : Int) : Bool := powB n && decide (n ≤ 16777216)
set_option maxRecDepth 100000 in
set_option maxHeartbeats 1000000 in
theorem stock_any (n : Int) (w : World) : Calls Tryd.prog 73 #[.int .i64 n] w fun e w' => e = .returned (.bool (stockB n)) ∧ w = w' := by
  cases hp : powB n with
  | false =>
    have HP := Lib.hid hp
    have HH : Hid (stockB n = false) := Lib.hid (by unfold stockB; rw [hp]; rfl)
    clear hp
    go_enter Tryd.func73, Tryd.ntmps73
    go_wp2_with (go_at_call 86; (with_reducible refine (power_any _ _).mono ?_); rintro e w' ⟨rfl, rfl⟩; rw [HP.out])
    go_ret
    exact ⟨by rw [HH.out]; rfl, rfl⟩
  | true =>
    have HP := Lib.hid hp
    by_cases h2 : n ≤ 16777216
    · have HH : Hid (stockB n = true) := Lib.hid (by unfold stockB; rw [hp, decide_eq_true h2]; rfl)
      clear hp
      go_enter Tryd.func73, Tryd.ntmps73
      go_wp2_with (go_at_call 86; (with_reducible refine (power_any _ _).mono ?_); rintro e w' ⟨rfl, rfl⟩; rw [HP.out])
      go_ret
      exact ⟨by rw [HH.out]; rfl, rfl⟩
    · have HH : Hid (stockB n = false) := Lib.hid (by unfold stockB; rw [hp, decide_eq_false h2]; rfl)
      have h2b : decide (n ≤ 16777216) = false := decide_eq_false h2
      clear hp
      go_enter Tryd.func73, Tryd.ntmps73
      go_wp2_with (go_at_call 86; (with_reducible refine (power_any _ _).mono ?_); rintro e w' ⟨rfl, rfl⟩; rw [HP.out])
      go_ret
      exact ⟨by rw [HH.out]; rfl, rfl⟩
end Go.Proofs.YtdhkndoglcnllaaDoor
/- valid.Node: is a node right by itself? -/
namespace Go.Proofs.YtdhkndoglcnllaaDoor
open Go.RowKit
set_option linter.unusedSimpArgs false
set_option linter.unusedVariables false
theorem descRd_cells2 {k : Nat} {F : Foot} {w : World} {cs : List Value} {d : DescV} (h : descRd k F w cs d) : ∃ a n c, cs = [.int .i64 d.kind, .int .i64 d.n, .slice a n c] ∧ RowOf (descRd k) 3 40 F w a n c d.kids := by
  cases k with
  | zero => exact h.elim
  | succ k =>
    obtain ⟨a, n, c, h1, _, _, h4⟩ := h
    exact ⟨a, n, c, h1, h4.imp fun _ _ h => descRd_succ k h⟩
theorem descRd_wf2 {k : Nat} {F : Foot} {w : World} {cs : List Value} {d : DescV} (h : descRd k F w cs d) : (Lit.int .i64 d.kind).wf = true ∧ (Lit.int .i64 d.n).wf = true := by
  cases k with
  | zero => exact h.elim
  | succ k =>
    obtain ⟨a, n, c, _, h2, h3, _⟩ := h
    exact ⟨h2, h3⟩
/-- The size of a kid; 0: there is none. -/
def kidN (l : List DescV) (i : Nat) : Int := match l[i]? with | some d => d.n | none => 0
def sidesB (nd : Int) (l : List DescV) : Bool := decide (l.length = 2) && (hasB nd && (decide (2 ≤ kidN l 0) && (decide (2 ≤ kidN l 1) && (decide (kidN l 0 ≤ nd) && (decide (kidN l 1 ≤ nd) && decide (kidN l 0 * kidN l 1 = nd))))))
def singleB (nd : Int) (l : List DescV) (p : Int → Bool) : Bool := decide (l.length = 1) && (hasB nd && p (kidN l 0))
def blueB (nd m : Int) : Bool := decide (2 * nd - 1 ≤ m) && stockB m
def nodeB (kd nd : Int) (l : List DescV) : Bool :=
  if kd = 1 then decide (l.length = 0) && (hasB nd && decide (nd ≤ 64))
  else if kd = 2 then smallB nd && (decide (l.length = 0) && decide (2 ≤ nd))
  else if kd = 3 then decide (l.length = 0) && (decide (2 ≤ nd) && stockB nd)
  else if kd = 4 then sidesB nd l
  else if kd = 5 then (decide (l.length = 2) && decide (gcdI (kidN l 0) (kidN l 1) = 1)) && sidesB nd l
  else if kd = 6 then decide (3 ≤ nd) && (primI nd && singleB nd l fun m => decide (m = nd - 1))
  else if kd = 7 then decide (2 ≤ nd) && singleB nd l fun m => blueB nd m
  else false
theorem hasB_le {n : Int} (h : hasB n = true) : 1 ≤ n ∧ n ≤ 16777216 := by
  unfold hasB at h
  rw [decide_eq_true_iff] at h
  exact ⟨h.1, h.2.1⟩
theorem row_kid {k : Nat} {F : Foot} {w : World} {a : Option Addr} {n cap : Nat} {l : List DescV} (h : RowOf (descRd k) 3 40 F w a n cap l) {i : Nat} (hi : i < n) :
    ∃ b off, a = some ⟨b, off, none⟩ ∧ b < w.heap.size ∧ w.cell? ⟨b, off + i * 3 + 1, none⟩ = some (.int .i64 (kidN l i)) ∧ (Lit.int .i64 (kidN l i)).wf = true := by
  obtain ⟨b, off, cs, h1, h2, _, _, h4, h5⟩ := h.at_ i _ (List.getElem?_eq_getElem (by rw [h.len]; exact hi))
  obtain ⟨da, dm, dc, rfl, _⟩ := descRd_cells2 h5
  have e : kidN l i = (l[i]'(by rw [h.len]; exact hi)).n := by
    unfold kidN
    rw [List.getElem?_eq_getElem (by rw [h.len]; exact hi)]
  rw [e]
  exact ⟨b, off, h1, h2, h4 1 _ rfl, (descRd_wf2 h5).2⟩
set_option maxRecDepth 100000 in
set_option maxHeartbeats 4000000 in
theorem sides_any (k : Nat) (F : Foot) (kd nd : Int) (l : List DescV) (a : Option Addr) (n cap : Nat) (w : World) (hl : RowOf (descRd k) 3 40 F w a n cap l) :
    Calls Tryd.prog 75 #[.agg #[.int .i64 kd, .int .i64 nd, .slice a n cap]] w fun e w' => e = .returned (.bool (sidesB nd l)) ∧ Below w.heap.size w w' := by
  obtain ⟨W1, hW1⟩ : ∃ W1, W1 = w.alloc (.cells #[.int .i64 kd, .int .i64 nd, .slice a n cap] 35) := ⟨_, rfl⟩
  have hb1 : Below w.heap.size w W1 := by rw [hW1]; exact (Below.refl _ _).alloc (Nat.le_refl _) _
  have g1 : W1.heap[w.heap.size]? = some (.cells #[.int .i64 kd, .int .i64 nd, .slice a n cap] 35 (0, 0)) := by rw [hW1]; exact heap_alloc_new w _
  have c0 := cell_at (o := 0) g1 rfl
  have c1 := cell_at (o := 1) g1 rfl
  have c2 := cell_at (o := 2) g1 rfl
  have HB := Lib.hid hb1
  have HLN := Lib.hid hl.len
  have HL := Lib.hid (hl.keep (descRd_ok _) (Fix.of_below hb1))
  clear hl hb1 g1
  by_cases hn : n = 2
  · have hni : (n : Int) = 2 := by omega
    have hnb : ((n : Int) == 2) = true := by simpa using hni
    cases hh : hasB nd with
    | false =>
      have HH := Lib.hid hh
      have HS : Hid (sidesB nd l = false) := Lib.hid (by unfold sidesB; rw [hh]; simp)
      clear hh hn
      go_enter Tryd.func75, Tryd.ntmps75
      go_upto_region 1 with fail
      rw [← hW1]
      clear hW1
      go_wp2_with (go_at_call 36; (with_reducible refine (has_any _ _).mono ?_); rintro e w' ⟨rfl, rfl⟩; rw [HH.out])
      go_ret
      exact ⟨by rw [HS.out]; rfl, HB.out⟩
    | true =>
      have HH := Lib.hid hh
      obtain ⟨hn1, hn2⟩ := hasB_le hh
      subst hn
      obtain ⟨b, off, rfl, hbw, p0, _⟩ := row_kid HL.out (i := 0) (by omega)
      obtain ⟨b', off', he, _, p1, _⟩ := row_kid HL.out (i := 1) (by omega)
      cases he
      have HS : Hid (sidesB nd l = (decide (2 ≤ kidN l 0) && (decide (2 ≤ kidN l 1) && (decide (kidN l 0 ≤ nd) && (decide (kidN l 1 ≤ nd) && decide (kidN l 0 * kidN l 1 = nd)))))) := Lib.hid (by unfold sidesB; rw [hh, HLN.out]; simp)
      generalize kidN l 0 = x at *
      generalize kidN l 1 = y at *
      clear hh
      go_enter Tryd.func75, Tryd.ntmps75
      go_upto_region 1 with fail
      rw [← hW1]
      clear hW1
      go_upto_region 3 with (go_at_call 36; (with_reducible refine (has_any _ _).mono ?_); rintro e w' ⟨rfl, rfl⟩; rw [HH.out])
      go_quiet (fail)
      by_cases t1 : 2 ≤ x
      · skip
        by_cases t2 : 2 ≤ y
        · skip
          by_cases t3 : x ≤ nd
          · skip
            by_cases t4 : y ≤ nd
            · skip
              have hw : wrap64 (x * y) = x * y := by
                have hq1 : x * y ≤ 16777216 * 16777216 := Int.mul_le_mul (by omega) (by omega) (by omega) (by omega)
                have hq0 : 0 ≤ x * y := Int.mul_nonneg (by omega) (by omega)
                generalize x * y = q at *
                unfold wrap64
                omega
              by_cases t5 : x * y = nd
              · have HS2 : Hid (sidesB nd l = true) := Lib.hid (by rw [HS.out]; simp [t1, t2, t3, t4, t5])
                have t5b : (wrap64 (x * y) == nd) = true := by rw [hw]; simpa using t5
                clear t5 hw
                go_wp2_with fail
                go_ret
                exact ⟨by rw [HS2.out]; rfl, by first | exact HB.out.drew | exact HB.out | exact below_drewN HB.out _⟩
              · have HS2 : Hid (sidesB nd l = false) := Lib.hid (by rw [HS.out]; simp [t1, t2, t3, t4, t5])
                have t5b : (wrap64 (x * y) == nd) = false := by rw [hw]; simpa using t5
                clear t5 hw
                go_wp2_with fail
                go_ret
                exact ⟨by rw [HS2.out]; rfl, by first | exact HB.out.drew | exact HB.out | exact below_drewN HB.out _⟩
            · have HS2 : Hid (sidesB nd l = false) := Lib.hid (by rw [HS.out]; simp [t1, t2, t3, t4])
              have t4b : decide (y ≤ nd) = false := decide_eq_false t4
              go_wp2_with fail
              go_ret
              exact ⟨by rw [HS2.out]; rfl, by first | exact HB.out.drew | exact HB.out | exact below_drewN HB.out _⟩
          · have HS2 : Hid (sidesB nd l = false) := Lib.hid (by rw [HS.out]; simp [t1, t2, t3])
            have t3b : decide (x ≤ nd) = false := decide_eq_false t3
            go_wp2_with fail
            go_ret
            exact ⟨by rw [HS2.out]; rfl, by first | exact HB.out.drew | exact HB.out | exact below_drewN HB.out _⟩
        · have HS2 : Hid (sidesB nd l = false) := Lib.hid (by rw [HS.out]; simp [t1, t2])
          have t2b : decide (2 ≤ y) = false := decide_eq_false t2
          go_wp2_with fail
          go_ret
          exact ⟨by rw [HS2.out]; rfl, by first | exact HB.out.drew | exact HB.out | exact below_drewN HB.out _⟩
      · have HS2 : Hid (sidesB nd l = false) := Lib.hid (by rw [HS.out]; simp [t1])
        have t1b : decide (2 ≤ x) = false := decide_eq_false t1
        go_wp2_with fail
        go_ret
        exact ⟨by rw [HS2.out]; rfl, by first | exact HB.out.drew | exact HB.out | exact below_drewN HB.out _⟩
  · have hni : ¬ (n : Int) = 2 := by omega
    have hnb : ((n : Int) == 2) = false := by simpa using hni
    have hnb2 : ((n : Int) != 2) = true := by simpa using hni
    have HS : Hid (sidesB nd l = false) := Lib.hid (by unfold sidesB; rw [HLN.out, decide_eq_false hn]; rfl)
    clear hn
    go_enter Tryd.func75, Tryd.ntmps75
    go_upto_region 1 with fail
    rw [← hW1]
    clear hW1
    go_wp2_with fail
    go_ret
    exact ⟨by rw [HS.out]; rfl, HB.out⟩
set_option maxHeartbeats 1000000 in
theorem n1_any (m nd : Int) (g : Nat) (w : World) (h : w.cell? ⟨g, 1, none⟩ = some (.int .i64 nd)) (h1 : 1 ≤ nd) (h2 : nd ≤ 16777216) :
    Calls Tryd.prog 78 #[.int .i64 m, .pointer (some ⟨g, 0, none⟩)] w fun e w' => e = .returned (.bool (decide (m = nd - 1))) ∧ w = w' := by
  have hw : wrap64 (nd - 1) = nd - 1 := by unfold wrap64; omega
  by_cases hm : m = nd - 1
  · have HS2 : Hid (decide (m = nd - 1) = true) := Lib.hid (decide_eq_true hm)
    have hb : (m == nd - 1) = true := by simpa using hm
    clear hm hw
    go_enter Tryd.func78, Tryd.ntmps78
    go_wp2_with fail
    go_ret
    exact ⟨by rw [HS2.out]; rfl, rfl⟩
  · have HS2 : Hid (decide (m = nd - 1) = false) := Lib.hid (decide_eq_false hm)
    have hb : (m == nd - 1) = false := by simpa using hm
    clear hm hw
    go_enter Tryd.func78, Tryd.ntmps78
    go_wp2_with fail
    go_ret
    exact ⟨by rw [HS2.out]; rfl, rfl⟩
set_option maxHeartbeats 1000000 in
theorem n2_any (m nd : Int) (g : Nat) (w : World) (h : w.cell? ⟨g, 1, none⟩ = some (.int .i64 nd)) (h1 : 1 ≤ nd) (h2 : nd ≤ 16777216) :
    Calls Tryd.prog 79 #[.int .i64 m, .pointer (some ⟨g, 0, none⟩)] w fun e w' => e = .returned (.bool (blueB nd m)) ∧ w = w' := by
  have hw : wrap64 (2 * nd) = 2 * nd := by unfold wrap64; omega
  have hw2 : wrap64 (2 * nd - 1) = 2 * nd - 1 := by unfold wrap64; omega
  by_cases hm : 2 * nd - 1 ≤ m
  · have HS2 : Hid (blueB nd m = stockB m) := Lib.hid (by unfold blueB; rw [decide_eq_true hm]; rfl)
    clear hw hw2
    go_enter Tryd.func79, Tryd.ntmps79
    go_wp2_with (go_at_call 73; (with_reducible refine (stock_any _ _).mono ?_); rintro e w' ⟨rfl, rfl⟩)
    go_ret
    exact ⟨by rw [HS2.out]; rfl, rfl⟩
  · have HS2 : Hid (blueB nd m = false) := Lib.hid (by unfold blueB; rw [decide_eq_false hm]; rfl)
    have hm3 : decide (2 * nd - 1 ≤ m) = false := decide_eq_false hm
    clear hw hw2
    go_enter Tryd.func79, Tryd.ntmps79
    go_wp2_with fail
    go_ret
    exact ⟨by rw [HS2.out]; rfl, rfl⟩
set_option maxRecDepth 100000 in
set_option maxHeartbeats 4000000 in
theorem single1_any (k : Nat) (F : Foot) (kd nd : Int) (l : List DescV) (a : Option Addr) (n cap g : Nat) (w : World) (hl : RowOf (descRd k) 3 40 F w a n cap l) (hg : w.cell? ⟨g, 1, none⟩ = some (.int .i64 nd)) :
    Calls Tryd.prog 77 #[.agg #[.int .i64 kd, .int .i64 nd, .slice a n cap], .func (.func 78) #[] #[.pointer (some ⟨g, 0, none⟩)]] w fun e w' => e = .returned (.bool (singleB nd l fun m => decide (m = nd - 1))) ∧ Below w.heap.size w w' := by
  have hgz : g < w.heap.size := World.block_lt_of_cell? w _ hg
  obtain ⟨W1, hW1⟩ : ∃ W1, W1 = w.alloc (.cells #[.int .i64 kd, .int .i64 nd, .slice a n cap] 35) := ⟨_, rfl⟩
  have hb1 : Below w.heap.size w W1 := by rw [hW1]; exact (Below.refl _ _).alloc (Nat.le_refl _) _
  have g1 : W1.heap[w.heap.size]? = some (.cells #[.int .i64 kd, .int .i64 nd, .slice a n cap] 35 (0, 0)) := by rw [hW1]; exact heap_alloc_new w _
  have hg1 : W1.cell? ⟨g, 1, none⟩ = some (.int .i64 nd) := (hb1.cell (p := ⟨g, 1, none⟩) hgz).trans hg
  have c0 := cell_at (o := 0) g1 rfl
  have c1 := cell_at (o := 1) g1 rfl
  have c2 := cell_at (o := 2) g1 rfl
  have HB := Lib.hid hb1
  have HLN := Lib.hid hl.len
  have HL := Lib.hid (hl.keep (descRd_ok _) (Fix.of_below hb1))
  have HG1 := Lib.hid hg1
  clear hl hb1 g1 hg hg1
  by_cases hn : n = 1
  · have hni : (n : Int) = 1 := by omega
    have hnb : ((n : Int) == 1) = true := by simpa using hni
    cases hh : hasB nd with
    | false =>
      have HH := Lib.hid hh
      have HS : Hid (singleB nd l (fun m => decide (m = nd - 1)) = false) := Lib.hid (by unfold singleB; rw [hh]; simp)
      clear hh hn
      go_enter Tryd.func77, Tryd.ntmps77
      go_upto_region 1 with fail
      rw [← hW1]
      clear hW1
      go_wp2_with (go_at_call 36; (with_reducible refine (has_any _ _).mono ?_); rintro e w' ⟨rfl, rfl⟩; rw [HH.out])
      go_ret
      exact ⟨by rw [HS.out]; rfl, HB.out⟩
    | true =>
      have HH := Lib.hid hh
      obtain ⟨hn1, hn2⟩ := hasB_le hh
      subst hn
      obtain ⟨b, off, rfl, hbw, p0, _⟩ := row_kid HL.out (i := 0) (by omega)
      obtain ⟨m, hm⟩ : ∃ m, m = kidN l 0 := ⟨_, rfl⟩
      have HS : Hid (singleB nd l (fun m => decide (m = nd - 1)) = decide (m = nd - 1)) := Lib.hid (by unfold singleB; rw [hh, HLN.out, hm]; simp)
      rw [← hm] at p0
      clear hh hm
      go_enter Tryd.func77, Tryd.ntmps77
      go_upto_region 1 with fail
      rw [← hW1]
      clear hW1
      go_wp2_with (first | (go_at_call 36; (with_reducible refine (has_any _ _).mono ?_); rintro e w' ⟨rfl, rfl⟩; rw [HH.out]) | (go_at_call 78; (with_reducible refine (n1_any _ _ _ _ HG1.out hn1 hn2).mono ?_); rintro e w' ⟨rfl, rfl⟩))
      go_ret
      exact ⟨by rw [HS.out]; rfl, HB.out⟩
  · have hni : ¬ (n : Int) = 1 := by omega
    have hnb : ((n : Int) == 1) = false := by simpa using hni
    have HS : Hid (singleB nd l (fun m => decide (m = nd - 1)) = false) := Lib.hid (by unfold singleB; rw [HLN.out, decide_eq_false hn]; rfl)
    clear hn
    go_enter Tryd.func77, Tryd.ntmps77
    go_upto_region 1 with fail
    rw [← hW1]
    clear hW1
    go_wp2_with fail
    go_ret
    exact ⟨by rw [HS.out]; rfl, HB.out⟩
set_option maxRecDepth 100000 in
set_option maxHeartbeats 4000000 in
theorem single2_any (k : Nat) (F : Foot) (kd nd : Int) (l : List DescV) (a : Option Addr) (n cap g : Nat) (w : World) (hl : RowOf (descRd k) 3 40 F w a n cap l) (hg : w.cell? ⟨g, 1, none⟩ = some (.int .i64 nd)) :
    Calls Tryd.prog 77 #[.agg #[.int .i64 kd, .int .i64 nd, .slice a n cap], .func (.func 79) #[] #[.pointer (some ⟨g, 0, none⟩)]] w fun e w' => e = .returned (.bool (singleB nd l fun m => blueB nd m)) ∧ Below w.heap.size w w' := by
  have hgz : g < w.heap.size := World.block_lt_of_cell? w _ hg
  obtain ⟨W1, hW1⟩ : ∃ W1, W1 = w.alloc (.cells #[.int .i64 kd, .int .i64 nd, .slice a n cap] 35) := ⟨_, rfl⟩
  have hb1 : Below w.heap.size w W1 := by rw [hW1]; exact (Below.refl _ _).alloc (Nat.le_refl _) _
  have g1 : W1.heap[w.heap.size]? = some (.cells #[.int .i64 kd, .int .i64 nd, .slice a n cap] 35 (0, 0)) := by rw [hW1]; exact heap_alloc_new w _
  have hg1 : W1.cell? ⟨g, 1, none⟩ = some (.int .i64 nd) := (hb1.cell (p := ⟨g, 1, none⟩) hgz).trans hg
  have c0 := cell_at (o := 0) g1 rfl
  have c1 := cell_at (o := 1) g1 rfl
  have c2 := cell_at (o := 2) g1 rfl
  have HB := Lib.hid hb1
  have HLN := Lib.hid hl.len
  have HL := Lib.hid (hl.keep (descRd_ok _) (Fix.of_below hb1))
  have HG1 := Lib.hid hg1
  clear hl hb1 g1 hg hg1
  by_cases hn : n = 1
  · have hni : (n : Int) = 1 := by omega
    have hnb : ((n : Int) == 1) = true := by simpa using hni
    cases hh : hasB nd with
    | false =>
      have HH := Lib.hid hh
      have HS : Hid (singleB nd l (fun m => blueB nd m) = false) := Lib.hid (by unfold singleB; rw [hh]; simp)
      clear hh hn
      go_enter Tryd.func77, Tryd.ntmps77
      go_upto_region 1 with fail
      rw [← hW1]
      clear hW1
      go_wp2_with (go_at_call 36; (with_reducible refine (has_any _ _).mono ?_); rintro e w' ⟨rfl, rfl⟩; rw [HH.out])
      go_ret
      exact ⟨by rw [HS.out]; rfl, HB.out⟩
    | true =>
      have HH := Lib.hid hh
      obtain ⟨hn1, hn2⟩ := hasB_le hh
      subst hn
      obtain ⟨b, off, rfl, hbw, p0, _⟩ := row_kid HL.out (i := 0) (by omega)
      obtain ⟨m, hm⟩ : ∃ m, m = kidN l 0 := ⟨_, rfl⟩
      have HS : Hid (singleB nd l (fun m => blueB nd m) = blueB nd m) := Lib.hid (by unfold singleB; rw [hh, HLN.out, hm]; simp)
      rw [← hm] at p0
      clear hh hm
      go_enter Tryd.func77, Tryd.ntmps77
      go_upto_region 1 with fail
      rw [← hW1]
      clear hW1
      go_wp2_with (first | (go_at_call 36; (with_reducible refine (has_any _ _).mono ?_); rintro e w' ⟨rfl, rfl⟩; rw [HH.out]) | (go_at_call 79; (with_reducible refine (n2_any _ _ _ _ HG1.out hn1 hn2).mono ?_); rintro e w' ⟨rfl, rfl⟩))
      go_ret
      exact ⟨by rw [HS.out]; rfl, HB.out⟩
  · have hni : ¬ (n : Int) = 1 := by omega
    have hnb : ((n : Int) == 1) = false := by simpa using hni
    have HS : Hid (singleB nd l (fun m => blueB nd m) = false) := Lib.hid (by unfold singleB; rw [HLN.out, decide_eq_false hn]; rfl)
    clear hn
    go_enter Tryd.func77, Tryd.ntmps77
    go_upto_region 1 with fail
    rw [← hW1]
    clear hW1
    go_wp2_with fail
    go_ret
    exact ⟨by rw [HS.out]; rfl, HB.out⟩
end Go.Proofs.YtdhkndoglcnllaaDoor
/- valid.Node, kind by kind. -/
namespace Go.Proofs.YtdhkndoglcnllaaDoor
open Go.RowKit
set_option linter.unusedSimpArgs false
set_option linter.unusedVariables false
set_option maxRecDepth 100000 in
set_option maxHeartbeats 4000000 in
theorem node1 (k : Nat) (F : Foot) (nd : Int) (l : List DescV) (a : Option Addr) (n cap : Nat) (w : World) (hl : RowOf (descRd k) 3 40 F w a n cap l) :
    Calls Tryd.prog 63 #[.agg #[.int .i64 1, .int .i64 nd, .slice a n cap]] w fun e w' => e = .returned (.bool (nodeB 1 nd l)) ∧ Below w.heap.size w w' := by
  obtain ⟨W1, hW1⟩ : ∃ W1, W1 = w.alloc (.cells #[.int .i64 1, .int .i64 nd, .slice a n cap] 35) := ⟨_, rfl⟩
  have hb1 : Below w.heap.size w W1 := by rw [hW1]; exact (Below.refl _ _).alloc (Nat.le_refl _) _
  have g1 : W1.heap[w.heap.size]? = some (.cells #[.int .i64 1, .int .i64 nd, .slice a n cap] 35 (0, 0)) := by rw [hW1]; exact heap_alloc_new w _
  have hz1 : w.heap.size < W1.heap.size := by rw [hW1]; simp
  have c0 := cell_at (o := 0) g1 rfl
  have c1 : W1.cell? ⟨w.heap.size, 1, none⟩ = some (.int .i64 nd) := cell_at (o := 1) g1 rfl
  have c2 := cell_at (o := 2) g1 rfl
  have HB := Lib.hid hb1
  have HLN := Lib.hid hl.len
  have HL := Lib.hid (hl.keep (descRd_ok _) (Fix.of_below hb1))
  have HG1 := Lib.hid g1
  clear hl hb1 g1
  by_cases hn : n = 0
  · skip
    have hni : (n : Int) = 0 := by omega
    have hnb : ((n : Int) == 0) = true := by simpa using hni
    cases hh : hasB nd with
    | false =>
      have HH := Lib.hid hh
      have HS : Hid (nodeB 1 nd l = false) := Lib.hid (by simp [nodeB, HLN.out, hh])
      clear hh hn
      go_enter Tryd.func63, Tryd.ntmps63
      go_upto_region 1 with fail
      rw [← hW1]
      clear hW1
      go_wp2_with (go_at_call 36; (with_reducible refine (has_any _ _).mono ?_); rintro e w' ⟨rfl, rfl⟩; rw [HH.out])
      go_ret
      exact ⟨by rw [HS.out]; rfl, HB.out⟩
    | true =>
      have HH := Lib.hid hh
      by_cases h64 : nd ≤ 64
      · skip
        have HS : Hid (nodeB 1 nd l = true) := Lib.hid (by simp [nodeB, HLN.out, hh, h64, hn])
        clear hh hn
        go_enter Tryd.func63, Tryd.ntmps63
        go_upto_region 1 with fail
        rw [← hW1]
        clear hW1
        go_wp2_with (go_at_call 36; (with_reducible refine (has_any _ _).mono ?_); rintro e w' ⟨rfl, rfl⟩; rw [HH.out])
        go_ret
        exact ⟨by rw [HS.out]; rfl, HB.out⟩
      · skip
        have HS : Hid (nodeB 1 nd l = false) := Lib.hid (by simp [nodeB, HLN.out, hh, h64, hn])
        have h64b : decide (nd ≤ 64) = false := decide_eq_false h64
        clear hh hn
        go_enter Tryd.func63, Tryd.ntmps63
        go_upto_region 1 with fail
        rw [← hW1]
        clear hW1
        go_wp2_with (go_at_call 36; (with_reducible refine (has_any _ _).mono ?_); rintro e w' ⟨rfl, rfl⟩; rw [HH.out])
        go_ret
        exact ⟨by rw [HS.out]; rfl, HB.out⟩
  · skip
    have hni : ¬ (n : Int) = 0 := by omega
    have hnb : ((n : Int) == 0) = false := by simpa using hni
    have HS : Hid (nodeB 1 nd l = false) := Lib.hid (by simp [nodeB, HLN.out, hn])
    clear hn
    go_enter Tryd.func63, Tryd.ntmps63
    go_upto_region 1 with fail
    rw [← hW1]
    clear hW1
    go_wp2_with fail
    go_ret
    exact ⟨by rw [HS.out]; rfl, HB.out⟩
set_option maxRecDepth 100000 in
set_option maxHeartbeats 4000000 in
theorem node2 (k : Nat) (F : Foot) (nd : Int) (l : List DescV) (a : Option Addr) (n cap : Nat) (w : World) (hl : RowOf (descRd k) 3 40 F w a n cap l) :
    Calls Tryd.prog 63 #[.agg #[.int .i64 2, .int .i64 nd, .slice a n cap]] w fun e w' => e = .returned (.bool (nodeB 2 nd l)) ∧ Below w.heap.size w w' := by
  obtain ⟨W1, hW1⟩ : ∃ W1, W1 = w.alloc (.cells #[.int .i64 2, .int .i64 nd, .slice a n cap] 35) := ⟨_, rfl⟩
  have hb1 : Below w.heap.size w W1 := by rw [hW1]; exact (Below.refl _ _).alloc (Nat.le_refl _) _
  have g1 : W1.heap[w.heap.size]? = some (.cells #[.int .i64 2, .int .i64 nd, .slice a n cap] 35 (0, 0)) := by rw [hW1]; exact heap_alloc_new w _
  have hz1 : w.heap.size < W1.heap.size := by rw [hW1]; simp
  have c0 := cell_at (o := 0) g1 rfl
  have c1 : W1.cell? ⟨w.heap.size, 1, none⟩ = some (.int .i64 nd) := cell_at (o := 1) g1 rfl
  have c2 := cell_at (o := 2) g1 rfl
  have HB := Lib.hid hb1
  have HLN := Lib.hid hl.len
  have HL := Lib.hid (hl.keep (descRd_ok _) (Fix.of_below hb1))
  have HG1 := Lib.hid g1
  clear hl hb1 g1
  cases hh : smallB nd with
  | false =>
    have HH := Lib.hid hh
    have HS : Hid (nodeB 2 nd l = false) := Lib.hid (by simp [nodeB, HLN.out, hh])
    clear hh
    go_enter Tryd.func63, Tryd.ntmps63
    go_upto_region 1 with fail
    rw [← hW1]
    clear hW1
    go_wp2_with (go_at_call 72; (with_reducible refine (small_any _ _).mono ?_); rintro e w' ⟨rfl, rfl⟩; rw [HH.out])
    go_ret
    exact ⟨by rw [HS.out]; rfl, HB.out⟩
  | true =>
    have HH := Lib.hid hh
    by_cases hn : n = 0
    · skip
      have hni : (n : Int) = 0 := by omega
      have hnb : ((n : Int) == 0) = true := by simpa using hni
      by_cases h2 : 2 ≤ nd
      · skip
        have HS : Hid (nodeB 2 nd l = true) := Lib.hid (by simp [nodeB, HLN.out, hh, hn, h2])
        clear hh hn
        go_enter Tryd.func63, Tryd.ntmps63
        go_upto_region 1 with fail
        rw [← hW1]
        clear hW1
        go_wp2_with (go_at_call 72; (with_reducible refine (small_any _ _).mono ?_); rintro e w' ⟨rfl, rfl⟩; rw [HH.out])
        go_ret
        exact ⟨by rw [HS.out]; rfl, HB.out⟩
      · skip
        have HS : Hid (nodeB 2 nd l = false) := Lib.hid (by simp [nodeB, HLN.out, hh, hn, h2])
        have h2b : decide (2 ≤ nd) = false := decide_eq_false h2
        clear hh hn
        go_enter Tryd.func63, Tryd.ntmps63
        go_upto_region 1 with fail
        rw [← hW1]
        clear hW1
        go_wp2_with (go_at_call 72; (with_reducible refine (small_any _ _).mono ?_); rintro e w' ⟨rfl, rfl⟩; rw [HH.out])
        go_ret
        exact ⟨by rw [HS.out]; rfl, HB.out⟩
    · skip
      have hni : ¬ (n : Int) = 0 := by omega
      have hnb : ((n : Int) == 0) = false := by simpa using hni
      have HS : Hid (nodeB 2 nd l = false) := Lib.hid (by simp [nodeB, HLN.out, hh, hn])
      clear hh hn
      go_enter Tryd.func63, Tryd.ntmps63
      go_upto_region 1 with fail
      rw [← hW1]
      clear hW1
      go_wp2_with (go_at_call 72; (with_reducible refine (small_any _ _).mono ?_); rintro e w' ⟨rfl, rfl⟩; rw [HH.out])
      go_ret
      exact ⟨by rw [HS.out]; rfl, HB.out⟩
set_option maxRecDepth 100000 in
set_option maxHeartbeats 4000000 in
theorem node3 (k : Nat) (F : Foot) (nd : Int) (l : List DescV) (a : Option Addr) (n cap : Nat) (w : World) (hl : RowOf (descRd k) 3 40 F w a n cap l) :
    Calls Tryd.prog 63 #[.agg #[.int .i64 3, .int .i64 nd, .slice a n cap]] w fun e w' => e = .returned (.bool (nodeB 3 nd l)) ∧ Below w.heap.size w w' := by
  obtain ⟨W1, hW1⟩ : ∃ W1, W1 = w.alloc (.cells #[.int .i64 3, .int .i64 nd, .slice a n cap] 35) := ⟨_, rfl⟩
  have hb1 : Below w.heap.size w W1 := by rw [hW1]; exact (Below.refl _ _).alloc (Nat.le_refl _) _
  have g1 : W1.heap[w.heap.size]? = some (.cells #[.int .i64 3, .int .i64 nd, .slice a n cap] 35 (0, 0)) := by rw [hW1]; exact heap_alloc_new w _
  have hz1 : w.heap.size < W1.heap.size := by rw [hW1]; simp
  have c0 := cell_at (o := 0) g1 rfl
  have c1 : W1.cell? ⟨w.heap.size, 1, none⟩ = some (.int .i64 nd) := cell_at (o := 1) g1 rfl
  have c2 := cell_at (o := 2) g1 rfl
  have HB := Lib.hid hb1
  have HLN := Lib.hid hl.len
  have HL := Lib.hid (hl.keep (descRd_ok _) (Fix.of_below hb1))
  have HG1 := Lib.hid g1
  clear hl hb1 g1
  by_cases hn : n = 0
  · skip
    have hni : (n : Int) = 0 := by omega
    have hnb : ((n : Int) == 0) = true := by simpa using hni
    by_cases h2 : 2 ≤ nd
    · skip
      have HS : Hid (nodeB 3 nd l = stockB nd) := Lib.hid (by simp [nodeB, HLN.out, hn, h2])
      clear hn
      go_enter Tryd.func63, Tryd.ntmps63
      go_upto_region 1 with fail
      rw [← hW1]
      clear hW1
      go_wp2_with (go_at_call 73; (with_reducible refine (stock_any _ _).mono ?_); rintro e w' ⟨rfl, rfl⟩)
      go_ret
      exact ⟨by rw [HS.out]; rfl, HB.out⟩
    · skip
      have HS : Hid (nodeB 3 nd l = false) := Lib.hid (by simp [nodeB, HLN.out, hn, h2])
      have h2b : decide (2 ≤ nd) = false := decide_eq_false h2
      clear hn
      go_enter Tryd.func63, Tryd.ntmps63
      go_upto_region 1 with fail
      rw [← hW1]
      clear hW1
      go_wp2_with (go_at_call 73; (with_reducible refine (stock_any _ _).mono ?_); rintro e w' ⟨rfl, rfl⟩)
      go_ret
      exact ⟨by rw [HS.out]; rfl, HB.out⟩
  · skip
    have hni : ¬ (n : Int) = 0 := by omega
    have hnb : ((n : Int) == 0) = false := by simpa using hni
    have HS : Hid (nodeB 3 nd l = false) := Lib.hid (by simp [nodeB, HLN.out, hn])
    clear hn
    go_enter Tryd.func63, Tryd.ntmps63
    go_upto_region 1 with fail
    rw [← hW1]
    clear hW1
    go_wp2_with (go_at_call 73; (with_reducible refine (stock_any _ _).mono ?_); rintro e w' ⟨rfl, rfl⟩)
    go_ret
    exact ⟨by rw [HS.out]; rfl, HB.out⟩
set_option maxRecDepth 100000 in
set_option maxHeartbeats 4000000 in
theorem node4 (k : Nat) (F : Foot) (nd : Int) (l : List DescV) (a : Option Addr) (n cap : Nat) (w : World) (hl : RowOf (descRd k) 3 40 F w a n cap l) :
    Calls Tryd.prog 63 #[.agg #[.int .i64 4, .int .i64 nd, .slice a n cap]] w fun e w' => e = .returned (.bool (nodeB 4 nd l)) ∧ Below w.heap.size w w' := by
  obtain ⟨W1, hW1⟩ : ∃ W1, W1 = w.alloc (.cells #[.int .i64 4, .int .i64 nd, .slice a n cap] 35) := ⟨_, rfl⟩
  have hb1 : Below w.heap.size w W1 := by rw [hW1]; exact (Below.refl _ _).alloc (Nat.le_refl _) _
  have g1 : W1.heap[w.heap.size]? = some (.cells #[.int .i64 4, .int .i64 nd, .slice a n cap] 35 (0, 0)) := by rw [hW1]; exact heap_alloc_new w _
  have hz1 : w.heap.size < W1.heap.size := by rw [hW1]; simp
  have c0 := cell_at (o := 0) g1 rfl
  have c1 : W1.cell? ⟨w.heap.size, 1, none⟩ = some (.int .i64 nd) := cell_at (o := 1) g1 rfl
  have c2 := cell_at (o := 2) g1 rfl
  have HB := Lib.hid hb1
  have HLN := Lib.hid hl.len
  have HL := Lib.hid (hl.keep (descRd_ok _) (Fix.of_below hb1))
  have HG1 := Lib.hid g1
  clear hl hb1 g1
  have HS : Hid (nodeB 4 nd l = sidesB nd l) := Lib.hid (by simp [nodeB, HLN.out])
  go_enter Tryd.func63, Tryd.ntmps63
  go_upto_region 1 with fail
  rw [← hW1]
  clear hW1
  go_wp2_with (go_at_call 75; (with_reducible refine (sides_any k F 4 nd l a n cap _ HL.out).mono ?_); rintro e w2 ⟨rfl, hb2⟩; have HB2 := Lib.hid (HB.out.trans (hb2.mono HB.out.size)); clear hb2)
  go_ret
  exact ⟨by rw [HS.out]; rfl, HB2.out⟩
set_option maxRecDepth 100000 in
set_option maxHeartbeats 4000000 in
theorem node6 (k : Nat) (F : Foot) (nd : Int) (l : List DescV) (a : Option Addr) (n cap : Nat) (w : World) (hl : RowOf (descRd k) 3 40 F w a n cap l) :
    Calls Tryd.prog 63 #[.agg #[.int .i64 6, .int .i64 nd, .slice a n cap]] w fun e w' => e = .returned (.bool (nodeB 6 nd l)) ∧ Below w.heap.size w w' := by
  obtain ⟨W1, hW1⟩ : ∃ W1, W1 = w.alloc (.cells #[.int .i64 6, .int .i64 nd, .slice a n cap] 35) := ⟨_, rfl⟩
  have hb1 : Below w.heap.size w W1 := by rw [hW1]; exact (Below.refl _ _).alloc (Nat.le_refl _) _
  have g1 : W1.heap[w.heap.size]? = some (.cells #[.int .i64 6, .int .i64 nd, .slice a n cap] 35 (0, 0)) := by rw [hW1]; exact heap_alloc_new w _
  have hz1 : w.heap.size < W1.heap.size := by rw [hW1]; simp
  have c0 := cell_at (o := 0) g1 rfl
  have c1 : W1.cell? ⟨w.heap.size, 1, none⟩ = some (.int .i64 nd) := cell_at (o := 1) g1 rfl
  have c2 := cell_at (o := 2) g1 rfl
  have HB := Lib.hid hb1
  have HLN := Lib.hid hl.len
  have HL := Lib.hid (hl.keep (descRd_ok _) (Fix.of_below hb1))
  have HG1 := Lib.hid g1
  clear hl hb1 g1
  by_cases h3 : 3 ≤ nd
  · cases hh : primI nd with
    | false =>
      have HH := Lib.hid hh
      have HS : Hid (nodeB 6 nd l = false) := Lib.hid (by simp [nodeB, HLN.out, hh])
      clear hh
      go_enter Tryd.func63, Tryd.ntmps63
      go_upto_region 1 with fail
      rw [← hW1]
      clear hW1
      go_wp2_with (go_at_call 76; (with_reducible refine (prime_any _ _).mono ?_); rintro e w2 ⟨rfl, hb2⟩; rw [HH.out]; have HB2 := Lib.hid hb2; have c1 : w2.cell? ⟨w.heap.size, 1, none⟩ = some (.int .i64 nd) := cell_at (o := 1) ((hb2.block _ hz1).trans HG1.out) rfl; have c0 := cell_at (o := 0) ((hb2.block _ hz1).trans HG1.out) rfl; have c2 := cell_at (o := 2) ((hb2.block _ hz1).trans HG1.out) rfl; clear hb2)
      go_ret
      exact ⟨by rw [HS.out]; rfl, HB.out.trans (HB2.out.mono HB.out.size)⟩
    | true =>
      have HH := Lib.hid hh
      have HS : Hid (nodeB 6 nd l = (singleB nd l fun m => decide (m = nd - 1))) := Lib.hid (by simp [nodeB, HLN.out, hh, h3])
      clear hh
      go_enter Tryd.func63, Tryd.ntmps63
      go_upto_region 1 with fail
      rw [← hW1]
      clear hW1
      go_wp2_with (first | (go_at_call 76; (with_reducible refine (prime_any _ _).mono ?_); rintro e w2 ⟨rfl, hb2⟩; rw [HH.out]; have HB2 := Lib.hid hb2; have c1 : w2.cell? ⟨w.heap.size, 1, none⟩ = some (.int .i64 nd) := cell_at (o := 1) ((hb2.block _ hz1).trans HG1.out) rfl; have c0 := cell_at (o := 0) ((hb2.block _ hz1).trans HG1.out) rfl; have c2 := cell_at (o := 2) ((hb2.block _ hz1).trans HG1.out) rfl; clear hb2) | (go_at_call 77; (with_reducible refine (single1_any k F 6 nd l a n cap w.heap.size _ (HL.out.keep (descRd_ok _) (Fix.of_below HB2.out)) c1).mono ?_); rintro e w3 ⟨rfl, hb3⟩; have HB3 := Lib.hid (HB.out.trans ((HB2.out.trans (hb3.mono HB2.out.size)).mono HB.out.size)); clear hb3))
      go_ret
      exact ⟨by rw [HS.out]; rfl, HB3.out⟩
  · skip
    have HS : Hid (nodeB 6 nd l = false) := Lib.hid (by simp [nodeB, HLN.out, h3])
    have h3b : decide (3 ≤ nd) = false := decide_eq_false h3
    go_enter Tryd.func63, Tryd.ntmps63
    go_upto_region 1 with fail
    rw [← hW1]
    clear hW1
    go_wp2_with fail
    go_ret
    exact ⟨by rw [HS.out]; rfl, HB.out⟩
set_option maxRecDepth 100000 in
set_option maxHeartbeats 4000000 in
theorem node7 (k : Nat) (F : Foot) (nd : Int) (l : List DescV) (a : Option Addr) (n cap : Nat) (w : World) (hl : RowOf (descRd k) 3 40 F w a n cap l) :
    Calls Tryd.prog 63 #[.agg #[.int .i64 7, .int .i64 nd, .slice a n cap]] w fun e w' => e = .returned (.bool (nodeB 7 nd l)) ∧ Below w.heap.size w w' := by
  obtain ⟨W1, hW1⟩ : ∃ W1, W1 = w.alloc (.cells #[.int .i64 7, .int .i64 nd, .slice a n cap] 35) := ⟨_, rfl⟩
  have hb1 : Below w.heap.size w W1 := by rw [hW1]; exact (Below.refl _ _).alloc (Nat.le_refl _) _
  have g1 : W1.heap[w.heap.size]? = some (.cells #[.int .i64 7, .int .i64 nd, .slice a n cap] 35 (0, 0)) := by rw [hW1]; exact heap_alloc_new w _
  have hz1 : w.heap.size < W1.heap.size := by rw [hW1]; simp
  have c0 := cell_at (o := 0) g1 rfl
  have c1 : W1.cell? ⟨w.heap.size, 1, none⟩ = some (.int .i64 nd) := cell_at (o := 1) g1 rfl
  have c2 := cell_at (o := 2) g1 rfl
  have HB := Lib.hid hb1
  have HLN := Lib.hid hl.len
  have HL := Lib.hid (hl.keep (descRd_ok _) (Fix.of_below hb1))
  have HG1 := Lib.hid g1
  clear hl hb1 g1
  by_cases h2 : 2 ≤ nd
  · skip
    have HS : Hid (nodeB 7 nd l = (singleB nd l fun m => blueB nd m)) := Lib.hid (by simp [nodeB, HLN.out, h2])
    go_enter Tryd.func63, Tryd.ntmps63
    go_upto_region 1 with fail
    rw [← hW1]
    clear hW1
    go_wp2_with (go_at_call 77; (with_reducible refine (single2_any k F 7 nd l a n cap w.heap.size _ HL.out c1).mono ?_); rintro e w3 ⟨rfl, hb3⟩; have HB3 := Lib.hid (HB.out.trans (hb3.mono HB.out.size)); clear hb3)
    go_ret
    exact ⟨by rw [HS.out]; rfl, HB3.out⟩
  · skip
    have HS : Hid (nodeB 7 nd l = false) := Lib.hid (by simp [nodeB, HLN.out, h2])
    have h2b : decide (2 ≤ nd) = false := decide_eq_false h2
    go_enter Tryd.func63, Tryd.ntmps63
    go_upto_region 1 with fail
    rw [← hW1]
    clear hW1
    go_wp2_with fail
    go_ret
    exact ⟨by rw [HS.out]; rfl, HB.out⟩
set_option maxRecDepth 100000 in
set_option maxHeartbeats 4000000 in
theorem node0 (k : Nat) (F : Foot) (kd nd : Int) (l : List DescV) (a : Option Addr) (n cap : Nat) (w : World) (hl : RowOf (descRd k) 3 40 F w a n cap l) (hk : ¬ (kd = 1 ∨ kd = 2 ∨ kd = 3 ∨ kd = 4 ∨ kd = 5 ∨ kd = 6 ∨ kd = 7)) :
    Calls Tryd.prog 63 #[.agg #[.int .i64 kd, .int .i64 nd, .slice a n cap]] w fun e w' => e = .returned (.bool (nodeB kd nd l)) ∧ Below w.heap.size w w' := by
  obtain ⟨W1, hW1⟩ : ∃ W1, W1 = w.alloc (.cells #[.int .i64 kd, .int .i64 nd, .slice a n cap] 35) := ⟨_, rfl⟩
  have hb1 : Below w.heap.size w W1 := by rw [hW1]; exact (Below.refl _ _).alloc (Nat.le_refl _) _
  have g1 : W1.heap[w.heap.size]? = some (.cells #[.int .i64 kd, .int .i64 nd, .slice a n cap] 35 (0, 0)) := by rw [hW1]; exact heap_alloc_new w _
  have hz1 : w.heap.size < W1.heap.size := by rw [hW1]; simp
  have c0 := cell_at (o := 0) g1 rfl
  have c1 : W1.cell? ⟨w.heap.size, 1, none⟩ = some (.int .i64 nd) := cell_at (o := 1) g1 rfl
  have c2 := cell_at (o := 2) g1 rfl
  have HB := Lib.hid hb1
  have HLN := Lib.hid hl.len
  have HL := Lib.hid (hl.keep (descRd_ok _) (Fix.of_below hb1))
  have HG1 := Lib.hid g1
  clear hl hb1 g1
  have HS : Hid (nodeB kd nd l = false) := Lib.hid (by unfold nodeB; rw [if_neg (by omega), if_neg (by omega), if_neg (by omega), if_neg (by omega), if_neg (by omega), if_neg (by omega), if_neg (by omega)])
  have k1 : ¬ kd = 1 := by omega
  have b1 : (kd == 1) = false := by simpa using k1
  have k2 : ¬ kd = 2 := by omega
  have b2 : (kd == 2) = false := by simpa using k2
  have k3 : ¬ kd = 3 := by omega
  have b3 : (kd == 3) = false := by simpa using k3
  have k4 : ¬ kd = 4 := by omega
  have b4 : (kd == 4) = false := by simpa using k4
  have k5 : ¬ kd = 5 := by omega
  have b5 : (kd == 5) = false := by simpa using k5
  have k6 : ¬ kd = 6 := by omega
  have b6 : (kd == 6) = false := by simpa using k6
  have k7 : ¬ kd = 7 := by omega
  have b7 : (kd == 7) = false := by simpa using k7
  clear hk
  go_enter Tryd.func63, Tryd.ntmps63
  go_upto_region 1 with fail
  rw [← hW1]
  clear hW1
  go_wp2_with fail
  go_ret
  exact ⟨by rw [HS.out]; rfl, HB.out⟩
set_option maxRecDepth 100000 in
set_option maxHeartbeats 4000000 in
theorem node5 (k : Nat) (F : Foot) (nd : Int) (l : List DescV) (a : Option Addr) (n cap : Nat) (w : World) (hl : RowOf (descRd k) 3 40 F w a n cap l) :
    Calls Tryd.prog 63 #[.agg #[.int .i64 5, .int .i64 nd, .slice a n cap]] w fun e w' => e = .returned (.bool (nodeB 5 nd l)) ∧ Below w.heap.size w w' := by
  obtain ⟨W1, hW1⟩ : ∃ W1, W1 = w.alloc (.cells #[.int .i64 5, .int .i64 nd, .slice a n cap] 35) := ⟨_, rfl⟩
  have hb1 : Below w.heap.size w W1 := by rw [hW1]; exact (Below.refl _ _).alloc (Nat.le_refl _) _
  have g1 : W1.heap[w.heap.size]? = some (.cells #[.int .i64 5, .int .i64 nd, .slice a n cap] 35 (0, 0)) := by rw [hW1]; exact heap_alloc_new w _
  have hz1 : w.heap.size < W1.heap.size := by rw [hW1]; simp
  have c0 := cell_at (o := 0) g1 rfl
  have c1 : W1.cell? ⟨w.heap.size, 1, none⟩ = some (.int .i64 nd) := cell_at (o := 1) g1 rfl
  have c2 := cell_at (o := 2) g1 rfl
  have HB := Lib.hid hb1
  have HLN := Lib.hid hl.len
  have HL := Lib.hid (hl.keep (descRd_ok _) (Fix.of_below hb1))
  have HG1 := Lib.hid g1
  clear hl hb1 g1
  by_cases hn : n = 2
  · have hni : (n : Int) = 2 := by omega
    have hnb : ((n : Int) == 2) = true := by simpa using hni
    have hl2 : l.length = 2 := by rw [HLN.out]; exact hn
    subst hn
    obtain ⟨b, off, rfl, hbw, p0, wf0⟩ := row_kid HL.out (i := 0) (by omega)
    obtain ⟨b', off', he, _, p1, wf1⟩ := row_kid HL.out (i := 1) (by omega)
    cases he
    obtain ⟨x, hx⟩ : ∃ x, x = kidN l 0 := ⟨_, rfl⟩
    obtain ⟨y, hy⟩ : ∃ y, y = kidN l 1 := ⟨_, rfl⟩
    have HS0 : Hid (nodeB 5 nd l = (decide (gcdI x y = 1) && sidesB nd l)) := Lib.hid (by rw [hx, hy]; simp [nodeB, hl2])
    rw [← hx] at p0 wf0
    rw [← hy] at p1 wf1
    clear hx hy hl2
    have HSC : Hid (∀ W, Below W1.heap.size W1 W → W.cell? ⟨w.heap.size, 2, none⟩ = some (.slice (some ⟨b, off, none⟩) 2 cap) ∧ W.cell? ⟨b, off + 0 * 3 + 1, none⟩ = some (.int .i64 x) ∧ W.cell? ⟨b, off + 1 * 3 + 1, none⟩ = some (.int .i64 y)) := Lib.hid fun W hb => by
      have e : ∀ g o, g < W1.heap.size → W.cell? ⟨g, o, none⟩ = W1.cell? ⟨g, o, none⟩ := fun g o h => hb.cell (p := ⟨g, o, none⟩) h
      rw [e _ _ hz1, e _ _ hbw, e _ _ hbw]
      exact ⟨c2, p0, p1⟩
    have hbz := Below.refl W1.heap.size W1
    have HC0 : Hid (∀ W, Below W1.heap.size W1 W → W.heap[w.heap.size]? = some (.cells #[.int .i64 5, .int .i64 nd, .slice (some ⟨b, off, none⟩) 2 cap] 35 (0, 0))) := Lib.hid fun W hb => (hb.block _ hz1).trans HG1.out
    simp only [Nat.zero_mul, Nat.add_zero, Nat.one_mul] at HSC p0 p1
    by_cases hg : gcdI x y = 1
    · have HS : Hid (nodeB 5 nd l = sidesB nd l) := Lib.hid (by rw [HS0.out, decide_eq_true hg]; rfl)
      have hgb : (gcdI x y == 1) = true := by simpa using hg
      clear hg hni hnb
      go_enter Tryd.func63, Tryd.ntmps63
      go_upto_region 1 with fail
      rw [← hW1]
      clear hW1
      go_upto_region 13 with fail
      go_region_held3 (fun W => W.cell? ⟨w.heap.size, 2, none⟩ = some (.slice (some ⟨b, off, none⟩) 2 cap) ∧ W.cell? ⟨b, off + 1, none⟩ = some (.int .i64 x) ∧ W.cell? ⟨b, off + 3 + 1, none⟩ = some (.int .i64 y)) ((refine HSC.out _ ?_; ((repeat' (first | with_reducible assumption | with_reducible refine Below.drew ?_ | (with_reducible refine Below.alloc ?_ ?_ _))) <;> first | assumption | (simp; done) | (simp; omega))))
        ((go_at_call 74; (with_reducible refine (gcd_any _ _ _ wf0 wf1).mono ?_); rintro e w2 ⟨rfl, hb2⟩; have hb2z : Below W1.heap.size W1 w2 := Below.trans (show Below W1.heap.size W1 _ by ((repeat' (first | with_reducible assumption | with_reducible refine Below.drew ?_ | (with_reducible refine Below.alloc ?_ ?_ _))) <;> first | assumption | (simp; done) | (simp; omega))) (hb2.mono (Below.size (show Below W1.heap.size W1 _ by ((repeat' (first | with_reducible assumption | with_reducible refine Below.drew ?_ | (with_reducible refine Below.alloc ?_ ?_ _))) <;> first | assumption | (simp; done) | (simp; omega))))); clear hb2))
      all_goals
        have HB2 : Hid (Below W1.heap.size W1 w2) := Lib.hid (by assumption)
        have g2 := HC0.out w2 HB2.out
        have c0 := cell_at (o := 0) g2 rfl
        have c1 := cell_at (o := 1) g2 rfl
        have c2 := cell_at (o := 2) g2 rfl
        clear g2
        go_wp2_with (go_at_call 75; (with_reducible refine (sides_any k F 5 nd l _ 2 cap _ (HL.out.keep (descRd_ok _) (Fix.of_below HB2.out))).mono ?_); rintro e w3 ⟨rfl, hb3⟩; have HB3 := Lib.hid (HB.out.trans ((HB2.out.trans (hb3.mono HB2.out.size)).mono HB.out.size)); clear hb3)
        go_ret
        exact ⟨by rw [HS.out]; rfl, HB3.out⟩
    · have HS : Hid (nodeB 5 nd l = false) := Lib.hid (by rw [HS0.out, decide_eq_false hg]; rfl)
      have hgb : (gcdI x y == 1) = false := by simpa using hg
      clear hg hni hnb
      go_enter Tryd.func63, Tryd.ntmps63
      go_upto_region 1 with fail
      rw [← hW1]
      clear hW1
      go_upto_region 13 with fail
      go_region_held3 (fun W => W.cell? ⟨w.heap.size, 2, none⟩ = some (.slice (some ⟨b, off, none⟩) 2 cap) ∧ W.cell? ⟨b, off + 1, none⟩ = some (.int .i64 x) ∧ W.cell? ⟨b, off + 3 + 1, none⟩ = some (.int .i64 y)) ((refine HSC.out _ ?_; ((repeat' (first | with_reducible assumption | with_reducible refine Below.drew ?_ | (with_reducible refine Below.alloc ?_ ?_ _))) <;> first | assumption | (simp; done) | (simp; omega))))
        ((go_at_call 74; (with_reducible refine (gcd_any _ _ _ wf0 wf1).mono ?_); rintro e w2 ⟨rfl, hb2⟩; have hb2z : Below W1.heap.size W1 w2 := Below.trans (show Below W1.heap.size W1 _ by ((repeat' (first | with_reducible assumption | with_reducible refine Below.drew ?_ | (with_reducible refine Below.alloc ?_ ?_ _))) <;> first | assumption | (simp; done) | (simp; omega))) (hb2.mono (Below.size (show Below W1.heap.size W1 _ by ((repeat' (first | with_reducible assumption | with_reducible refine Below.drew ?_ | (with_reducible refine Below.alloc ?_ ?_ _))) <;> first | assumption | (simp; done) | (simp; omega))))); clear hb2))
      all_goals
        have HB2 : Hid (Below W1.heap.size W1 w2) := Lib.hid (by assumption)
        have g2 := HC0.out w2 HB2.out
        have c0 := cell_at (o := 0) g2 rfl
        have c1 := cell_at (o := 1) g2 rfl
        have c2 := cell_at (o := 2) g2 rfl
        clear g2
        go_wp2_with fail
        go_ret
        exact ⟨by rw [HS.out]; rfl, HB.out.trans (HB2.out.mono HB.out.size)⟩
  · have hni : ¬ (n : Int) = 2 := by omega
    have hnb : ((n : Int) == 2) = false := by simpa using hni
    have HS : Hid (nodeB 5 nd l = false) := Lib.hid (by simp [nodeB, HLN.out, hn])
    clear hn
    go_enter Tryd.func63, Tryd.ntmps63
    go_upto_region 1 with fail
    rw [← hW1]
    clear hW1
    go_upto_region 13 with fail
    go_quiet (fail)
    go_wp2_with fail
    go_ret
    exact ⟨by rw [HS.out]; rfl, by first | exact HB.out.drew | exact below_drewN HB.out _⟩
theorem node_any (k : Nat) (F : Foot) (kd nd : Int) (l : List DescV) (a : Option Addr) (n cap : Nat) (w : World) (hl : RowOf (descRd k) 3 40 F w a n cap l) :
    Calls Tryd.prog 63 #[.agg #[.int .i64 kd, .int .i64 nd, .slice a n cap]] w fun e w' => e = .returned (.bool (nodeB kd nd l)) ∧ Below w.heap.size w w' := by
  by_cases h : kd = 1 ∨ kd = 2 ∨ kd = 3 ∨ kd = 4 ∨ kd = 5 ∨ kd = 6 ∨ kd = 7
  · rcases h with rfl | rfl | rfl | rfl | rfl | rfl | rfl
    · exact node1 k F nd l a n cap w hl
    · exact node2 k F nd l a n cap w hl
    · exact node3 k F nd l a n cap w hl
    · exact node4 k F nd l a n cap w hl
    · exact node5 k F nd l a n cap w hl
    · exact node6 k F nd l a n cap w hl
    · exact node7 k F nd l a n cap w hl
  · exact node0 k F kd nd l a n cap w hl h
end Go.Proofs.YtdhkndoglcnllaaDoor
/- valid.wrong: is any node of a tree not right? -/
namespace Go.Proofs.YtdhkndoglcnllaaDoor
open Go.RowKit
set_option linter.unusedSimpArgs false
set_option linter.unusedVariables false
namespace DescV
mutual
def rightD : DescV → Bool | .mk k n l => nodeB k n l && rightL l
def rightL : List DescV → Bool | [] => true | d :: l => d.rightD && rightL l
end
theorem rightL_all (l : List DescV) : rightL l = l.all rightD := by
  induction l with
  | nil => rfl
  | cons d l ih => rw [rightL, ih]; rfl
end DescV
section
variable {P : Program} {ops : Array Oper} {S : World → Prop}
theorem yieldsIf_slice_hm {op : Oper} {a : Act} (hw : Region.wanted op (yielded ops a.tmps) = true) (t : TypeId) (x h m : Operand) (ho : op.op = .slice t x none (some h) (some m)) (ht : P.underlying t = some (.slice (P.elem t)))
    {ad : Option Addr} {n cap : Nat} (hx : a.eval x = .slice ad n cap) (hh : a.eval h = .int .i64 (n : Int)) (hm : a.eval m = .int .i64 (n : Int)) (hk : n ≤ cap) {s : Nat} (hsz : ∀ w, (sizeOf (P.elem t)).run P w = .ok s w) : YieldsIf P ops S op (.slice ad n n) a :=
  .inl ⟨hw, fun w _ => by
    have hr := run_slice_hm (w := w) (P := P) t ad n cap ht .i64 .i64 (n : Int) (n : Int) (by omega) (by omega) (by omega)
    have e : sliced ad 0 (n : Int).toNat (n : Int).toNat s = .slice ad n n := by
      unfold sliced
      rw [Int.toNat_natCast, Nat.sub_zero]
      split
      · rfl
      · cases ad <;> simp [Addr.add]
    unfold execOp
    simp only [ho, Option.map_some, Option.map_none, hx, hh, hm, Sem.run_bind, Sem.run_pure, run_sliceAt_slice (h := ht), hr, Result.andThen_ok, hsz, e]⟩
end
/-- A row of integers somewhere: a path. -/
def IsPath (w : World) (ao : Option Addr) (n cap : Nat) : Prop := ∃ xs, w.ownsRow 0 3 1 (.slice ao n cap) n xs
theorem IsPath.below {w w' : World} {ao : Option Addr} {n cap : Nat} (h : IsPath w ao n cap) (hb : Below w.heap.size w w') : IsPath w' ao n cap := by
  obtain ⟨xs, h⟩ := h
  exact ⟨xs, own_below h hb⟩
theorem IsPath.le {w : World} {ao : Option Addr} {n cap : Nat} (h : IsPath w ao n cap) : n ≤ cap := by
  obtain ⟨xs, _, ⟨hv, h0⟩ | ⟨g, cap', cur, hv, _, _, hle, _⟩⟩ := h
  · cases hv; omega
  · cases hv; exact hle
def WrongPost (b : Bool) (w : World) (e : Ending) (w' : World) : Prop := ∃ ao n c, e = .returned (.tuple #[.slice ao n c, .bool (!b)]) ∧ Below w.heap.size w w'
set_option maxRecDepth 100000 in
set_option maxHeartbeats 4000000 in
theorem wrong_step (k : Nat) (ih : ∀ j, k = j + 1 → ∀ (F : Foot) (kd nd : Int) (l : List DescV) (a : Option Addr) (n cap : Nat) (po : Option Addr) (pn pc : Nat) (w : World), RowOf (descRd j) 3 40 F w a n cap l → IsPath w po pn pc → pn + j ≤ 1048576 →
    Calls Tryd.prog 54 #[.agg #[.int .i64 kd, .int .i64 nd, .slice a n cap], .slice po pn pc] w (WrongPost (DescV.mk kd nd l).rightD w)) (F : Foot) (kd nd : Int) (l : List DescV) (a : Option Addr) (n cap : Nat) (po : Option Addr) (pn pc : Nat) (w : World)
    (hl : RowOf (descRd k) 3 40 F w a n cap l) (hp : IsPath w po pn pc) (hpk : pn + k ≤ 1048576) :
    Calls Tryd.prog 54 #[.agg #[.int .i64 kd, .int .i64 nd, .slice a n cap], .slice po pn pc] w (WrongPost (DescV.mk kd nd l).rightD w) := by
  obtain ⟨W1, hW1⟩ : ∃ W1, W1 = w.alloc (.cells #[.int .i64 kd, .int .i64 nd, .slice a n cap] 35) := ⟨_, rfl⟩
  have hb1 : Below w.heap.size w W1 := by rw [hW1]; exact (Below.refl _ _).alloc (Nat.le_refl _) _
  have g1 : W1.heap[w.heap.size]? = some (.cells #[.int .i64 kd, .int .i64 nd, .slice a n cap] 35 (0, 0)) := by rw [hW1]; exact heap_alloc_new w _
  have hz1 : w.heap.size < W1.heap.size := by rw [hW1]; simp
  have c0 : W1.cell? ⟨w.heap.size, 0, none⟩ = some (.int .i64 kd) := cell_at (o := 0) g1 rfl
  have c1 : W1.cell? ⟨w.heap.size, 1, none⟩ = some (.int .i64 nd) := cell_at (o := 1) g1 rfl
  have c2 : W1.cell? ⟨w.heap.size, 2, none⟩ = some (.slice a n cap) := cell_at (o := 2) g1 rfl
  have HB := Lib.hid hb1
  have HG1 := Lib.hid g1
  have HLN := Lib.hid hl.len
  have HRM := Lib.hid hl.room
  have HL := Lib.hid (hl.keep (descRd_ok _) (Fix.of_below hb1))
  have HP := Lib.hid (hp.below hb1)
  have HPL := Lib.hid hp.le
  have HIH := Lib.hid ih
  clear hl hb1 g1 hp ih
  cases hn : nodeB kd nd l with
  | false =>
    have HN := Lib.hid hn
    have HR : Hid ((DescV.mk kd nd l).rightD = false) := Lib.hid (by rw [DescV.rightD, hn]; rfl)
    clear hn
    go_enter Tryd.func54, Tryd.ntmps54
    go_upto_region 1 with fail
    rw [← hW1]
    clear hW1
    go_wp2_with (go_at_call 63; (with_reducible refine (node_any k F kd nd l a n cap _ HL.out).mono ?_); rintro e w2 ⟨rfl, hb2⟩; rw [HN.out]; have HB2 := Lib.hid (HB.out.trans (hb2.mono HB.out.size)); clear hb2)
    go_ret2
    exact ⟨_, _, _, by rw [HR.out]; rfl, HB2.out⟩
  | true =>
    have HN := Lib.hid hn
    have HR : Hid ((DescV.mk kd nd l).rightD = l.all DescV.rightD) := Lib.hid (by rw [DescV.rightD, hn, ← DescV.rightL_all]; rfl)
    clear hn
    go_enter Tryd.func54, Tryd.ntmps54
    go_upto_region 1 with fail
    rw [← hW1]
    clear hW1
    go_upto_region 3 with (go_at_call 63; (with_reducible refine (node_any k F kd nd l a n cap _ HL.out).mono ?_); rintro e w2 ⟨rfl, hb2⟩; rw [HN.out]; have HB2 := Lib.hid hb2; have c2' : w2.cell? ⟨w.heap.size, 2, none⟩ = some (.slice a n cap) := cell_at (o := 2) ((hb2.block _ hz1).trans HG1.out) rfl; clear hb2)
    have HBW := Lib.hid (HB.out.trans (HB2.out.mono HB.out.size))
    have HL2 := Lib.hid (HL.out.keep (descRd_ok _) (Fix.of_below HB2.out))
    have HP2 := Lib.hid (HP.out.below HB2.out)
    clear c0 c1 c2
    obtain ⟨W2, rfl⟩ : ∃ W : World, W = w2 := ⟨_, rfl⟩
    go_wp2_with fail
    clear c2'
    go_loopg [17] n (fun g iv wr => ∃ i : Nat, i ≤ n ∧ g = n - i ∧ iv = .int .i64 i ∧ (l.take i).all DescV.rightD = true ∧ Below W2.heap.size W2 wr)
    case atStart => exact ⟨0, by omega, rfl, rfl, rfl, Below.refl _ _⟩
    case round =>
      obtain ⟨i, hi, rfl, rfl, hall, hB⟩ := hrel
      obtain ⟨wo, rfl⟩ : ∃ wo : World, wo = wr := ⟨_, rfl⟩
      have HALL := Lib.hid hall
      have HBo := Lib.hid hB
      clear hall hB
      have hnn : n ≤ 3518437208880 := by have := HRM.out; omega
      by_cases hlt : i < n
      · have hlti : (i : Int) < (n : Int) := by omega
        have hil : i < l.length := by rw [HLN.out]; exact hlt
        obtain ⟨j, rfl⟩ : ∃ j, k = j + 1 := by
          cases k with
          | zero => exact absurd (row_no_zero HL.out) (fun e => by have := HLN.out; rw [e] at this; simp at this; omega)
          | succ j => exact ⟨j, rfl⟩
        obtain ⟨b, off, da, dm, dc, rfl, hbw, _, _, _, hk, p0, p1, p2⟩ := (HL2.out.keep (descRd_ok _) (Fix.of_below HBo.out)).desc i hil
        have HTK := Lib.hid (List.take_succ_eq_append_getElem hil)
        have HGET := Lib.hid (List.getElem_mem hil)
        generalize l[i]'hil = d at *
        obtain ⟨dk, dn, dl⟩ := d
        simp only [DescV.kind, DescV.n, DescV.kids] at p0 p1 p2 hk
        have HK := Lib.hid hk
        clear hk
        go_upto_region 6 with fail
        obtain ⟨W4, hW4⟩ : ∃ W4, W4 = wo.alloc (.cells #[.int .i64 dk, .int .i64 dn, .slice da dm dc] 35) := ⟨_, rfl⟩
        have hb4 : Below wo.heap.size wo W4 := by rw [hW4]; exact (Below.refl _ _).alloc (Nat.le_refl _) _
        have g4 : W4.heap[wo.heap.size]? = some (.cells #[.int .i64 dk, .int .i64 dn, .slice da dm dc] 35 (0, 0)) := by rw [hW4]; exact heap_alloc_new wo _
        have hz4 : W4.heap.size = wo.heap.size + 1 := by rw [hW4]; simp
        have HB4 := Lib.hid hb4
        have HSS : Hid (∀ W, Below W4.heap.size W4 W → W.cell? ⟨wo.heap.size, 0, none⟩ = some (.int .i64 dk) ∧ W.cell? ⟨wo.heap.size, 1, none⟩ = some (.int .i64 dn) ∧ W.cell? ⟨wo.heap.size, 2, none⟩ = some (.slice da dm dc)) := Lib.hid fun W hb => by
          have g := (hb.block _ (by omega)).trans g4
          exact ⟨cell_at g rfl, cell_at g rfl, cell_at g rfl⟩
        rw [← hW4]
        clear hW4 p0 p1 p2
        have hwd : Below W4.heap.size W4 W4.drew := (Below.refl _ _).drew
        refine Lex.wp_region_z (fun W => W.cell? ⟨wo.heap.size, 0, none⟩ = some (.int .i64 dk) ∧ W.cell? ⟨wo.heap.size, 1, none⟩ = some (.int .i64 dn) ∧ W.cell? ⟨wo.heap.size, 2, none⟩ = some (.slice da dm dc)) 15 (by kernel_rfl) ?_
        change Lex.wpZ _ _ _ _ _ _ 16 #[false, false, false, false, false, false, false, false, false, false, false, false, false, false, false, false] _ W4.drew
        generalize W4.drew = wd at *
        have HWD := Lib.hid hwd
        have HT0 := Lib.hid (HSS.out wd hwd)
        have HBD : Hid (Below wo.heap.size wo wd) := Lib.hid (HB4.out.trans (hwd.mono HB4.out.size))
        have HPD : Hid (IsPath wd po pn pc) := Lib.hid ((HP2.out.below HBo.out).below HBD.out)
        clear hwd
        (refine Lex.wpZ_take (i := 0) (v := ?_) rfl (by kernel_rfl) (by kernel_rfl) (by kernel_rfl) (by kernel_rfl) (fun _ _ _ h => h) HT0.out (Or.inl ⟨by rfl, ?_⟩) ?_; rotate_left 1; (focus (intro w0 hw0; (try dsimp only at hw0); obtain ⟨s0, s1, s2⟩ := hw0; go_simp; try with_reducible rfl)); simp only [Act.put, List.getElem_toArray, List.getElem_cons_zero, List.getElem_cons_succ, List.setIfInBounds_toArray, List.set_cons_zero, List.set_cons_succ])
        (refine Lex.wpZ_take (i := 1) (v := ?_) rfl (by kernel_rfl) (by kernel_rfl) (by kernel_rfl) (by kernel_rfl) (fun _ _ _ h => h) HT0.out (Or.inl ⟨by rfl, ?_⟩) ?_; rotate_left 1; (focus (intro w0 hw0; (try dsimp only at hw0); obtain ⟨s0, s1, s2⟩ := hw0; go_simp; try with_reducible rfl)); simp only [Act.put, List.getElem_toArray, List.getElem_cons_zero, List.getElem_cons_succ, List.setIfInBounds_toArray, List.set_cons_zero, List.set_cons_succ])
        (refine Lex.wpZ_take (i := 2) (v := ?_) rfl (by kernel_rfl) (by kernel_rfl) (by kernel_rfl) (by kernel_rfl) (fun _ _ _ h => h) HT0.out (Or.inl ⟨by rfl, ?_⟩) ?_; rotate_left 1; (focus (intro w0 hw0; (try dsimp only at hw0); obtain ⟨s0, s1, s2⟩ := hw0; go_simp; try with_reducible rfl)); simp only [Act.put, List.getElem_toArray, List.getElem_cons_zero, List.getElem_cons_succ, List.setIfInBounds_toArray, List.set_cons_zero, List.set_cons_succ])
        (refine Lex.wpZ_take (i := 3) (v := ?_) rfl (by kernel_rfl) (by kernel_rfl) (by kernel_rfl) (by kernel_rfl) (fun _ _ _ h => h) HT0.out (Or.inl ⟨by rfl, ?_⟩) ?_; rotate_left 1; (focus (intro w0 hw0; (try dsimp only at hw0); obtain ⟨s0, s1, s2⟩ := hw0; go_simp; try with_reducible rfl)); simp only [Act.put, List.getElem_toArray, List.getElem_cons_zero, List.getElem_cons_succ, List.setIfInBounds_toArray, List.set_cons_zero, List.set_cons_succ])
        (refine Lex.wpZ_take (i := 4) (v := ?_) rfl (by kernel_rfl) (by kernel_rfl) (by kernel_rfl) (by kernel_rfl) (fun _ _ _ h => h) HT0.out (Or.inl ⟨by rfl, ?_⟩) ?_; rotate_left 1; (focus (intro w0 hw0; (try dsimp only at hw0); obtain ⟨s0, s1, s2⟩ := hw0; go_simp; try with_reducible rfl)); simp only [Act.put, List.getElem_toArray, List.getElem_cons_zero, List.getElem_cons_succ, List.setIfInBounds_toArray, List.set_cons_zero, List.set_cons_succ])
        (refine Lex.wpZ_take (i := 5) (v := ?_) rfl (by kernel_rfl) (by kernel_rfl) (by kernel_rfl) (by kernel_rfl) (fun _ _ _ h => h) HT0.out (Or.inl ⟨by rfl, ?_⟩) ?_; rotate_left 1; (focus (intro w0 hw0; (try dsimp only at hw0); obtain ⟨s0, s1, s2⟩ := hw0; go_simp; try with_reducible rfl)); simp only [Act.put, List.getElem_toArray, List.getElem_cons_zero, List.getElem_cons_succ, List.setIfInBounds_toArray, List.set_cons_zero, List.set_cons_succ])
        refine Lex.wpZ_take (i := 6) (v := .slice po pn pn) rfl (by kernel_rfl) (by kernel_rfl) (by kernel_rfl) (by kernel_rfl) (fun _ _ _ h => h) HT0.out (yieldsIf_slice_hm rfl 57 _ _ _ rfl Tryd.underlying57 rfl rfl rfl HPL.out (s := 1) (fun w => by kernel_rfl)) ?_
        simp only [Act.put, List.getElem_toArray, List.getElem_cons_zero, List.getElem_cons_succ, List.setIfInBounds_toArray, List.set_cons_zero, List.set_cons_succ]
        (refine Lex.wpZ_take (i := 7) (v := ?_) rfl (by kernel_rfl) (by kernel_rfl) (by kernel_rfl) (by kernel_rfl) (fun _ _ _ h => h) HT0.out (Or.inl ⟨by rfl, ?_⟩) ?_; rotate_left 1; (focus (intro w0 hw0; (try dsimp only at hw0); obtain ⟨s0, s1, s2⟩ := hw0; go_simp; try with_reducible rfl)); simp only [Act.put, List.getElem_toArray, List.getElem_cons_zero, List.getElem_cons_succ, List.setIfInBounds_toArray, List.set_cons_zero, List.set_cons_succ])
        refine Lex.wpZ_ready (rs := [8]) (by kernel_rfl) (by simp) ?_
        refine Lex.ReadyZ.cons rfl (fun K hK => ?_) Lex.ReadyZ.nil
        go_simp
        obtain ⟨w5, hw5⟩ : ∃ w5, w5 = wd.alloc (.cells #[.int .i64 (i : Int)] 3) := ⟨_, rfl⟩
        have hb5 : Below wd.heap.size wd w5 := by rw [hw5]; exact (Below.refl _ _).alloc (Nat.le_refl _) _
        have g5 : w5.heap[wd.heap.size]? = some (.cells #[.int .i64 (i : Int)] 3 (0, 0)) := by rw [hw5]; exact heap_alloc_new wd _
        rw [← hw5]
        have HB5 := Lib.hid (HBD.out.trans (hb5.mono HBD.out.size))
        have HT5 := Lib.hid (HSS.out w5 (HWD.out.trans (hb5.mono HWD.out.size)))
        have HP5 := Lib.hid (HPD.out.below hb5)
        have HW5 := Lib.hid (HWD.out.trans (hb5.mono HWD.out.size))
        refine hK.out _ _ (.inr HT5.out) ?_
        clear hK K hw5
        try simp only [Act.put, List.getElem_toArray, List.getElem_cons_zero, List.getElem_cons_succ, List.setIfInBounds_toArray, List.set_cons_zero, List.set_cons_succ]
        refine Lex.wpZ_ready (rs := [9]) (by kernel_rfl) (by simp) ?_
        refine Lex.ReadyZ.cons rfl (fun K hK => ?_) Lex.ReadyZ.nil
        obtain ⟨ys, hown⟩ := HP5.out
        obtain ⟨ii, hi1, hi2, hi3, hi4⟩ : ∃ ii, Tryd.prog.info? 3 = some ii ∧ ii.zero = some (.int .i64 0) ∧ ii.size = 1 ∧ ii.bytes = 8 := info_parts (show (Tryd.prog.info? 3).map (fun i => (i.zero, i.size, i.bytes)) = some (some (.int .i64 0), 1, 8) by kernel_rfl)
        refine step_append_grows rfl _ _ 57 rfl 3 ii _ 1 8 Tryd.underlying57 hi1 hi2 hi3 hi4 rfl (by omega) po pn pn ys rfl (fun h => ?_) hown.1 (fun bb hbb j' u hu => ?_) ⟨wd.heap.size, 0, none⟩ 1 1 [.int .i64 (i : Int)] rfl rfl (fun j' u hu => ?_) (by simp [Value.oneCell']) (by omega) (by unfold maxLen; omega) (by omega) ?_
        · subst h
          rcases hown.2 with ⟨hv, h0⟩ | ⟨g, _, _, hv, _⟩
          · exact ⟨h0, h0⟩
          · cases hv
        · subst hbb
          rcases hown.2 with ⟨hv, h0⟩ | ⟨g, _, _, hv, _⟩
          · cases hv
          · cases hv
            exact hown.cells (g := g) rfl j' u hu
        · rw [Addr.add_lit, Nat.zero_add]
          exact cell_at g5 (by simpa using hu)
        intro v6 w6 ho6 hg6
        have hb6 : Below w5.heap.size w5 w6 := (Below.refl _ _).grown hg6 (Nat.le_refl _) (fun k h => by cases h)
        have HB6 := Lib.hid (HB5.out.trans (hb6.mono HB5.out.size))
        have HT6 := Lib.hid (HSS.out w6 (HW5.out.trans (hb6.mono HW5.out.size)))
        have HW6 := Lib.hid (HW5.out.trans (hb6.mono HW5.out.size))
        obtain ⟨a6, c6, rfl⟩ := own_val ho6
        have HP6 : Hid (IsPath w6 a6 (pn + 1) c6) := Lib.hid ⟨_, own_down ho6 (Nat.zero_le _)⟩
        have HCC := Lib.hid (HIH.out j rfl F dk dn dl da dm dc a6 (pn + 1) c6 w6 (HK.out.keep (descRd_ok _) (Fix.of_below HB6.out)) HP6.out (by omega))
        refine hK.out _ _ (.inr HT6.out) ?_
        clear hK K hown hi1 hi2 hi3 hi4 ho6 hg6 hb6 g5 hb5
        try simp only [Act.put, List.getElem_toArray, List.getElem_cons_zero, List.getElem_cons_succ, List.setIfInBounds_toArray, List.set_cons_zero, List.set_cons_succ]
        refine Lex.wpZ_ready (rs := [10]) (by kernel_rfl) (by simp) ?_
        refine Lex.ReadyZ.cons rfl (fun K hK => ?_) Lex.ReadyZ.nil
        go_simp
        refine HCC.out.mono ?_
        rintro e w7 ⟨a7, n7, c7, rfl, hb7⟩
        have HT7 := Lib.hid (HSS.out w7 (HW6.out.trans (hb7.mono HW6.out.size)))
        have HB7 := Lib.hid (HBo.out.trans ((HB6.out.trans (hb7.mono HB6.out.size)).mono HBo.out.size))
        refine hK.out _ _ (.inr HT7.out) ?_
        clear hK K hb7
        try simp only [Act.put, List.getElem_toArray, List.getElem_cons_zero, List.getElem_cons_succ, List.setIfInBounds_toArray, List.set_cons_zero, List.set_cons_succ]
        (refine Lex.wpZ_take (i := 11) (v := ?_) rfl (by kernel_rfl) (by kernel_rfl) (by kernel_rfl) (by kernel_rfl) (fun _ _ _ h => h) HT7.out (Or.inl ⟨by rfl, ?_⟩) ?_; rotate_left 1; (focus (intro w0 hw0; (try dsimp only at hw0); obtain ⟨s0, s1, s2⟩ := hw0; go_simp; try with_reducible rfl)); simp only [Act.put, List.getElem_toArray, List.getElem_cons_zero, List.getElem_cons_succ, List.setIfInBounds_toArray, List.set_cons_zero, List.set_cons_succ])
        (refine Lex.wpZ_take (i := 12) (v := ?_) rfl (by kernel_rfl) (by kernel_rfl) (by kernel_rfl) (by kernel_rfl) (fun _ _ _ h => h) HT7.out (Or.inl ⟨by rfl, ?_⟩) ?_; rotate_left 1; (focus (intro w0 hw0; (try dsimp only at hw0); obtain ⟨s0, s1, s2⟩ := hw0; go_simp; try with_reducible rfl)); simp only [Act.put, List.getElem_toArray, List.getElem_cons_zero, List.getElem_cons_succ, List.setIfInBounds_toArray, List.set_cons_zero, List.set_cons_succ])
        (refine Lex.wpZ_take (i := 13) (v := ?_) rfl (by kernel_rfl) (by kernel_rfl) (by kernel_rfl) (by kernel_rfl) (fun _ _ _ h => h) HT7.out (Or.inl ⟨by rfl, ?_⟩) ?_; rotate_left 1; (focus (intro w0 hw0; (try dsimp only at hw0); obtain ⟨s0, s1, s2⟩ := hw0; go_simp; try with_reducible rfl)); simp only [Act.put, List.getElem_toArray, List.getElem_cons_zero, List.getElem_cons_succ, List.setIfInBounds_toArray, List.set_cons_zero, List.set_cons_succ])
        (refine Lex.wpZ_take (i := 14) (v := ?_) rfl (by kernel_rfl) (by kernel_rfl) (by kernel_rfl) (by kernel_rfl) (fun _ _ _ h => h) HT7.out (Or.inl ⟨by rfl, ?_⟩) ?_; rotate_left 1; (focus (intro w0 hw0; (try dsimp only at hw0); obtain ⟨s0, s1, s2⟩ := hw0; go_simp; try with_reducible rfl)); simp only [Act.put, List.getElem_toArray, List.getElem_cons_zero, List.getElem_cons_succ, List.setIfInBounds_toArray, List.set_cons_zero, List.set_cons_succ])
        refine Lex.wpZ_ready (rs := [15]) (by kernel_rfl) (by simp) ?_
        refine Lex.ReadyZ.cons rfl (fun K hK => ?_) Lex.ReadyZ.nil
        go_simp
        refine hK.out _ _ (.inl rfl) ?_
        clear hK K
        try simp only [Act.put, List.getElem_toArray, List.getElem_cons_zero, List.getElem_cons_succ, List.setIfInBounds_toArray, List.set_cons_zero, List.set_cons_succ]
        refine Lex.wpZ_done (by kernel_rfl) ?_ _
        obtain ⟨t, ht⟩ : ∃ t, t = (DescV.mk dk dn dl).rightD := ⟨_, rfl⟩
        have HT := Lib.hid ht
        rw [← ht]
        clear ht
        cases t with
        | false =>
          have HF : Hid (l.all DescV.rightD = false) := Lib.hid (by
            cases h : l.all DescV.rightD with
            | false => rfl
            | true =>
              have := List.all_eq_true.1 h _ HGET.out
              rw [← HT.out] at this
              cases this)
          go_wp2_with fail
          go_ret2
          exact ⟨_, _, _, by rw [HR.out, HF.out]; rfl, HBW.out.trans (HB7.out.mono HBW.out.size)⟩
        | true =>
          go_wp2_with fail
          go_roundg (n - (i + 1))
          case measure => omega
          case rel => exact ⟨i + 1, by omega, rfl, by go_num, by rw [HTK.out, List.all_append, HALL.out]; simp [← HT.out], HB7.out⟩
      · obtain rfl : i = n := by omega
        have hlti : ¬ (i : Int) < (i : Int) := by omega
        have HA2 : Hid (l.all DescV.rightD = true) := Lib.hid (by have h := HALL.out; rw [List.take_of_length_le (by rw [HLN.out]; omega)] at h; exact h)
        go_wp2_with fail
        go_ret2
        exact ⟨_, _, _, by rw [HR.out, HA2.out]; rfl, HBW.out.trans (HBo.out.mono HBW.out.size)⟩
theorem wrong_any : ∀ (k : Nat) (F : Foot) (kd nd : Int) (l : List DescV) (a : Option Addr) (n cap : Nat) (po : Option Addr) (pn pc : Nat) (w : World), RowOf (descRd k) 3 40 F w a n cap l → IsPath w po pn pc → pn + k ≤ 1048576 →
    Calls Tryd.prog 54 #[.agg #[.int .i64 kd, .int .i64 nd, .slice a n cap], .slice po pn pc] w (WrongPost (DescV.mk kd nd l).rightD w)
  | 0 => wrong_step 0 fun j h => by omega
  | k + 1 => wrong_step (k + 1) fun j h => by
    obtain rfl : k = j := by omega
    exact wrong_any k
set_option maxRecDepth 100000 in
set_option maxHeartbeats 1000000 in
theorem wrongW_any (k : Nat) (F : Foot) (kd nd : Int) (l : List DescV) (a : Option Addr) (n cap : Nat) (w : World) (hl : RowOf (descRd k) 3 40 F w a n cap l) (hk : k ≤ 1048576) :
    Calls Tryd.prog 47 #[.agg #[.int .i64 kd, .int .i64 nd, .slice a n cap]] w (WrongPost (DescV.mk kd nd l).rightD w) := by
  have hb : Below w.heap.size w (w.alloc (.cells #[.int .i64 kd, .int .i64 nd, .slice a n cap] 35)) := (Below.refl _ _).alloc (Nat.le_refl _) _
  have HB := Lib.hid hb
  have HC := Lib.hid (wrong_any k F kd nd l a n cap none 0 0 _ (hl.keep (descRd_ok _) (Fix.of_below hb)) ⟨[], World.ownsRow_nil _ _ _ _⟩ (by omega))
  clear hl hb
  go_enter Tryd.func47, Tryd.ntmps47
  go_wp2_with (go_at_call 54; (with_reducible refine HC.out.mono ?_); rintro e w2 ⟨ao, m, c, rfl, hb2⟩; have HB2 := Lib.hid (HB.out.trans (hb2.mono HB.out.size)); clear hb2)
  go_ret2
  exact ⟨_, _, _, rfl, HB2.out⟩
end Go.Proofs.YtdhkndoglcnllaaDoor
/- valid.big, of trees of no more nodes than may be: what is left is how deep they are. -/
namespace Go.Proofs.YtdhkndoglcnllaaDoor.Lex
open Go.RowKit Go.Shelf
set_option linter.unusedSimpArgs false
set_option linter.unusedVariables false
attribute [local go_sem] Oper.semAt_some
/-- Between two rounds: so many nodes are counted. -/
structure JB (w : World) (kd nd : Int) (s : Value) (k : Nat) (W : World) : Prop where
  n : W.heap[w.heap.size + 1 + 1]? = some (.cells #[.int .i64 (k : Int)] 3 (0, 0))
  box : W.heap[w.heap.size]? = some (.cells #[.int .i64 kd, .int .i64 nd, s] 35 (0, 0))
  res : W.heap[w.heap.size + 1]? = some (.cells #[.bool false] 4 (0, 0))
  below : Below w.heap.size w W
  size : w.heap.size + 4 ≤ W.heap.size
set_option maxRecDepth 100000 in
set_option maxHeartbeats 8000000 in
theorem bigV_small (k : Nat) (F : Foot) (kd nd : Int) (l : List DescV) (a : Option Addr) (n cap : Nat) (w : World) (hl : RowOf (descRd k) 3 40 F w a n cap l) (hm : 1 + DescV.nodesL l ≤ 60) :
    Calls Tryd.prog 46 #[.agg #[.int .i64 kd, .int .i64 nd, .slice a n cap]] w fun e w' => e = .returned (.bool (decide (12 < DescV.depthL l + 1))) ∧ Below w.heap.size w w' := by
  refine (callsIn_wide (n := 5)).1 ?_
  refine callsIn_of_wp_marks Tryd.func46 rfl trivial ?_ rfl
  simp only [Tryd.ntmps46, List.size_toArray, List.length_cons, List.length_nil, Nat.reduceAdd, Nat.reduceSub, Array.replicate_succ, Array.replicate_zero, List.push_toArray, List.append_toArray, List.nil_append, List.cons_append]
  have HL := Lib.hid (hl.mono (G := fun b => b < w.heap.size) (descRd_ok _) fun b hb _ => hb)
  have HM := Lib.hid hm
  clear hl hm
  gi_wp2
  refine ⟨trivial, ?_⟩
  refine (callsIn_wide.2 (allc_any kd nd a n cap _)).mono ?_
  rintro e w1 ⟨rfl, rfl⟩
  gi_wp2
  obtain ⟨W3, hW3⟩ : ∃ W3, W3 = ((((w.alloc (.cells #[.int .i64 kd, .int .i64 nd, .slice a n cap] 35)).alloc (.cells #[.bool false] 4)).alloc (.cells #[.int .i64 0] 3)).alloc (.cells #[.int .i64 kd, .int .i64 nd, .slice a n cap] 35)) := ⟨_, rfl⟩
  have hb3 : Below w.heap.size w W3 := by rw [hW3]; exact ((((Below.refl _ _).alloc (Nat.le_refl _) _).alloc (by simp) _).alloc (by simp; omega) _).alloc (by simp; omega) _
  have hz3 : W3.heap.size = w.heap.size + 4 := by rw [hW3]; simp
  have gs : W3.heap[w.heap.size]? = some (.cells #[.int .i64 kd, .int .i64 nd, .slice a n cap] 35 (0, 0)) ∧ W3.heap[w.heap.size + 1]? = some (.cells #[.bool false] 4 (0, 0)) ∧ W3.heap[w.heap.size + 1 + 1]? = some (.cells #[.int .i64 0] 3 (0, 0)) ∧ W3.heap[w.heap.size + 1 + 1 + 1]? = some (.cells #[.int .i64 kd, .int .i64 nd, .slice a n cap] 35 (0, 0)) := by
    rw [hW3]
    simp only [heap_alloc_iff, World.size_alloc]
    refine ⟨?_, ?_, ?_, ?_⟩ <;> simp
    all_goals omega
  obtain ⟨g0, g1, g2, g3⟩ := gs
  have HL3 := Lib.hid (HL.out.keep (descRd_ok _) (Fix.of_below hb3))
  rw [← hW3]
  clear hW3
  refine wp_rangeAll (α := Value) rfl (by omega) (gf := 59) (lb := #[.pointer (some ⟨w.heap.size + 1 + 1 + 1, 0, none⟩)]) rfl trivial (enters_of Tryd.func59 (by kernel_rfl) rfl) (fun x => #[x]) (fun x => rfl)
    (JB w kd nd (.slice a n cap)) (fun _ _ _ => True) (KpN w.heap.size (w.heap.size + 1 + 1)) (fun _ => False) (1 + DescV.nodesL l) ?h0 ?hKt ?hKp ?hJs ?hJb ?hJp ?hOp ?hseq (fun x => { tmps := #[.agg #[.int .i64 kd, .int .i64 nd, .slice a n cap], .pointer (some ⟨w.heap.size, 0, none⟩), .pointer (some ⟨w.heap.size + 1, 0, none⟩), .pointer (some ⟨w.heap.size + 1 + 1, 0, none⟩), .agg #[.int .i64 kd, .int .i64 nd, .slice a n cap], .func (.func 59) #[] #[.pointer (some ⟨w.heap.size + 1 + 1 + 1, 0, none⟩)], x, undef, undef, undef, undef, undef, undef, undef], defers := [] }) ?assign ?body ?done
  case h0 => exact ⟨g2, g0, g1, hb3, by omega⟩
  case hKt => exact fun A B C h1 h2 => h1.trans h2
  case hKp => exact fun W lo o o' hle hl ho => ⟨Fix.of_grown (grownBy_putObj' W lo o') (fun b _ hf e => by cases e; omega), fun b _ c T f e => putN_cells hl ho e⟩
  case hJs => exact fun i W h => h.elim
  case hJb =>
    intro i W W' hj hb
    have hs := hj.size
    exact ⟨(hb.block _ (by omega)).trans hj.n, (hb.block _ (by omega)).trans hj.box, (hb.block _ (by omega)).trans hj.res, hj.below.trans (hb.mono (by omega)), Nat.le_trans hs hb.size⟩
  case hJp =>
    intro i W lo o o' hj hl hlo hoc
    have hs := hj.size
    exact ⟨putN_cells hlo hoc hj.n, putN_cells hlo hoc hj.box, putN_cells hlo hoc hj.res, putN_below hj.below (by omega) (by omega), by rw [World.putObj_size]; exact hs⟩
  case hOp => exact fun _ _ _ _ _ _ _ _ _ _ => trivial
  case hseq =>
    intro L K W hb hKb hKs hY h0
    have hbW := hb3.trans (hb.mono (by omega))
    exact all1_any L _ w.heap.size (w.heap.size + 1 + 1) K hKb (fun m i x W1 hi hK => yieldN rfl m (hY i x W1 hi hK trivial)) k _ kd nd l a n cap (w.heap.size + 1 + 1 + 1) W (HL.out.keep (descRd_ok _) (Fix.of_below hbW)) h0 (by have := hb.size; omega) (Nat.le_refl _) ((hb.block _ (by omega)).trans g3)
  case assign =>
    intro lo x W K hK
    dsimp only
    gi_wp2
    first
      | exact hK
      | exact (by kernel_rfl : #[(6 : Nat)].zip #[x] = #[(6, x)]) ▸ hK
      | (rw [show #[(6 : Nat)].zip #[x] = #[(6, x)] from rfl]; exact hK)
      | (have e : #[(6 : Nat)].zip #[x] = #[(6, x)] := by simp
         rw [e]; exact hK)
  case body =>
    intro lo i x W hi hj _
    have HJ := Lib.hid hj
    have hM := HM.out
    have hi64 : (i : Int) + 1 ≤ 9223372036854775807 := by omega
    have hi60 : ¬ (60 : Int) < (i : Int) + 1 := by omega
    have t0 := cell_at (o := 0) hj.n rfl
    have f0 := free_at (o := 0) hj.n
    clear hj
    gi_wp2
    have hB : Below w.heap.size w (W.setCell ⟨w.heap.size + 1 + 1, 0, none⟩ (.int .i64 ((i : Int) + 1))) := HJ.out.below.setCell (by show w.heap.size ≤ w.heap.size + 1 + 1; omega) _
    refine ⟨KeepsOthers.setCell _ _ _, ⟨Fix.setCell _ _ _ (fun h => by have h' : w.heap.size + 1 + 1 < w.heap.size := h; omega), fun b hb c T f e => (Below.heap_setCell _ _ _ _ hb).trans e⟩, ⟨?_, (Below.heap_setCell _ _ _ _ (by show w.heap.size ≠ w.heap.size + 1 + 1; omega)).trans HJ.out.box, (Below.heap_setCell _ _ _ _ (by show w.heap.size + 1 ≠ w.heap.size + 1 + 1; omega)).trans HJ.out.res, hB, by have := HJ.out.size; simpa [World.setCell] using this⟩⟩
    have h := heap_set_at (o := 0) (.int .i64 ((i : Int) + 1)) HJ.out.n
    exact h
  case done =>
    intro D W hD hj hdf
    have HJ := Lib.hid hj
    have HD := Lib.hid hdf
    have hsz := hj.size
    have t0 := cell_at (o := 0) hj.box rfl
    have t1 := cell_at (o := 1) hj.box rfl
    have t2 := cell_at (o := 2) hj.box rfl
    have HDP := Lib.hid (depth_any k _ kd nd l a n cap W (HL.out.keep (descRd_ok _) (Fix.of_below hj.below)) (by have := HM.out; omega))
    have HT : Hid (∀ w9, Below W.heap.size W w9 → w9.heap[w.heap.size + 1]? = some (.cells #[.bool false] 4 (0, 0))) := Lib.hid fun w9 hb => (hb.block _ (by omega)).trans HJ.out.res
    clear hj hdf
    gi_wp2
    refine ⟨trivial, ?_⟩
    refine (callsIn_wide.2 HDP.out).mono ?_
    rintro e w9 ⟨rfl, hb9⟩
    have HB9 := Lib.hid hb9
    have gr := HT.out w9 hb9
    have fr := free_at (o := 0) gr
    have hK0 : w9.heap[D]? = some (.deferred (some [])) := (hb9.block _ (Array.getElem?_eq_some_iff.1 HD.out).1).trans HD.out
    have HK0 := Lib.hid hK0
    have tr := cell_at (o := 0) gr rfl
    have GR := Lib.hid gr
    clear hb9 gr hK0
    gi_wp2
    have hne : D ≠ w.heap.size + 1 := by omega
    have hDK : (w9.setCell ⟨w.heap.size + 1, 0, none⟩ (.bool (decide ((12 : Int) < (DescV.depthL l : Int) + 1)))).heap[D]? = some (.deferred (some [])) := (Below.heap_setCell _ _ _ _ hne).trans HK0.out
    have hBB : Below w.heap.size w (w9.setCell ⟨w.heap.size + 1, 0, none⟩ (.bool (decide ((12 : Int) < (DescV.depthL l : Int) + 1)))) := (HJ.out.below.trans (HB9.out.mono (by omega))).setCell (by show w.heap.size ≤ w.heap.size + 1; omega) _
    have hRR := heap_set_at (o := 0) (.bool (decide ((12 : Int) < (DescV.depthL l : Int) + 1))) GR.out
    generalize w9.setCell ⟨w.heap.size + 1, 0, none⟩ (.bool (decide ((12 : Int) < (DescV.depthL l : Int) + 1))) = wz at *
    refine ⟨by simp, .inl ⟨_, _, rfl, run_takeDeferred hDK, ?_⟩⟩
    have hwz : w.heap.size ≤ wz.heap.size := hBB.size
    have hPP : Below w.heap.size w (wz.putObj D (.deferred none)) := putN_below hBB (by omega) hwz
    have hc : (wz.putObj D (.deferred none)).cell? ⟨w.heap.size + 1, 0, none⟩ = some (.bool (decide ((12 : Int) < (DescV.depthL l : Int) + 1))) := cell_at (putN_cells hDK rfl hRR) rfl
    refine ⟨.bool (decide ((12 : Int) < (DescV.depthL l : Int) + 1)), by simp [results, Tryd.results46, go_sem, hc], ?_, hPP⟩
    rw [show decide ((12 : Int) < (DescV.depthL l : Int) + 1) = decide (12 < DescV.depthL l + 1) from decide_eq_decide.2 (by omega)]
end Go.Proofs.YtdhkndoglcnllaaDoor.Lex
/- valid.Check, valid.For. -/
namespace Go.Proofs.YtdhkndoglcnllaaDoor
open Go.RowKit
set_option linter.unusedSimpArgs false
set_option linter.unusedVariables false
def checkE (d : DescV) : Int := if bigD d then 12 else if d.rightD then 0 else 8
def forE (kn kd : Int) (d : DescV) : Int := if hasB kn then (if kd = 0 ∨ kd = 1 then (if checkE d = 0 then (if d.n = kn then 0 else 8) else checkE d) else 2) else 4
/-- valid.big tells of this tree what it should. -/
def BigAt (k : Nat) (kd nd : Int) (l : List DescV) : Prop := ∀ (F : Foot) (a : Option Addr) (n cap : Nat) (w : World), RowOf (descRd k) 3 40 F w a n cap l →
  Calls Tryd.prog 46 #[.agg #[.int .i64 kd, .int .i64 nd, .slice a n cap]] w fun e w' => e = .returned (.bool (bigD (.mk kd nd l))) ∧ Below w.heap.size w w'
theorem bigAt_small {k : Nat} {kd nd : Int} {l : List DescV} (h : (DescV.mk kd nd l).nodes ≤ 60) : BigAt k kd nd l := fun F a n cap w hl => by
  have hn : (DescV.mk kd nd l).nodes = DescV.nodesL l + 1 := DescV.nodes_kids _
  have := Lex.bigV_small k F kd nd l a n cap w hl (by omega)
  have e : bigD (.mk kd nd l) = decide (12 < DescV.depthL l + 1) := by
    unfold bigD
    rw [DescV.depth_kids]
    exact decide_eq_decide.2 ⟨fun h => h.resolve_left (by omega), .inr⟩
  rw [e]
  exact this
set_option maxRecDepth 100000 in
set_option maxHeartbeats 2000000 in
theorem checkV_any (k : Nat) (F : Foot) (kd nd : Int) (l : List DescV) (a : Option Addr) (n cap : Nat) (w : World) (hl : RowOf (descRd k) 3 40 F w a n cap l) (hk : k ≤ 1048576) (hbg : BigAt k kd nd l) :
    Calls Tryd.prog 37 #[.agg #[.int .i64 kd, .int .i64 nd, .slice a n cap]] w fun e w' => e = .returned (.int .i64 (checkE (.mk kd nd l))) ∧ Below w.heap.size w w' := by
  obtain ⟨W1, hW1⟩ : ∃ W1, W1 = w.alloc (.cells #[.int .i64 kd, .int .i64 nd, .slice a n cap] 35) := ⟨_, rfl⟩
  have hb1 : Below w.heap.size w W1 := by rw [hW1]; exact (Below.refl _ _).alloc (Nat.le_refl _) _
  have g1 : W1.heap[w.heap.size]? = some (.cells #[.int .i64 kd, .int .i64 nd, .slice a n cap] 35 (0, 0)) := by rw [hW1]; exact heap_alloc_new w _
  have hz1 : w.heap.size < W1.heap.size := by rw [hW1]; simp
  have c0 : W1.cell? ⟨w.heap.size, 0, none⟩ = some (.int .i64 kd) := cell_at (o := 0) g1 rfl
  have c1 : W1.cell? ⟨w.heap.size, 1, none⟩ = some (.int .i64 nd) := cell_at (o := 1) g1 rfl
  have c2 : W1.cell? ⟨w.heap.size, 2, none⟩ = some (.slice a n cap) := cell_at (o := 2) g1 rfl
  have hl1 := hl.keep (descRd_ok _) (Fix.of_below hb1)
  have HB := Lib.hid hb1
  have HL := Lib.hid hl1
  have HBG := Lib.hid (hbg F a n cap W1 hl1)
  have HT : Hid (∀ w2, Below W1.heap.size W1 w2 → w2.cell? ⟨w.heap.size, 0, none⟩ = some (.int .i64 kd) ∧ w2.cell? ⟨w.heap.size, 1, none⟩ = some (.int .i64 nd) ∧ w2.cell? ⟨w.heap.size, 2, none⟩ = some (.slice a n cap)) := Lib.hid fun w2 hb => by
    have g := (hb.block _ hz1).trans g1
    exact ⟨cell_at g rfl, cell_at g rfl, cell_at g rfl⟩
  clear hl hl1 hb1 g1 hbg
  cases hb : bigD (.mk kd nd l) with
  | true =>
    have HBV := Lib.hid hb
    have HC : Hid (checkE (.mk kd nd l) = 12) := Lib.hid (by unfold checkE; rw [hb]; rfl)
    clear hb
    go_enter Tryd.func37, Tryd.ntmps37
    go_upto_region 1 with fail
    rw [← hW1]
    clear hW1
    go_wp2_with (go_at_call 46; (with_reducible refine HBG.out.mono ?_); rintro e w2 ⟨rfl, hb2⟩; rw [HBV.out]; have HB2 := Lib.hid (HB.out.trans (hb2.mono HB.out.size)); clear hb2)
    go_ret
    exact ⟨by rw [HC.out]; rfl, HB2.out⟩
  | false =>
    have HBV := Lib.hid hb
    cases hr : (DescV.mk kd nd l).rightD with
    | true =>
      have HR := Lib.hid hr
      have HC : Hid (checkE (.mk kd nd l) = 0) := Lib.hid (by unfold checkE; rw [hb, hr]; rfl)
      clear hb hr
      go_enter Tryd.func37, Tryd.ntmps37
      go_upto_region 1 with fail
      rw [← hW1]
      clear hW1
      go_wp2_with (first | (go_at_call 46; (with_reducible refine HBG.out.mono ?_); rintro e w2 ⟨rfl, hb2⟩; rw [HBV.out]; have HB2 := Lib.hid hb2; clear c0 c1 c2; obtain ⟨c0, c1, c2⟩ := HT.out w2 hb2; clear hb2) | (go_at_call 47; (with_reducible refine (wrongW_any k F kd nd l a n cap _ (HL.out.keep (descRd_ok _) (Fix.of_below HB2.out)) hk).mono ?_); rintro e w3 ⟨ao, m, c, rfl, hb3⟩; rw [HR.out]; have HB3 := Lib.hid (HB.out.trans ((HB2.out.trans (hb3.mono HB2.out.size)).mono HB.out.size)); clear hb3))
      go_ret
      exact ⟨by rw [HC.out]; rfl, HB3.out⟩
    | false =>
      have HR := Lib.hid hr
      have HC : Hid (checkE (.mk kd nd l) = 8) := Lib.hid (by unfold checkE; rw [hb, hr]; rfl)
      clear hb hr
      go_enter Tryd.func37, Tryd.ntmps37
      go_upto_region 1 with fail
      rw [← hW1]
      clear hW1
      go_wp2_with (first | (go_at_call 46; (with_reducible refine HBG.out.mono ?_); rintro e w2 ⟨rfl, hb2⟩; rw [HBV.out]; have HB2 := Lib.hid hb2; clear c0 c1 c2; obtain ⟨c0, c1, c2⟩ := HT.out w2 hb2; clear hb2) | (go_at_call 47; (with_reducible refine (wrongW_any k F kd nd l a n cap _ (HL.out.keep (descRd_ok _) (Fix.of_below HB2.out)) hk).mono ?_); rintro e w3 ⟨ao, m, c, rfl, hb3⟩; rw [HR.out]; have HB3 := Lib.hid (HB.out.trans ((HB2.out.trans (hb3.mono HB2.out.size)).mono HB.out.size)); clear hb3))
      go_ret
      exact ⟨by rw [HC.out]; rfl, HB3.out⟩
set_option maxRecDepth 100000 in
set_option maxHeartbeats 4000000 in
theorem for_any (k : Nat) (F : Foot) (kn kr kd nd : Int) (l : List DescV) (a : Option Addr) (n cap : Nat) (w : World) (hl : RowOf (descRd k) 3 40 F w a n cap l) (hk : k ≤ 1048576) (hbg : BigAt k kd nd l) :
    Calls Tryd.prog 27 #[.agg #[.int .i64 kn, .int .i64 kr], .agg #[.int .i64 kd, .int .i64 nd, .slice a n cap]] w fun e w' => e = .returned (.int .i64 (forE kn kr (.mk kd nd l))) ∧ Below w.heap.size w w' := by
  obtain ⟨W1, hW1⟩ : ∃ W1, W1 = (w.alloc (.cells #[.int .i64 kn, .int .i64 kr] 24)).alloc (.cells #[.int .i64 kd, .int .i64 nd, .slice a n cap] 35) := ⟨_, rfl⟩
  have hb1 : Below w.heap.size w W1 := by rw [hW1]; exact ((Below.refl _ _).alloc (Nat.le_refl _) _).alloc (by simp) _
  have gs : W1.heap[w.heap.size]? = some (.cells #[.int .i64 kn, .int .i64 kr] 24 (0, 0)) ∧ W1.heap[w.heap.size + 1]? = some (.cells #[.int .i64 kd, .int .i64 nd, .slice a n cap] 35 (0, 0)) := by
    rw [hW1]
    simp only [heap_alloc_iff, World.size_alloc]
    refine ⟨?_, ?_⟩ <;> simp
  obtain ⟨g0, g1⟩ := gs
  have hz1 : W1.heap.size = w.heap.size + 2 := by rw [hW1]; simp
  have c0 : W1.cell? ⟨w.heap.size + 1, 0, none⟩ = some (.int .i64 kd) := cell_at (o := 0) g1 rfl
  have c1 : W1.cell? ⟨w.heap.size + 1, 1, none⟩ = some (.int .i64 nd) := cell_at (o := 1) g1 rfl
  have c2 : W1.cell? ⟨w.heap.size + 1, 2, none⟩ = some (.slice a n cap) := cell_at (o := 2) g1 rfl
  have k0 : W1.cell? ⟨w.heap.size, 0, none⟩ = some (.int .i64 kn) := cell_at (o := 0) g0 rfl
  have k1 : W1.cell? ⟨w.heap.size, 1, none⟩ = some (.int .i64 kr) := cell_at (o := 1) g0 rfl
  have HB := Lib.hid hb1
  have HC := Lib.hid (checkV_any k F kd nd l a n cap W1 (hl.keep (descRd_ok _) (Fix.of_below hb1)) hk hbg)
  have HT : Hid (∀ w2, Below W1.heap.size W1 w2 → w2.cell? ⟨w.heap.size + 1, 1, none⟩ = some (.int .i64 nd) ∧ w2.cell? ⟨w.heap.size, 0, none⟩ = some (.int .i64 kn)) := Lib.hid fun w2 hb => ⟨cell_at ((hb.block _ (by omega)).trans g1) rfl, cell_at ((hb.block _ (by omega)).trans g0) rfl⟩
  clear hl hb1 g0 g1 hbg hz1
  cases hh : hasB kn with
  | false =>
    have HH := Lib.hid hh
    have HF : Hid (forE kn kr (.mk kd nd l) = 4) := Lib.hid (by unfold forE; rw [hh]; rfl)
    clear hh
    go_enter Tryd.func27, Tryd.ntmps27
    go_upto_region 1 with fail
    rw [← hW1]
    clear hW1
    go_wp2_with (go_at_call 36; (with_reducible refine (has_any _ _).mono ?_); rintro e w' ⟨rfl, rfl⟩; rw [HH.out])
    go_ret
    exact ⟨by rw [HF.out]; rfl, HB.out⟩
  | true =>
    have HH := Lib.hid hh
    by_cases hr : kr = 0 ∨ kr = 1
    · have HF0 : Hid (forE kn kr (.mk kd nd l) = if checkE (.mk kd nd l) = 0 then (if nd = kn then 0 else 8) else checkE (.mk kd nd l)) := Lib.hid (by unfold forE; rw [hh, if_pos hr]; rfl)
      have hr' : Hid (kr = 0 ∨ kr = 1) := Lib.hid hr
      clear hh hr
      by_cases hc : checkE (.mk kd nd l) = 0
      · have HCC := Lib.hid hc
        by_cases hn : nd = kn
        · have HF : Hid (forE kn kr (.mk kd nd l) = 0) := Lib.hid (by rw [HF0.out, if_pos hc, if_pos hn])
          subst hn
          clear hc
          rcases hr'.out with rfl | rfl
          all_goals
            go_enter Tryd.func27, Tryd.ntmps27
            go_upto_region 1 with fail
            rw [← hW1]
            clear hW1
            go_wp2_with (first | (go_at_call 36; (with_reducible refine (has_any _ _).mono ?_); rintro e w' ⟨rfl, rfl⟩; rw [HH.out]) | (go_at_call 37; (with_reducible refine HC.out.mono ?_); rintro e w2 ⟨rfl, hb2⟩; rw [HCC.out]; have HB2 := Lib.hid (HB.out.trans (hb2.mono HB.out.size)); clear c0 c1 c2 k0 k1; obtain ⟨c1, k0⟩ := HT.out w2 hb2; clear hb2))
            go_ret
            exact ⟨by rw [HF.out]; rfl, HB2.out⟩
        · have HF : Hid (forE kn kr (.mk kd nd l) = 8) := Lib.hid (by rw [HF0.out, if_pos hc, if_neg hn])
          have hnb : (nd != kn) = true := by simpa using hn
          have hnb2 : (nd == kn) = false := by simpa using hn
          clear hc hn
          rcases hr'.out with rfl | rfl
          all_goals
            go_enter Tryd.func27, Tryd.ntmps27
            go_upto_region 1 with fail
            rw [← hW1]
            clear hW1
            go_wp2_with (first | (go_at_call 36; (with_reducible refine (has_any _ _).mono ?_); rintro e w' ⟨rfl, rfl⟩; rw [HH.out]) | (go_at_call 37; (with_reducible refine HC.out.mono ?_); rintro e w2 ⟨rfl, hb2⟩; rw [HCC.out]; have HB2 := Lib.hid (HB.out.trans (hb2.mono HB.out.size)); clear c0 c1 c2 k0 k1; obtain ⟨c1, k0⟩ := HT.out w2 hb2; clear hb2))
            go_ret
            exact ⟨by rw [HF.out]; rfl, HB2.out⟩
      · have HF : Hid (forE kn kr (.mk kd nd l) = checkE (.mk kd nd l)) := Lib.hid (by rw [HF0.out, if_neg hc])
        generalize checkE (.mk kd nd l) = ce at *
        have hcb : (ce != 0) = true := by simpa using hc
        rcases hr'.out with rfl | rfl
        all_goals
          go_enter Tryd.func27, Tryd.ntmps27
          go_upto_region 1 with fail
          rw [← hW1]
          clear hW1
          go_wp2_with (first | (go_at_call 36; (with_reducible refine (has_any _ _).mono ?_); rintro e w' ⟨rfl, rfl⟩; rw [HH.out]) | (go_at_call 37; (with_reducible refine HC.out.mono ?_); rintro e w2 ⟨rfl, hb2⟩; have HB2 := Lib.hid (HB.out.trans (hb2.mono HB.out.size)); clear c0 c1 c2 k0 k1; obtain ⟨c1, k0⟩ := HT.out w2 hb2; clear hb2))
          go_ret
          exact ⟨by rw [HF.out]; rfl, HB2.out⟩
    · have HF : Hid (forE kn kr (.mk kd nd l) = 2) := Lib.hid (by unfold forE; rw [hh, if_neg hr]; rfl)
      have hr0 : ¬ kr = 0 := fun h => hr (.inl h)
      have hr1 : ¬ kr = 1 := fun h => hr (.inr h)
      have b0 : (kr != 0) = true := by simpa using hr0
      have b1 : (kr != 1) = true := by simpa using hr1
      clear hh hr
      go_enter Tryd.func27, Tryd.ntmps27
      go_upto_region 1 with fail
      rw [← hW1]
      clear hW1
      go_wp2_with (go_at_call 36; (with_reducible refine (has_any _ _).mono ?_); rintro e w' ⟨rfl, rfl⟩; rw [HH.out])
      go_ret
      exact ⟨by rw [HF.out]; rfl, HB.out⟩
end Go.Proofs.YtdhkndoglcnllaaDoor
/- entry.Check, entry.Print. -/
namespace Go.Proofs.YtdhkndoglcnllaaDoor.Lex
open Go.RowKit
set_option linter.unusedSimpArgs false
set_option linter.unusedVariables false
theorem nodeB_ok {kd nd : Int} {l : List DescV} (h : nodeB kd nd l = true) : okH (kd, nd) = true := by
  unfold okH
  rw [decide_eq_true_iff]
  dsimp only
  unfold nodeB at h
  split at h
  · next e =>
    simp only [Bool.and_eq_true, decide_eq_true_eq] at h
    have := hasB_le h.2.1
    omega
  · split at h
    · next e =>
      unfold smallB at h
      simp only [Bool.and_eq_true, decide_eq_true_eq] at h
      omega
    · split at h
      · next e =>
        unfold stockB at h
        simp only [Bool.and_eq_true, decide_eq_true_eq] at h
        omega
      · split at h
        · next e =>
          unfold sidesB at h
          simp only [Bool.and_eq_true, decide_eq_true_eq] at h
          have := hasB_le h.2.1
          omega
        · split at h
          · next e =>
            unfold sidesB at h
            simp only [Bool.and_eq_true, decide_eq_true_eq] at h
            have := hasB_le h.2.2.1
            omega
          · split at h
            · next e =>
              unfold singleB at h
              simp only [Bool.and_eq_true, decide_eq_true_eq] at h
              have := hasB_le h.2.2.2.1
              omega
            · split at h
              · next e =>
                unfold singleB at h
                simp only [Bool.and_eq_true, decide_eq_true_eq] at h
                have := hasB_le h.2.2.1
                omega
              · cases h
mutual
theorem right_text : ∀ {d : DescV}, d.rightD = true → ∃ t, textD d = some t
  | .mk k n l, h => by
    rw [DescV.rightD, Bool.and_eq_true] at h
    obtain ⟨ts, hts⟩ := right_texts h.2
    rw [textD, if_pos (nodeB_ok h.1), hts]
    exact ⟨_, rfl⟩
theorem right_texts : ∀ {l : List DescV}, DescV.rightL l = true → ∃ ts, textsD l = some ts
  | [], _ => ⟨[], by rw [textsD]⟩
  | d :: l, h => by
    rw [DescV.rightL, Bool.and_eq_true] at h
    obtain ⟨t, ht⟩ := right_text h.1
    obtain ⟨ts, hts⟩ := right_texts h.2
    exact ⟨t :: ts, by rw [textsD, ht, hts]; rfl⟩
end
theorem checkE_zero {d : DescV} (h : checkE d = 0) : bigD d = false ∧ d.rightD = true := by
  unfold checkE at h
  split at h
  · cases h
  · next hb =>
    split at h
    · next hr => exact ⟨by simpa using hb, hr⟩
    · cases h
theorem forE_zero {kn kd : Int} {d : DescV} (h : forE kn kd d = 0) : hasB kn = true ∧ (kd = 0 ∨ kd = 1) ∧ bigD d = false ∧ d.rightD = true ∧ d.n = kn := by
  unfold forE at h
  split at h
  · next h1 =>
    split at h
    · next h2 =>
      split at h
      · next h3 =>
        split at h
        · next h4 => exact ⟨h1, h2, (checkE_zero h3).1, (checkE_zero h3).2, h4⟩
        · cases h
      · next h3 => exact absurd h h3
    · cases h
  · cases h
/-- An entry's line. -/
def lineE (kn kd : Int) (t : List UInt8) : List UInt8 := Lib.decDigits kn.toNat ++ [32] ++ Lib.decDigits kd.toNat ++ [32] ++ t
def printE (kn kd : Int) (d : DescV) : Value := if forE kn kd d = 0 then (match textD d with | none => .tuple #[.string ⟨#[]⟩, .int .i64 8] | some t => .tuple #[.string (bs (lineE kn kd t)), .int .i64 0]) else .tuple #[.string ⟨#[]⟩, .int .i64 (forE kn kd d)]
set_option maxRecDepth 100000 in
set_option maxHeartbeats 1000000 in
theorem echeck_any (k : Nat) (F : Foot) (kn kr kd nd : Int) (l : List DescV) (a : Option Addr) (n cap : Nat) (w : World) (hl : RowOf (descRd k) 3 40 F w a n cap l) (hk : k ≤ 1048576) (hbg : BigAt k kd nd l) :
    Calls Tryd.prog 18 #[.agg #[.int .i64 kn, .int .i64 kr, .int .i64 kd, .int .i64 nd, .slice a n cap]] w fun e w' => e = .returned (.int .i64 (forE kn kr (.mk kd nd l))) ∧ Below w.heap.size w w' := by
  have hb : Below w.heap.size w (w.alloc (.cells #[.int .i64 kn, .int .i64 kr, .int .i64 kd, .int .i64 nd, .slice a n cap] 37)) := (Below.refl _ _).alloc (Nat.le_refl _) _
  have HB := Lib.hid hb
  have HC := Lib.hid (for_any k F kn kr kd nd l a n cap _ (hl.keep (descRd_ok _) (Fix.of_below hb)) hk hbg)
  clear hl hb hbg
  go_enter Tryd.func18, Tryd.ntmps18
  go_wp2_with (go_at_call 27; (with_reducible refine HC.out.mono ?_); rintro e w2 ⟨rfl, hb2⟩; have HB2 := Lib.hid (HB.out.trans (hb2.mono HB.out.size)); clear hb2)
  go_ret
  exact ⟨rfl, HB2.out⟩
set_option maxRecDepth 100000 in
set_option maxHeartbeats 4000000 in
theorem eprint_any (k : Nat) (F : Foot) (kn kr kd nd : Int) (l : List DescV) (a : Option Addr) (n cap : Nat) (w : World) (hl : RowOf (descRd k) 3 40 F w a n cap l) (hk : k ≤ 1048576) (hm : DescV.nodesL l < 1048576) (hbg : BigAt k kd nd l) (hx : HasMax w) (ht : HasTab w) :
    Calls Tryd.prog 12 #[.agg #[.int .i64 kn, .int .i64 kr, .int .i64 kd, .int .i64 nd, .slice a n cap]] w fun e w' => e = .returned (printE kn kr (.mk kd nd l)) ∧ Below w.heap.size w w' := by
  obtain ⟨W1, hW1⟩ : ∃ W1, W1 = w.alloc (.cells #[.int .i64 kn, .int .i64 kr, .int .i64 kd, .int .i64 nd, .slice a n cap] 37) := ⟨_, rfl⟩
  have hb1 : Below w.heap.size w W1 := by rw [hW1]; exact (Below.refl _ _).alloc (Nat.le_refl _) _
  have g1 : W1.heap[w.heap.size]? = some (.cells #[.int .i64 kn, .int .i64 kr, .int .i64 kd, .int .i64 nd, .slice a n cap] 37 (0, 0)) := by rw [hW1]; exact heap_alloc_new w _
  have hz1 : w.heap.size < W1.heap.size := by rw [hW1]; simp
  have hl1 := hl.keep (descRd_ok _) (Fix.of_below hb1)
  have HB := Lib.hid hb1
  have HT : Hid (∀ w2, Below W1.heap.size W1 w2 → w2.cell? ⟨w.heap.size, 0, none⟩ = some (.int .i64 kn) ∧ w2.cell? ⟨w.heap.size, 1, none⟩ = some (.int .i64 kr) ∧ w2.cell? ⟨w.heap.size, 2, none⟩ = some (.int .i64 kd) ∧ w2.cell? ⟨w.heap.size, 3, none⟩ = some (.int .i64 nd) ∧ w2.cell? ⟨w.heap.size, 4, none⟩ = some (.slice a n cap)) := Lib.hid fun w2 hb => by
    have g := (hb.block _ hz1).trans g1
    exact ⟨cell_at g rfl, cell_at g rfl, cell_at g rfl, cell_at g rfl, cell_at g rfl⟩
  obtain ⟨c0, c1, c2, c3, c4⟩ := HT.out W1 (Below.refl _ _)
  have HC := Lib.hid (echeck_any k F kn kr kd nd l a n cap W1 hl1 hk hbg)
  have HL := Lib.hid hl1
  have HX := Lib.hid (hx.below hb1)
  have HTB := Lib.hid (ht.below hb1)
  have HM := Lib.hid hm
  clear hl hl1 hb1 g1 hbg hx ht hm
  by_cases hf : forE kn kr (.mk kd nd l) = 0
  · obtain ⟨h1, h2, h3, h4, h5⟩ := forE_zero hf
    obtain ⟨t, htx⟩ := right_text h4
    have hkn := hasB_le h1
    obtain ⟨m, rfl⟩ : ∃ m : Nat, kn = m := ⟨kn.toNat, by omega⟩
    obtain ⟨r, rfl⟩ : ∃ r : Nat, kr = r := ⟨kr.toNat, by omega⟩
    obtain ⟨lz, hlz⟩ : ∃ lz, lz = lineE m r t := ⟨_, rfl⟩
    have HPE : Hid (printE m r (.mk kd nd l) = .tuple #[.string (bs lz), .int .i64 0]) := Lib.hid (by unfold printE; rw [if_pos hf, htx, hlz])
    have HLZ : Hid (lz = Lib.decDigits m ++ [32] ++ Lib.decDigits r ++ [32] ++ t) := Lib.hid (by rw [hlz]; unfold lineE; rw [Int.toNat_natCast, Int.toNat_natCast])
    have HF := Lib.hid hf
    have HPD : Hid (printD (.mk kd nd l) = .tuple #[.string (bs t), .int .i64 0]) := Lib.hid (by unfold printD; rw [h3, htx]; rfl)
    have HTL := Lib.hid (textD_len htx)
    have HDG1 : Hid (∀ W, Below W1.heap.size W1 W → Calls Tryd.prog 19 #[.int .i64 (m : Int)] W fun e w' => e = .returned (.tuple #[.string (bs (Lib.decDigits m)), .int .i64 0]) ∧ Below W.heap.size W w') := Lib.hid fun W hb => dig_yes m W (by omega) (HTB.out.below hb)
    have HDG2 : Hid (∀ W, Below W1.heap.size W1 W → Calls Tryd.prog 19 #[.int .i64 (r : Int)] W fun e w' => e = .returned (.tuple #[.string (bs (Lib.decDigits r)), .int .i64 0]) ∧ Below W.heap.size W w') := Lib.hid fun W hb => dig_yes r W (by omega) (HTB.out.below hb)
    have HLN1 := Lib.hid (decDigits_len (n := m) (by omega))
    have HLN2 := Lib.hid (decDigits_len (n := r) (by omega))
    clear hf h1 h2 h3 h4 h5 htx hkn hlz
    go_enter Tryd.func12, Tryd.ntmps12
    go_upto_region 1 with fail
    rw [← hW1]
    clear hW1
    go_upto_region 4 with (go_at_call 18; (with_reducible refine HC.out.mono ?_); rintro e w2 ⟨rfl, hb2⟩; rw [HF.out]; have HB2 := Lib.hid hb2; clear c0 c1 c2 c3 c4; obtain ⟨c0, c1, c2, c3, c4⟩ := HT.out w2 hb2; clear hb2)
    go_upto_region 5 with (go_at_call 19; (with_reducible refine (HDG1.out _ HB2.out).mono ?_); rintro e w3 ⟨rfl, hb3⟩; have HB3 := Lib.hid (HB2.out.trans (hb3.mono HB2.out.size)); clear c0 c1 c2 c3 c4; obtain ⟨c0, c1, c2, c3, c4⟩ := HT.out w3 HB3.out; clear hb3)
    go_upto_region 6 with (go_at_call 19; (with_reducible refine (HDG2.out _ HB3.out).mono ?_); rintro e w4 ⟨rfl, hb4⟩; have HB4 := Lib.hid (HB3.out.trans (hb4.mono HB3.out.size)); clear c0 c1 c2 c3 c4; obtain ⟨c0, c1, c2, c3, c4⟩ := HT.out w4 HB4.out; clear hb4)
    go_upto_region 9 with (go_at_call 20; (with_reducible refine (print_any k F kd nd l a n cap _ (HL.out.keep (descRd_ok _) (Fix.of_below HB4.out)) HM.out (HX.out.below HB4.out) (HTB.out.below HB4.out)).mono ?_); rintro e w5 ⟨rfl, hb5⟩; rw [HPD.out]; have HB5 := Lib.hid (HB4.out.trans (hb5.mono HB4.out.size)); clear c0 c1 c2 c3 c4 hb5)
    obtain ⟨W5, rfl⟩ : ∃ W : World, W = w5 := ⟨_, rfl⟩
    obtain ⟨W6, hW6⟩ : ∃ W6, W6 = W5.alloc (.cells #[.string (bs (Lib.decDigits m)), .string (bs (Lib.decDigits r)), .string (bs t)] 9) := ⟨_, rfl⟩
    have hb6 : Below W5.heap.size W5 W6 := by rw [hW6]; exact (Below.refl _ _).alloc (Nat.le_refl _) _
    have g6 : W6.heap[W5.heap.size]? = some (.cells #[.string (bs (Lib.decDigits m)), .string (bs (Lib.decDigits r)), .string (bs t)] 9 (0, 0)) := by rw [hW6]; exact heap_alloc_new W5 _
    have HB6 := Lib.hid (HB.out.trans ((HB5.out.trans (hb6.mono HB5.out.size)).mono HB.out.size))
    have HJN : Hid (Lib.join [Lib.decDigits m, Lib.decDigits r, t] [32] = lz) := Lib.hid (by rw [HLZ.out]; simp [Lib.join, List.intercalate, List.intersperse])
    have HJ : Hid (Calls Tryd.prog 21 #[.slice (some ⟨W5.heap.size, 0, none⟩) 3 3, .string ⟨#[32]⟩] W6 fun e w' => e = .returned (.string (bs lz)) ∧ Below W6.heap.size W6 w') := Lib.hid (by
      have hJ := Tryd.strings_Join W5.heap.size 0 3 [bs (Lib.decDigits m), bs (Lib.decDigits r), bs t] ⟨#[32]⟩ W6 (fun j x hx => by
        rw [Nat.zero_add]
        refine cell_at g6 ?_
        rcases j with _ | _ | _ | j
        · cases hx; rfl
        · cases hx; rfl
        · cases hx; rfl
        · simp at hx) (Array.getElem?_eq_some_iff.1 g6).1 (by simp) (by simp) (by
          show (Lib.join [Lib.decDigits m, Lib.decDigits r, t] [32]).length ≤ _
          rw [HJN.out, HLZ.out]
          have h1 := HLN1.out
          have h2 := HLN2.out
          have h3 := HTL.out
          have h4 : (DescV.mk kd nd l).nodes = DescV.nodesL l + 1 := DescV.nodes_kids _
          have h5 := HM.out
          simp only [List.length_append, List.length_cons, List.length_nil]
          omega)
      have e : ([bs (Lib.decDigits m), bs (Lib.decDigits r), bs t].map (·.data.toList)) = [Lib.decDigits m, Lib.decDigits r, t] := rfl
      rw [e, HJN.out] at hJ
      exact hJ)
    clear hb6 g6
    go_wp2_with (rw [← hW6]; (go_at_call 21; (with_reducible refine HJ.out.mono ?_); rintro e w7 ⟨rfl, hb7⟩; have HB7 := Lib.hid (HB6.out.trans (hb7.mono HB6.out.size)); clear hb7))
    go_ret2
    exact ⟨by rw [HPE.out]; rfl, HB7.out⟩
  · have HPE : Hid (printE kn kr (.mk kd nd l) = .tuple #[.string ⟨#[]⟩, .int .i64 (forE kn kr (.mk kd nd l))]) := Lib.hid (by unfold printE; rw [if_neg hf])
    generalize forE kn kr (.mk kd nd l) = ce at *
    have hcb : (ce != 0) = true := by simpa using hf
    go_enter Tryd.func12, Tryd.ntmps12
    go_upto_region 1 with fail
    rw [← hW1]
    clear hW1
    go_wp2_with (go_at_call 18; (with_reducible refine HC.out.mono ?_); rintro e w2 ⟨rfl, hb2⟩; have HB2 := Lib.hid (HB.out.trans (hb2.mono HB.out.size)); clear c0 c1 c2 c3 c4 hb2)
    go_ret2
    exact ⟨by rw [HPE.out]; rfl, HB2.out⟩
end Go.Proofs.YtdhkndoglcnllaaDoor.Lex
/- EntrySorts: the walk of the law. -/
namespace Go.Proofs.YtdhkndoglcnllaaDoor.Lex
open Go.RowKit Stab
set_option linter.unusedSimpArgs false
set_option linter.unusedVariables false
theorem live_line : printE 8 0 (.mk 3 8 []) = .tuple #[.string ⟨#[56, 32, 48, 32, 115, 116, 111, 99, 107, 56]⟩, .int .i64 0] := by
  unfold printE
  rw [if_pos (by decide +kernel), show textD (.mk 3 8 []) = some [115, 116, 111, 99, 107, 56] by decide +kernel]
  dsimp only
  rw [show bs (lineE 8 0 [115, 116, 111, 99, 107, 56]) = ⟨#[56, 32, 48, 32, 115, 116, 111, 99, 107, 56]⟩ by decide +kernel]
set_option maxRecDepth 100000 in
set_option maxHeartbeats 1000000 in
theorem live24 (w : World) (hx : HasMax w) (ht : HasTab w) : Calls Tryd.prog 5 #[] w fun e w' => e = .returned (.bool true) ∧ Below w.heap.size w w' := by
  have HC : Hid (Calls Tryd.prog 12 #[.agg #[.int .i64 8, .int .i64 0, .int .i64 3, .int .i64 8, .slice none 0 0]] w fun e w' => e = .returned (.tuple #[.string ⟨#[56, 32, 48, 32, 115, 116, 111, 99, 107, 56]⟩, .int .i64 0]) ∧ Below w.heap.size w w') := Lib.hid (by
    have h := eprint_any 0 All 8 0 3 8 [] none 0 0 w (RowOf.empty _ _ _ _ _) (by omega) (by simp [DescV.nodesL]) (bigAt_small (by simp [DescV.nodes, DescV.nodesL])) hx ht
    rw [live_line] at h
    exact h)
  clear hx ht
  go_enter Tryd.func5, Tryd.ntmps5
  go_wp2_with (go_at_call 12; (with_reducible refine HC.out.mono ?_); rintro e w2 ⟨rfl, hb2⟩; have HB2 := Lib.hid hb2; clear hb2)
  go_ret
  exact ⟨rfl, HB2.out⟩
def MuchPost (n : Nat) (l : List EntryV) (w : World) (e : Ending) (w' : World) : Prop := ∃ t : Bool, e = .returned (.bool t) ∧ (t = false → n ≤ 30 ∧ ∀ x ∈ l, x.2.nodes ≤ 80) ∧ Below w.heap.size w w'
set_option maxRecDepth 100000 in
set_option maxHeartbeats 4000000 in
theorem much24_any (k : Nat) (l : List EntryV) (a : Option Addr) (n cap : Nat) (w : World) (hl : RowOf (entryRd k) 5 56 All w a n cap l) (hm : ∀ x ∈ l, x.2.nodes ≤ 1048576) :
    Calls Tryd.prog 4 #[.slice a n cap] w (MuchPost n l w) := by
  have HLN := Lib.hid hl.len
  have HL := Lib.hid hl
  have HM := Lib.hid hm
  have hroom := hl.room
  clear hl hm
  go_enter Tryd.func4, Tryd.ntmps4
  go_upto_region 2 with fail
  go_loopg [3] n (fun g iv wr => ∃ i : Nat, i ≤ n ∧ i ≤ 40 ∧ g = n - i ∧ iv = .int .i64 i ∧ (∀ x ∈ l.take i, x.2.nodes ≤ 80) ∧ Below w.heap.size w wr)
  case atStart => exact ⟨0, by omega, by omega, rfl, rfl, by simp, Below.refl _ _⟩
  case round =>
    obtain ⟨i, hi, hi40, rfl, rfl, hall, hB⟩ := hrel
    obtain ⟨wo, rfl⟩ : ∃ wo : World, wo = wr := ⟨_, rfl⟩
    have HALL := Lib.hid hall
    have HB := Lib.hid hB
    clear hall hB
    by_cases hlt : i < n
    · have hlti : (i : Int) < (n : Int) := by omega
      by_cases h40 : i < 40
      · have h40i : (i : Int) < 40 := by omega
        have hil : i < l.length := by rw [HLN.out]; exact hlt
        obtain ⟨b, o, hbw, kn, kd, dk, dn, dl, da, dm, dc, rfl, hx, ⟨p0, p1, p2, p3, p4⟩, _, _, hk⟩ := (HL.out.keep (entryRd_ok _) (Fix.of_below HB.out)).entry i hil
        have HMD : Hid (DescV.nodesL dl < 1048576) := Lib.hid (by
          have h := HM.out _ (List.getElem_mem hil)
          rw [hx, DescV.nodes_kids] at h
          exact h)
        have HC := Lib.hid (much_any k All dk dn dl da dm dc wo (descRd_kids hk) HMD.out)
        have HTK := Lib.hid (List.take_succ_eq_append_getElem hil)
        rw [hx] at HTK
        clear hx hk
        by_cases h80 : 80 < (DescV.mk dk dn dl).nodes
        · have HD : Hid (decide (80 < (DescV.mk dk dn dl).nodes) = true) := Lib.hid (decide_eq_true h80)
          clear h80
          go_wp2_with (go_at_call 11; (with_reducible refine HC.out.mono ?_); rintro e w2 ⟨rfl, hb2⟩; rw [HD.out]; have HB2 := Lib.hid (HB.out.trans (hb2.mono HB.out.size)); clear hb2)
          go_ret
          exact ⟨_, rfl, (fun h => by cases h), HB2.out⟩
        · have HD : Hid (decide (80 < (DescV.mk dk dn dl).nodes) = false) := Lib.hid (decide_eq_false h80)
          have H80 : Hid ((DescV.mk dk dn dl).nodes ≤ 80) := Lib.hid (by omega)
          clear h80
          go_wp2_with (go_at_call 11; (with_reducible refine HC.out.mono ?_); rintro e w2 ⟨rfl, hb2⟩; rw [HD.out]; have HB2 := Lib.hid (HB.out.trans (hb2.mono HB.out.size)); clear hb2)
          go_roundg (n - (i + 1))
          case measure => omega
          case rel =>
            refine ⟨i + 1, by omega, by omega, rfl, by go_num, fun x hx => ?_, HB2.out⟩
            rw [HTK.out] at hx
            rcases List.mem_append.1 hx with hx | hx
            · exact HALL.out x hx
            · rw [List.mem_singleton.1 hx]; exact H80.out
      · have h40i : ¬ (i : Int) < 40 := by omega
        have h40b : decide ((i : Int) < 40) = false := decide_eq_false h40i
        have h30 : (30 : Int) < (n : Int) := by omega
        go_wp2_with fail
        go_ret
        exact ⟨_, rfl, (fun h => by simp at h), HB.out⟩
    · obtain rfl : i = n := by omega
      have HA2 : Hid (∀ x ∈ l, x.2.nodes ≤ 80) := Lib.hid (by have h := HALL.out; rw [List.take_of_length_le (by rw [HLN.out]; omega)] at h; exact h)
      go_wp2_with fail
      go_ret
      exact ⟨_, rfl, (fun h => ⟨by simp at h; omega, HA2.out⟩), HB.out⟩
set_option maxRecDepth 100000 in
set_option maxHeartbeats 8000000 in
theorem sorts_law (k : Nat) (l : List EntryV) (a : Option Addr) (n c : Nat) (a1 a2 b1 b2 : Int) (w : World) (hl : RowOf (entryRd k) 5 56 All w a n c l) (hm : ∀ x ∈ l, x.2.nodes ≤ 1048576) (hx : HasMax w) (ht : HasTab w) :
    Calls Tryd.prog 3 #[.slice a n c, .agg #[.int .i64 a1, .int .i64 a2], .agg #[.int .i64 b1, .int .i64 b2]] w fun e w' => e = .returned (.bool true) ∧ Below w.heap.size w w' := by
  obtain ⟨W1, hW1⟩ : ∃ W1, W1 = (w.alloc (.cells #[.int .i64 a1, .int .i64 a2] 24)).alloc (.cells #[.int .i64 b1, .int .i64 b2] 24) := ⟨_, rfl⟩
  have hb1 : Below w.heap.size w W1 := by rw [hW1]; exact ((Below.refl _ _).alloc (Nat.le_refl _) _).alloc (by simp) _
  have hz1 : W1.heap.size = w.heap.size + 2 := by rw [hW1]; simp
  have gs : W1.heap[w.heap.size]? = some (.cells #[.int .i64 a1, .int .i64 a2] 24 (0, 0)) ∧ W1.heap[w.heap.size + 1]? = some (.cells #[.int .i64 b1, .int .i64 b2] 24 (0, 0)) := by
    rw [hW1]
    simp only [heap_alloc_iff, World.size_alloc]
    refine ⟨?_, ?_⟩ <;> simp
  obtain ⟨g0, g1⟩ := gs
  have HT : Hid (∀ W, Below W1.heap.size W1 W → W.cell? ⟨w.heap.size, 0, none⟩ = some (.int .i64 a1) ∧ W.cell? ⟨w.heap.size, 1, none⟩ = some (.int .i64 a2) ∧ W.cell? ⟨w.heap.size + 1, 0, none⟩ = some (.int .i64 b1) ∧ W.cell? ⟨w.heap.size + 1, 1, none⟩ = some (.int .i64 b2)) := Lib.hid fun W hb => by
    have e0 := (hb.block _ (by omega)).trans g0
    have e1 := (hb.block _ (by omega)).trans g1
    exact ⟨cell_at e0 rfl, cell_at e0 rfl, cell_at e1 rfl, cell_at e1 rfl⟩
  have hl1 := hl.keep (entryRd_ok _) (Fix.of_below hb1)
  have HB := Lib.hid hb1
  have HL := Lib.hid hl1
  have HX := Lib.hid (hx.below hb1)
  have HTB := Lib.hid (ht.below hb1)
  have HMU := Lib.hid (much24_any k l a n c W1 hl1 hm)
  clear hl hl1 hb1 hz1 g0 g1 hx ht hm
  go_enter Tryd.func3, Tryd.ntmps3
  go_upto_region 1 with fail
  rw [← hW1]
  clear hW1
  go_upto_if 9 with (go_at_call 4; (with_reducible refine HMU.out.mono ?_); rintro e w2 ⟨t, rfl, hlen, hb2⟩; have HLEN := Lib.hid hlen; have HB2 := Lib.hid hb2; obtain ⟨c0, c1, c2, c3⟩ := HT.out w2 hb2; clear hb2 hlen)
  cases t with
  | true =>
    go_wp2_with (go_at_call 5; (with_reducible refine (live24 _ (HX.out.below HB2.out) (HTB.out.below HB2.out)).mono ?_); rintro e w3 ⟨rfl, hb3⟩; have HB3 := Lib.hid (HB.out.trans ((HB2.out.trans (hb3.mono HB2.out.size)).mono HB.out.size)); clear hb3)
    go_ret
    exact ⟨rfl, HB3.out⟩
  | false =>
    have hn30 := (HLEN.out rfl).1
    rcases cmpK_ways (a1, a2) (b1, b2) with ⟨h, e⟩ | ⟨h, e⟩ | ⟨h, h', e⟩
    · skip
      have HA1 : Hid (ltK (a1, a2) (b1, b2) = true) := Lib.hid (ltK_iff.2 h)
      have HA2 : Hid (ltK (b1, b2) (a1, a2) = false) := Lib.hid (by cases e2 : ltK (b1, b2) (a1, a2) with | false => rfl | true => have h2 := ltK_iff.1 e2; dsimp only at h h2; omega)
      have HCK := Lib.hid e
      clear h e
      go_wp2_with (first
        | (go_at_call 6; (with_reducible refine (ahead_any a1 a2 b1 b2 _).mono ?_); rintro e w3 ⟨rfl, hb3⟩; rw [HA1.out]; have HB3 := Lib.hid (HB2.out.trans (hb3.mono HB2.out.size)); clear c0 c1 c2 c3; obtain ⟨c0, c1, c2, c3⟩ := HT.out w3 HB3.out; clear hb3)
        | (go_at_call 6; (with_reducible refine (ahead_any b1 b2 a1 a2 _).mono ?_); rintro e w4 ⟨rfl, hb4⟩; rw [HA2.out]; have HB4 := Lib.hid (HB3.out.trans (hb4.mono HB3.out.size)); clear c0 c1 c2 c3; obtain ⟨c0, c1, c2, c3⟩ := HT.out w4 HB4.out; clear hb4)
        | (go_at_call 8; (with_reducible refine (sort_any k All l a n c _ (by omega) (HL.out.keep (entryRd_ok _) (Fix.of_below HB4.out))).mono ?_); rintro e w5 ⟨a5, c5, rfl, hr5, hb5⟩; have HR5 := Lib.hid (hr5.mono (G := All) (entryRd_ok _) fun _ _ _ => trivial); have HB45 := Lib.hid hb5; have HB5 := Lib.hid (HB4.out.trans (hb5.mono HB4.out.size)); clear c0 c1 c2 c3; obtain ⟨c0, c1, c2, c3⟩ := HT.out w5 HB5.out; clear hb5 hr5)
        | (go_at_call 9; (with_reducible refine (rsort_any k l a n c _ (by omega) (HL.out.keep (entryRd_ok _) (Fix.of_below HB5.out))).mono ?_); rintro e w6 ⟨a6, c6, rfl, hr6, hb6⟩; have HR6 := Lib.hid hr6; have HB56 := Lib.hid hb6; have HB6 := Lib.hid (HB5.out.trans (hb6.mono HB5.out.size)); clear c0 c1 c2 c3; obtain ⟨c0, c1, c2, c3⟩ := HT.out w6 HB6.out; clear hb6 hr6)
        | (go_at_call 7; (with_reducible refine (all24_eq k All All (sortE l) a5 a6 n c5 c6 _ (HR5.out.keep (entryRd_ok _) (Fix.of_below HB56.out)) HR6.out).mono ?_); rintro e w7 ⟨rfl, hb7⟩; have HB7 := Lib.hid (HB6.out.trans (hb7.mono HB6.out.size)); clear c0 c1 c2 c3; obtain ⟨c0, c1, c2, c3⟩ := HT.out w7 HB7.out; clear hb7)
        | (go_at_call 10; (with_reducible refine (ecmp_any a1 a2 b1 b2 _).mono ?_); rintro e w8 ⟨rfl, hb8⟩; rw [HCK.out]; have HB8 := Lib.hid (HB7.out.trans (hb8.mono HB7.out.size)); clear c0 c1 c2 c3; obtain ⟨c0, c1, c2, c3⟩ := HT.out w8 HB8.out; clear hb8)
        | (go_at_call 5; (with_reducible refine (live24 _ (HX.out.below HB8.out) (HTB.out.below HB8.out)).mono ?_); rintro e w9 ⟨rfl, hb9⟩; have HB9 := Lib.hid (HB8.out.trans (hb9.mono HB8.out.size)); clear hb9))
      go_ret
      exact ⟨rfl, HB.out.trans (HB9.out.mono HB.out.size)⟩
    · skip
      have HA1 : Hid (ltK (a1, a2) (b1, b2) = false) := Lib.hid (by cases e2 : ltK (a1, a2) (b1, b2) with | false => rfl | true => have h2 := ltK_iff.1 e2; dsimp only at h h2; omega)
      have HA2 : Hid (ltK (b1, b2) (a1, a2) = true) := Lib.hid (ltK_iff.2 h)
      have HCK := Lib.hid e
      clear h e
      go_wp2_with (first
        | (go_at_call 6; (with_reducible refine (ahead_any a1 a2 b1 b2 _).mono ?_); rintro e w3 ⟨rfl, hb3⟩; rw [HA1.out]; have HB3 := Lib.hid (HB2.out.trans (hb3.mono HB2.out.size)); clear c0 c1 c2 c3; obtain ⟨c0, c1, c2, c3⟩ := HT.out w3 HB3.out; clear hb3)
        | (go_at_call 6; (with_reducible refine (ahead_any b1 b2 a1 a2 _).mono ?_); rintro e w4 ⟨rfl, hb4⟩; rw [HA2.out]; have HB4 := Lib.hid (HB3.out.trans (hb4.mono HB3.out.size)); clear c0 c1 c2 c3; obtain ⟨c0, c1, c2, c3⟩ := HT.out w4 HB4.out; clear hb4)
        | (go_at_call 8; (with_reducible refine (sort_any k All l a n c _ (by omega) (HL.out.keep (entryRd_ok _) (Fix.of_below HB4.out))).mono ?_); rintro e w5 ⟨a5, c5, rfl, hr5, hb5⟩; have HR5 := Lib.hid (hr5.mono (G := All) (entryRd_ok _) fun _ _ _ => trivial); have HB45 := Lib.hid hb5; have HB5 := Lib.hid (HB4.out.trans (hb5.mono HB4.out.size)); clear c0 c1 c2 c3; obtain ⟨c0, c1, c2, c3⟩ := HT.out w5 HB5.out; clear hb5 hr5)
        | (go_at_call 9; (with_reducible refine (rsort_any k l a n c _ (by omega) (HL.out.keep (entryRd_ok _) (Fix.of_below HB5.out))).mono ?_); rintro e w6 ⟨a6, c6, rfl, hr6, hb6⟩; have HR6 := Lib.hid hr6; have HB56 := Lib.hid hb6; have HB6 := Lib.hid (HB5.out.trans (hb6.mono HB5.out.size)); clear c0 c1 c2 c3; obtain ⟨c0, c1, c2, c3⟩ := HT.out w6 HB6.out; clear hb6 hr6)
        | (go_at_call 7; (with_reducible refine (all24_eq k All All (sortE l) a5 a6 n c5 c6 _ (HR5.out.keep (entryRd_ok _) (Fix.of_below HB56.out)) HR6.out).mono ?_); rintro e w7 ⟨rfl, hb7⟩; have HB7 := Lib.hid (HB6.out.trans (hb7.mono HB6.out.size)); clear c0 c1 c2 c3; obtain ⟨c0, c1, c2, c3⟩ := HT.out w7 HB7.out; clear hb7)
        | (go_at_call 10; (with_reducible refine (ecmp_any a1 a2 b1 b2 _).mono ?_); rintro e w8 ⟨rfl, hb8⟩; rw [HCK.out]; have HB8 := Lib.hid (HB7.out.trans (hb8.mono HB7.out.size)); clear c0 c1 c2 c3; obtain ⟨c0, c1, c2, c3⟩ := HT.out w8 HB8.out; clear hb8)
        | (go_at_call 5; (with_reducible refine (live24 _ (HX.out.below HB8.out) (HTB.out.below HB8.out)).mono ?_); rintro e w9 ⟨rfl, hb9⟩; have HB9 := Lib.hid (HB8.out.trans (hb9.mono HB8.out.size)); clear hb9))
      go_ret
      exact ⟨rfl, HB.out.trans (HB9.out.mono HB.out.size)⟩
    · dsimp only at h h'
      subst h
      subst h'
      have HA1 : Hid (ltK (a1, a2) (a1, a2) = false) := Lib.hid (ltK_ord.irr _)
      have HA2 : Hid (ltK (a1, a2) (a1, a2) = false) := Lib.hid (ltK_ord.irr _)
      have HCK := Lib.hid e
      clear e
      go_wp2_with (first
        | (go_at_call 6; (with_reducible refine (ahead_any a1 a2 a1 a2 _).mono ?_); rintro e w3 ⟨rfl, hb3⟩; rw [HA1.out]; have HB3 := Lib.hid (HB2.out.trans (hb3.mono HB2.out.size)); clear c0 c1 c2 c3; obtain ⟨c0, c1, c2, c3⟩ := HT.out w3 HB3.out; clear hb3)
        | (go_at_call 6; (with_reducible refine (ahead_any a1 a2 a1 a2 _).mono ?_); rintro e w4 ⟨rfl, hb4⟩; rw [HA2.out]; have HB4 := Lib.hid (HB3.out.trans (hb4.mono HB3.out.size)); clear c0 c1 c2 c3; obtain ⟨c0, c1, c2, c3⟩ := HT.out w4 HB4.out; clear hb4)
        | (go_at_call 8; (with_reducible refine (sort_any k All l a n c _ (by omega) (HL.out.keep (entryRd_ok _) (Fix.of_below HB4.out))).mono ?_); rintro e w5 ⟨a5, c5, rfl, hr5, hb5⟩; have HR5 := Lib.hid (hr5.mono (G := All) (entryRd_ok _) fun _ _ _ => trivial); have HB45 := Lib.hid hb5; have HB5 := Lib.hid (HB4.out.trans (hb5.mono HB4.out.size)); clear c0 c1 c2 c3; obtain ⟨c0, c1, c2, c3⟩ := HT.out w5 HB5.out; clear hb5 hr5)
        | (go_at_call 9; (with_reducible refine (rsort_any k l a n c _ (by omega) (HL.out.keep (entryRd_ok _) (Fix.of_below HB5.out))).mono ?_); rintro e w6 ⟨a6, c6, rfl, hr6, hb6⟩; have HR6 := Lib.hid hr6; have HB56 := Lib.hid hb6; have HB6 := Lib.hid (HB5.out.trans (hb6.mono HB5.out.size)); clear c0 c1 c2 c3; obtain ⟨c0, c1, c2, c3⟩ := HT.out w6 HB6.out; clear hb6 hr6)
        | (go_at_call 7; (with_reducible refine (all24_eq k All All (sortE l) a5 a6 n c5 c6 _ (HR5.out.keep (entryRd_ok _) (Fix.of_below HB56.out)) HR6.out).mono ?_); rintro e w7 ⟨rfl, hb7⟩; have HB7 := Lib.hid (HB6.out.trans (hb7.mono HB6.out.size)); clear c0 c1 c2 c3; obtain ⟨c0, c1, c2, c3⟩ := HT.out w7 HB7.out; clear hb7)
        | (go_at_call 10; (with_reducible refine (ecmp_any a1 a2 a1 a2 _).mono ?_); rintro e w8 ⟨rfl, hb8⟩; rw [HCK.out]; have HB8 := Lib.hid (HB7.out.trans (hb8.mono HB7.out.size)); clear c0 c1 c2 c3; obtain ⟨c0, c1, c2, c3⟩ := HT.out w8 HB8.out; clear hb8)
        | (go_at_call 5; (with_reducible refine (live24 _ (HX.out.below HB8.out) (HTB.out.below HB8.out)).mono ?_); rintro e w9 ⟨rfl, hb9⟩; have HB9 := Lib.hid (HB8.out.trans (hb9.mono HB8.out.size)); clear hb9))
      go_ret
      exact ⟨rfl, HB.out.trans (HB9.out.mono HB.out.size)⟩
end Go.Proofs.YtdhkndoglcnllaaDoor.Lex
/- EntrySorts: what came in, opened. -/
namespace Go.Proofs.YtdhkndoglcnllaaDoor.Lex
open Go.RowKit Go.ChangeShapes Go.WideShapes Stab
set_option linter.unusedVariables false
theorem le_sumN {α : Type} (f : α → Nat) : ∀ {l : List α} {x : α}, x ∈ l → f x ≤ (l.map f).sum
  | y :: l, x, h => by
    rw [List.map_cons, List.sum_cons]
    rcases List.mem_cons.1 h with rfl | h
    · omega
    · have := le_sumN f h
      omega
set_option maxRecDepth 100000 in
theorem key_open {H : Type} {enc : TypeId × Value → H} {w : World} {b0 : Nat} {s0 : Nat → Bool} {e0 : Bool} {v : Value} {d : DataW H} {p : List MemPlace} {ww : World} {rr : Reach} {bb : Nat}
    (hv : Value.okWide Tryd.prog ww rr bb 24 v) (h : DataW.Trod enc Tryd.prog w b0 s0 e0 24 v d p) (q : ∀ q ∈ DataW.weights Tryd.prog 24 d, q ≤ reachBytes) : ∃ a b, v = .agg #[.int .i64 a, .int .i64 b] ∧ (Lit.int .i64 a).wf = true ∧ (Lit.int .i64 b).wf = true := by
  obtain ⟨f, h⟩ := h
  obtain ⟨cs, rfl, _⟩ := Go.WideShapes.okWide_struct Tryd.underlying24 hv
  obtain ⟨x, ⟨_, _, e, ⟨rfl, w1⟩, rfl, w2⟩, _⟩ := (ob_key f).get enc w b0 s0 e0 f _ _ (by omega) h q
  refine ⟨x.1, x.2, ?_, w1, w2⟩
  have : cs = #[.int .i64 x.1, .int .i64 x.2] := Array.toList_inj.1 e
  rw [this]
set_option maxRecDepth 100000 in
theorem sorts_open {H : Type} {enc : TypeId × Value → H} {w : World} {b0 : Nat} {s0 : Nat → Bool} {e0 : Bool} {v0 v1 v2 : Value} {d0 d1 d2 : DataW H} {p0 p1 p2 : List MemPlace} {ww : World} {rr : Reach} {bb : Nat} {b1 b2 : Nat} {s1 s2 : Nat → Bool} {e1 e2 : Bool}
    (hv0 : Value.okWide Tryd.prog ww rr bb 22 v0) (h0 : DataW.Trod enc Tryd.prog w b0 s0 e0 22 v0 d0 p0) (q0 : ∀ q ∈ DataW.weights Tryd.prog 22 d0, q ≤ reachBytes) (hb : Rows.uptoBulk d0 ≤ 1048576)
    (hv1 : Value.okWide Tryd.prog ww rr bb 24 v1) (h1 : DataW.Trod enc Tryd.prog w b1 s1 e1 24 v1 d1 p1) (q1 : ∀ q ∈ DataW.weights Tryd.prog 24 d1, q ≤ reachBytes)
    (hv2 : Value.okWide Tryd.prog ww rr bb 24 v2) (h2 : DataW.Trod enc Tryd.prog w b2 s2 e2 24 v2 d2 p2) (q2 : ∀ q ∈ DataW.weights Tryd.prog 24 d2, q ≤ reachBytes) (hx : HasMax w) (ht : HasTab w) :
    Calls Tryd.prog 3 #[v0, v1, v2] w fun e w' => e = .returned (.bool true) ∧ Below w.heap.size w w' := by
  obtain ⟨a1, a2, rfl, _, _⟩ := key_open hv1 h1 q1
  obtain ⟨c1, c2, rfl, _, _⟩ := key_open hv2 h2 q2
  obtain ⟨a, n, c, rfl⟩ := okWide_slice Tryd.underlying22 hv0
  obtain ⟨f0, h0⟩ := h0
  obtain ⟨l, ⟨a', n', cap', e, hr⟩, hm⟩ := (ob_entries f0).get enc w b0 s0 e0 f0 _ _ (by omega) h0 q0
  have e' : Value.slice a n c = .slice a' n' cap' := by
    have : [Value.slice a n c] = [.slice a' n' cap'] := e
    simpa using this
  cases e'
  exact sorts_law (f0 + 1) l a n c a1 a2 c1 c2 w hr (fun x hxl => Nat.le_trans (le_sumN (fun y : EntryV => y.2.nodes) hxl) (Nat.le_trans hm hb)) hx ht
end Go.Proofs.YtdhkndoglcnllaaDoor.Lex
