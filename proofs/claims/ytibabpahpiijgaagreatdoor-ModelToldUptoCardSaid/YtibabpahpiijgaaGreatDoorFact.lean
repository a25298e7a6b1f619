/- fact.Gcd, fact.Factors, fact.Prime. -/
import Derived.Test.YtibabpahpiijgaaGreatDoorDescM
import Derived.Test.YtibabpahpiijgaaGreatDoorProg
import Derived.Deep.LoopGhost
import Derived.Deep.DeepCutAuto
import Derived.Deep.CutBlock
import Derived.Deep.RegionHeld3
import Derived.WalkMore
namespace Go.Proofs.YtibabpahpiijgaaGreatDoor
open Go.RowKit
set_option linter.unusedSimpArgs false
set_option linter.unusedVariables false
/-- The greatest common divisor; of numbers below zero: 0. -/
def gcdI (a b : Int) : Int := if a < 0 ∨ b < 0 then 0 else (Nat.gcd a.toNat b.toNat : Nat)
theorem wrapI {n : Int} (h0 : -9223372036854775808 ≤ n) (h1 : n ≤ 9223372036854775807) : IntKind.i64.wrap n = n := by rw [IntKind.wrap_i64]; omega
theorem rem_nat {a b : Nat} (hb : 0 < b) (ha : a ≤ 9223372036854775807) : IntKind.i64.wrap (Int.tmod (a : Int) (b : Int)) = ((a % b : Nat) : Int) := by
  have h : Int.tmod (a : Int) (b : Int) = ((a % b : Nat) : Int) := by rw [← Int.ofNat_tmod]
  rw [h]
  have := Nat.mod_le a b
  exact wrapI (by omega) (by omega)
theorem quo_nat {a b : Nat} (hb : 0 < b) (ha : a ≤ 9223372036854775807) : IntKind.i64.wrap (Int.tdiv (a : Int) (b : Int)) = ((a / b : Nat) : Int) := by
  have h : Int.tdiv (a : Int) (b : Int) = ((a / b : Nat) : Int) := by rw [← Int.ofNat_tdiv]
  rw [h]
  have := Nat.div_le_self a b
  generalize a / b = q at *
  exact wrapI (by omega) (by omega)
set_option maxRecDepth 100000 in
set_option maxHeartbeats 4000000 in
theorem gcd_any (a b : Int) (w : World) (ha : (Lit.int .i64 a).wf = true) (hb : (Lit.int .i64 b).wf = true) : Calls Tryz.prog 131 #[.int .i64 a, .int .i64 b] w fun e w' => e = .returned (.int .i64 (gcdI a b)) ∧ Below w.heap.size w w' := by
  have ha1 := (wf_i64_bd ha).2
  have hb1 := (wf_i64_bd hb).2
  clear ha hb
  by_cases h1 : a < 0
  · have HG : Hid (gcdI a b = 0) := Lib.hid (if_pos (.inl h1))
    go_enter Tryz.func131, Tryz.ntmps131
    go_wp2_with fail
    go_ret
    exact ⟨by rw [HG.out]; rfl, Below.refl _ _⟩
  · by_cases h2 : b < 0
    · have HG : Hid (gcdI a b = 0) := Lib.hid (if_pos (.inr h2))
      go_enter Tryz.func131, Tryz.ntmps131
      go_wp2_with fail
      go_ret
      exact ⟨by rw [HG.out]; rfl, Below.refl _ _⟩
    · obtain ⟨m, rfl⟩ : ∃ m : Nat, a = m := ⟨a.toNat, by omega⟩
      obtain ⟨n, rfl⟩ : ∃ n : Nat, b = n := ⟨b.toNat, by omega⟩
      have HG : Hid (gcdI m n = (Nat.gcd m n : Nat)) := Lib.hid (by unfold gcdI; rw [if_neg (by omega), Int.toNat_natCast, Int.toNat_natCast])
      go_enter Tryz.func131, Tryz.ntmps131
      go_wp2_with fail
      go_loopg [0, 1] n (fun g av bv wr => ∃ x y : Nat, y = g ∧ av = .int .i64 (x : Int) ∧ bv = .int .i64 (y : Int) ∧ x ≤ 9223372036854775807 ∧ y ≤ 9223372036854775807 ∧ Nat.gcd x y = Nat.gcd m n ∧ Below w.heap.size w wr)
      case atStart => exact ⟨m, n, rfl, rfl, rfl, by omega, by omega, rfl, Below.refl _ _⟩
      case round =>
        obtain ⟨x, y, rfl, rfl, rfl, hx, hy, hg, hB⟩ := hrel
        obtain ⟨wo, rfl⟩ : ∃ wo : World, wo = wr := ⟨_, rfl⟩
        have HGG := Lib.hid hg
        have HB := Lib.hid hB
        clear hg hB
        by_cases hy0 : y = 0
        · subst hy0
          go_wp2_with fail
          go_ret
          exact ⟨by rw [HG.out, ← HGG.out, Nat.gcd_zero_right]; rfl, HB.out⟩
        · have hyi : ¬ (y : Int) = 0 := by omega
          have hyb : ((y : Int) != 0) = true := by simpa using hyi
          have hr := rem_nat (a := x) (b := y) (by omega) hx
          have HZ : Hid ((x : Int) % (y : Int) = ((x % y : Nat) : Int)) := Lib.hid (Int.natCast_emod x y).symm
          have hlt := Nat.mod_lt x (by omega : 0 < y)
          have HE : Hid (Nat.gcd y (x % y) = Nat.gcd x y) := Lib.hid (by rw [Nat.gcd_comm y, ← Nat.gcd_rec, Nat.gcd_comm])
          generalize x % y = z at *
          go_upto_region 4 with fail
          go_quiet (fail)
          go_wp2_with fail
          go_roundg z
          case measure => omega
          case rel => exact ⟨y, z, rfl, rfl, congrArg _ HZ.out, hy, by omega, by rw [HE.out, HGG.out], by first | exact HB.out.drew | exact below_drewN HB.out _⟩
/-- Is it a prime, and no greater than may be asked for? -/
def primI (n : Int) : Bool := decide (2 ≤ n ∧ n ≤ 16777216 ∧ ∀ d : Nat, d < n.toNat → 2 ≤ d → d * d ≤ n.toNat → ¬ d ∣ n.toNat)
/-- What the factors found so far tell of n0, when d is up next and n is left: none yet, or the first one. -/
def FacSt (n0 n d : Nat) (xs : List Value) : Prop :=
  1 ≤ n ∧ n ≤ n0 ∧ ((xs = [] ∧ n = n0 ∧ ∀ q, 2 ≤ q → q < d → ¬ q ∣ n0) ∨
    ∃ (p e : Nat) (r : List Value), xs = .int .i64 p :: .int .i64 e :: r ∧ 2 ≤ p ∧ p * p ≤ n0 ∧ p ∣ n0 ∧ (r = [] → n0 = p ^ e * n))
/-- What comes back: as many cells as twice the number of primes; one, once: a prime. -/
def FacEnd (n0 : Nat) (xs : List Value) : Prop := ∃ m, xs.length = m * 2 ∧ ((∃ e : Nat, m = 1 ∧ xs[1]? = some (.int .i64 e) ∧ (primI n0 = decide (e = 1))) ∨ (m ≠ 1 ∧ primI n0 = false))
theorem primI_no {n d : Nat} (h1 : 2 ≤ d) (h2 : d * d ≤ n) (h3 : d ∣ n) : primI n = false := by
  unfold primI
  rw [decide_eq_false_iff_not]
  rintro ⟨_, _, h⟩
  rw [Int.toNat_natCast] at h
  refine h d ?_ h1 h2 h3
  have : 2 * d ≤ d * d := Nat.mul_le_mul_right d h1
  omega
theorem facEnd_one {n0 d : Nat} {xs : List Value} (h : FacSt n0 1 d xs) (hl : ∃ m, xs.length = m * 2) : FacEnd n0 xs := by
  obtain ⟨m, hm⟩ := hl
  obtain ⟨_, _, ⟨rfl, h1, _⟩ | ⟨p, e, r, rfl, h1, h2, h3, h4⟩⟩ := h
  · subst h1
    refine ⟨0, rfl, .inr ⟨by omega, ?_⟩⟩
    unfold primI
    rw [decide_eq_false_iff_not]
    rintro ⟨h, _⟩
    omega
  · refine ⟨m, hm, ?_⟩
    by_cases hm1 : m = 1
    · refine .inl ⟨e, hm1, rfl, ?_⟩
      have hr : r = [] := List.eq_nil_of_length_eq_zero (by simp at hm; omega)
      rw [primI_no h1 h2 h3]
      symm
      rw [decide_eq_false_iff_not]
      rintro rfl
      have := h4 hr
      rw [Nat.pow_one, Nat.mul_one] at this
      have h6 : p * 2 ≤ p * p := Nat.mul_le_mul_left p h1
      omega
    · exact .inr ⟨hm1, primI_no h1 h2 h3⟩
theorem facEnd_more {n0 n d : Nat} {xs : List Value} (h : FacSt n0 n d xs) (hd : n < d * d) (hn : 1 < n) (hmax : n0 ≤ 16777216) (hl : ∃ m, xs.length = m * 2) : FacEnd n0 (xs ++ [.int .i64 n, .int .i64 1]) := by
  obtain ⟨m, hm⟩ := hl
  refine ⟨m + 1, by rw [List.length_append, hm]; simp; omega, ?_⟩
  obtain ⟨_, _, ⟨rfl, h1, h2⟩ | ⟨p, e, r, rfl, h1, h2, h3, h4⟩⟩ := h
  · subst h1
    refine .inl ⟨1, by simp at hm; omega, rfl, ?_⟩
    rw [decide_eq_true rfl]
    unfold primI
    rw [decide_eq_true_iff, Int.toNat_natCast]
    refine ⟨by omega, by omega, fun q _ h3 h4 h5 => ?_⟩
    refine h2 q h3 ?_ h5
    rcases Nat.lt_or_ge q d with h | h
    · exact h
    · have := Nat.mul_le_mul h h
      omega
  · exact .inr ⟨by simp at hm; omega, primI_no h1 h2 h3⟩
/-- No power of d is taken off: d does not divide what is left. -/
theorem facSt_skip {n0 n d : Nat} {xs : List Value} (h : FacSt n0 n d xs) (hd : n % d ≠ 0) : FacSt n0 n (d + 1) xs := by
  obtain ⟨g1, g2, ⟨rfl, h1, h2⟩ | h⟩ := h
  · refine ⟨g1, g2, .inl ⟨rfl, h1, fun q h3 h4 h5 => ?_⟩⟩
    by_cases e : q = d
    · subst e
      subst h1
      exact hd (Nat.mod_eq_zero_of_dvd h5)
    · exact h2 q h3 (by omega) h5
  · exact ⟨g1, g2, .inr h⟩
theorem facSt_take {n0 n d n' e : Nat} {xs : List Value} (h : FacSt n0 n d xs) (h2 : 2 ≤ d) (hdd : d * d ≤ n) (he : 1 ≤ e) (hn : n = d ^ e * n') (hn' : 1 ≤ n') : FacSt n0 n' (d + 1) (xs ++ [.int .i64 d, .int .i64 e]) := by
  obtain ⟨g1, g2, h⟩ := h
  have hle : n' ≤ n := by
    rw [hn]
    exact Nat.le_mul_of_pos_left _ (Nat.pow_pos (by omega))
  refine ⟨hn', Nat.le_trans hle g2, .inr ?_⟩
  rcases h with ⟨rfl, h1, _⟩ | ⟨p, e', r, rfl, k1, k2, k3, k4⟩
  · subst h1
    refine ⟨d, e, [], rfl, h2, hdd, ?_, fun _ => hn⟩
    rw [hn]
    obtain ⟨e1, rfl⟩ : ∃ e1, e = e1 + 1 := ⟨e - 1, by omega⟩
    rw [Nat.pow_succ, Nat.mul_comm (d ^ e1), Nat.mul_assoc]
    exact Nat.dvd_mul_right _ _
  · exact ⟨p, e', r ++ [.int .i64 d, .int .i64 e], rfl, k1, k2, k3, fun hr => by simp at hr⟩
theorem powElem : Elem Tryz.prog 201 205 2 16 := ⟨Tryz.underlying201, ⟨.agg #[.int .i64 0, .int .i64 0], by kernel_rfl, rfl⟩, by omega⟩
theorem one2 {k n : Int} : ∀ u ∈ [Value.int .i64 k, .int .i64 n], u.oneCell' = true := by
  intro u hu
  simp only [List.mem_cons, List.not_mem_nil, or_false] at hu
  rcases hu with rfl | rfl <;> rfl
def thereB (n : Int) : Bool := decide (1 ≤ n ∧ n ≤ 16777216)
set_option maxHeartbeats 1000000 in
theorem there_any (n : Int) (w : World) : Calls Tryz.prog 165 #[.int .i64 n] w fun e w' => e = .returned (.bool (thereB n)) ∧ w = w' := by
  by_cases h1 : 1 ≤ n
  · by_cases h2 : n ≤ 16777216
    · have HD : Hid (thereB n = true) := Lib.hid (decide_eq_true ⟨h1, h2⟩)
      go_enter Tryz.func165, Tryz.ntmps165
      go_wp2_with fail
      go_ret
      exact ⟨by rw [HD.out]; rfl, rfl⟩
    · have HD : Hid (thereB n = false) := Lib.hid (decide_eq_false fun h => h2 h.2)
      go_enter Tryz.func165, Tryz.ntmps165
      go_wp2_with fail
      go_ret
      exact ⟨by rw [HD.out]; rfl, rfl⟩
  · have HD : Hid (thereB n = false) := Lib.hid (decide_eq_false fun h => h1 h.1)
    go_enter Tryz.func165, Tryz.ntmps165
    go_wp2_with fail
    go_ret
    exact ⟨by rw [HD.out]; rfl, rfl⟩
def FacPost (n0 : Nat) (w : World) (e : Ending) (w' : World) : Prop :=
  ∃ v m xs, e = .returned (.tuple #[v, .int .i64 0]) ∧ w'.ownsRow w.heap.size 205 2 v m xs ∧ FacEnd n0 xs ∧ Below w.heap.size w w'
set_option maxRecDepth 100000 in
set_option maxHeartbeats 4000000 in
theorem factors_yes (n0 : Nat) (w : World) (h1 : 1 ≤ n0) (h2 : n0 ≤ 16777216) : Calls Tryz.prog 152 #[.int .i64 n0] w (FacPost n0 w) := by
  have HT : Hid (∀ W, Calls Tryz.prog 165 #[.int .i64 n0] W fun e w' => e = .returned (.bool true) ∧ W = w') := Lib.hid fun W => by
    have h := there_any n0 W
    rw [show thereB (n0 : Int) = true from decide_eq_true ⟨by omega, by omega⟩] at h
    exact h
  go_enter Tryz.func152, Tryz.ntmps152
  go_wp2_with fail
  go_step3
  go_wp2_with (go_at_call 165; (with_reducible refine (HT.out _).mono ?_); rintro e w' ⟨rfl, rfl⟩)
  go_step3
  go_wp2_with fail
  go_loopg [0, 4, 5] 4098 (fun g nv lv dv wr => ∃ (n d m : Nat) (xs : List Value), g = 4100 - d ∧ nv = .int .i64 (n : Int) ∧ dv = .int .i64 (d : Int) ∧ 2 ≤ d ∧ d ≤ 4097 ∧ m ≤ d ∧ FacSt n0 n d xs ∧ wr.ownsRow w.heap.size 205 2 lv m xs ∧ Below w.heap.size w wr)
  case atStart => exact ⟨n0, 2, 0, [], rfl, rfl, rfl, by omega, by omega, by omega, ⟨h1, Nat.le_refl _, .inl ⟨rfl, rfl, fun q _ _ => by omega⟩⟩, World.ownsRow_nil _ _ _ _, Below.refl _ _⟩
  case round =>
    obtain ⟨n, d, m, xs, rfl, rfl, rfl, hd2, hdm, hmd, hst, hown, hB⟩ := hrel
    obtain ⟨wo, rfl⟩ : ∃ wo : World, wo = wr := ⟨_, rfl⟩
    have HST := Lib.hid hst
    have HOWN := Lib.hid hown
    have HB := Lib.hid hB
    have hn1 := hst.1
    have hn2 := hst.2.1
    obtain ⟨la, lc, rfl⟩ := own_val hown
    clear hst hown hB
    obtain ⟨q, hq1, hq2⟩ : ∃ q, q ≤ d * d ∧ d * d ≤ q := ⟨d * d, Nat.le_refl _, Nat.le_refl _⟩
    have hqq : d * d ≤ 4097 * 4097 := Nat.mul_le_mul hdm hdm
    have HQ : Hid (d * d = q) := Lib.hid (by omega)
    have wq : IntKind.i64.wrap ((d : Int) * (d : Int)) = (q : Int) := by
      rw [show (d : Int) * (d : Int) = ((d * d : Nat) : Int) by simp, HQ.out]
      exact wrapI (by omega) (by omega)
    clear hq1 hq2 hqq
    by_cases hle : q ≤ n
    · have hlei : (q : Int) ≤ (n : Int) := by omega
      have hdn : d ≤ 4096 := by
        rcases Nat.lt_or_ge 4096 d with h | h
        · have h2 := Nat.mul_le_mul h h
          have := HQ.out
          omega
        · exact h
      obtain ⟨d1, hd11, hd12⟩ : ∃ d1, d1 ≤ d + 1 ∧ d + 1 ≤ d1 := ⟨d + 1, by omega, by omega⟩
      have wd1 : IntKind.i64.wrap ((d : Int) + 1) = (d1 : Int) := by rw [wrapI (by omega) (by omega)]; omega
      have HD1 : Hid (d + 1 = d1) := Lib.hid (by omega)
      have hd0 : ¬ (d : Int) = 0 := by omega
      obtain ⟨W1, hW1⟩ : ∃ W1, W1 = wo.alloc (.cells #[.int .i64 d, .int .i64 0] 205) := ⟨_, rfl⟩
      have hb1 : Below wo.heap.size wo W1 := by rw [hW1]; exact (Below.refl _ _).alloc (Nat.le_refl _) _
      have g1 : W1.heap[wo.heap.size]? = some (.cells #[.int .i64 d, .int .i64 0] 205 (0, 0)) := by rw [hW1]; exact heap_alloc_new wo _
      have HB1 := Lib.hid hb1
      have HG1 := Lib.hid g1
      go_wp2_with fail
      rw [← hW1]
      clear hW1 hb1 g1
      go_loopg [0] n (fun g nv wr => ∃ (n' e : Nat), n' = g ∧ nv = .int .i64 (n' : Int) ∧ 1 ≤ n' ∧ e + n' ≤ n ∧ n = d ^ e * n' ∧ wr.heap[wo.heap.size]? = some (.cells #[.int .i64 d, .int .i64 (e : Int)] 205 (0, 0)) ∧ Below wo.heap.size wo wr)
      case atStart => exact ⟨n, 0, rfl, rfl, by omega, by omega, by simp, HG1.out, HB1.out⟩
      case round =>
        obtain ⟨n', e, rfl, rfl, hn'1, hen, hpow, hg, hB1⟩ := hrel
        obtain ⟨w1, rfl⟩ : ∃ w1 : World, w1 = wr := ⟨_, rfl⟩
        have HPOW := Lib.hid hpow
        have HG := Lib.hid hg
        have HB2 := Lib.hid hB1
        have hr := rem_nat (a := n') (b := d) (by omega) (by omega)
        have hq := quo_nat (a := n') (b := d) (by omega) (by omega)
        have c0 := cell_at (o := 0) hg rfl
        have c1 := cell_at (o := 1) hg rfl
        have f1 := free_at (o := 1) hg
        clear hpow hg hB1
        by_cases hz : n' % d = 0
        · have HDV : Hid (n' = d * (n' / d)) := Lib.hid (by have := Nat.div_add_mod n' d; omega)
          obtain ⟨e1, he1, he2⟩ : ∃ e1, e1 ≤ e + 1 ∧ e + 1 ≤ e1 := ⟨e + 1, by omega, by omega⟩
          have we1 : IntKind.i64.wrap ((e : Int) + 1) = (e1 : Int) := by rw [wrapI (by omega) (by omega)]; omega
          have hzi : (n' : Int) % (d : Int) = 0 := by omega
          generalize hqd : n' / d = n2 at *
          have HQD : Hid ((n' : Int) / (d : Int) = (n2 : Int)) := Lib.hid (by rw [← hqd]; simp)
          have hn2 : 2 * n2 ≤ n' := by
            have h := HDV.out
            have h2 := Nat.mul_le_mul_right n2 hd2
            omega
          have hn21 : 1 ≤ n2 := by
            rcases Nat.eq_zero_or_pos n2 with h | h
            · have h2 := HDV.out
              rw [h, Nat.mul_zero] at h2
              omega
            · exact h
          have HPW2 : Hid (n = d ^ e1 * n2) := Lib.hid (by
            rw [show e1 = e + 1 by omega, Nat.pow_succ, Nat.mul_assoc, ← HDV.out]
            exact HPOW.out)
          have HG2 := Lib.hid (heap_set_at (o := 1) (.int .i64 (e1 : Int)) HG.out)
          have HBS := Lib.hid (HB2.out.setCell (p := ⟨wo.heap.size, 1, none⟩) (Nat.le_refl _) (.int .i64 (e1 : Int)))
          clear hqd
          go_wp2_with fail
          go_roundg n2
          case measure => omega
          case rel => exact ⟨n2, e1, rfl, by first | rfl | exact congrArg _ (by rw [HQD.out]; unfold wrap64; omega), hn21, by omega, HPW2.out, HG2.out, HBS.out⟩
        · have hzi : ¬ (n' : Int) % (d : Int) = 0 := by omega
          have HZ := Lib.hid hz
          have HBW : Hid (Below w.heap.size w w1) := Lib.hid (HB.out.trans (HB2.out.mono HB.out.size))
          by_cases he0 : e = 0
          · have HSK : Hid (FacSt n0 n' d1 xs) := Lib.hid (by
              have h := HPOW.out
              rw [he0, Nat.pow_zero, Nat.one_mul] at h
              rw [← HD1.out]
              exact facSt_skip (by rw [← h]; exact HST.out) HZ.out)
            have HOW := Lib.hid (own_below HOWN.out HB2.out)
            subst he0
            clear hz
            go_wp2_with fail
            go_roundg (4100 - d1)
            case measure => omega
            case rel => exact ⟨n', d1, m, xs, rfl, rfl, rfl, by omega, by omega, by omega, HSK.out, HOW.out, HBW.out⟩
          · have hei : ¬ (e : Int) = 0 := by omega
            have HTK : Hid (FacSt n0 n' d1 (xs ++ [.int .i64 d, .int .i64 e])) := Lib.hid (by
              rw [← HD1.out]
              exact facSt_take HST.out hd2 (by rw [HQ.out]; exact hle) (by omega) HPOW.out hn'1)
            have HOW := Lib.hid (own_below HOWN.out HB2.out)
            have HZW := Lib.hid (Nat.le_trans HB.out.size HB2.out.size)
            clear hz
            go_wp2_with (at_builtin; refine wpl_append rfl _ _ 201 rfl powElem _ _ _ rfl _ _ _ [.int .i64 d, .int .i64 e] rfl (own_below HOW.out ((Below.refl _ _).alloc (Nat.le_refl _) _)) (src_new3 _ 205 2 rfl one2) (by unfold maxLen; omega) (by omega) (by have := HZW.out; simp; omega) ?_; intro v' w3 ho3 hg3 _; have HO3 := Lib.hid ho3; have HG3 := Lib.hid hg3; clear ho3 hg3)
            go_roundg (4100 - d1)
            case measure => omega
            case rel =>
              refine ⟨n', d1, m + 1, _, rfl, rfl, rfl, by omega, by omega, by omega, HTK.out, HO3.out, ?_⟩
              exact (HBW.out.trans (((Below.refl _ _).alloc (Nat.le_refl _) _).mono HBW.out.size)).grown HG3.out (by have := HZW.out; simp; omega) fun k hk => (HOW.out.lt k hk).1
    · have hlei : ¬ (q : Int) ≤ (n : Int) := by omega
      by_cases hn : 1 < n
      · have hni : (1 : Int) < (n : Int) := by omega
        have HFE := Lib.hid (facEnd_more HST.out (by rw [HQ.out]; omega) hn h2 ⟨m, HOWN.out.1⟩)
        go_wp2_with (at_builtin; refine wpl_append rfl _ _ 201 rfl powElem _ _ _ rfl _ _ _ [.int .i64 n, .int .i64 1] rfl (own_below HOWN.out ((Below.refl _ _).alloc (Nat.le_refl _) _)) (src_new3 _ 205 2 rfl one2) (by unfold maxLen; omega) (by omega) (by have := HB.out.size; simp; omega) ?_; intro v' w3 ho3 hg3 _; have HO3 := Lib.hid ho3; have HG3 := Lib.hid hg3; clear ho3 hg3)
        try rw [Exit.noGoto_ret]
        go_ret2
        exact ⟨_, _, _, rfl, HO3.out, HFE.out, (HB.out.trans (((Below.refl _ _).alloc (Nat.le_refl _) _).mono HB.out.size)).grown HG3.out (by have := HB.out.size; simp; omega) fun k hk => (HOWN.out.lt k hk).1⟩
      · have hni : ¬ (1 : Int) < (n : Int) := by omega
        obtain rfl : n = 1 := by omega
        have HFE := Lib.hid (facEnd_one HST.out ⟨m, HOWN.out.1⟩)
        go_wp2_with fail
        try rw [Exit.noGoto_ret]
        go_ret2
        exact ⟨_, _, _, rfl, HOWN.out, HFE.out, HB.out⟩
set_option maxRecDepth 100000 in
set_option maxHeartbeats 4000000 in
theorem factors_no (n : Int) (w : World) (h : ¬ (1 ≤ n ∧ n ≤ 16777216)) : Calls Tryz.prog 152 #[.int .i64 n] w fun e w' => e = .returned (.tuple #[.slice none 0 0, .int .i64 3]) ∧ w = w' := by
  have HT : Hid (∀ W, Calls Tryz.prog 165 #[.int .i64 n] W fun e w' => e = .returned (.bool false) ∧ W = w') := Lib.hid fun W => by
    have h2 := there_any n W
    rw [show thereB n = false from decide_eq_false h] at h2
    exact h2
  clear h
  go_enter Tryz.func152, Tryz.ntmps152
  go_wp2_with fail
  go_step3
  go_wp2_with (go_at_call 165; (with_reducible refine (HT.out _).mono ?_); rintro e w' ⟨rfl, rfl⟩)
  try rw [Exit.noGoto_ret]
  go_ret2
  exact ⟨rfl, rfl⟩
set_option maxRecDepth 100000 in
set_option maxHeartbeats 4000000 in
theorem prime_any (n : Int) (w : World) : Calls Tryz.prog 133 #[.int .i64 n] w fun e w' => e = .returned (.bool (primI n)) ∧ Below w.heap.size w w' := by
  by_cases h : 1 ≤ n ∧ n ≤ 16777216
  · obtain ⟨m, rfl⟩ : ∃ m : Nat, n = m := ⟨n.toNat, by omega⟩
    have HC := Lib.hid (factors_yes m w (by omega) (by omega))
    clear h
    go_enter Tryz.func133, Tryz.ntmps133
    go_upto_region 2 with (go_at_call 152; (with_reducible refine HC.out.mono ?_); rintro e w2 ⟨v, k, xs, rfl, ho, ⟨k', hk, hw⟩, hb⟩; have HO := Lib.hid ho; have HB := Lib.hid hb; obtain ⟨a2, c2, rfl⟩ := own_val ho; obtain rfl : k' = k := (by have := ho.1; omega); have HW := Lib.hid hw; clear ho hb hk hw)
    obtain ⟨W2, rfl⟩ : ∃ W : World, W = w2 := ⟨_, rfl⟩
    rcases HW.out with ⟨e, h1, hx, hp⟩ | ⟨h1, hp⟩
    · subst h1
      obtain ⟨g, rfl⟩ : ∃ g, a2 = some ⟨g, 0, none⟩ := by
        rcases HO.out.2 with ⟨_, h0⟩ | ⟨g, _, _, hv, _⟩
        · omega
        · cases hv; exact ⟨g, rfl⟩
      have hc := HO.out.cells (g := g) rfl 1 _ hx
      rw [Addr.add_lit, Nat.zero_add] at hc
      have HP := Lib.hid hp
      clear hx hp HW HC
      by_cases he : e = 1
      · subst he
        go_wp2_with fail
        go_ret
        exact ⟨by rw [HP.out]; rfl, HB.out⟩
      · have hei : ¬ (e : Int) = 1 := by omega
        have heb : ((e : Int) == 1) = false := by simpa using hei
        have HF : Hid (decide (e = 1) = false) := Lib.hid (decide_eq_false he)
        clear he
        go_wp2_with fail
        go_ret
        exact ⟨by rw [HP.out, HF.out]; rfl, HB.out⟩
    · have hei : ¬ (k' : Int) = 1 := by omega
      have heb : ((k' : Int) == 1) = false := by simpa using hei
      have HP := Lib.hid hp
      clear hp HW h1 HC
      go_wp2_with fail
      go_ret
      exact ⟨by rw [HP.out]; rfl, HB.out⟩
  · have HP : Hid (primI n = false) := Lib.hid (by
      unfold primI
      rw [decide_eq_false_iff_not]
      rintro ⟨h1, h2, _⟩
      exact h ⟨by omega, h2⟩)
    have HC := Lib.hid (factors_no n w h)
    clear h
    go_enter Tryz.func133, Tryz.ntmps133
    go_wp2_with (go_at_call 152; (with_reducible refine HC.out.mono ?_); rintro e w2 ⟨rfl, rfl⟩)
    go_ret
    exact ⟨by rw [HP.out]; rfl, Below.refl _ _⟩
end Go.Proofs.YtibabpahpiijgaaGreatDoor
