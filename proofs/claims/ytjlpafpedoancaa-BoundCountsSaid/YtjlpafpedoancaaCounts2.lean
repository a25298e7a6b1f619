/- bound's Spent and Longest of each client, and the statement BoundCounts. -/
import Derived.Test.YtjlpafpedoancaaCounts
namespace Go.Proofs.Ytjlpafpedoancaa.Counts
open Go.RowKit Cnt
theorem elem : Elem Try.prog 30 3 1 8 := ⟨Try.underlying30, ⟨.int .i64 0, by kernel_rfl, rfl⟩, by omega⟩
theorem of_spent (a : Option Addr) (n cap : Nat) (zs : List Int) (m : Int) (w : World) (h : Row w a n cap (zs.map (Value.int .i64))) (hm : m ≤ 1099511627776) :
    Calls Try.prog 61 #[.slice a n cap, .int .i64 m, .func (.func 62) #[] #[]] w fun e w' => ∃ v, e = .returned v ∧ w'.ownsRow w.heap.size 3 1 v m.toNat ((List.range m.toNat).map fun j : Nat => .int .i64 (cnt j zs : Nat)) ∧ Below w.heap.size w w' := by
  have H := Lib.hid h
  clear h
  by_cases hm0 : 0 < m
  · go_enter Try.func61, Try.ntmps61
    go_wp2
    go_loopw [7, 8, 11] (fun v _ c wr => ∃ k : Nat, (k : Int) ≤ m ∧ c = .int .i64 k ∧ wr.ownsRow w.heap.size 3 1 v k ((List.range k).map fun j : Nat => .int .i64 (cnt j zs : Nat)) ∧ Below w.heap.size w wr) (fun _ _ c _ => (m - intOf c).toNat)
    case atStart => exact ⟨0, by omega, rfl, World.ownsRow_nil _ _ _ _, Below.refl _ _⟩
    case round =>
      obtain ⟨k, hk, rfl, hown, hB⟩ := hrel
      have HO := Lib.hid hown
      clear hown
      by_cases hkm : (k : Int) < m
      · go_wp2_with (first | (go_at_call 62; (with_reducible refine (spent _ _ _ _ _ _ (H.out.keep hB (Nat.le_refl _))).mono ?_); rintro e w' ⟨rfl, rfl⟩) | (at_builtin; refine wpl_app1 rfl _ _ 30 rfl elem _ _ _ rfl _ rfl rfl HO.out hB (Nat.le_refl _) hB.size (by omega) (by unfold maxLen; omega) ?_; intro v' w1 hown hB' _))
        go_roundw
        case rel => exact ⟨k + 1, by omega, by go_num, by rw [List.range_succ, List.map_append]; exact hown, hB'⟩
        case measure => simp [intOf]; omega
      · have e : m.toNat = k := by omega
        have HE := Lib.hid e; clear e
        go_wp2
        go_ret
        exact ⟨_, rfl, by rw [HE.out]; exact HO.out, hB⟩
  · have e : m.toNat = 0 := by omega
    have HE := Lib.hid e; clear e
    rcases (show m < 0 ∨ m = 0 by omega) with hm1 | hm1
    · go_enter Try.func61, Try.ntmps61
      go_wp2
      go_loopw [7, 8, 11] (fun v _ c wr => v = .slice none 0 0 ∧ c = .int .i64 0 ∧ wr = w) (fun _ _ c _ => 0)
      case atStart => exact ⟨rfl, rfl, rfl⟩
      case round =>
        obtain ⟨rfl, rfl, rfl⟩ := hrel
        go_wp2
        go_ret
        exact ⟨_, rfl, by rw [HE.out]; exact World.ownsRow_nil _ _ _ _, Below.refl _ _⟩
    · subst hm1
      go_enter Try.func61, Try.ntmps61
      go_wp2
      go_loopw [7, 8, 11] (fun v _ c wr => v = .slice none 0 0 ∧ c = .int .i64 0 ∧ wr = w) (fun _ _ c _ => 0)
      case atStart => exact ⟨rfl, rfl, rfl⟩
      case round =>
        obtain ⟨rfl, rfl, rfl⟩ := hrel
        go_wp2
        go_ret
        exact ⟨_, rfl, by rw [HE.out]; exact World.ownsRow_nil _ _ _ _, Below.refl _ _⟩
theorem of_longest (a : Option Addr) (n cap : Nat) (zs : List Int) (m : Int) (w : World) (h : Row w a n cap (zs.map (Value.int .i64))) (hm : m ≤ 1099511627776) :
    Calls Try.prog 61 #[.slice a n cap, .int .i64 m, .func (.func 63) #[] #[]] w fun e w' => ∃ v, e = .returned v ∧ w'.ownsRow w.heap.size 3 1 v m.toNat ((List.range m.toNat).map fun j : Nat => .int .i64 (most j zs : Nat)) ∧ Below w.heap.size w w' := by
  have H := Lib.hid h
  clear h
  by_cases hm0 : 0 < m
  · go_enter Try.func61, Try.ntmps61
    go_wp2
    go_loopw [7, 8, 11] (fun v _ c wr => ∃ k : Nat, (k : Int) ≤ m ∧ c = .int .i64 k ∧ wr.ownsRow w.heap.size 3 1 v k ((List.range k).map fun j : Nat => .int .i64 (most j zs : Nat)) ∧ Below w.heap.size w wr) (fun _ _ c _ => (m - intOf c).toNat)
    case atStart => exact ⟨0, by omega, rfl, World.ownsRow_nil _ _ _ _, Below.refl _ _⟩
    case round =>
      obtain ⟨k, hk, rfl, hown, hB⟩ := hrel
      have HO := Lib.hid hown
      clear hown
      by_cases hkm : (k : Int) < m
      · go_wp2_with (first | (go_at_call 63; (with_reducible refine (longest _ _ _ _ _ _ (H.out.keep hB (Nat.le_refl _))).mono ?_); rintro e w' ⟨rfl, rfl⟩) | (at_builtin; refine wpl_app1 rfl _ _ 30 rfl elem _ _ _ rfl _ rfl rfl HO.out hB (Nat.le_refl _) hB.size (by omega) (by unfold maxLen; omega) ?_; intro v' w1 hown hB' _))
        go_roundw
        case rel => exact ⟨k + 1, by omega, by go_num, by rw [List.range_succ, List.map_append]; exact hown, hB'⟩
        case measure => simp [intOf]; omega
      · have e : m.toNat = k := by omega
        have HE := Lib.hid e; clear e
        go_wp2
        go_ret
        exact ⟨_, rfl, by rw [HE.out]; exact HO.out, hB⟩
  · have e : m.toNat = 0 := by omega
    have HE := Lib.hid e; clear e
    rcases (show m < 0 ∨ m = 0 by omega) with hm1 | hm1
    · go_enter Try.func61, Try.ntmps61
      go_wp2
      go_loopw [7, 8, 11] (fun v _ c wr => v = .slice none 0 0 ∧ c = .int .i64 0 ∧ wr = w) (fun _ _ c _ => 0)
      case atStart => exact ⟨rfl, rfl, rfl⟩
      case round =>
        obtain ⟨rfl, rfl, rfl⟩ := hrel
        go_wp2
        go_ret
        exact ⟨_, rfl, by rw [HE.out]; exact World.ownsRow_nil _ _ _ _, Below.refl _ _⟩
    · subst hm1
      go_enter Try.func61, Try.ntmps61
      go_wp2
      go_loopw [7, 8, 11] (fun v _ c wr => v = .slice none 0 0 ∧ c = .int .i64 0 ∧ wr = w) (fun _ _ c _ => 0)
      case atStart => exact ⟨rfl, rfl, rfl⟩
      case round =>
        obtain ⟨rfl, rfl, rfl⟩ := hrel
        go_wp2
        go_ret
        exact ⟨_, rfl, by rw [HE.out]; exact World.ownsRow_nil _ _ _ _, Below.refl _ _⟩
theorem Spent_any (a : Option Addr) (n cap : Nat) (zs : List Int) (m : Int) (w : World) (h : Row w a n cap (zs.map (Value.int .i64))) (hm : m ≤ 1099511627776) :
    Calls Try.prog 25 #[.slice a n cap, .int .i64 m] w fun e w' => ∃ v, e = .returned v ∧ w'.ownsRow w.heap.size 3 1 v m.toNat ((List.range m.toNat).map fun j : Nat => .int .i64 (cnt j zs : Nat)) ∧ Below w.heap.size w w' := by
  have H := Lib.hid h
  clear h
  go_enter Try.func25, Try.ntmps25
  go_wp2_with (go_at_call 61; (with_reducible refine (of_spent _ _ _ _ _ _ H.out hm).mono ?_); rintro e w' ⟨v, rfl, hown, hB⟩)
  go_ret
  exact ⟨_, rfl, hown, hB⟩
theorem Longest_any (a : Option Addr) (n cap : Nat) (zs : List Int) (m : Int) (w : World) (h : Row w a n cap (zs.map (Value.int .i64))) (hm : m ≤ 1099511627776) :
    Calls Try.prog 26 #[.slice a n cap, .int .i64 m] w fun e w' => ∃ v, e = .returned v ∧ w'.ownsRow w.heap.size 3 1 v m.toNat ((List.range m.toNat).map fun j : Nat => .int .i64 (most j zs : Nat)) ∧ Below w.heap.size w w' := by
  have H := Lib.hid h
  clear h
  go_enter Try.func26, Try.ntmps26
  go_wp2_with (go_at_call 61; (with_reducible refine (of_longest _ _ _ _ _ _ H.out hm).mono ?_); rintro e w' ⟨v, rfl, hown, hB⟩)
  go_ret
  exact ⟨_, rfl, hown, hB⟩
theorem range_cell {w : World} {a : Option Addr} {n cap : Nat} {f : Nat → Int} (h : Row w a n cap ((List.range n).map fun j => .int .i64 (f j))) (k : Nat) (hk : k < n) :
    ∃ b off, a = some ⟨b, off, none⟩ ∧ w.cell? ⟨b, off + k, none⟩ = some (.int .i64 (f k)) := by
  obtain ⟨b, off, ha, hc⟩ := h.cell k hk
  exact ⟨b, off, ha, by rw [hc]; simp [List.getD, hk]⟩
set_option maxHeartbeats 1000000 in
theorem law (a : Option Addr) (n cap : Nat) (zs : List Int) (m : Int) (w : World) (h : Row w a n cap (zs.map (Value.int .i64))) (wm : (Lit.int .i64 m).wf = true) :
    Calls Try.prog 7 #[.slice a n cap, .int .i64 m] w fun e w' => e = .returned (.bool true) ∧ Below w.heap.size w w' := by
  have H := Lib.hid h
  have hle := h.le
  have hmx := h.max
  have hmb := wf_i64_bd wm
  unfold maxLen at hmx
  clear h wm
  by_cases hn : 300 < n
  · go_enter Try.func7, Try.ntmps7
    go_wp2_with (go_at_call 16; (with_reducible refine (Bnd.live _).mono ?_); rintro e w' ⟨rfl, rfl⟩)
    go_ret
    exact ⟨rfl, Below.refl _ _⟩
  · by_cases hm : 100 < m
    · go_enter Try.func7, Try.ntmps7
      go_wp2_with (go_at_call 16; (with_reducible refine (Bnd.live _).mono ?_); rintro e w' ⟨rfl, rfl⟩)
      go_ret
      exact ⟨rfl, Below.refl _ _⟩
    · have hmx0 : (m.toNat : Int) = max m 0 := by omega
      have HM := Lib.hid hmx0
      clear hmx0
      go_enter Try.func7, Try.ntmps7
      go_wp2_with (first | (go_at_call 25; (with_reducible refine (Spent_any _ _ _ zs _ _ H.out (by omega)).mono ?_); rintro e w' ⟨v1, rfl, hown1, hB1⟩; obtain ⟨a1, c1, rfl, hr1⟩ := Row.of_owns hown1; have HR1 := Lib.hid hr1; clear hr1 hown1) | (go_at_call 26; (with_reducible refine (Longest_any _ _ _ zs _ _ (H.out.keep hB1 (Nat.le_refl _)) (by omega)).mono ?_); rintro e w' ⟨v2, rfl, hown2, hB2⟩; obtain ⟨a2, c2, rfl, hr2⟩ := Row.of_owns hown2; have HR2 := Lib.hid hr2; clear hr2 hown2))
      all_goals
        have hB := hB1.trans (hB2.mono hB1.size)
        have HR3 := Lib.hid (HR1.out.keep hB2 (Nat.le_refl _))
        generalize hmt : m.toNat = mt at *
        clear hmt
        have hml : mt ≤ 9223372036854775807 := by have := HM.out; omega
        go_loopw [7] (fun i wr => ∃ k : Nat, k ≤ mt ∧ i = .int .i64 k ∧ Below w'.heap.size w' wr) (fun i _ => mt - (intOf i).toNat)
        case atStart => exact ⟨0, by omega, rfl, Below.refl _ _⟩
        case round =>
          obtain ⟨k, hk, rfl, hb⟩ := hrel
          by_cases hkm : k < mt
          · obtain ⟨b1, o1, rfl, hc1⟩ := range_cell (HR3.out.keep hb (Nat.le_refl _)) k hkm
            obtain ⟨b2, o2, rfl, hc2⟩ := range_cell (HR2.out.keep hb (Nat.le_refl _)) k hkm
            have hki : (k : Int) < (mt : Int) := by omega
            have hk0 : (0 : Int) ≤ (k : Int) := by omega
            go_wp2
            go_quiet (first | (go_at_call 27; exact qsame (rspent _ _ _ _ _ _ (H.out.keep (below_drewN (hB.trans (hb.mono hB.size)) _) (Nat.le_refl _)))) | (go_at_call 28; exact qsame (rlongest _ _ _ _ _ _ (H.out.keep (below_drewN (hB.trans (hb.mono hB.size)) _) (Nat.le_refl _)))))
            go_wp2
            go_roundw
            case rel => exact ⟨k + 1, by omega, by go_num, below_drewN hb _⟩
            case measure => simp [intOf]; omega
          · go_wp2_with (go_at_call 16; (with_reducible refine (Bnd.live _).mono ?_); rintro e w' ⟨rfl, rfl⟩)
            go_ret
            exact ⟨rfl, hB.trans (hb.mono hB.size)⟩
end Go.Proofs.Ytjlpafpedoancaa.Counts
