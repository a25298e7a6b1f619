/- The contracts of package tick: where a clock stands, and the reference's sums. -/
import Derived.Test.YtjlpafpedoancaaMem
import Derived.WalkSpells
import Derived.WalkLawsBesides
namespace Go.Proofs.Ytjlpafpedoancaa.Tick
open Go.RowKit
/-! ### Plain numbers -/
def nowStep (s x : Int) : Int := if 1152921504606846976 - s < x then 1152921504606846976 else if 0 < x then s + x else s
def nowR (zs : List Int) (m : Nat) : Int := (zs.take m).foldl nowStep 0
theorem nowStep_bd (s x : Int) (h : 0 ≤ s ∧ s ≤ 1152921504606846976) : s ≤ nowStep s x ∧ nowStep s x ≤ 1152921504606846976 := by
  unfold nowStep; split
  · omega
  · split <;> omega
theorem foldl_bd (l : List Int) : ∀ s : Int, 0 ≤ s ∧ s ≤ 1152921504606846976 → s ≤ l.foldl nowStep s ∧ l.foldl nowStep s ≤ 1152921504606846976 := by
  induction l with
  | nil => intro s h; simp; omega
  | cons x l ih => intro s h; have h1 := nowStep_bd s x h; have := ih (nowStep s x) (by omega); simp only [List.foldl_cons]; omega
theorem nowR_bd (zs : List Int) (m : Nat) : 0 ≤ nowR zs m ∧ nowR zs m ≤ 1152921504606846976 := foldl_bd _ 0 (by omega)
theorem nowR_succ (zs : List Int) (k : Nat) (h : k < zs.length) : nowR zs (k + 1) = nowStep (nowR zs k) (zs.getD k 0) := by
  unfold nowR
  rw [List.take_succ_eq_append_getElem h, List.foldl_append]
  simp [List.getD, h]
theorem nowR_past (zs : List Int) (k : Nat) (h : zs.length ≤ k) : nowR zs k = nowR zs zs.length := by
  unfold nowR; rw [List.take_of_length_le h, List.take_length]
theorem nowR_mono (zs : List Int) (k : Nat) : nowR zs k ≤ nowR zs (k + 1) := by
  by_cases h : k < zs.length
  · rw [nowR_succ zs k h]; exact (nowStep_bd _ _ (nowR_bd zs k)).1
  · rw [nowR_past zs (k + 1) (by omega), nowR_past zs k (by omega)]; omega
theorem step_min (s x : Int) (h : 0 ≤ s ∧ s ≤ 1152921504606846976) : min (s + min (max x 0) 1152921504606846976) 1152921504606846976 = nowStep s x := by
  unfold nowStep; split
  · omega
  · split <;> omega
/-! ### The reference -/
set_option maxHeartbeats 1000000 in
theorem rnow_any (a : Option Addr) (n cap : Nat) (zs : List Int) (m : Int) (w : World) (h : Row w a n cap (zs.map (Value.int .i64))) (hz : ∀ z ∈ zs, (Lit.int .i64 z).wf = true) :
    Calls Try.prog 21 #[.slice a n cap, .int .i64 m] w fun e w' => e = .returned (.int .i64 (nowR zs m.toNat)) ∧ w = w' := by
  have hlen := h.len
  simp only [List.length_map] at hlen
  have hmax := h.max
  have hle := h.le
  unfold maxLen at hmax
  have HL := Lib.hid hlen; clear hlen
  go_enter Try.func21, Try.ntmps21
  go_wp2
  go_loop [5, 6] (fun s i => ∃ k : Nat, k ≤ n ∧ (k : Int) ≤ max m 0 ∧ i = .int .i64 k ∧ s = .int .i64 (nowR zs k)) (fun _ i => n - (intOf i).toNat)
  case atStart => exact ⟨0, Nat.zero_le _, by omega, rfl, rfl⟩
  case round =>
    obtain ⟨k, hk, hkm, rfl, rfl⟩ := hrel
    have hb := nowR_bd zs k
    by_cases hm : (k : Int) < m
    · by_cases hn : k < n
      · obtain ⟨b, off, rfl, hc⟩ := h.int k hn
        have hwf : -9223372036854775808 ≤ zs.getD k 0 ∧ zs.getD k 0 ≤ 9223372036854775807 :=
          wf_i64_bd (hz _ (by have := HL.out; simp only [List.getD]; rw [List.getElem?_eq_getElem (by omega)]; exact List.getElem_mem _))
        have HS := Lib.hid (nowR_succ zs k (by have := HL.out; omega))
        generalize zs.getD k 0 = x at *
        have HX : Hid (nowStep (nowR zs k) x = if 1152921504606846976 - nowR zs k < x then 1152921504606846976 else if 0 < x then nowR zs k + x else nowR zs k) := rfl
        generalize nowR zs k = s at *
        clear h hz
        by_cases h1 : 1152921504606846976 - s < x
        · go_wp2
          go_round
          case rel => exact ⟨k + 1, by omega, by omega, by go_num, by rw [HS.out, HX.out, if_pos h1]⟩
          case measure => simp [intOf]; omega
        · by_cases h2 : 0 < x
          · go_wp2
            go_round
            case rel => exact ⟨k + 1, by omega, by omega, by go_num, by rw [HS.out, HX.out, if_neg h1, if_pos h2]⟩
            case measure => simp [intOf]; omega
          · go_wp2
            go_round
            case rel => exact ⟨k + 1, by omega, by omega, by go_num, by rw [HS.out, HX.out, if_neg h1, if_neg h2]⟩
            case measure => simp [intOf]; omega
      · have e : nowR zs m.toNat = nowR zs k := by rw [nowR_past zs _ (by have := HL.out; omega), nowR_past zs k (by have := HL.out; omega)]
        have HE := Lib.hid e; clear e
        clear h hz
        generalize nowR zs k = s at *
        go_wp2
        go_ret
        exact ⟨ret_int HE.out.symm, rfl⟩
    · have e : nowR zs m.toNat = nowR zs k := by rw [show m.toNat = k by omega]
      have HE := Lib.hid e; clear e
      clear h hz
      generalize nowR zs k = s at *
      go_wp2
      go_ret
      exact ⟨ret_int HE.out.symm, rfl⟩
/-! ### A clock in memory -/
def Clock (w : World) (b : Nat) (zs : List Int) (k : Nat) : Prop :=
  ∃ a n cap, w.heap[b]? = some (.cells #[.slice a n cap, .int .i64 (nowR zs k), .int .i64 k] 108 (0, 0)) ∧ Row w a n cap ((zs.drop k).map (Value.int .i64)) ∧ ∀ x, a = some x → x.block ≠ b
theorem now_end {w : World} {b b1 off n cap k : Nat} {zs : List Int} {a0 : Value} {s : Int} (hb : w.heap[b]? = some (.cells #[a0, .int .i64 s, .int .i64 k] 108 (0, 0)))
    (hr : Row w (some ⟨b1, off, none⟩) n cap ((zs.drop k).map (Value.int .i64))) (hb1 : ¬ b1 = b) (h1 : 1 ≤ n) (v : Int) (hv : nowR zs (k + 1) = v) (o' cap' : Nat) (hc : cap' = cap - 1) (ho : ¬ cap = 1 → o' = off + 1) :
    Ending.returned (.int .i64 v) = .returned (.int .i64 (nowR zs (k + 1))) ∧ Clock (((w.setCell ⟨b, 2, none⟩ (.int .i64 (↑k + 1))).setCell ⟨b, 1, none⟩ (.int .i64 v)).setCell ⟨b, 0, none⟩ (.slice (some ⟨b1, o', none⟩) (n - 1) cap')).drew b zs (k + 1) ∧
    w.grownBy (((w.setCell ⟨b, 2, none⟩ (.int .i64 (↑k + 1))).setCell ⟨b, 1, none⟩ (.int .i64 v)).setCell ⟨b, 0, none⟩ (.slice (some ⟨b1, o', none⟩) (n - 1) cap')).drew (some b) := by
  have hg : w.grownBy (((w.setCell ⟨b, 2, none⟩ (.int .i64 (↑k + 1))).setCell ⟨b, 1, none⟩ (.int .i64 v)).setCell ⟨b, 0, none⟩ (.slice (some ⟨b1, o', none⟩) (n - 1) cap')).drew (some b) :=
    grown_drew (grown_trans (grown_trans (grown_setCell w ⟨b, 2, none⟩ _) (grown_setCell _ ⟨b, 1, none⟩ _)) (grown_setCell _ ⟨b, 0, none⟩ _))
  subst hv
  have hlen := hr.len
  have hle := hr.le
  simp only [List.length_map, List.length_drop] at hlen
  refine ⟨rfl, ⟨some ⟨b1, o', none⟩, n - 1, cap', ?_, ?_, by intro x hx; cases hx; exact hb1⟩, hg⟩
  · show (World.setCell _ _ _).heap[b]? = _
    rw [heap_set_at _ (heap_set_at _ (heap_set_at _ hb))]
    rfl
  · refine Row.grown (r := some b) ⟨by simp; omega, by omega, by have := hr.max; omega, by simp, fun hn => ?_⟩ hg (by intro x hx; cases hx; simpa using hb1)
    obtain ⟨b2, off2, he, hlt, hcell⟩ := hr.at_ (by omega)
    cases he
    refine ⟨b1, o', rfl, hlt, fun i u hu => ?_⟩
    rw [ho (by omega), show off + 1 + i = off + (i + 1) by omega]
    refine hcell (i + 1) u ?_
    rw [← hu, List.getElem?_map, List.getElem?_map, List.getElem?_drop, List.getElem?_drop]
    congr 2; omega
theorem now_some (b : Nat) (zs : List Int) (k : Nat) (w : World) (h : Clock w b zs k) (hk : k < 4611686018427387904) (hz : ∀ z ∈ zs, (Lit.int .i64 z).wf = true) :
    Calls Try.prog 20 #[.pointer (some ⟨b, 0, none⟩)] w fun e w' => e = .returned (.int .i64 (nowR zs (k + 1))) ∧ Clock w' b zs (k + 1) ∧ w.grownBy w' (some b) := by
  obtain ⟨a, n, cap, hb, hr, hne⟩ := h
  have c0 : w.cell? ⟨b, 0, none⟩ = some (.slice a n cap) := cell_at hb rfl
  have c1 : w.cell? ⟨b, 1, none⟩ = some (.int .i64 (nowR zs k)) := cell_at hb rfl
  have c2 : w.cell? ⟨b, 2, none⟩ = some (.int .i64 k) := cell_at hb rfl
  have f1 : w.frozen? ⟨b, 0, none⟩ = false := free_at hb
  have f2 : w.frozen? ⟨b, 1, none⟩ = false := free_at hb
  have f3 : w.frozen? ⟨b, 2, none⟩ = false := free_at hb
  have hlen := hr.len
  simp only [List.length_map, List.length_drop] at hlen
  have hbd := nowR_bd zs k
  by_cases hn : n = 0
  · have e : nowR zs (k + 1) = nowR zs k := by rw [nowR_past zs (k + 1) (by omega), nowR_past zs k (by omega)]
    have HE := Lib.hid e
    have HR := Lib.hid hr
    have HB := Lib.hid hb
    have HD := Lib.hid (show (zs.drop (k + 1)) = zs.drop k by rw [List.drop_of_length_le (by omega), List.drop_of_length_le (by omega)])
    subst hn
    clear hlen e hr hb
    generalize nowR zs k = s at *
    go_enter Try.func20, Try.ntmps20
    go_wp2
    go_ret
    refine ⟨ret_int HE.out.symm, ⟨a, 0, cap, ?_, ?_, hne⟩, grown_setCell _ _ _⟩
    · rw [heap_set_at _ HB.out, HE.out]; rfl
    · rw [HD.out]; exact HR.out.grown (grown_setCell _ _ _) (fun x hx => by simpa using hne x hx)
  · have hkz : k < zs.length := by omega
    obtain ⟨b1, off, rfl, hc⟩ := hr.int 0 (by omega)
    simp only [Nat.add_zero] at hc
    have hx : (zs.drop k).getD 0 0 = zs.getD k 0 := by simp [List.getD]
    rw [hx] at hc
    have hwf : -9223372036854775808 ≤ zs.getD k 0 ∧ zs.getD k 0 ≤ 9223372036854775807 :=
      wf_i64_bd (hz _ (by simp only [List.getD]; rw [List.getElem?_eq_getElem (by omega)]; exact List.getElem_mem _))
    have e : nowR zs (k + 1) = nowStep (nowR zs k) (zs.getD k 0) := nowR_succ zs k hkz
    rw [← step_min _ _ hbd] at e
    have hb1 : ¬ b1 = b := hne _ rfl
    have HE := Lib.hid e
    have HR := Lib.hid hr
    have HB := Lib.hid hb
    have hmx := hr.max
    have hle := hr.le
    unfold maxLen at hmx
    have HL := Lib.hid hlen
    have hp : (0 : Int) < (n : Int) := by omega
    have h1n : 1 ≤ n := by omega
    have h1c : (1 : Int) ≤ (cap : Int) := by omega
    clear hlen e hr hb hx hz hne
    generalize nowR zs k = s at *
    generalize zs.getD k 0 = x at *
    go_enter Try.func20, Try.ntmps20
    go_wp2
    go_region
    all_goals go_wp2
    all_goals
      go_ret
      refine now_end HB.out HR.out hb1 h1n _ ?_ _ _ ?_ ?_
      · rw [HE.out]
        have hy : (if x < 0 then 0 else x) = max x 0 := by split <;> omega
        simp only [hy] at *
        omega
      · omega
      · intro h; first | rfl | omega
theorem now_nil (w : World) : Calls Try.prog 20 #[.pointer none] w fun e w' => e = .returned (.int .i64 0) ∧ w = w' := by
  go_enter Try.func20, Try.ntmps20
  go_wp2
  go_ret
  exact ⟨rfl, rfl⟩
theorem asked_nil (w : World) : Calls Try.prog 22 #[.pointer none] w fun e w' => e = .returned (.int .i64 0) ∧ w = w' := by
  go_enter Try.func22, Try.ntmps22
  go_wp2
  go_ret
  exact ⟨rfl, rfl⟩
theorem asked_some (b : Nat) (zs : List Int) (k : Nat) (w : World) (h : Clock w b zs k) : Calls Try.prog 22 #[.pointer (some ⟨b, 0, none⟩)] w fun e w' => e = .returned (.int .i64 k) ∧ w = w' := by
  obtain ⟨a, n, cap, hb, hr, hne⟩ := h
  have c2 : w.cell? ⟨b, 2, none⟩ = some (.int .i64 k) := cell_at hb rfl
  clear hb hr hne
  go_enter Try.func22, Try.ntmps22
  go_wp2
  go_ret
  exact ⟨rfl, rfl⟩
theorem elem : Elem Try.prog 30 3 1 8 := ⟨Try.underlying30, ⟨.int .i64 0, by kernel_rfl, rfl⟩, by omega⟩
theorem clone_any (a : Option Addr) (n cap : Nat) (zs : List Int) (w : World) (h : Row w a n cap (zs.map (Value.int .i64))) (hn : n * 8 ≤ 140737488355328) :
    Calls Try.prog 59 #[.slice a n cap] w fun e w' => ∃ v, e = .returned v ∧ w'.ownsRow w.heap.size 3 1 v n (zs.map (Value.int .i64)) ∧ Below w.heap.size w w' := by
  have hlen := h.len
  have q : ∀ (w : World) (a : Option Addr) (n c : Nat), (binOp .eql 30 (.slice a n c) (.slice none 0 0)).run Try.prog w = .ok (.bool a.isNone) w := fun w a n c => Lib.run_eql_slice_nil w _ _ a n c 0 0 Try.underlying30
  cases a with
  | none =>
    have h0 := h.nil rfl
    have h1 := h.le
    obtain rfl : n = 0 := by omega
    have hz : zs = [] := by simpa using hlen
    subst hz
    subst h0
    clear h hlen
    go_enter Try.func59, Try.ntmps59
    go_wp2
    go_ret
    exact ⟨_, rfl, World.ownsRow_nil _ _ _ _, Below.refl _ _⟩
  | some x =>
    have H := Lib.hid h
    clear h hlen
    go_enter Try.func59, Try.ntmps59
    go_wp2_with (at_builtin; refine wpl_append rfl _ _ 30 rfl elem _ 0 [] rfl _ _ _ _ rfl (World.ownsRow_made w #[] 0 (Nat.le_refl _) (Nat.zero_le _) (by simp)) (Src.of_row (H.out.keep ((Below.refl _ _).alloc (Nat.le_refl _) _) (Nat.le_refl _))) (by unfold maxLen; omega) (by omega) (by simp) ?_; intro v' w1 hown hgr _)
    go_ret
    exact ⟨_, rfl, by simpa using hown, ((Below.refl _ _).alloc (Nat.le_refl _) _).grown hgr (by simp) (by intro k hk; cases hk; exact Nat.le_refl _)⟩
theorem new_any (a : Option Addr) (n cap : Nat) (zs : List Int) (w : World) (h : Row w a n cap (zs.map (Value.int .i64))) (hn : n * 8 ≤ 140737488355328) :
    Calls Try.prog 19 #[.slice a n cap] w fun e w' => ∃ b, e = .returned (.pointer (some ⟨b, 0, none⟩)) ∧ w.heap.size ≤ b ∧ Clock w' b zs 0 ∧ Below w.heap.size w w' := by
  have H := Lib.hid h
  clear h
  go_enter Try.func19, Try.ntmps19
  go_wp2_with (go_at_call 59; refine (clone_any _ _ _ _ _ H.out hn).mono ?_; rintro e w' ⟨v, rfl, hown, hb⟩; obtain ⟨a', cap', rfl, hr⟩ := Row.of_owns hown; have HO := Lib.hid hown; have HR := Lib.hid hr; clear hown hr)
  go_ret
  refine ⟨w'.heap.size, rfl, hb.size, ⟨a', n, cap', heap_alloc_new _ _, HR.out.keep ((Below.refl _ _).alloc (Nat.le_refl _) _) (Nat.le_refl _), fun x hx => ?_⟩, hb.alloc hb.size _⟩
  have := (HO.out.lt x.block (by rw [hx]; rfl)).2
  omega
end Go.Proofs.Ytjlpafpedoancaa.Tick
