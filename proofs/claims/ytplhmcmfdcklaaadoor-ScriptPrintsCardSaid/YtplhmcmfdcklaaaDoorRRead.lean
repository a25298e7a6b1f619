/- The reference's read: a call of words. -/
import Derived.Test.YtplhmcmfdcklaaaDoorRNums
import Derived.Test.YtplhmcmfdcklaaaDoorRHex
import Derived.Test.YtplhmcmfdcklaaaDoorRead
import Derived.StillTailTactics
namespace Go.Proofs.YtplhmcmfdcklaaaDoor.Lex
open Go.RowKit
set_option linter.unusedSimpArgs false
set_option linter.unusedVariables false
/-- The names of kinds, by their kinds. -/
def nameK : List (List UInt8) := [] :: nameL
abbrev nameCells : Array Value := #[.string ⟨#[]⟩, .string ⟨#[103, 101, 116]⟩, .string ⟨#[108, 111, 111, 107, 117, 112]⟩, .string ⟨#[101, 118, 105, 99, 116]⟩, .string ⟨#[105, 109, 112, 111, 114, 116]⟩, .string ⟨#[101, 120, 112, 111, 114, 116]⟩, .string ⟨#[101, 120, 101, 99, 117, 116, 101]⟩, .string ⟨#[114, 101, 108, 101, 97, 115, 101]⟩]
set_option maxRecDepth 100000 in
theorem rnames_any (w : World) : Calls Tryd.prog 43 #[] w fun e w' => e = .returned (.slice (some ⟨w.heap.size, 0, none⟩) 8 8) ∧ Below w.heap.size w w' ∧ w'.heap[w.heap.size]? = some (.cells nameCells 9 (0, 0)) := by
  go_enter Tryd.func43, Tryd.ntmps43
  go_wp2_with fail
  go_ret
  exact ⟨rfl, (Below.refl _ _).alloc (Nat.le_refl _) _, heap_alloc_new w _⟩
theorem name_cell {w : World} {b : Nat} (h : w.heap[b]? = some (.cells nameCells 9 (0, 0))) {k : Nat} (hk : k < nameK.length) : w.cell? ⟨b, k, none⟩ = some (.string (bs (nameK[k]'hk))) := by
  refine cell_at h ?_
  have h8 : k < 8 := hk
  rcases (by omega : k = 0 ∨ k = 1 ∨ k = 2 ∨ k = 3 ∨ k = 4 ∨ k = 5 ∨ k = 6 ∨ k = 7) with rfl | rfl | rfl | rfl | rfl | rfl | rfl | rfl <;> rfl
theorem name_iff {h : List UInt8} {k : Nat} (h1 : 1 ≤ k) (hk : k < nameK.length) : nameK[k]'hk = h ↔ kindW h = k := by
  have h8 : k < 8 := hk
  constructor
  · rintro rfl
    rcases (by omega : k = 1 ∨ k = 2 ∨ k = 3 ∨ k = 4 ∨ k = 5 ∨ k = 6 ∨ k = 7) with rfl | rfl | rfl | rfl | rfl | rfl | rfl <;> rfl
  · intro hw
    rcases kindW_cases h with ⟨e, rfl⟩ | ⟨e, rfl⟩ | ⟨e, rfl⟩ | ⟨e, rfl⟩ | ⟨e, rfl⟩ | ⟨e, rfl⟩ | ⟨e, rfl⟩ | ⟨e, _⟩
    · obtain rfl : k = 1 := by omega
      rfl
    · obtain rfl : k = 2 := by omega
      rfl
    · obtain rfl : k = 3 := by omega
      rfl
    · obtain rfl : k = 4 := by omega
      rfl
    · obtain rfl : k = 5 := by omega
      rfl
    · obtain rfl : k = 6 := by omega
      rfl
    · obtain rfl : k = 7 := by omega
      rfl
    · omega
theorem twoW_len {ws : List (List UInt8)} (h : ws.length ≠ 2) : twoW ws = none := by
  unfold twoW
  split
  · next x y e =>
    have := allW_len e
    exact absurd this.symm h
  · rfl
theorem twoW_no {ws : List (List UInt8)} (h : numsW ws = none) : twoW ws = none := by
  unfold twoW
  rw [h]
theorem rnumbers2 {ws : List (List UInt8)} {n : Nat} (hn : n = ws.length) (a : Option Addr) (cap : Nat) {w : World} (hs : Txt w a ws) (hsh : Full ws) : Calls Tryd.prog 50 #[.slice a n cap] w (RowPost 3 (Value.int .i64) (numsW ws) w) := by
  subst hn
  exact rnumbers_any ws a cap w hs hsh
theorem rwords2 {ws : List (List UInt8)} {n : Nat} (hn : n = ws.length) (a : Option Addr) (cap : Nat) {w : World} (hs : Txt w a ws) (hsh : Full ws) : Calls Tryd.prog 66 #[.slice a n cap] w (RowPost 57 (fun n : Nat => Value.int .u64 n) (usW ws) w) := by
  subst hn
  exact rwords_any ws a cap w hs hsh
theorem Full.take {ws : List (List UInt8)} (h : Full ws) (k : Nat) : Full (ws.take k) := ⟨by have := h.1; rw [List.length_take]; omega, fun w hw => h.2 w (List.take_subset _ _ hw)⟩
theorem Full.drop {ws : List (List UInt8)} (h : Full ws) (k : Nat) : Full (ws.drop k) := ⟨by have := h.1; rw [List.length_drop]; omega, fun w hw => h.2 w (List.drop_subset _ _ hw)⟩
theorem nums_pair {ws : List (List UInt8)} {l : List Int} (h : numsW ws = some l) (h2 : ws.length = 2) : ∃ x y, l = [x, y] := by
  have := allW_len h
  match l, this with
  | [x, y], _ => exact ⟨x, y, rfl⟩
  | [], e => rw [h2] at e; cases e
  | [x], e => rw [h2] at e; cases e
  | x :: y :: z :: r, e => rw [h2] at e; simp at e
theorem textW_one {x : List UInt8} (h0 : x ≠ []) : textW [x] = unhexL x := by
  cases e : unhexL x with
  | some l =>
    have h1 := unhexL_some e
    have hl : l ≠ [] := fun e2 => h0 (by rw [← h1, e2]; rfl)
    exact textW_iff.2 (by rw [hexW, if_neg hl, h1])
  | none =>
    cases e2 : textW [x] with
    | none => rfl
    | some l =>
      have h1 := textW_iff.1 e2
      unfold hexW at h1
      split at h1
      · cases h1
      · have h2 : hexOf l = x := by injection h1
        rw [← h2, unhexL_hex] at e
        cases e
theorem textW_many {x y : List UInt8} {r : List (List UInt8)} : textW (x :: y :: r) = none := rfl
/-- The kind that is found among the names ahead of place k. -/
def kindB (h : List UInt8) (k : Nat) : Int := if kindW h < k then kindW h else 0
abbrev callC (k : Int) : Array Value := #[.int .i64 k, .int .i64 0, .int .i64 0, .string ⟨#[]⟩, .int .i64 0, .int .i64 0, .slice none 0 0]
set_option maxRecDepth 100000 in
set_option maxHeartbeats 8000000 in
theorem rread_core (h : List UInt8) (rest : List (List UInt8)) (g off cap : Nat) (w : World) (c0 : w.cell? ⟨g, off, none⟩ = some (.string (bs h))) (hr : Txt w (some ⟨g, off + 1, none⟩) rest) (hsh : Full rest) (hcap : rest.length + 1 ≤ cap) :
    Calls Tryd.prog 51 #[.slice (some ⟨g, off, none⟩) (rest.length + 1) cap] w (ReadPost (h :: rest) w) := by
  obtain ⟨W0, hW0⟩ : ∃ W0, W0 = (w.alloc (.cells (callC 0) 28)).alloc (.cells (callC 0) 28) := ⟨_, rfl⟩
  have hb0 : Below w.heap.size w W0 := by rw [hW0]; exact ((Below.refl _ _).alloc (Nat.le_refl _) _).alloc (by simp) _
  have g0 : W0.heap[w.heap.size]? = some (.cells (callC 0) 28 (0, 0)) := by rw [hW0, Lib.alloc_old _ _ _ (by simp)]; exact heap_alloc_new w _
  have g1 : W0.heap[w.heap.size + 1]? = some (.cells (callC 0) 28 (0, 0)) := by
    rw [hW0]
    have := heap_alloc_new (w.alloc (.cells (callC 0) 28)) (.cells (callC 0) 28)
    simpa using this
  have hgw : g < w.heap.size := World.block_lt_of_cell? w _ c0
  have hz : W0.heap.size = w.heap.size + 2 := by rw [hW0]; simp
  have HC0 := Lib.hid c0
  have HR := Lib.hid hr
  have HSH := Lib.hid hsh
  have hrl := hsh.1
  have HB0 := Lib.hid hb0
  have HG0 := Lib.hid g0
  have HG1 := Lib.hid g1
  clear c0 hr hb0 g0 g1 hsh
  go_enter Tryd.func51, Tryd.ntmps51
  go_wp2_with fail
  rw [← hW0]
  clear hW0
  have hW1 : Hid (∀ W, Below w.heap.size w W → W.cell? ⟨g, off, none⟩ = some (.string (bs h))) := Lib.hid fun W hb => (hb.cell (p := ⟨g, off, none⟩) hgw).trans HC0.out
  have hkb := kindW_bd h
  have HKW : Hid (∃ K, K = kindW h) := Lib.hid ⟨_, rfl⟩
  go_loopg [5] 7 (fun gh kv wr => ∃ k : Nat, 1 ≤ k ∧ k ≤ 8 ∧ gh + k = 8 ∧ kv = .int .i64 k ∧ Below w.heap.size w wr ∧ w.heap.size + 2 ≤ wr.heap.size ∧ wr.heap[w.heap.size]? = some (.cells (callC 0) 28 (0, 0)) ∧ wr.heap[w.heap.size + 1]? = some (.cells (callC (kindB h k)) 28 (0, 0)))
  case atStart => exact ⟨1, by omega, by omega, by omega, rfl, HB0.out, by omega, HG0.out, by have e : kindB h 1 = 0 := (by unfold kindB; split <;> omega); rw [e]; exact HG1.out⟩
  case round =>
    obtain ⟨k, hk1, hk8, hgh, rfl, hbw, hzw, gz, gc⟩ := hrel
    obtain ⟨wo, rfl⟩ : ∃ wo : World, wo = wr := ⟨_, rfl⟩
    by_cases hlt : k ≤ 7
    · have hk : k < nameK.length := by show k < 8; omega
      have hc0 := hW1.out wo hbw
      have hk7 : (k : Int) ≤ 7 := by omega
      have hk88 : (k : Int) < 8 := by omega
      have hk89 : k < 8 := by omega
      have HBW := Lib.hid hbw
      have HNI := Lib.hid (name_iff (h := h) hk1 hk)
      have HNC := Lib.hid (fun (W : World) (b : Nat) (hh : W.heap[b]? = some (.cells nameCells 9 (0, 0))) => name_cell hh hk)
      generalize nameK[k]'hk = x at *
      have HGZ := Lib.hid gz
      have HGC := Lib.hid gc
      clear gz gc
      by_cases hx : x = h
      · have t : ((bs x).toList == (bs h).toList) = true := by rw [hx]; exact beq_self_eq_true _
        have hkk : kindW h = k := HNI.out.1 hx
        have HKB : Hid (kindB h (k + 1) = k) := Lib.hid (by unfold kindB; split <;> omega)
        have HKO : Hid (kindB h k = 0) := Lib.hid (by unfold kindB; split <;> omega)
        clear hbw hkk hx
        go_wp2_with fail
        go_region_with (go_at_call 43; (with_reducible refine (rnames_any _).mono ?_); rintro e w1 ⟨rfl, hb1, hn1⟩; have nc : w1.cell? ⟨wo.heap.size, k, none⟩ = some (.string (bs x)) := HNC.out w1 _ hn1; have hc1 := hW1.out w1 (HBW.out.drew.trans (hb1.mono HBW.out.size)); have HB1 := Lib.hid hb1; clear hb1 hn1)
        all_goals
          have HBX := Lib.hid (HBW.out.drew.trans (HB1.out.mono HBW.out.size))
          have g1 := (HB1.out.block (w.heap.size + 1) (by show w.heap.size + 1 < wo.heap.size; omega)).trans HGC.out
          have g0 := (HB1.out.block w.heap.size (by show w.heap.size < wo.heap.size; omega)).trans HGZ.out
          have z1 := cell_at (o := 0) g1 rfl
          have f1 : w1.frozen? ⟨w.heap.size + 1, 0, none⟩ = false := free_at g1
          have s1 := HB1.out.size
          have HG1 := Lib.hid (heap_set_at (o := 0) (.int .i64 (k : Int)) g1)
          have HG0 := Lib.hid g0
          clear g1 g0
          go_wp2_with fail
          go_roundg (7 - k)
          case measure => omega
          case rel => exact ⟨k + 1, by omega, by omega, by omega, by go_num, HBX.out.setCell (by show w.heap.size ≤ w.heap.size + 1; omega) _, by have : wo.heap.size ≤ w1.heap.size := s1; simp; omega, (Below.heap_setCell _ _ _ _ (by simp)).trans HG0.out, by rw [HKB.out]; exact HG1.out⟩
      · have t := text_ne fun e => hx (bs_inj e)
        have hkk : kindW h ≠ k := fun e => hx (HNI.out.2 e)
        have HKB : Hid (kindB h (k + 1) = kindB h k) := Lib.hid (by unfold kindB; split <;> split <;> first | rfl | omega)
        clear hbw hkk hx
        go_wp2_with fail
        go_region_with (go_at_call 43; (with_reducible refine (rnames_any _).mono ?_); rintro e w1 ⟨rfl, hb1, hn1⟩; have nc : w1.cell? ⟨wo.heap.size, k, none⟩ = some (.string (bs x)) := HNC.out w1 _ hn1; have hc1 := hW1.out w1 (HBW.out.drew.trans (hb1.mono HBW.out.size)); have HB1 := Lib.hid hb1; clear hb1 hn1)
        all_goals
          have HBX := Lib.hid (HBW.out.drew.trans (HB1.out.mono HBW.out.size))
          have g1 := (HB1.out.block (w.heap.size + 1) (by show w.heap.size + 1 < wo.heap.size; omega)).trans HGC.out
          have g0 := (HB1.out.block w.heap.size (by show w.heap.size < wo.heap.size; omega)).trans HGZ.out
          have s1 := HB1.out.size
          have HG1 := Lib.hid g1
          have HG0 := Lib.hid g0
          clear g1 g0
          go_wp2_with fail
          go_roundg (7 - k)
          case measure => omega
          case rel => exact ⟨k + 1, by omega, by omega, by omega, by go_num, HBX.out, by have : wo.heap.size ≤ w1.heap.size := s1; omega, HG0.out, by rw [HKB.out]; exact HG1.out⟩
    · have e8 : k = 8 := by omega
      subst e8
      have HKE : kindB h 8 = kindW h := by (unfold kindB; split <;> omega)
      rw [HKE] at gc
      have HR1 := Lib.hid (HR.out.keep hbw)
      have HBW := Lib.hid hbw
      have hc0 := hW1.out wo hbw
      obtain ⟨c0, c1, c2, c3, c4, c5, c6, cf⟩ := box8_of gc
      obtain ⟨z0, z1, z2, z3, z4, z5, z6, zf⟩ := box8_of gz
      have hNw : ¬ w.heap.size = w.heap.size + 1 := by omega
      have hNw2 : ¬ w.heap.size + 1 = w.heap.size := by omega
      have hg : g < wo.heap.size := by omega
      have hz0 : w.heap.size < wo.heap.size := by omega
      have hz1 : w.heap.size + 1 < wo.heap.size := by omega
      have HKI : Hid (∃ K, kindW h = K) := Lib.hid ⟨_, rfl⟩
      clear gc gz hbw HB0 HG0 HG1 HC0 hW1
      have hk := kindW_cases h
      generalize hK : kindW h = K at *
      have HKI := Lib.hid hK
      clear hK
      by_cases k1 : K = 1
      · subst k1
        clear hk
        by_cases hl : rest.length = 2
        · have hcap3 : ¬ cap = 1 := by omega
          have hcapl : 3 ≤ cap := by omega
          cases hn : numsW rest with
          | none =>
            have HRW : Hid (readW (h :: rest) = none) := Lib.hid (by simp [readW, HKI.out, twoW_no hn])
            have HN := Lib.hid hn
            clear hn
            go_wp2_with (go_at_call 50; (with_reducible refine (rnumbers2 hl.symm _ _ HR1.out HSH.out).mono ?_); rintro e w2 hp; obtain ⟨hb2, rfl⟩ := rowPost_no hp HN.out; clear hp; have HBX : Hid (Below w.heap.size w w2) := Lib.hid (HBW.out.trans (hb2.mono HBW.out.size)); obtain ⟨kc2, kf2⟩ := bcell hb2; have hzz := hb2.size; clear hb2)
            refine bodyPost_ret (v := .tuple #[.agg #[.int .i64 1, .int .i64 0, .int .i64 0, .string ⟨#[]⟩, .int .i64 0, .int .i64 0, .slice none 0 0], .bool false]) (by simp [results, Tryd.results51, go_sem, *]) rfl ?_
            exact readPost_none HRW.out (by
              repeat (first | with_reducible refine Below.drew ?_ | with_reducible refine Below.setCell ?_ (by first | (show w.heap.size ≤ w.heap.size; omega) | (show w.heap.size ≤ w.heap.size + 1; omega)) _)
              with_reducible exact HBX.out)
          | some l =>
            obtain ⟨x, y, rfl⟩ := nums_pair hn hl
            have HRW : Hid (readW (h :: rest) = some ⟨1, x, y, ⟨#[]⟩, 0, 0, []⟩) := Lib.hid (by simp [readW, HKI.out, twoW_some.2 hn])
            have HN := Lib.hid hn
            clear hn
            go_wp2_with (go_at_call 50; (with_reducible refine (rnumbers2 hl.symm _ _ HR1.out HSH.out).mono ?_); rintro e w2 hp; obtain ⟨hb2, a2, cp2, rfl, ho⟩ := rowPost_get hp HN.out; obtain ⟨g2, cap2, hv, _⟩ := own_some ho (by simp); cases hv; have d0 := (own_cell (i := 0) ho rfl).1; have d1 := (own_cell (i := 1) ho rfl).1; clear hp ho; have HBX : Hid (Below w.heap.size w w2) := Lib.hid (HBW.out.trans (hb2.mono HBW.out.size)); obtain ⟨kc2, kf2⟩ := bcell hb2; have hzz := hb2.size; clear hb2)
            go_still_tail 8, (by kernel_rfl)
            change wpList _ _ _ _ _ w2.drew
            all_goals
              go_wp2_with fail
              refine bodyPost_ret (v := .tuple #[.agg #[.int .i64 1, .int .i64 x, .int .i64 y, .string ⟨#[]⟩, .int .i64 0, .int .i64 0, .slice none 0 0], .bool true]) (by simp [results, Tryd.results51, go_sem, *]) rfl ?_
              exact readPost_some HRW.out (by
              repeat (first | with_reducible refine Below.drew ?_ | with_reducible refine Below.setCell ?_ (by first | (show w.heap.size ≤ w.heap.size; omega) | (show w.heap.size ≤ w.heap.size + 1; omega)) _)
              with_reducible exact HBX.out) (U64T.nil _ _) (by simp) (fun _ => rfl)
        · have HRW : Hid (readW (h :: rest) = none) := Lib.hid (by simp [readW, HKI.out, twoW_len hl])
          by_cases hl1 : rest.length < 2
          · go_wp2_with fail
            refine bodyPost_ret (v := .tuple #[.agg #[.int .i64 1, .int .i64 0, .int .i64 0, .string ⟨#[]⟩, .int .i64 0, .int .i64 0, .slice none 0 0], .bool false]) (by simp [results, Tryd.results51, go_sem, *]) rfl ?_
            exact readPost_none HRW.out (by
              repeat (first | with_reducible refine Below.drew ?_ | with_reducible refine Below.setCell ?_ (by first | (show w.heap.size ≤ w.heap.size; omega) | (show w.heap.size ≤ w.heap.size + 1; omega)) _)
              with_reducible exact HBW.out)
          · have hl2 : 2 < rest.length := by omega
            go_wp2_with fail
            refine bodyPost_ret (v := .tuple #[.agg #[.int .i64 1, .int .i64 0, .int .i64 0, .string ⟨#[]⟩, .int .i64 0, .int .i64 0, .slice none 0 0], .bool false]) (by simp [results, Tryd.results51, go_sem, *]) rfl ?_
            exact readPost_none HRW.out (by
              repeat (first | with_reducible refine Below.drew ?_ | with_reducible refine Below.setCell ?_ (by first | (show w.heap.size ≤ w.heap.size; omega) | (show w.heap.size ≤ w.heap.size + 1; omega)) _)
              with_reducible exact HBW.out)
      by_cases k2 : K = 2
      · subst k2
        clear hk
        by_cases hl : rest.length = 2
        · have hcap3 : ¬ cap = 1 := by omega
          have hcapl : 3 ≤ cap := by omega
          cases hn : numsW rest with
          | none =>
            have HRW : Hid (readW (h :: rest) = none) := Lib.hid (by simp [readW, HKI.out, twoW_no hn])
            have HN := Lib.hid hn
            clear hn
            go_wp2_with (go_at_call 50; (with_reducible refine (rnumbers2 hl.symm _ _ HR1.out HSH.out).mono ?_); rintro e w2 hp; obtain ⟨hb2, rfl⟩ := rowPost_no hp HN.out; clear hp; have HBX : Hid (Below w.heap.size w w2) := Lib.hid (HBW.out.trans (hb2.mono HBW.out.size)); obtain ⟨kc2, kf2⟩ := bcell hb2; have hzz := hb2.size; clear hb2)
            refine bodyPost_ret (v := .tuple #[.agg #[.int .i64 2, .int .i64 0, .int .i64 0, .string ⟨#[]⟩, .int .i64 0, .int .i64 0, .slice none 0 0], .bool false]) (by simp [results, Tryd.results51, go_sem, *]) rfl ?_
            exact readPost_none HRW.out (by
              repeat (first | with_reducible refine Below.drew ?_ | with_reducible refine Below.setCell ?_ (by first | (show w.heap.size ≤ w.heap.size; omega) | (show w.heap.size ≤ w.heap.size + 1; omega)) _)
              with_reducible exact HBX.out)
          | some l =>
            obtain ⟨x, y, rfl⟩ := nums_pair hn hl
            have HRW : Hid (readW (h :: rest) = some ⟨2, x, y, ⟨#[]⟩, 0, 0, []⟩) := Lib.hid (by simp [readW, HKI.out, twoW_some.2 hn])
            have HN := Lib.hid hn
            clear hn
            go_wp2_with (go_at_call 50; (with_reducible refine (rnumbers2 hl.symm _ _ HR1.out HSH.out).mono ?_); rintro e w2 hp; obtain ⟨hb2, a2, cp2, rfl, ho⟩ := rowPost_get hp HN.out; obtain ⟨g2, cap2, hv, _⟩ := own_some ho (by simp); cases hv; have d0 := (own_cell (i := 0) ho rfl).1; have d1 := (own_cell (i := 1) ho rfl).1; clear hp ho; have HBX : Hid (Below w.heap.size w w2) := Lib.hid (HBW.out.trans (hb2.mono HBW.out.size)); obtain ⟨kc2, kf2⟩ := bcell hb2; have hzz := hb2.size; clear hb2)
            go_still_tail 8, (by kernel_rfl)
            change wpList _ _ _ _ _ w2.drew
            all_goals
              go_wp2_with fail
              refine bodyPost_ret (v := .tuple #[.agg #[.int .i64 2, .int .i64 x, .int .i64 y, .string ⟨#[]⟩, .int .i64 0, .int .i64 0, .slice none 0 0], .bool true]) (by simp [results, Tryd.results51, go_sem, *]) rfl ?_
              exact readPost_some HRW.out (by
              repeat (first | with_reducible refine Below.drew ?_ | with_reducible refine Below.setCell ?_ (by first | (show w.heap.size ≤ w.heap.size; omega) | (show w.heap.size ≤ w.heap.size + 1; omega)) _)
              with_reducible exact HBX.out) (U64T.nil _ _) (by simp) (fun _ => rfl)
        · have HRW : Hid (readW (h :: rest) = none) := Lib.hid (by simp [readW, HKI.out, twoW_len hl])
          by_cases hl1 : rest.length < 2
          · go_wp2_with fail
            refine bodyPost_ret (v := .tuple #[.agg #[.int .i64 2, .int .i64 0, .int .i64 0, .string ⟨#[]⟩, .int .i64 0, .int .i64 0, .slice none 0 0], .bool false]) (by simp [results, Tryd.results51, go_sem, *]) rfl ?_
            exact readPost_none HRW.out (by
              repeat (first | with_reducible refine Below.drew ?_ | with_reducible refine Below.setCell ?_ (by first | (show w.heap.size ≤ w.heap.size; omega) | (show w.heap.size ≤ w.heap.size + 1; omega)) _)
              with_reducible exact HBW.out)
          · have hl2 : 2 < rest.length := by omega
            go_wp2_with fail
            refine bodyPost_ret (v := .tuple #[.agg #[.int .i64 2, .int .i64 0, .int .i64 0, .string ⟨#[]⟩, .int .i64 0, .int .i64 0, .slice none 0 0], .bool false]) (by simp [results, Tryd.results51, go_sem, *]) rfl ?_
            exact readPost_none HRW.out (by
              repeat (first | with_reducible refine Below.drew ?_ | with_reducible refine Below.setCell ?_ (by first | (show w.heap.size ≤ w.heap.size; omega) | (show w.heap.size ≤ w.heap.size + 1; omega)) _)
              with_reducible exact HBW.out)
      by_cases k3 : K = 3
      · subst k3
        clear hk
        by_cases hl : rest.length = 2
        · have hcap3 : ¬ cap = 1 := by omega
          have hcapl : 3 ≤ cap := by omega
          cases hn : numsW rest with
          | none =>
            have HRW : Hid (readW (h :: rest) = none) := Lib.hid (by simp [readW, HKI.out, twoW_no hn])
            have HN := Lib.hid hn
            clear hn
            go_wp2_with (go_at_call 50; (with_reducible refine (rnumbers2 hl.symm _ _ HR1.out HSH.out).mono ?_); rintro e w2 hp; obtain ⟨hb2, rfl⟩ := rowPost_no hp HN.out; clear hp; have HBX : Hid (Below w.heap.size w w2) := Lib.hid (HBW.out.trans (hb2.mono HBW.out.size)); obtain ⟨kc2, kf2⟩ := bcell hb2; have hzz := hb2.size; clear hb2)
            refine bodyPost_ret (v := .tuple #[.agg #[.int .i64 3, .int .i64 0, .int .i64 0, .string ⟨#[]⟩, .int .i64 0, .int .i64 0, .slice none 0 0], .bool false]) (by simp [results, Tryd.results51, go_sem, *]) rfl ?_
            exact readPost_none HRW.out (by
              repeat (first | with_reducible refine Below.drew ?_ | with_reducible refine Below.setCell ?_ (by first | (show w.heap.size ≤ w.heap.size; omega) | (show w.heap.size ≤ w.heap.size + 1; omega)) _)
              with_reducible exact HBX.out)
          | some l =>
            obtain ⟨x, y, rfl⟩ := nums_pair hn hl
            have HRW : Hid (readW (h :: rest) = some ⟨3, x, y, ⟨#[]⟩, 0, 0, []⟩) := Lib.hid (by simp [readW, HKI.out, twoW_some.2 hn])
            have HN := Lib.hid hn
            clear hn
            go_wp2_with (go_at_call 50; (with_reducible refine (rnumbers2 hl.symm _ _ HR1.out HSH.out).mono ?_); rintro e w2 hp; obtain ⟨hb2, a2, cp2, rfl, ho⟩ := rowPost_get hp HN.out; obtain ⟨g2, cap2, hv, _⟩ := own_some ho (by simp); cases hv; have d0 := (own_cell (i := 0) ho rfl).1; have d1 := (own_cell (i := 1) ho rfl).1; clear hp ho; have HBX : Hid (Below w.heap.size w w2) := Lib.hid (HBW.out.trans (hb2.mono HBW.out.size)); obtain ⟨kc2, kf2⟩ := bcell hb2; have hzz := hb2.size; clear hb2)
            go_still_tail 8, (by kernel_rfl)
            change wpList _ _ _ _ _ w2.drew
            all_goals
              go_wp2_with fail
              refine bodyPost_ret (v := .tuple #[.agg #[.int .i64 3, .int .i64 x, .int .i64 y, .string ⟨#[]⟩, .int .i64 0, .int .i64 0, .slice none 0 0], .bool true]) (by simp [results, Tryd.results51, go_sem, *]) rfl ?_
              exact readPost_some HRW.out (by
              repeat (first | with_reducible refine Below.drew ?_ | with_reducible refine Below.setCell ?_ (by first | (show w.heap.size ≤ w.heap.size; omega) | (show w.heap.size ≤ w.heap.size + 1; omega)) _)
              with_reducible exact HBX.out) (U64T.nil _ _) (by simp) (fun _ => rfl)
        · have HRW : Hid (readW (h :: rest) = none) := Lib.hid (by simp [readW, HKI.out, twoW_len hl])
          by_cases hl1 : rest.length < 2
          · go_wp2_with fail
            refine bodyPost_ret (v := .tuple #[.agg #[.int .i64 3, .int .i64 0, .int .i64 0, .string ⟨#[]⟩, .int .i64 0, .int .i64 0, .slice none 0 0], .bool false]) (by simp [results, Tryd.results51, go_sem, *]) rfl ?_
            exact readPost_none HRW.out (by
              repeat (first | with_reducible refine Below.drew ?_ | with_reducible refine Below.setCell ?_ (by first | (show w.heap.size ≤ w.heap.size; omega) | (show w.heap.size ≤ w.heap.size + 1; omega)) _)
              with_reducible exact HBW.out)
          · have hl2 : 2 < rest.length := by omega
            go_wp2_with fail
            refine bodyPost_ret (v := .tuple #[.agg #[.int .i64 3, .int .i64 0, .int .i64 0, .string ⟨#[]⟩, .int .i64 0, .int .i64 0, .slice none 0 0], .bool false]) (by simp [results, Tryd.results51, go_sem, *]) rfl ?_
            exact readPost_none HRW.out (by
              repeat (first | with_reducible refine Below.drew ?_ | with_reducible refine Below.setCell ?_ (by first | (show w.heap.size ≤ w.heap.size; omega) | (show w.heap.size ≤ w.heap.size + 1; omega)) _)
              with_reducible exact HBW.out)
      by_cases k5 : K = 5
      · subst k5
        clear hk
        by_cases hr0 : rest = []
        · have HRW : Hid (readW (h :: rest) = some ⟨5, 0, 0, ⟨#[]⟩, 0, 0, []⟩) := Lib.hid (by simp [readW, HKI.out, hr0])
          have hl : rest.length = 0 := by rw [hr0]; rfl
          clear hr0
          go_wp2_with fail
          refine bodyPost_ret (v := .tuple #[.agg #[.int .i64 5, .int .i64 0, .int .i64 0, .string ⟨#[]⟩, .int .i64 0, .int .i64 0, .slice none 0 0], .bool true]) (by simp [results, Tryd.results51, go_sem, *]) rfl ?_
          exact readPost_some HRW.out (by
              repeat (first | with_reducible refine Below.drew ?_ | with_reducible refine Below.setCell ?_ (by first | (show w.heap.size ≤ w.heap.size; omega) | (show w.heap.size ≤ w.heap.size + 1; omega)) _)
              with_reducible exact HBW.out) (U64T.nil _ _) (by simp) (fun _ => rfl)
        · have HRW : Hid (readW (h :: rest) = none) := Lib.hid (by simp [readW, HKI.out, hr0])
          have hl : ((rest.length : Int) + 1 == 1) = false := by
            have : rest.length ≠ 0 := fun e => hr0 (List.eq_nil_of_length_eq_zero e)
            simp only [beq_eq_false_iff_ne, ne_eq]
            omega
          clear hr0
          go_wp2_with fail
          refine bodyPost_ret (v := .tuple #[.agg #[.int .i64 5, .int .i64 0, .int .i64 0, .string ⟨#[]⟩, .int .i64 0, .int .i64 0, .slice none 0 0], .bool false]) (by simp [results, Tryd.results51, go_sem, *]) rfl ?_
          exact readPost_none HRW.out (by
              repeat (first | with_reducible refine Below.drew ?_ | with_reducible refine Below.setCell ?_ (by first | (show w.heap.size ≤ w.heap.size; omega) | (show w.heap.size ≤ w.heap.size + 1; omega)) _)
              with_reducible exact HBW.out)
      by_cases k0 : K = 0
      · subst k0
        clear hk
        have HRW : Hid (readW (h :: rest) = none) := Lib.hid (by simp [readW, HKI.out])
        go_wp2_with fail
        refine bodyPost_ret (v := .tuple #[.agg #[.int .i64 0, .int .i64 0, .int .i64 0, .string ⟨#[]⟩, .int .i64 0, .int .i64 0, .slice none 0 0], .bool false]) (by simp [results, Tryd.results51, go_sem, *]) rfl ?_
        exact readPost_none HRW.out (by
              repeat (first | with_reducible refine Below.drew ?_ | with_reducible refine Below.setCell ?_ (by first | (show w.heap.size ≤ w.heap.size; omega) | (show w.heap.size ≤ w.heap.size + 1; omega)) _)
              with_reducible exact HBW.out)
      by_cases k4 : K = 4
      · subst k4
        clear hk
        cases hrest : rest with
        | nil =>
          have HRW : Hid (readW (h :: rest) = some ⟨4, 0, 0, ⟨#[]⟩, 0, 0, []⟩) := Lib.hid (by rw [hrest]; simp [readW, HKI.out, textW]; rfl)
          have hl : rest.length = 0 := by rw [hrest]; rfl
          rw [← hrest]
          clear hrest
          go_wp2_with fail
          refine bodyPost_ret (v := .tuple #[.agg #[.int .i64 4, .int .i64 0, .int .i64 0, .string ⟨#[]⟩, .int .i64 0, .int .i64 0, .slice none 0 0], .bool true]) (by simp [results, Tryd.results51, go_sem, *]) rfl ?_
          exact readPost_some HRW.out (by
              repeat (first | with_reducible refine Below.drew ?_ | with_reducible refine Below.setCell ?_ (by first | (show w.heap.size ≤ w.heap.size; omega) | (show w.heap.size ≤ w.heap.size + 1; omega)) _)
              with_reducible exact HBW.out) (U64T.nil _ _) (by simp) (fun _ => rfl)
        | cons x more =>
          have hl0 : ¬ rest.length = 0 := by rw [hrest]; simp
          have hl1 : ((rest.length : Int) + 1 == 1) = false := by
            simp only [beq_eq_false_iff_ne, ne_eq]
            omega
          have hc1 : wo.cell? ⟨g, off + 1, none⟩ = some (.string (bs x)) := by
            obtain ⟨g', off', e, _, hc⟩ := HR1.out 0 (by omega)
            cases e
            rw [Nat.add_zero] at hc
            rw [hc]
            simp [hrest]
          have hx := HSH.out.2 x (by rw [hrest]; simp)
          have HXL : Hid (x.length ≤ 1099511627776) := Lib.hid (by omega)
          have hlt : (1 : Int) < (rest.length : Int) + 1 := by omega
          by_cases hm : more = []
          · have HT : Hid (textW rest = unhexL x) := Lib.hid (by rw [hrest, hm]; exact textW_one hx.1)
            have hl2 : rest.length = 1 := by rw [hrest, hm]; rfl
            rw [← hrest]
            clear hrest hx hm
            cases hu : unhexL x with
            | some l =>
              have HRW : Hid (readW (h :: rest) = some ⟨4, 0, 0, bs l, 0, 0, []⟩) := Lib.hid (by simp [readW, HKI.out, HT.out, hu])
              have HU := Lib.hid hu
              clear hu
              go_wp2_with (go_at_call 65; (with_reducible refine (unhex_any x _ HXL.out).mono ?_); rintro e w2 ⟨hb2, tt, ok, rfl, hy, _⟩; obtain ⟨rfl, rfl⟩ := hy l HU.out; clear hy; have HBX : Hid (Below w.heap.size w w2) := Lib.hid (HBW.out.trans (hb2.mono HBW.out.size)); obtain ⟨kc2, kf2⟩ := bcell hb2; have hzz := hb2.size; clear hb2)
              refine bodyPost_ret (v := .tuple #[.agg #[.int .i64 4, .int .i64 0, .int .i64 0, .string (bs l), .int .i64 0, .int .i64 0, .slice none 0 0], .bool true]) (by simp [results, Tryd.results51, go_sem, *]) rfl ?_
              exact readPost_some HRW.out (by
              repeat (first | with_reducible refine Below.drew ?_ | with_reducible refine Below.setCell ?_ (by first | (show w.heap.size ≤ w.heap.size; omega) | (show w.heap.size ≤ w.heap.size + 1; omega)) _)
              with_reducible exact HBX.out) (U64T.nil _ _) (by simp) (fun _ => rfl)
            | none =>
              have HRW : Hid (readW (h :: rest) = none) := Lib.hid (by simp [readW, HKI.out, HT.out, hu])
              have HU := Lib.hid hu
              clear hu
              go_wp2_with (go_at_call 65; (with_reducible refine (unhex_any x _ HXL.out).mono ?_); rintro e w2 ⟨hb2, tt, ok, rfl, _, hy⟩; obtain rfl := hy HU.out; clear hy; have HBX : Hid (Below w.heap.size w w2) := Lib.hid (HBW.out.trans (hb2.mono HBW.out.size)); obtain ⟨kc2, kf2⟩ := bcell hb2; have hzz := hb2.size; clear hb2)
              refine bodyPost_ret (v := .tuple #[.agg #[.int .i64 4, .int .i64 0, .int .i64 0, .string tt, .int .i64 0, .int .i64 0, .slice none 0 0], .bool false]) (by simp [results, Tryd.results51, go_sem, *]) rfl ?_
              exact readPost_none HRW.out (by
              repeat (first | with_reducible refine Below.drew ?_ | with_reducible refine Below.setCell ?_ (by first | (show w.heap.size ≤ w.heap.size; omega) | (show w.heap.size ≤ w.heap.size + 1; omega)) _)
              with_reducible exact HBX.out)
          · have HT : Hid (textW rest = none) := Lib.hid (by rw [hrest]; cases more with | nil => exact absurd rfl hm | cons y r => rfl)
            have hl2 : ((rest.length : Int) + 1 == 2) = false := by
              have : more.length ≠ 0 := fun e => hm (List.eq_nil_of_length_eq_zero e)
              rw [hrest]
              simp only [beq_eq_false_iff_ne, ne_eq, List.length_cons]
              omega
            rw [← hrest]
            clear hrest hx hm
            have HRW : Hid (readW (h :: rest) = none) := Lib.hid (by simp [readW, HKI.out, HT.out])
            cases hu : unhexL x with
            | some l =>
              have HU := Lib.hid hu
              clear hu
              go_wp2_with (go_at_call 65; (with_reducible refine (unhex_any x _ HXL.out).mono ?_); rintro e w2 ⟨hb2, tt, ok, rfl, hy, _⟩; obtain ⟨rfl, rfl⟩ := hy l HU.out; clear hy; have HBX : Hid (Below w.heap.size w w2) := Lib.hid (HBW.out.trans (hb2.mono HBW.out.size)); obtain ⟨kc2, kf2⟩ := bcell hb2; have hzz := hb2.size; clear hb2)
              refine bodyPost_ret (v := .tuple #[.agg #[.int .i64 4, .int .i64 0, .int .i64 0, .string (bs l), .int .i64 0, .int .i64 0, .slice none 0 0], .bool false]) (by simp [results, Tryd.results51, go_sem, *]) rfl ?_
              exact readPost_none HRW.out (by
              repeat (first | with_reducible refine Below.drew ?_ | with_reducible refine Below.setCell ?_ (by first | (show w.heap.size ≤ w.heap.size; omega) | (show w.heap.size ≤ w.heap.size + 1; omega)) _)
              with_reducible exact HBX.out)
            | none =>
              have HU := Lib.hid hu
              clear hu
              go_wp2_with (go_at_call 65; (with_reducible refine (unhex_any x _ HXL.out).mono ?_); rintro e w2 ⟨hb2, tt, ok, rfl, _, hy⟩; obtain rfl := hy HU.out; clear hy; have HBX : Hid (Below w.heap.size w w2) := Lib.hid (HBW.out.trans (hb2.mono HBW.out.size)); obtain ⟨kc2, kf2⟩ := bcell hb2; have hzz := hb2.size; clear hb2)
              refine bodyPost_ret (v := .tuple #[.agg #[.int .i64 4, .int .i64 0, .int .i64 0, .string tt, .int .i64 0, .int .i64 0, .slice none 0 0], .bool false]) (by simp [results, Tryd.results51, go_sem, *]) rfl ?_
              exact readPost_none HRW.out (by
              repeat (first | with_reducible refine Below.drew ?_ | with_reducible refine Below.setCell ?_ (by first | (show w.heap.size ≤ w.heap.size; omega) | (show w.heap.size ≤ w.heap.size + 1; omega)) _)
              with_reducible exact HBX.out)
      by_cases k7 : K = 7
      · subst k7
        clear hk
        by_cases hl2 : rest.length = 2
        · have hl : ¬ rest.length < 2 := by omega
          have HTK : Hid (rest.take 2 = rest) := Lib.hid (List.take_of_length_le (by omega))
          have hcap3 : ¬ cap = 1 := by omega
          have hcapl : 3 ≤ cap := by omega
          have HT2 := Lib.hid (HR1.out.take 2)
          have HF2 := Lib.hid (HSH.out.take 2)
          have HLT : Hid (2 = (rest.take 2).length) := Lib.hid (by rw [List.length_take]; omega)
          obtain ⟨ra, hra⟩ : ∃ ra : Option Addr, ra = (if cap = 3 then some ⟨g, off, none⟩ else some ⟨g, off + 3, none⟩) := ⟨_, rfl⟩
          have HRA : Hid (Txt w ra (rest.drop 2)) := Lib.hid (by
            intro i hi
            rw [List.length_drop] at hi
            omega)
          have HLD : Hid (0 = (rest.drop 2).length) := Lib.hid (by rw [List.length_drop]; omega)
          have HRAE := Lib.hid hra
          have hl2' : ¬ rest.length < 2 := hl
          have HF3 := Lib.hid (HSH.out.drop 2)
          clear hra
          cases hn : numsW (rest.take 2) with
          | none =>
            have HRW : Hid (readW (h :: rest) = none) := Lib.hid (by simp [readW, HKI.out, twoW_no (HTK.out ▸ hn)])
            have HN := Lib.hid hn
            clear hn hl
            go_wp2_with (go_at_call 50; (with_reducible refine (rnumbers2 HLT.out _ _ HT2.out HF2.out).mono ?_); rintro e w2 hp; obtain ⟨hb2, rfl⟩ := rowPost_no hp HN.out; clear hp; have HBX : Hid (Below w.heap.size w w2) := Lib.hid (HBW.out.trans (hb2.mono HBW.out.size)); obtain ⟨kc2, kf2⟩ := bcell hb2; have hzz := hb2.size; clear hb2)
            refine bodyPost_ret (v := .tuple #[.agg #[.int .i64 7, .int .i64 0, .int .i64 0, .string ⟨#[]⟩, .int .i64 0, .int .i64 0, .slice none 0 0], .bool false]) (by simp [results, Tryd.results51, go_sem, *]) rfl ?_
            exact readPost_none HRW.out (by
                repeat (first | with_reducible refine Below.drew ?_ | with_reducible refine Below.setCell ?_ (by first | (show w.heap.size ≤ w.heap.size; omega) | (show w.heap.size ≤ w.heap.size + 1; omega)) _)
                with_reducible exact HBX.out)
          | some l =>
            obtain ⟨x, y, rfl⟩ := nums_pair hn HLT.out.symm
            have HTW := Lib.hid (twoW_some.2 hn)
            have HN := Lib.hid hn
            clear hn
            go_wp2_with (go_at_call 50; (with_reducible refine (rnumbers2 HLT.out _ _ HT2.out HF2.out).mono ?_); rintro e w2 hp; obtain ⟨hb2, a2, cp2, rfl, ho⟩ := rowPost_get hp HN.out; obtain ⟨g2, cap2, hv, _⟩ := own_some ho (by simp); cases hv; have d0 := (own_cell (i := 0) ho rfl).1; have d1 := (own_cell (i := 1) ho rfl).1; clear hp ho; have HBX : Hid (Below w.heap.size w w2) := Lib.hid (HBW.out.trans (hb2.mono HBW.out.size)); obtain ⟨kc2, kf2⟩ := bcell hb2; have hzz := hb2.size; clear hb2)
            have hz20 : w.heap.size < w2.heap.size := by omega
            have hz21 : w.heap.size + 1 < w2.heap.size := by omega
            go_still_tail 8, (by kernel_rfl)
            change wpList _ _ _ _ _ w2.drew
            have HRW : Hid (readW (h :: rest) = some ⟨7, 0, 0, ⟨#[]⟩, x, y, []⟩) := Lib.hid (by rw [show twoW (rest.take 2) = twoW rest by rw [HTK.out]] at HTW; simp [readW, HKI.out, HTW.out])
            have HU : Hid (usW (rest.drop 2) = some []) := Lib.hid (by rw [List.drop_eq_nil_of_le (by omega)]; rfl)
            have HXB : Hid (∀ x ∈ ([] : List Nat), x < 18446744073709551616) := Lib.hid (by simp)
            go_wp2_with (go_at_call 66; rw [← HRAE.out]; (with_reducible refine (rwords2 HLD.out _ _ (HRA.out.keep (by (repeat (first | with_reducible refine Below.drew ?_ | with_reducible refine Below.setCell ?_ (by first | (show w.heap.size ≤ w.heap.size; omega) | (show w.heap.size ≤ w.heap.size + 1; omega)) _)); (with_reducible exact HBX.out))) HF3.out).mono ?_); rintro e w3 hp; obtain ⟨hb3, a5, c5, rfl, ho5⟩ := rowPost_get hp HU.out; have HX5 := Lib.hid (U64T.of_own ho5 HXB.out); have HX6 := Lib.hid (U64T.far ho5 HXB.out); clear hp ho5; have HBY : Hid (Below w.heap.size w w3) := Lib.hid (Below.trans (by (repeat (first | with_reducible refine Below.drew ?_ | with_reducible refine Below.setCell ?_ (by first | (show w.heap.size ≤ w.heap.size; omega) | (show w.heap.size ≤ w.heap.size + 1; omega)) _)); (with_reducible exact HBX.out)) (hb3.mono (by have := HBX.out.size; simpa using this))); obtain ⟨kc3, kf3⟩ := bcell hb3; have hzz3 := hb3.size; clear hb3)
            refine bodyPost_ret (v := .tuple #[.agg #[.int .i64 7, .int .i64 0, .int .i64 0, .string ⟨#[]⟩, .int .i64 x, .int .i64 y, .slice a5 0 c5], .bool true]) (by simp [results, Tryd.results51, go_sem, *]) rfl ?_
            exact readPost_some HRW.out (by
              repeat (first | with_reducible refine Below.drew ?_ | with_reducible refine Below.setCell ?_ (by first | (show w.heap.size ≤ w.heap.size; omega) | (show w.heap.size ≤ w.heap.size + 1; omega)) _)
              with_reducible exact HBY.out) (HX6.out _ (fun q hq => by
              have hq2 : w2.heap.size ≤ q := by simpa using hq
              repeat (with_reducible refine Eq.trans (Below.heap_setCell _ _ _ _ (by first | (show q ≠ w.heap.size; omega) | (show q ≠ w.heap.size + 1; omega))) ?_)
              rfl)) HX5.out.2.1 HX5.out.2.2
        · have HRW : Hid (readW (h :: rest) = none) := Lib.hid (by simp [readW, HKI.out, twoW_len hl2])
          by_cases hl1 : rest.length < 2
          · go_wp2_with fail
            refine bodyPost_ret (v := .tuple #[.agg #[.int .i64 7, .int .i64 0, .int .i64 0, .string ⟨#[]⟩, .int .i64 0, .int .i64 0, .slice none 0 0], .bool false]) (by simp [results, Tryd.results51, go_sem, *]) rfl ?_
            exact readPost_none HRW.out (by
              repeat (first | with_reducible refine Below.drew ?_ | with_reducible refine Below.setCell ?_ (by first | (show w.heap.size ≤ w.heap.size; omega) | (show w.heap.size ≤ w.heap.size + 1; omega)) _)
              with_reducible exact HBW.out)
          · have hl3 : 2 < rest.length := by omega
            go_wp2_with fail
            refine bodyPost_ret (v := .tuple #[.agg #[.int .i64 7, .int .i64 0, .int .i64 0, .string ⟨#[]⟩, .int .i64 0, .int .i64 0, .slice none 0 0], .bool false]) (by simp [results, Tryd.results51, go_sem, *]) rfl ?_
            exact readPost_none HRW.out (by
              repeat (first | with_reducible refine Below.drew ?_ | with_reducible refine Below.setCell ?_ (by first | (show w.heap.size ≤ w.heap.size; omega) | (show w.heap.size ≤ w.heap.size + 1; omega)) _)
              with_reducible exact HBW.out)
      obtain rfl : K = 6 := by omega
      clear hk k1 k2 k3 k4 k5 k7 k0
      by_cases hl : rest.length < 2
      · have HRW : Hid (readW (h :: rest) = none) := Lib.hid (by simp [readW, HKI.out, hl])
        go_wp2_with fail
        refine bodyPost_ret (v := .tuple #[.agg #[.int .i64 6, .int .i64 0, .int .i64 0, .string ⟨#[]⟩, .int .i64 0, .int .i64 0, .slice none 0 0], .bool false]) (by simp [results, Tryd.results51, go_sem, *]) rfl ?_
        exact readPost_none HRW.out (by
              repeat (first | with_reducible refine Below.drew ?_ | with_reducible refine Below.setCell ?_ (by first | (show w.heap.size ≤ w.heap.size; omega) | (show w.heap.size ≤ w.heap.size + 1; omega)) _)
              with_reducible exact HBW.out)
      · by_cases hl2 : rest.length = 2
        · have hcap3 : ¬ cap = 1 := by omega
          have hcapl : 3 ≤ cap := by omega
          have HT2 := Lib.hid (HR1.out.take 2)
          have HF2 := Lib.hid (HSH.out.take 2)
          have HLT : Hid (2 = (rest.take 2).length) := Lib.hid (by rw [List.length_take]; omega)
          obtain ⟨ra, hra⟩ : ∃ ra : Option Addr, ra = (if cap = 3 then some ⟨g, off, none⟩ else some ⟨g, off + 3, none⟩) := ⟨_, rfl⟩
          have HRA : Hid (Txt w ra (rest.drop 2)) := Lib.hid (by
            intro i hi
            rw [List.length_drop] at hi
            omega)
          have HLD : Hid (0 = (rest.drop 2).length) := Lib.hid (by rw [List.length_drop]; omega)
          have HRAE := Lib.hid hra
          have hl2' : ¬ rest.length < 2 := hl
          have HF3 := Lib.hid (HSH.out.drop 2)
          clear hra
          cases hn : numsW (rest.take 2) with
          | none =>
            have HRW : Hid (readW (h :: rest) = none) := Lib.hid (by simp [readW, HKI.out, hl, twoW_no hn])
            have HN := Lib.hid hn
            clear hn hl
            go_wp2_with (go_at_call 50; (with_reducible refine (rnumbers2 HLT.out _ _ HT2.out HF2.out).mono ?_); rintro e w2 hp; obtain ⟨hb2, rfl⟩ := rowPost_no hp HN.out; clear hp; have HBX : Hid (Below w.heap.size w w2) := Lib.hid (HBW.out.trans (hb2.mono HBW.out.size)); obtain ⟨kc2, kf2⟩ := bcell hb2; have hzz := hb2.size; clear hb2)
            refine bodyPost_ret (v := .tuple #[.agg #[.int .i64 6, .int .i64 0, .int .i64 0, .string ⟨#[]⟩, .int .i64 0, .int .i64 0, .slice none 0 0], .bool false]) (by simp [results, Tryd.results51, go_sem, *]) rfl ?_
            exact readPost_none HRW.out (by
                repeat (first | with_reducible refine Below.drew ?_ | with_reducible refine Below.setCell ?_ (by first | (show w.heap.size ≤ w.heap.size; omega) | (show w.heap.size ≤ w.heap.size + 1; omega)) _)
                with_reducible exact HBX.out)
          | some l =>
            obtain ⟨x, y, rfl⟩ := nums_pair hn HLT.out.symm
            have HTW := Lib.hid (twoW_some.2 hn)
            have HN := Lib.hid hn
            clear hn
            go_wp2_with (go_at_call 50; (with_reducible refine (rnumbers2 HLT.out _ _ HT2.out HF2.out).mono ?_); rintro e w2 hp; obtain ⟨hb2, a2, cp2, rfl, ho⟩ := rowPost_get hp HN.out; obtain ⟨g2, cap2, hv, _⟩ := own_some ho (by simp); cases hv; have d0 := (own_cell (i := 0) ho rfl).1; have d1 := (own_cell (i := 1) ho rfl).1; clear hp ho; have HBX : Hid (Below w.heap.size w w2) := Lib.hid (HBW.out.trans (hb2.mono HBW.out.size)); obtain ⟨kc2, kf2⟩ := bcell hb2; have hzz := hb2.size; clear hb2)
            have hz20 : w.heap.size < w2.heap.size := by omega
            have hz21 : w.heap.size + 1 < w2.heap.size := by omega
            go_still_tail 8, (by kernel_rfl)
            change wpList _ _ _ _ _ w2.drew
            cases hus : usW (rest.drop 2) with
            | none =>
              have HRW : Hid (readW (h :: rest) = none) := Lib.hid (by simp [readW, HKI.out, hl2', HTW.out, hus])
              have HU := Lib.hid hus
              clear hus
              go_wp2_with (go_at_call 66; rw [← HRAE.out]; (with_reducible refine (rwords2 HLD.out _ _ (HRA.out.keep (by (repeat (first | with_reducible refine Below.drew ?_ | with_reducible refine Below.setCell ?_ (by first | (show w.heap.size ≤ w.heap.size; omega) | (show w.heap.size ≤ w.heap.size + 1; omega)) _)); (with_reducible exact HBX.out))) HF3.out).mono ?_); rintro e w3 hp; obtain ⟨hb3, rfl⟩ := rowPost_no hp HU.out; clear hp; have HBY : Hid (Below w.heap.size w w3) := Lib.hid (Below.trans (by (repeat (first | with_reducible refine Below.drew ?_ | with_reducible refine Below.setCell ?_ (by first | (show w.heap.size ≤ w.heap.size; omega) | (show w.heap.size ≤ w.heap.size + 1; omega)) _)); (with_reducible exact HBX.out)) (hb3.mono (by have := HBX.out.size; simpa using this))); obtain ⟨kc3, kf3⟩ := bcell hb3; have hzz3 := hb3.size; clear hb3)
              refine bodyPost_ret (v := .tuple #[.agg #[.int .i64 6, .int .i64 0, .int .i64 0, .string ⟨#[]⟩, .int .i64 x, .int .i64 y, .slice none 0 0], .bool false]) (by simp [results, Tryd.results51, go_sem, *]) rfl ?_
              exact readPost_none HRW.out (by
                repeat (first | with_reducible refine Below.drew ?_ | with_reducible refine Below.setCell ?_ (by first | (show w.heap.size ≤ w.heap.size; omega) | (show w.heap.size ≤ w.heap.size + 1; omega)) _)
                with_reducible exact HBY.out)
            | some xs =>
              have HRW : Hid (readW (h :: rest) = some ⟨6, 0, 0, ⟨#[]⟩, x, y, xs⟩) := Lib.hid (by simp [readW, HKI.out, hl2', HTW.out, hus])
              have HU := Lib.hid hus
              have HXB := Lib.hid (allW_map uW_iff hus).2
              clear hus
              go_wp2_with (go_at_call 66; rw [← HRAE.out]; (with_reducible refine (rwords2 HLD.out _ _ (HRA.out.keep (by (repeat (first | with_reducible refine Below.drew ?_ | with_reducible refine Below.setCell ?_ (by first | (show w.heap.size ≤ w.heap.size; omega) | (show w.heap.size ≤ w.heap.size + 1; omega)) _)); (with_reducible exact HBX.out))) HF3.out).mono ?_); rintro e w3 hp; obtain ⟨hb3, a5, c5, rfl, ho5⟩ := rowPost_get hp HU.out; have HX5 := Lib.hid (U64T.of_own ho5 HXB.out); have HX6 := Lib.hid (U64T.far ho5 HXB.out); clear hp ho5; have HBY : Hid (Below w.heap.size w w3) := Lib.hid (Below.trans (by (repeat (first | with_reducible refine Below.drew ?_ | with_reducible refine Below.setCell ?_ (by first | (show w.heap.size ≤ w.heap.size; omega) | (show w.heap.size ≤ w.heap.size + 1; omega)) _)); (with_reducible exact HBX.out)) (hb3.mono (by have := HBX.out.size; simpa using this))); obtain ⟨kc3, kf3⟩ := bcell hb3; have hzz3 := hb3.size; clear hb3)
              refine bodyPost_ret (v := .tuple #[.agg #[.int .i64 6, .int .i64 0, .int .i64 0, .string ⟨#[]⟩, .int .i64 x, .int .i64 y, .slice a5 xs.length c5], .bool true]) (by simp [results, Tryd.results51, go_sem, *]) rfl ?_
              exact readPost_some HRW.out (by
                repeat (first | with_reducible refine Below.drew ?_ | with_reducible refine Below.setCell ?_ (by first | (show w.heap.size ≤ w.heap.size; omega) | (show w.heap.size ≤ w.heap.size + 1; omega)) _)
                with_reducible exact HBY.out) (HX6.out _ (fun q hq => by
                have hq2 : w2.heap.size ≤ q := by simpa using hq
                repeat (with_reducible refine Eq.trans (Below.heap_setCell _ _ _ _ (by first | (show q ≠ w.heap.size; omega) | (show q ≠ w.heap.size + 1; omega))) ?_)
                rfl)) HX5.out.2.1 HX5.out.2.2
        · have hcap3 : ¬ cap = 1 := by omega
          have hcapl : 3 ≤ cap := by omega
          have HT2 := Lib.hid (HR1.out.take 2)
          have HF2 := Lib.hid (HSH.out.take 2)
          have HLT : Hid (2 = (rest.take 2).length) := Lib.hid (by rw [List.length_take]; omega)
          have hcap4 : ¬ cap = 3 := by omega
          have hl3 : 2 < rest.length := by omega
          obtain ⟨ra, hra⟩ : ∃ ra : Option Addr, ra = some ⟨g, off + 3, none⟩ := ⟨_, rfl⟩
          have HRA : Hid (Txt w ra (rest.drop 2)) := Lib.hid (by rw [hra]; exact HR.out.drop 2)
          have HLD : Hid (rest.length - 2 = (rest.drop 2).length) := Lib.hid (by rw [List.length_drop])
          have HRAE := Lib.hid hra
          have hl2' : ¬ rest.length < 2 := hl
          have HF3 := Lib.hid (HSH.out.drop 2)
          clear hra
          cases hn : numsW (rest.take 2) with
          | none =>
            have HRW : Hid (readW (h :: rest) = none) := Lib.hid (by simp [readW, HKI.out, hl, twoW_no hn])
            have HN := Lib.hid hn
            clear hn hl
            go_wp2_with (go_at_call 50; (with_reducible refine (rnumbers2 HLT.out _ _ HT2.out HF2.out).mono ?_); rintro e w2 hp; obtain ⟨hb2, rfl⟩ := rowPost_no hp HN.out; clear hp; have HBX : Hid (Below w.heap.size w w2) := Lib.hid (HBW.out.trans (hb2.mono HBW.out.size)); obtain ⟨kc2, kf2⟩ := bcell hb2; have hzz := hb2.size; clear hb2)
            refine bodyPost_ret (v := .tuple #[.agg #[.int .i64 6, .int .i64 0, .int .i64 0, .string ⟨#[]⟩, .int .i64 0, .int .i64 0, .slice none 0 0], .bool false]) (by simp [results, Tryd.results51, go_sem, *]) rfl ?_
            exact readPost_none HRW.out (by
                repeat (first | with_reducible refine Below.drew ?_ | with_reducible refine Below.setCell ?_ (by first | (show w.heap.size ≤ w.heap.size; omega) | (show w.heap.size ≤ w.heap.size + 1; omega)) _)
                with_reducible exact HBX.out)
          | some l =>
            obtain ⟨x, y, rfl⟩ := nums_pair hn HLT.out.symm
            have HTW := Lib.hid (twoW_some.2 hn)
            have HN := Lib.hid hn
            clear hn
            go_wp2_with (go_at_call 50; (with_reducible refine (rnumbers2 HLT.out _ _ HT2.out HF2.out).mono ?_); rintro e w2 hp; obtain ⟨hb2, a2, cp2, rfl, ho⟩ := rowPost_get hp HN.out; obtain ⟨g2, cap2, hv, _⟩ := own_some ho (by simp); cases hv; have d0 := (own_cell (i := 0) ho rfl).1; have d1 := (own_cell (i := 1) ho rfl).1; clear hp ho; have HBX : Hid (Below w.heap.size w w2) := Lib.hid (HBW.out.trans (hb2.mono HBW.out.size)); obtain ⟨kc2, kf2⟩ := bcell hb2; have hzz := hb2.size; clear hb2)
            have hz20 : w.heap.size < w2.heap.size := by omega
            have hz21 : w.heap.size + 1 < w2.heap.size := by omega
            go_still_tail 8, (by kernel_rfl)
            change wpList _ _ _ _ _ w2.drew
            cases hus : usW (rest.drop 2) with
            | none =>
              have HRW : Hid (readW (h :: rest) = none) := Lib.hid (by simp [readW, HKI.out, hl2', HTW.out, hus])
              have HU := Lib.hid hus
              clear hus
              go_wp2_with (go_at_call 66; rw [← HRAE.out]; (with_reducible refine (rwords2 HLD.out _ _ (HRA.out.keep (by (repeat (first | with_reducible refine Below.drew ?_ | with_reducible refine Below.setCell ?_ (by first | (show w.heap.size ≤ w.heap.size; omega) | (show w.heap.size ≤ w.heap.size + 1; omega)) _)); (with_reducible exact HBX.out))) HF3.out).mono ?_); rintro e w3 hp; obtain ⟨hb3, rfl⟩ := rowPost_no hp HU.out; clear hp; have HBY : Hid (Below w.heap.size w w3) := Lib.hid (Below.trans (by (repeat (first | with_reducible refine Below.drew ?_ | with_reducible refine Below.setCell ?_ (by first | (show w.heap.size ≤ w.heap.size; omega) | (show w.heap.size ≤ w.heap.size + 1; omega)) _)); (with_reducible exact HBX.out)) (hb3.mono (by have := HBX.out.size; simpa using this))); obtain ⟨kc3, kf3⟩ := bcell hb3; have hzz3 := hb3.size; clear hb3)
              refine bodyPost_ret (v := .tuple #[.agg #[.int .i64 6, .int .i64 0, .int .i64 0, .string ⟨#[]⟩, .int .i64 x, .int .i64 y, .slice none 0 0], .bool false]) (by simp [results, Tryd.results51, go_sem, *]) rfl ?_
              exact readPost_none HRW.out (by
                repeat (first | with_reducible refine Below.drew ?_ | with_reducible refine Below.setCell ?_ (by first | (show w.heap.size ≤ w.heap.size; omega) | (show w.heap.size ≤ w.heap.size + 1; omega)) _)
                with_reducible exact HBY.out)
            | some xs =>
              have HRW : Hid (readW (h :: rest) = some ⟨6, 0, 0, ⟨#[]⟩, x, y, xs⟩) := Lib.hid (by simp [readW, HKI.out, hl2', HTW.out, hus])
              have HU := Lib.hid hus
              have HXB := Lib.hid (allW_map uW_iff hus).2
              clear hus
              go_wp2_with (go_at_call 66; rw [← HRAE.out]; (with_reducible refine (rwords2 HLD.out _ _ (HRA.out.keep (by (repeat (first | with_reducible refine Below.drew ?_ | with_reducible refine Below.setCell ?_ (by first | (show w.heap.size ≤ w.heap.size; omega) | (show w.heap.size ≤ w.heap.size + 1; omega)) _)); (with_reducible exact HBX.out))) HF3.out).mono ?_); rintro e w3 hp; obtain ⟨hb3, a5, c5, rfl, ho5⟩ := rowPost_get hp HU.out; have HX5 := Lib.hid (U64T.of_own ho5 HXB.out); have HX6 := Lib.hid (U64T.far ho5 HXB.out); clear hp ho5; have HBY : Hid (Below w.heap.size w w3) := Lib.hid (Below.trans (by (repeat (first | with_reducible refine Below.drew ?_ | with_reducible refine Below.setCell ?_ (by first | (show w.heap.size ≤ w.heap.size; omega) | (show w.heap.size ≤ w.heap.size + 1; omega)) _)); (with_reducible exact HBX.out)) (hb3.mono (by have := HBX.out.size; simpa using this))); obtain ⟨kc3, kf3⟩ := bcell hb3; have hzz3 := hb3.size; clear hb3)
              refine bodyPost_ret (v := .tuple #[.agg #[.int .i64 6, .int .i64 0, .int .i64 0, .string ⟨#[]⟩, .int .i64 x, .int .i64 y, .slice a5 xs.length c5], .bool true]) (by simp [results, Tryd.results51, go_sem, *]) rfl ?_
              exact readPost_some HRW.out (by
                repeat (first | with_reducible refine Below.drew ?_ | with_reducible refine Below.setCell ?_ (by first | (show w.heap.size ≤ w.heap.size; omega) | (show w.heap.size ≤ w.heap.size + 1; omega)) _)
                with_reducible exact HBY.out) (HX6.out _ (fun q hq => by
                have hq2 : w2.heap.size ≤ q := by simpa using hq
                repeat (with_reducible refine Eq.trans (Below.heap_setCell _ _ _ _ (by first | (show q ≠ w.heap.size; omega) | (show q ≠ w.heap.size + 1; omega))) ?_)
                rfl)) HX5.out.2.1 HX5.out.2.2
end Go.Proofs.YtplhmcmfdcklaaaDoor.Lex
