/- WordC, EParse, ParE, Back24: laid into one text. -/
import Derived.Test.YtephllgddhncgaaGreatDoorGLex
import Derived.Laws.IdiomStrings
import Derived.Deep.LoopGhost
import Derived.Test.YtephllgddhncgaaGreatDoorGText
import Derived.Test.YtephllgddhncgaaGreatDoorParse23
/- lex.Words, walked. -/
namespace Go.Proofs.YtephllgddhncgaaGreatDoor.Lex
open Go.RowKit
set_option linter.unusedSimpArgs false
set_option linter.unusedVariables false
/-- '[]byte(s)'. -/
theorem conv_bytes {P : Program} {src dst e : TypeId} (hs : P.underlying src = some .string) (hd : P.underlying dst = some (.slice e)) (he : P.underlying e = some (.int .u8)) (s : ByteArray) (w : World) :
    ∃ cap W1, (convert src dst (.string s)).run P w = .ok (.slice (some ⟨w.heap.size, 0, none⟩) s.size cap) W1 ∧ (∀ j (h : j < s.size), W1.cell? ⟨w.heap.size, j, none⟩ = some (.int .u8 ((s[j]'h).toNat))) ∧ Below w.heap.size w W1 ∧ W1.heap.size = w.heap.size + 1 := by
  refine ⟨_, _, run_bytes_of_string w src dst e s hs hd he, fun j h => ?_, ((Below.refl _ _).drew).alloc (Nat.le_refl _) _, by simp⟩
  have h2 := bytesRow_at s (grownCap w s.size 0 e) j h
  exact cell_at (heap_alloc_new w.drew _) h2
/-- What Words makes of a line: its words in a row, or none. -/
def WordPost (l : List UInt8) (w : World) (e : Ending) (w' : World) : Prop :=
  Below w.heap.size w w' ∧
  match wordsOf l with
  | none => e = .returned (.tuple #[.slice none 0 0, .int .i64 10])
  | some ws => ∃ v, e = .returned (.tuple #[v, .int .i64 0]) ∧ w'.ownsRow w.heap.size 9 1 v ws.length (ws.map fun l => .string (bs l))
theorem wordPost_none {l : List UInt8} {w w' : World} (h : wordsOf l = none) (hb : Below w.heap.size w w') : WordPost l w (.returned (.tuple #[.slice none 0 0, .int .i64 10])) w' := by
  refine ⟨hb, ?_⟩
  rw [h]
theorem wordPost_some {l : List UInt8} {w w' : World} {ws : List (List UInt8)} {v : Value} (h : wordsOf l = some ws) (hb : Below w.heap.size w w') (ho : w'.ownsRow w.heap.size 9 1 v ws.length (ws.map fun l => .string (bs l))) : WordPost l w (.returned (.tuple #[v, .int .i64 0])) w' := by
  refine ⟨hb, ?_⟩
  rw [h]
  exact ⟨v, rfl, ho⟩
theorem okb_iff (c : UInt8) : okb c = true ↔ 32 ≤ c.toNat ∧ c.toNat ≤ 126 := by
  unfold okb
  rw [Bool.not_eq_true', Bool.or_eq_false_iff, decide_eq_false_iff_not, decide_eq_false_iff_not]
  rw [UInt8.lt_iff_toNat_lt, gt_iff_lt, UInt8.lt_iff_toNat_lt]
  show ¬ c.toNat < 32 ∧ ¬ 126 < c.toNat ↔ _
  omega
theorem get_mem (s : ByteArray) (i : Nat) (h : i < s.size) : (s[i]'h) ∈ s.data.toList := by
  have hi : i < s.data.size := h
  exact Array.mem_toList_iff.2 (Array.getElem_mem hi)
set_option maxRecDepth 100000 in
set_option maxHeartbeats 4000000 in
theorem words (s : ByteArray) (w : World) (hs : s.size ≤ 1048576) (hm : HasMax w) : Calls Tryz.prog 46 #[.string s] w (WordPost s.data.toList w) := by
  obtain ⟨cap, W1, hconv, hcell, hb1, hz1⟩ := conv_bytes Tryz.underlying9 Tryz.underlying48 Tryz.underlying5 s w
  have hsz := s.size
  have HC := Lib.hid hcell
  have HB := Lib.hid hb1
  have HM := Lib.hid (hm.below hb1)
  have HZ := Lib.hid hz1
  clear hcell hb1 hz1 hm
  go_enter Tryz.func46, Tryz.ntmps46
  go_wp2
  go_loop [12] (fun i => ∃ k : Nat, k ≤ s.size ∧ i = .int .i64 k ∧ ∀ j (h : j < s.size), j < k → okb (s[j]'h) = true) (fun i => s.size - (intOf i).toNat)
  case atStart => exact ⟨0, Nat.zero_le _, rfl, by omega⟩
  case round =>
    obtain ⟨k, hk, rfl, hok⟩ := hrel
    have HOK := Lib.hid hok
    clear hok
    by_cases hlt : k < s.size
    · have c1 := HC.out k hlt
      have HO := Lib.hid (okb_iff (s[k]'hlt))
      have HG := Lib.hid (get_mem s k hlt)
      have h255 : (s[k]'hlt).toNat < 256 := (s[k]'hlt).toNat_lt
      by_cases hb : okb (s[k]'hlt) = true
      · have ⟨b1, b2⟩ := HO.out.1 hb
        have HBK := Lib.hid hb
        clear hb
        go_wp2_with fail
        go_round
        case rel => exact ⟨k + 1, by omega, by go_num, fun j h hj => by
          rcases Nat.lt_or_ge j k with h1 | h1
          · exact HOK.out j h h1
          · obtain rfl : j = k := by omega
            exact HBK.out⟩
        case measure => simp [intOf]; omega
      · have hw : wordsOf s.data.toList = none := wordsOf_bad HG.out (by simpa using hb)
        have hnb : ¬ (32 ≤ (s[k]'hlt).toNat ∧ (s[k]'hlt).toNat ≤ 126) := fun h => hb (HO.out.2 h)
        have HW := Lib.hid hw
        clear hb hw
        by_cases h1 : (s[k]'hlt).toNat < 32
        · clear hnb
          go_wp2_with fail
          go_ret2
          exact wordPost_none HW.out HB.out
        · have h2 : 126 < (s[k]'hlt).toNat := by omega
          clear hnb
          go_wp2_with fail
          go_ret2
          exact wordPost_none HW.out HB.out
    · obtain rfl : k = s.size := by omega
      have hall : ∀ c ∈ s.data.toList, okb c = true := fun c hc => by
        obtain ⟨j, hj, rfl⟩ := List.mem_iff_getElem.1 hc
        exact HOK.out j (by simpa using hj) (by simpa using hj)
      by_cases h0 : s.data.toList = []
      · have h1 : s.toList.isEmpty = true := by rw [Lib.toList_data, h0]; rfl
        have HW : Hid (wordsOf s.data.toList = some []) := Lib.hid (by rw [h0]; rfl)
        clear h0 hall
        go_wp2_with fail
        go_ret2
        exact wordPost_some HW.out HB.out (World.ownsRow_nil _ _ _ _)
      · have h1 : s.toList.isEmpty = false := by rw [Lib.toList_data]; exact (List.isEmpty_eq_false_iff).2 h0
        have hw := wordsOf_ok hall h0
        have HW := Lib.hid hw
        clear h0 hall hw
        go_wp2_with (go_at_call 70; (with_reducible refine (split_any s _ HM.out (by omega)).mono ?_); rintro e w' ⟨rfl, hown, hb2⟩)
        generalize hP : pieces s.data.toList = ps at *
        have HO2 := Lib.hid hown
        have HB2 := Lib.hid (HB.out.trans (hb2.mono (by have := HZ.out; omega)))
        have hlp : ps.length ≤ s.size + 1 := by
          rw [← hP, ← pieces_length]
          have := Lib.countB_le ⟨#[32]⟩ (by decide) s.size s (Nat.le_refl _)
          omega
        clear hown hb2 hP
        go_loop [29] (fun i => ∃ k : Nat, k ≤ ps.length ∧ i = .int .i64 k ∧ ∀ j (h : j < ps.length), j < k → ps[j]'h ≠ []) (fun i => ps.length - (intOf i).toNat)
        case atStart => exact ⟨0, Nat.zero_le _, rfl, by omega⟩
        case round =>
          obtain ⟨k, hk, rfl, hne⟩ := hrel
          have HN := Lib.hid hne
          clear hne
          by_cases hlt : k < ps.length
          · have ⟨c1, _⟩ := own_cell HO2.out (i := k) (u := .string (bs (ps[k]'hlt))) (by simp [hlt])
            by_cases he : ps[k]'hlt = []
            · have h1 : (bs (ps[k]'hlt)).toList.isEmpty = true := by rw [Lib.toList_data, data_bs, he]; rfl
              have hmem : [] ∈ ps := by rw [← he]; exact List.getElem_mem hlt
              have HW2 : Hid (wordsOf s.data.toList = none) := Lib.hid (by rw [HW.out, if_pos hmem])
              clear he hmem
              generalize bs (ps[k]'hlt) = x at *
              go_wp2_with fail
              go_ret2
              exact wordPost_none HW2.out HB2.out
            · have h1 : (bs (ps[k]'hlt)).toList.isEmpty = false := by rw [Lib.toList_data, data_bs]; exact (List.isEmpty_eq_false_iff).2 he
              have HE := Lib.hid he
              clear he
              generalize bs (ps[k]'hlt) = x at *
              go_wp2_with fail
              go_round
              case rel => exact ⟨k + 1, by omega, by go_num, fun j h hj => by
                rcases Nat.lt_or_ge j k with h1 | h1
                · exact HN.out j h h1
                · obtain rfl : j = k := by omega
                  exact HE.out⟩
              case measure => simp [intOf]; omega
          · have hmem : [] ∉ ps := fun hm => by
              obtain ⟨j, hj, h0⟩ := List.mem_iff_getElem.1 hm
              exact HN.out j hj (by omega) h0
            have HW2 : Hid (wordsOf s.data.toList = some ps) := Lib.hid (by rw [HW.out, if_neg hmem])
            clear hmem
            go_wp2_with fail
            go_ret2
            refine wordPost_some HW2.out HB2.out ?_
            obtain ⟨o1, o2⟩ := HO2.out
            refine ⟨o1, ?_⟩
            rcases o2 with h | ⟨g, cp, cur, a, b, c⟩
            · exact .inl h
            · exact .inr ⟨g, cp, cur, a, by have := HB.out.size; omega, c⟩
end Go.Proofs.YtephllgddhncgaaGreatDoor.Lex
/- entry.Parse. -/
namespace Go.Proofs.YtephllgddhncgaaGreatDoor.Lex
open Go.RowKit
set_option linter.unusedSimpArgs false
set_option linter.unusedVariables false
abbrev EntV := (Int × Int) × DescV
def zeroE : EntV := ((0, 0), zeroD)
/-- What a line says: the error, and the entry. -/
def parseE (s : List UInt8) : Int × EntV :=
  match wordsOf s with
  | some [a, b, c] => match numOf a, numOf b with
    | some n, some r => if (parseD c).1 = 0 then (if forE n r (parseD c).2 = 0 then (0, ((n, r), (parseD c).2)) else (forE n r (parseD c).2, zeroE)) else ((parseD c).1, zeroE)
    | _, _ => (10, zeroE)
  | _ => (10, zeroE)
theorem parseE_none {s : List UInt8} (h : wordsOf s = none) : parseE s = (10, zeroE) := by unfold parseE; rw [h]
theorem parseE_len {s : List UInt8} {ws : List (List UInt8)} (h : wordsOf s = some ws) (hl : ws.length ≠ 3) : parseE s = (10, zeroE) := by
  unfold parseE
  rw [h]
  match ws, hl with
  | [], _ => rfl
  | [_], _ => rfl
  | [_, _], _ => rfl
  | [_, _, _], hl => exact absurd rfl hl
  | _ :: _ :: _ :: _ :: _, _ => rfl
theorem parseE_three {s a b c : List UInt8} (h : wordsOf s = some [a, b, c]) : parseE s = match numOf a, numOf b with
    | some n, some r => if (parseD c).1 = 0 then (if forE n r (parseD c).2 = 0 then (0, ((n, r), (parseD c).2)) else (forE n r (parseD c).2, zeroE)) else ((parseD c).1, zeroE)
    | _, _ => (10, zeroE) := by unfold parseE; rw [h]
theorem parseE_num {s a b c : List UInt8} (h : wordsOf s = some [a, b, c]) (hn : numOf a = none ∨ numOf b = none) : parseE s = (10, zeroE) := by
  rw [parseE_three h]
  rcases hn with hn | hn
  · rw [hn]
  · rw [hn]; cases numOf a <;> rfl
def EPost (s : List UInt8) (w : World) (e : Ending) (w' : World) : Prop :=
  ∃ a m c, e = .returned (.tuple #[.agg #[.int .i64 (parseE s).2.1.1, .int .i64 (parseE s).2.1.2, .int .i64 (parseE s).2.2.kind, .int .i64 (parseE s).2.2.n, .slice a m c], .int .i64 (parseE s).1]) ∧ RowOf (descRd 16384) 3 40 (From w.heap.size) w' a m c (parseE s).2.2.kids ∧ Below w.heap.size w w'
theorem epost_bad {s : List UInt8} {w w' : World} {k : Int} (h : parseE s = (k, zeroE)) (hb : Below w.heap.size w w') : EPost s w (.returned (.tuple #[.agg #[.int .i64 0, .int .i64 0, .int .i64 0, .int .i64 0, .slice none 0 0], .int .i64 k])) w' :=
  ⟨none, 0, 0, by rw [h]; rfl, by rw [h]; exact RowOf.empty _ _ _ _ _, hb⟩
theorem num_no2 (s : List UInt8) (w : World) (hs : s.length ≤ 9223372036854775807) (h : numOf s = none) : Calls Tryz.prog 47 #[.string (bs s)] w fun e w' => e = .returned (.tuple #[.int .i64 0, .int .i64 10]) ∧ Below w.heap.size w w' :=
  (num (bs s) w (by show s.toArray.size ≤ _; simpa using hs)).mono fun e w' ⟨hb, h2⟩ => by
    rw [data_bs, h] at h2
    exact ⟨h2, hb⟩
theorem num_yes2 (s : List UInt8) (m : Nat) (w : World) (hs : s.length ≤ 9223372036854775807) (h : numOf s = some m) : Calls Tryz.prog 47 #[.string (bs s)] w fun e w' => e = .returned (.tuple #[.int .i64 m, .int .i64 0]) ∧ Below w.heap.size w w' :=
  (num (bs s) w (by show s.toArray.size ≤ _; simpa using hs)).mono fun e w' ⟨hb, h2⟩ => by
    rw [data_bs, h] at h2
    exact ⟨h2, hb⟩
theorem words_sub {s : List UInt8} {ws : List (List UInt8)} (h : wordsOf s = some ws) : glue ws = s := by
  unfold wordsOf at h
  split at h
  · cases h
  · split at h
    · next h0 =>
      cases h
      rw [h0]
      rfl
    · split at h
      · cases h
      · cases h
        exact glue_pieces s
theorem glue_three (a b c : List UInt8) : glue [a, b, c] = a ++ [32] ++ b ++ [32] ++ c := by simp [glue]
theorem wf64 {k : Int} (h0 : 0 ≤ k) (h1 : k < 9223372036854775808) : (Lit.int .i64 k).wf = true := by
  have e1 : IntKind.i64.min = -9223372036854775808 := by decide
  have e2 : IntKind.i64.max = 9223372036854775807 := by decide
  simp only [Lit.wf, e1, e2, Bool.and_eq_true, decide_eq_true_iff]
  omega
theorem parseD_wf {c : List UInt8} (h : (parseD c).1 = 0) : (Lit.int .i64 (parseD c).2.kind).wf = true ∧ (Lit.int .i64 (parseD c).2.n).wf = true ∧ (parseD c).2.nodes ≤ 60 ∧ DescV.nodesL (parseD c).2.kids < 1048576 := by
  unfold parseD at h ⊢
  split
  · next hc => rw [if_pos hc] at h; cases h
  · next hc =>
    rw [if_neg hc] at h
    cases ht : treeT c with
    | none => rw [ht] at h; cases h
    | some d =>
      rw [ht] at h
      dsimp only at h ⊢
      by_cases hb : bigD d = true
      · rw [if_pos hb] at h; cases h
      · rw [if_neg hb]
        have hn : d.nodes ≤ 60 := by
          unfold bigD at hb
          rw [decide_eq_true_iff] at hb
          omega
        have hk := DescV.nodes_kids d
        obtain ⟨ho, _⟩ := textD_iff.1 (treeT_iff.1 ht)
        obtain ⟨k, n, l⟩ := d
        rw [DescV.heads, List.all_cons, Bool.and_eq_true] at ho
        have h2 := okH_iff.1 ho.1
        refine ⟨?_, ?_, hn, by dsimp only at hk ⊢; omega⟩
        · exact wf64 (k := k) (by omega) (by omega)
        · exact wf64 (k := n) (by omega) (by omega)
set_option maxRecDepth 100000 in
set_option maxHeartbeats 8000000 in
theorem eparse (s : ByteArray) (w : World) (hs : s.size ≤ 1048576) (hx : HasMax w) : Calls Tryz.prog 28 #[.string s] w (EPost s.data.toList w) := by
  obtain ⟨W1, hW1⟩ : ∃ W1, W1 = w.alloc (.cells #[.int .i64 0, .int .i64 0, .int .i64 0, .int .i64 0, .slice none 0 0] 44) := ⟨_, rfl⟩
  have hb1 : Below w.heap.size w W1 := by rw [hW1]; exact (Below.refl _ _).alloc (Nat.le_refl _) _
  have g1 : W1.heap[w.heap.size]? = some (.cells #[.int .i64 0, .int .i64 0, .int .i64 0, .int .i64 0, .slice none 0 0] 44 (0, 0)) := by rw [hW1]; exact heap_alloc_new w _
  have hz1 : w.heap.size < W1.heap.size := by rw [hW1]; simp
  have HB := Lib.hid hb1
  have HZ := Lib.hid hz1
  have HX := Lib.hid (hx.below hb1)
  have HR : Hid (∀ W, Below W1.heap.size W1 W → W.heap[w.heap.size]? = some (.cells #[.int .i64 0, .int .i64 0, .int .i64 0, .int .i64 0, .slice none 0 0] 44 (0, 0))) := Lib.hid fun W hb => (hb.block _ hz1).trans g1
  have HW := Lib.hid (words s W1 hs (hx.below hb1))
  have hsl : s.data.toList.length = s.size := by simp
  have HSL := Lib.hid hsl
  have HS := Lib.hid hs
  clear hb1 g1 hz1 hx hsl hs
  cases hwd : wordsOf s.data.toList with
  | none =>
    have HE := Lib.hid (parseE_none hwd)
    have HC : Hid (Calls Tryz.prog 46 #[.string s] W1 fun e w' => e = .returned (.tuple #[.slice none 0 0, .int .i64 10]) ∧ Below W1.heap.size W1 w') := Lib.hid (HW.out.mono fun e w' ⟨hb, h⟩ => by rw [hwd] at h; exact ⟨h, hb⟩)
    clear hwd HW
    go_enter Tryz.func28, Tryz.ntmps28
    go_upto_region 1 with fail
    rw [← hW1]
    clear hW1
    go_upto_region 3 with (go_at_call 46; (with_reducible refine HC.out.mono ?_); rintro e w2 ⟨rfl, hb2⟩; have HB2 := Lib.hid hb2; clear hb2)
    have HRR := Lib.hid (HR.out w2 HB2.out)
    have HBB := Lib.hid (HB.out.trans (HB2.out.mono HB.out.size))
    have r0 := cell_at (o := 0) HRR.out rfl
    have r1 := cell_at (o := 1) HRR.out rfl
    have r2 := cell_at (o := 2) HRR.out rfl
    have r3 := cell_at (o := 3) HRR.out rfl
    have r4 := cell_at (o := 4) HRR.out rfl
    have f0 := free_at (o := 0) HRR.out
    have f1 := free_at (o := 1) HRR.out
    have f2 := free_at (o := 2) HRR.out
    have f3 := free_at (o := 3) HRR.out
    have f4 := free_at (o := 4) HRR.out
    go_wp2_with fail
    have hg := heap_set_at (o := 4) (.slice none 0 0) (heap_set_at (o := 3) (.int .i64 0) (heap_set_at (o := 2) (.int .i64 0) (heap_set_at (o := 1) (.int .i64 0) (heap_set_at (o := 0) (.int .i64 0) HRR.out))))
    clear r0 r1 r2 r3 r4 f0 f1 f2 f3 f4
    have z0 := cell_at (o := 0) hg rfl
    have z1 := cell_at (o := 1) hg rfl
    have z2 := cell_at (o := 2) hg rfl
    have z3 := cell_at (o := 3) hg rfl
    have z4 := cell_at (o := 4) hg rfl
    have hbz := (((((HBB.out.setCell (p := ⟨w.heap.size, 0, none⟩) (Nat.le_refl _) (.int .i64 0)).setCell (p := ⟨w.heap.size, 1, none⟩) (Nat.le_refl _) (.int .i64 0)).setCell (p := ⟨w.heap.size, 2, none⟩) (Nat.le_refl _) (.int .i64 0)).setCell (p := ⟨w.heap.size, 3, none⟩) (Nat.le_refl _) (.int .i64 0)).setCell (p := ⟨w.heap.size, 4, none⟩) (Nat.le_refl _) (.slice none 0 0))
    refine bodyPost_ret (v := .tuple #[.agg #[.int .i64 0, .int .i64 0, .int .i64 0, .int .i64 0, .slice none 0 0], .int .i64 10]) (by simp [results, Tryz.results28, go_sem, z0, z1, z2, z3, z4]) rfl ?_
    exact epost_bad HE.out hbz
  | some ws =>
    have HC : Hid (Calls Tryz.prog 46 #[.string s] W1 fun e w' => (∃ v, e = .returned (.tuple #[v, .int .i64 0]) ∧ w'.ownsRow W1.heap.size 9 1 v ws.length (ws.map fun l => .string (bs l))) ∧ Below W1.heap.size W1 w') := Lib.hid (HW.out.mono fun e w' ⟨hb, h⟩ => by rw [hwd] at h; exact ⟨h, hb⟩)
    by_cases hl3 : ws.length = 3
    · obtain ⟨a, b, c, rfl⟩ : ∃ a b c, ws = [a, b, c] := by
        match ws, hl3 with
        | [a, b, c], _ => exact ⟨a, b, c, rfl⟩
      have hgl : a.length + b.length + c.length + 2 = s.size := by
        have h := congrArg List.length (words_sub hwd)
        rw [glue_three, HSL.out] at h
        simp at h
        omega
      have hss := HS.out
      have La : a.length ≤ 9223372036854775807 := by omega
      have Lb : b.length ≤ 9223372036854775807 := by omega
      have Lc : (bs c).size ≤ maxLen := by show c.toArray.size ≤ _; unfold maxLen; simp; omega
      have HWD := Lib.hid hwd
      clear hl3 hwd HW hgl hss
      go_enter Tryz.func28, Tryz.ntmps28
      go_upto_region 1 with fail
      rw [← hW1]
      clear hW1
      go_upto_region 4 with (go_at_call 46; (with_reducible refine HC.out.mono ?_); rintro e w2 ⟨⟨v, rfl, ho⟩, hb2⟩; obtain ⟨va, vc, rfl⟩ := own_val ho; have HO := Lib.hid ho; have HB2 := Lib.hid hb2; clear hb2 ho)
      obtain ⟨W2, rfl⟩ : ∃ W : World, W = w2 := ⟨_, rfl⟩
      have HBW := Lib.hid (HB.out.trans (HB2.out.mono HB.out.size))
      obtain ⟨g, rfl⟩ : ∃ g, va = some ⟨g, 0, none⟩ := by
        rcases HO.out.2 with ⟨_, h0⟩ | ⟨g, _, _, hv, _⟩
        · simp at h0
        · cases hv; exact ⟨g, rfl⟩
      have hcl : ∀ j (u : List UInt8), [a, b, c][j]? = some u → W2.cell? ⟨g, j, none⟩ = some (.string (bs u)) := fun j u hu => by
        have h := HO.out.cells (g := g) rfl j (.string (bs u)) (by rw [List.getElem?_map, hu]; rfl)
        rw [Addr.add_lit, Nat.zero_add] at h
        exact h
      have hgz := (HO.out.lt g rfl).2
      have HWC : Hid (∀ W, Below W2.heap.size W2 W → W.cell? ⟨g, 0, none⟩ = some (.string (bs a)) ∧ W.cell? ⟨g, 1, none⟩ = some (.string (bs b)) ∧ W.cell? ⟨g, 2, none⟩ = some (.string (bs c))) := Lib.hid fun W hb => by
        have e : ∀ o, W.cell? ⟨g, o, none⟩ = W2.cell? ⟨g, o, none⟩ := fun o => hb.cell (p := ⟨g, o, none⟩) hgz
        rw [e, e, e]
        exact ⟨hcl 0 a rfl, hcl 1 b rfl, hcl 2 c rfl⟩
      obtain ⟨s0, s1, s2⟩ := HWC.out W2 (Below.refl _ _)
      clear hcl hgz
      cases ha : numOf a with
      | none =>
        have Ha := Lib.hid ha
        have HE := Lib.hid (parseE_num HWD.out (.inl ha))
        cases hb : numOf b with
        | none =>
          have Hb := Lib.hid hb
          clear ha hb
          go_upto_region 5 with (go_at_call 47; (with_reducible refine (num_no2 a _ La Ha.out).mono ?_); rintro e w3 ⟨rfl, hb3⟩; have HB3 := Lib.hid hb3; clear s0 s1 s2; obtain ⟨s0, s1, s2⟩ := HWC.out w3 hb3; clear hb3)
          go_upto_region 7 with (go_at_call 47; (with_reducible refine (num_no2 b _ Lb Hb.out).mono ?_); rintro e w4 ⟨rfl, hb4⟩; have HB4 := Lib.hid (HB3.out.trans (hb4.mono HB3.out.size)); clear s0 s1 s2; obtain ⟨s0, s1, s2⟩ := HWC.out w4 HB4.out; clear hb4)
          have HRR := Lib.hid (HR.out w4 (HB2.out.trans (HB4.out.mono HB2.out.size)))
          have HBB := Lib.hid (HBW.out.trans (HB4.out.mono HBW.out.size))
          have r0 := cell_at (o := 0) HRR.out rfl
          have r1 := cell_at (o := 1) HRR.out rfl
          have r2 := cell_at (o := 2) HRR.out rfl
          have r3 := cell_at (o := 3) HRR.out rfl
          have r4 := cell_at (o := 4) HRR.out rfl
          have f0 := free_at (o := 0) HRR.out
          have f1 := free_at (o := 1) HRR.out
          have f2 := free_at (o := 2) HRR.out
          have f3 := free_at (o := 3) HRR.out
          have f4 := free_at (o := 4) HRR.out
          clear s0 s1 s2
          go_wp2_with fail
          have hg := heap_set_at (o := 4) (.slice none 0 0) (heap_set_at (o := 3) (.int .i64 0) (heap_set_at (o := 2) (.int .i64 0) (heap_set_at (o := 1) (.int .i64 0) (heap_set_at (o := 0) (.int .i64 0) HRR.out))))
          clear r0 r1 r2 r3 r4 f0 f1 f2 f3 f4
          have z0 := cell_at (o := 0) hg rfl
          have z1 := cell_at (o := 1) hg rfl
          have z2 := cell_at (o := 2) hg rfl
          have z3 := cell_at (o := 3) hg rfl
          have z4 := cell_at (o := 4) hg rfl
          have hbz := (((((HBB.out.setCell (p := ⟨w.heap.size, 0, none⟩) (Nat.le_refl _) (.int .i64 0)).setCell (p := ⟨w.heap.size, 1, none⟩) (Nat.le_refl _) (.int .i64 0)).setCell (p := ⟨w.heap.size, 2, none⟩) (Nat.le_refl _) (.int .i64 0)).setCell (p := ⟨w.heap.size, 3, none⟩) (Nat.le_refl _) (.int .i64 0)).setCell (p := ⟨w.heap.size, 4, none⟩) (Nat.le_refl _) (.slice none 0 0))
          refine bodyPost_ret (v := .tuple #[.agg #[.int .i64 0, .int .i64 0, .int .i64 0, .int .i64 0, .slice none 0 0], .int .i64 10]) (by simp [results, Tryz.results28, go_sem, z0, z1, z2, z3, z4]) rfl ?_
          exact epost_bad HE.out hbz
        | some r =>
          have Hb := Lib.hid hb
          clear ha hb
          go_upto_region 5 with (go_at_call 47; (with_reducible refine (num_no2 a _ La Ha.out).mono ?_); rintro e w3 ⟨rfl, hb3⟩; have HB3 := Lib.hid hb3; clear s0 s1 s2; obtain ⟨s0, s1, s2⟩ := HWC.out w3 hb3; clear hb3)
          go_upto_region 7 with (go_at_call 47; (with_reducible refine (num_yes2 b r _ Lb Hb.out).mono ?_); rintro e w4 ⟨rfl, hb4⟩; have HB4 := Lib.hid (HB3.out.trans (hb4.mono HB3.out.size)); clear s0 s1 s2; obtain ⟨s0, s1, s2⟩ := HWC.out w4 HB4.out; clear hb4)
          have HRR := Lib.hid (HR.out w4 (HB2.out.trans (HB4.out.mono HB2.out.size)))
          have HBB := Lib.hid (HBW.out.trans (HB4.out.mono HBW.out.size))
          have r0 := cell_at (o := 0) HRR.out rfl
          have r1 := cell_at (o := 1) HRR.out rfl
          have r2 := cell_at (o := 2) HRR.out rfl
          have r3 := cell_at (o := 3) HRR.out rfl
          have r4 := cell_at (o := 4) HRR.out rfl
          have f0 := free_at (o := 0) HRR.out
          have f1 := free_at (o := 1) HRR.out
          have f2 := free_at (o := 2) HRR.out
          have f3 := free_at (o := 3) HRR.out
          have f4 := free_at (o := 4) HRR.out
          clear s0 s1 s2
          go_wp2_with fail
          have hg := heap_set_at (o := 4) (.slice none 0 0) (heap_set_at (o := 3) (.int .i64 0) (heap_set_at (o := 2) (.int .i64 0) (heap_set_at (o := 1) (.int .i64 0) (heap_set_at (o := 0) (.int .i64 0) HRR.out))))
          clear r0 r1 r2 r3 r4 f0 f1 f2 f3 f4
          have z0 := cell_at (o := 0) hg rfl
          have z1 := cell_at (o := 1) hg rfl
          have z2 := cell_at (o := 2) hg rfl
          have z3 := cell_at (o := 3) hg rfl
          have z4 := cell_at (o := 4) hg rfl
          have hbz := (((((HBB.out.setCell (p := ⟨w.heap.size, 0, none⟩) (Nat.le_refl _) (.int .i64 0)).setCell (p := ⟨w.heap.size, 1, none⟩) (Nat.le_refl _) (.int .i64 0)).setCell (p := ⟨w.heap.size, 2, none⟩) (Nat.le_refl _) (.int .i64 0)).setCell (p := ⟨w.heap.size, 3, none⟩) (Nat.le_refl _) (.int .i64 0)).setCell (p := ⟨w.heap.size, 4, none⟩) (Nat.le_refl _) (.slice none 0 0))
          refine bodyPost_ret (v := .tuple #[.agg #[.int .i64 0, .int .i64 0, .int .i64 0, .int .i64 0, .slice none 0 0], .int .i64 10]) (by simp [results, Tryz.results28, go_sem, z0, z1, z2, z3, z4]) rfl ?_
          exact epost_bad HE.out hbz
      | some n =>
        have Ha := Lib.hid ha
        cases hb : numOf b with
        | none =>
          have Hb := Lib.hid hb
          have HE := Lib.hid (parseE_num HWD.out (.inr hb))
          clear ha hb
          go_upto_region 5 with (go_at_call 47; (with_reducible refine (num_yes2 a n _ La Ha.out).mono ?_); rintro e w3 ⟨rfl, hb3⟩; have HB3 := Lib.hid hb3; clear s0 s1 s2; obtain ⟨s0, s1, s2⟩ := HWC.out w3 hb3; clear hb3)
          go_upto_region 7 with (go_at_call 47; (with_reducible refine (num_no2 b _ Lb Hb.out).mono ?_); rintro e w4 ⟨rfl, hb4⟩; have HB4 := Lib.hid (HB3.out.trans (hb4.mono HB3.out.size)); clear s0 s1 s2; obtain ⟨s0, s1, s2⟩ := HWC.out w4 HB4.out; clear hb4)
          have HRR := Lib.hid (HR.out w4 (HB2.out.trans (HB4.out.mono HB2.out.size)))
          have HBB := Lib.hid (HBW.out.trans (HB4.out.mono HBW.out.size))
          have r0 := cell_at (o := 0) HRR.out rfl
          have r1 := cell_at (o := 1) HRR.out rfl
          have r2 := cell_at (o := 2) HRR.out rfl
          have r3 := cell_at (o := 3) HRR.out rfl
          have r4 := cell_at (o := 4) HRR.out rfl
          have f0 := free_at (o := 0) HRR.out
          have f1 := free_at (o := 1) HRR.out
          have f2 := free_at (o := 2) HRR.out
          have f3 := free_at (o := 3) HRR.out
          have f4 := free_at (o := 4) HRR.out
          clear s0 s1 s2
          go_wp2_with fail
          have hg := heap_set_at (o := 4) (.slice none 0 0) (heap_set_at (o := 3) (.int .i64 0) (heap_set_at (o := 2) (.int .i64 0) (heap_set_at (o := 1) (.int .i64 0) (heap_set_at (o := 0) (.int .i64 0) HRR.out))))
          clear r0 r1 r2 r3 r4 f0 f1 f2 f3 f4
          have z0 := cell_at (o := 0) hg rfl
          have z1 := cell_at (o := 1) hg rfl
          have z2 := cell_at (o := 2) hg rfl
          have z3 := cell_at (o := 3) hg rfl
          have z4 := cell_at (o := 4) hg rfl
          have hbz := (((((HBB.out.setCell (p := ⟨w.heap.size, 0, none⟩) (Nat.le_refl _) (.int .i64 0)).setCell (p := ⟨w.heap.size, 1, none⟩) (Nat.le_refl _) (.int .i64 0)).setCell (p := ⟨w.heap.size, 2, none⟩) (Nat.le_refl _) (.int .i64 0)).setCell (p := ⟨w.heap.size, 3, none⟩) (Nat.le_refl _) (.int .i64 0)).setCell (p := ⟨w.heap.size, 4, none⟩) (Nat.le_refl _) (.slice none 0 0))
          refine bodyPost_ret (v := .tuple #[.agg #[.int .i64 0, .int .i64 0, .int .i64 0, .int .i64 0, .slice none 0 0], .int .i64 10]) (by simp [results, Tryz.results28, go_sem, z0, z1, z2, z3, z4]) rfl ?_
          exact epost_bad HE.out hbz
        | some r =>
          have Hb := Lib.hid hb
          have HE0 : Hid (parseE s.data.toList = if (parseD c).1 = 0 then (if forE n r (parseD c).2 = 0 then (0, (((((n : Int), (r : Int)), (parseD c).2) : EntV))) else (forE n r (parseD c).2, zeroE)) else ((parseD c).1, zeroE)) := Lib.hid (by rw [parseE_three HWD.out, ha, hb])
          clear ha hb
          go_upto_region 5 with (go_at_call 47; (with_reducible refine (num_yes2 a n _ La Ha.out).mono ?_); rintro e w3 ⟨rfl, hb3⟩; have HB3 := Lib.hid hb3; clear s0 s1 s2; obtain ⟨s0, s1, s2⟩ := HWC.out w3 hb3; clear hb3)
          go_upto_region 8 with (go_at_call 47; (with_reducible refine (num_yes2 b r _ Lb Hb.out).mono ?_); rintro e w4 ⟨rfl, hb4⟩; have HB4 := Lib.hid (HB3.out.trans (hb4.mono HB3.out.size)); clear s0 s1 s2; obtain ⟨s0, s1, s2⟩ := HWC.out w4 HB4.out; clear hb4)
          have HDP := Lib.hid (parse_any (bs c) w4 Lc (HX.out.below (HB2.out.trans (HB4.out.mono HB2.out.size))))
          unfold ParsePost at HDP
          rw [data_bs] at HDP
          have HWF : Hid ((parseD c).1 = 0 → (Lit.int .i64 (parseD c).2.kind).wf = true ∧ (Lit.int .i64 (parseD c).2.n).wf = true ∧ (parseD c).2.nodes ≤ 60 ∧ DescV.nodesL (parseD c).2.kids < 1048576) := Lib.hid parseD_wf
          generalize parseD c = pc at *
          obtain ⟨pe, dk, dn, dl⟩ := pc
          dsimp only [DescV.kind, DescV.n, DescV.kids] at HDP HE0 HWF
          by_cases hpe : pe = 0
          · subst hpe
            rw [if_pos rfl] at HE0
            go_upto_region 12 with (go_at_call 48; (with_reducible refine HDP.out.mono ?_); rintro e w5 ⟨da, dm, dc, rfl, hr, hb5⟩; have HDR := Lib.hid hr; have HB5 := Lib.hid (HB4.out.trans (hb5.mono HB4.out.size)); clear s0 s1 s2 hr hb5)
            obtain ⟨W5, rfl⟩ : ∃ W : World, W = w5 := ⟨_, rfl⟩
            obtain ⟨W6, hW6⟩ : ∃ W6, W6 = (W5.alloc (.cells #[.int .i64 dk, .int .i64 dn, .slice da dm dc] 42)).alloc (.cells #[.int .i64 (n : Int), .int .i64 (r : Int), .int .i64 dk, .int .i64 dn, .slice da dm dc] 44) := ⟨_, rfl⟩
            have hb6 : Below W5.heap.size W5 W6 := by rw [hW6]; exact ((Below.refl _ _).alloc (Nat.le_refl _) _).alloc (by simp) _
            have g6 : W6.heap[W5.heap.size + 1]? = some (.cells #[.int .i64 (n : Int), .int .i64 (r : Int), .int .i64 dk, .int .i64 dn, .slice da dm dc] 44 (0, 0)) := by
              rw [hW6]
              have h := heap_alloc_new (W5.alloc (.cells #[.int .i64 dk, .int .i64 dn, .slice da dm dc] 42)) (.cells #[.int .i64 (n : Int), .int .i64 (r : Int), .int .i64 dk, .int .i64 dn, .slice da dm dc] 44)
              simpa using h
            have hz6 : W6.heap.size = W5.heap.size + 2 := by rw [hW6]; simp
            have HB6 := Lib.hid (HB5.out.trans (hb6.mono HB5.out.size))
            have HCK := Lib.hid (echeck_any 16384 _ n r dk dn dl da dm dc W6 (HDR.out.keep (descRd_ok _) (Fix.of_below hb6)) (by omega) (bigAt_small (HWF.out (by trivial)).2.2.1))
            have HC6 : Hid (∀ W, Below W6.heap.size W6 W → W.cell? ⟨W5.heap.size + 1, 0, none⟩ = some (.int .i64 (n : Int)) ∧ W.cell? ⟨W5.heap.size + 1, 1, none⟩ = some (.int .i64 (r : Int)) ∧ W.cell? ⟨W5.heap.size + 1, 2, none⟩ = some (.int .i64 dk) ∧ W.cell? ⟨W5.heap.size + 1, 3, none⟩ = some (.int .i64 dn) ∧ W.cell? ⟨W5.heap.size + 1, 4, none⟩ = some (.slice da dm dc)) := Lib.hid fun W hb => by
              have e := (hb.block _ (by omega)).trans g6
              exact ⟨cell_at e rfl, cell_at e rfl, cell_at e rfl, cell_at e rfl, cell_at e rfl⟩
            have HZ5 : Hid (w.heap.size ≤ w4.heap.size) := Lib.hid (Nat.le_trans HBW.out.size HB4.out.size)
            have HDR6 := Lib.hid (HDR.out.keep (descRd_ok _) (Fix.of_below hb6))
            rw [← hW6]
            obtain ⟨q0, q1, q2, q3, q4⟩ := HC6.out W6 (Below.refl _ _)
            clear hW6 hb6 g6 hz6
            have HEE : Hid (parseE s.data.toList = if forE n r (.mk dk dn dl) = 0 then (0, (((n : Int), (r : Int)), .mk dk dn dl)) else (forE n r (.mk dk dn dl), zeroE)) := Lib.hid HE0.out
            by_cases hf : forE n r (.mk dk dn dl) = 0
            · have HE : Hid (parseE s.data.toList = (0, (((n : Int), (r : Int)), .mk dk dn dl))) := Lib.hid (by rw [HEE.out, if_pos hf])
              rw [hf] at HCK
              clear hf
              go_upto_region 15 with (go_at_call 17; (with_reducible refine HCK.out.mono ?_); rintro e w7 ⟨rfl, hb7⟩; have HB67 := Lib.hid hb7; have HB7 := Lib.hid (HB6.out.trans (hb7.mono HB6.out.size)); clear q0 q1 q2 q3 q4; obtain ⟨q0, q1, q2, q3, q4⟩ := HC6.out w7 hb7; clear hb7)
              have HRR := Lib.hid (HR.out w7 (HB2.out.trans (HB7.out.mono HB2.out.size)))
              have HBB := Lib.hid (HBW.out.trans (HB7.out.mono HBW.out.size))
              have HDR7 := Lib.hid (HDR6.out.keep (descRd_ok _) (Fix.of_below HB67.out))
              have r0 := cell_at (o := 0) HRR.out rfl
              have r1 := cell_at (o := 1) HRR.out rfl
              have r2 := cell_at (o := 2) HRR.out rfl
              have r3 := cell_at (o := 3) HRR.out rfl
              have r4 := cell_at (o := 4) HRR.out rfl
              have f0 := free_at (o := 0) HRR.out
              have f1 := free_at (o := 1) HRR.out
              have f2 := free_at (o := 2) HRR.out
              have f3 := free_at (o := 3) HRR.out
              have f4 := free_at (o := 4) HRR.out
              go_wp2_with fail
              clear q0 q1 q2 q3 q4
              have hg := heap_set_at (o := 4) (.slice da dm dc) (heap_set_at (o := 3) (.int .i64 dn) (heap_set_at (o := 2) (.int .i64 dk) (heap_set_at (o := 1) (.int .i64 (r : Int)) (heap_set_at (o := 0) (.int .i64 (n : Int)) HRR.out))))
              clear r0 r1 r2 r3 r4 f0 f1 f2 f3 f4
              have z0 := cell_at (o := 0) hg rfl
              have z1 := cell_at (o := 1) hg rfl
              have z2 := cell_at (o := 2) hg rfl
              have z3 := cell_at (o := 3) hg rfl
              have z4 := cell_at (o := 4) hg rfl
              have hbz := (((((HBB.out.setCell (p := ⟨w.heap.size, 0, none⟩) (Nat.le_refl _) (.int .i64 (n : Int))).setCell (p := ⟨w.heap.size, 1, none⟩) (Nat.le_refl _) (.int .i64 (r : Int))).setCell (p := ⟨w.heap.size, 2, none⟩) (Nat.le_refl _) (.int .i64 dk)).setCell (p := ⟨w.heap.size, 3, none⟩) (Nat.le_refl _) (.int .i64 dn)).setCell (p := ⟨w.heap.size, 4, none⟩) (Nat.le_refl _) (.slice da dm dc))
              refine bodyPost_ret (v := .tuple #[.agg #[.int .i64 (n : Int), .int .i64 (r : Int), .int .i64 dk, .int .i64 dn, .slice da dm dc], .int .i64 0]) (by simp [results, Tryz.results28, go_sem, z0, z1, z2, z3, z4]) rfl ?_
              refine ⟨da, dm, dc, by rw [HE.out]; rfl, ?_, hbz⟩
              rw [HE.out]
              have hfx : Fix (fun q => w4.heap.size ≤ q) w7 _ := ((((Fix.setCell (a := ⟨w.heap.size, 0, none⟩) w7 (.int .i64 (n : Int)) (fun h => by have h2 : w4.heap.size ≤ w.heap.size := h; have := HZ5.out; have := HZ.out; have := HB4.out.size; have := HB2.out.size; omega)).trans (Fix.setCell (a := ⟨w.heap.size, 1, none⟩) _ (.int .i64 (r : Int)) (fun h => by have h2 : w4.heap.size ≤ w.heap.size := h; have := HZ.out; have := HB4.out.size; have := HB2.out.size; omega))).trans (Fix.setCell (a := ⟨w.heap.size, 2, none⟩) _ (.int .i64 dk) (fun h => by have h2 : w4.heap.size ≤ w.heap.size := h; have := HZ.out; have := HB4.out.size; have := HB2.out.size; omega))).trans (Fix.setCell (a := ⟨w.heap.size, 3, none⟩) _ (.int .i64 dn) (fun h => by have h2 : w4.heap.size ≤ w.heap.size := h; have := HZ.out; have := HB4.out.size; have := HB2.out.size; omega))).trans (Fix.setCell (a := ⟨w.heap.size, 4, none⟩) _ (.slice da dm dc) (fun h => by have h2 : w4.heap.size ≤ w.heap.size := h; have := HZ.out; have := HB4.out.size; have := HB2.out.size; omega))
              exact (HDR7.out.keep (descRd_ok _) hfx).mono (descRd_ok _) fun q _ hq => Nat.le_trans HZ5.out hq
            · have HE : Hid (parseE s.data.toList = (forE n r (.mk dk dn dl), zeroE)) := Lib.hid (by rw [HEE.out, if_neg hf])
              generalize forE n r (.mk dk dn dl) = fe at *
              have hfb : (fe != 0) = true := by simpa using hf
              go_upto_region 14 with (go_at_call 17; (with_reducible refine HCK.out.mono ?_); rintro e w7 ⟨rfl, hb7⟩; have HB7 := Lib.hid (HB6.out.trans (hb7.mono HB6.out.size)); clear q0 q1 q2 q3 q4; clear hb7)
              have HRR := Lib.hid (HR.out w7 (HB2.out.trans (HB7.out.mono HB2.out.size)))
              have HBB := Lib.hid (HBW.out.trans (HB7.out.mono HBW.out.size))
              have r0 := cell_at (o := 0) HRR.out rfl
              have r1 := cell_at (o := 1) HRR.out rfl
              have r2 := cell_at (o := 2) HRR.out rfl
              have r3 := cell_at (o := 3) HRR.out rfl
              have r4 := cell_at (o := 4) HRR.out rfl
              have f0 := free_at (o := 0) HRR.out
              have f1 := free_at (o := 1) HRR.out
              have f2 := free_at (o := 2) HRR.out
              have f3 := free_at (o := 3) HRR.out
              have f4 := free_at (o := 4) HRR.out
              go_wp2_with fail
              have hg := heap_set_at (o := 4) (.slice none 0 0) (heap_set_at (o := 3) (.int .i64 0) (heap_set_at (o := 2) (.int .i64 0) (heap_set_at (o := 1) (.int .i64 0) (heap_set_at (o := 0) (.int .i64 0) HRR.out))))
              clear r0 r1 r2 r3 r4 f0 f1 f2 f3 f4
              have z0 := cell_at (o := 0) hg rfl
              have z1 := cell_at (o := 1) hg rfl
              have z2 := cell_at (o := 2) hg rfl
              have z3 := cell_at (o := 3) hg rfl
              have z4 := cell_at (o := 4) hg rfl
              have hbz := (((((HBB.out.setCell (p := ⟨w.heap.size, 0, none⟩) (Nat.le_refl _) (.int .i64 0)).setCell (p := ⟨w.heap.size, 1, none⟩) (Nat.le_refl _) (.int .i64 0)).setCell (p := ⟨w.heap.size, 2, none⟩) (Nat.le_refl _) (.int .i64 0)).setCell (p := ⟨w.heap.size, 3, none⟩) (Nat.le_refl _) (.int .i64 0)).setCell (p := ⟨w.heap.size, 4, none⟩) (Nat.le_refl _) (.slice none 0 0))
              refine bodyPost_ret (v := .tuple #[.agg #[.int .i64 0, .int .i64 0, .int .i64 0, .int .i64 0, .slice none 0 0], .int .i64 fe]) (by simp [results, Tryz.results28, go_sem, z0, z1, z2, z3, z4]) rfl ?_
              exact epost_bad HE.out hbz
          · have HE : Hid (parseE s.data.toList = (pe, zeroE)) := Lib.hid (by rw [HE0.out, if_neg hpe])
            have hpb : (pe != 0) = true := by simpa using hpe
            clear HE0 HWF
            go_upto_region 10 with (go_at_call 48; (with_reducible refine HDP.out.mono ?_); rintro e w5 ⟨da, dm, dc, rfl, hr, hb5⟩; have HB5 := Lib.hid (HB4.out.trans (hb5.mono HB4.out.size)); clear s0 s1 s2 hr hb5)
            obtain ⟨W5, rfl⟩ : ∃ W : World, W = w5 := ⟨_, rfl⟩
            obtain ⟨W6, hW6⟩ : ∃ W6, W6 = W5.alloc (.cells #[.int .i64 dk, .int .i64 dn, .slice da dm dc] 42) := ⟨_, rfl⟩
            have hb6 : Below W5.heap.size W5 W6 := by rw [hW6]; exact (Below.refl _ _).alloc (Nat.le_refl _) _
            have HB6 := Lib.hid (HB5.out.trans (hb6.mono HB5.out.size))
            rw [← hW6]
            clear hW6 hb6
            have HRR := Lib.hid (HR.out W6 (HB2.out.trans (HB6.out.mono HB2.out.size)))
            have HBB := Lib.hid (HBW.out.trans (HB6.out.mono HBW.out.size))
            have r0 := cell_at (o := 0) HRR.out rfl
            have r1 := cell_at (o := 1) HRR.out rfl
            have r2 := cell_at (o := 2) HRR.out rfl
            have r3 := cell_at (o := 3) HRR.out rfl
            have r4 := cell_at (o := 4) HRR.out rfl
            have f0 := free_at (o := 0) HRR.out
            have f1 := free_at (o := 1) HRR.out
            have f2 := free_at (o := 2) HRR.out
            have f3 := free_at (o := 3) HRR.out
            have f4 := free_at (o := 4) HRR.out
            go_wp2_with fail
            have hg := heap_set_at (o := 4) (.slice none 0 0) (heap_set_at (o := 3) (.int .i64 0) (heap_set_at (o := 2) (.int .i64 0) (heap_set_at (o := 1) (.int .i64 0) (heap_set_at (o := 0) (.int .i64 0) HRR.out))))
            clear r0 r1 r2 r3 r4 f0 f1 f2 f3 f4
            have z0 := cell_at (o := 0) hg rfl
            have z1 := cell_at (o := 1) hg rfl
            have z2 := cell_at (o := 2) hg rfl
            have z3 := cell_at (o := 3) hg rfl
            have z4 := cell_at (o := 4) hg rfl
            have hbz := (((((HBB.out.setCell (p := ⟨w.heap.size, 0, none⟩) (Nat.le_refl _) (.int .i64 0)).setCell (p := ⟨w.heap.size, 1, none⟩) (Nat.le_refl _) (.int .i64 0)).setCell (p := ⟨w.heap.size, 2, none⟩) (Nat.le_refl _) (.int .i64 0)).setCell (p := ⟨w.heap.size, 3, none⟩) (Nat.le_refl _) (.int .i64 0)).setCell (p := ⟨w.heap.size, 4, none⟩) (Nat.le_refl _) (.slice none 0 0))
            refine bodyPost_ret (v := .tuple #[.agg #[.int .i64 0, .int .i64 0, .int .i64 0, .int .i64 0, .slice none 0 0], .int .i64 pe]) (by simp [results, Tryz.results28, go_sem, z0, z1, z2, z3, z4]) rfl ?_
            exact epost_bad HE.out hbz
    · have HE := Lib.hid (parseE_len hwd hl3)
      have hli : ¬ (ws.length : Int) = 3 := by omega
      have hlb : ((ws.length : Int) != 3) = true := by simp; omega
      clear hwd HW hl3
      go_enter Tryz.func28, Tryz.ntmps28
      go_upto_region 1 with fail
      rw [← hW1]
      clear hW1
      go_upto_region 3 with (go_at_call 46; (with_reducible refine HC.out.mono ?_); rintro e w2 ⟨⟨v, rfl, ho⟩, hb2⟩; obtain ⟨va, vc, rfl⟩ := own_val ho; have HB2 := Lib.hid hb2; clear hb2 ho)
      have HRR := Lib.hid (HR.out w2 HB2.out)
      have HBB := Lib.hid (HB.out.trans (HB2.out.mono HB.out.size))
      have r0 := cell_at (o := 0) HRR.out rfl
      have r1 := cell_at (o := 1) HRR.out rfl
      have r2 := cell_at (o := 2) HRR.out rfl
      have r3 := cell_at (o := 3) HRR.out rfl
      have r4 := cell_at (o := 4) HRR.out rfl
      have f0 := free_at (o := 0) HRR.out
      have f1 := free_at (o := 1) HRR.out
      have f2 := free_at (o := 2) HRR.out
      have f3 := free_at (o := 3) HRR.out
      have f4 := free_at (o := 4) HRR.out
      go_wp2_with fail
      have hg := heap_set_at (o := 4) (.slice none 0 0) (heap_set_at (o := 3) (.int .i64 0) (heap_set_at (o := 2) (.int .i64 0) (heap_set_at (o := 1) (.int .i64 0) (heap_set_at (o := 0) (.int .i64 0) HRR.out))))
      clear r0 r1 r2 r3 r4 f0 f1 f2 f3 f4
      have z0 := cell_at (o := 0) hg rfl
      have z1 := cell_at (o := 1) hg rfl
      have z2 := cell_at (o := 2) hg rfl
      have z3 := cell_at (o := 3) hg rfl
      have z4 := cell_at (o := 4) hg rfl
      have hbz := (((((HBB.out.setCell (p := ⟨w.heap.size, 0, none⟩) (Nat.le_refl _) (.int .i64 0)).setCell (p := ⟨w.heap.size, 1, none⟩) (Nat.le_refl _) (.int .i64 0)).setCell (p := ⟨w.heap.size, 2, none⟩) (Nat.le_refl _) (.int .i64 0)).setCell (p := ⟨w.heap.size, 3, none⟩) (Nat.le_refl _) (.int .i64 0)).setCell (p := ⟨w.heap.size, 4, none⟩) (Nat.le_refl _) (.slice none 0 0))
      refine bodyPost_ret (v := .tuple #[.agg #[.int .i64 0, .int .i64 0, .int .i64 0, .int .i64 0, .slice none 0 0], .int .i64 10]) (by simp [results, Tryz.results28, go_sem, z0, z1, z2, z3, z4]) rfl ?_
      exact epost_bad HE.out hbz
end Go.Proofs.YtephllgddhncgaaGreatDoor.Lex
/- What an entry's line says: it prints as the line, and is small. No function of the program. -/
namespace Go.Proofs.YtephllgddhncgaaGreatDoor.Lex
open Go.RowKit
set_option linter.unusedSimpArgs false
set_option linter.unusedVariables false
theorem parseD_ok {s : List UInt8} (h : (parseD s).1 = 0) : textD (parseD s).2 = some s ∧ bigD (parseD s).2 = false ∧ (parseD s).2.nodes ≤ 4096 := by
  unfold parseD at h ⊢
  split
  · rename_i hc; rw [if_pos hc] at h; cases h
  · rename_i hc
    rw [if_neg hc] at h
    cases ht : treeT s with
    | none => rw [ht] at h; cases h
    | some d =>
      rw [ht] at h
      dsimp only at h ⊢
      by_cases hb : bigD d = true
      · rw [if_pos hb] at h; cases h
      · rw [if_neg hb]
        exact ⟨treeT_iff.1 ht, by simpa using hb, by have := tree_nodes ht; show d.nodes ≤ 4096; omega⟩
/-- What parses prints as the line, and is small. -/
theorem parseE_ok {s : List UInt8} (h : (parseE s).1 = 0) : printE (parseE s).2.1.1 (parseE s).2.1.2 (parseE s).2.2 = .tuple #[.string (bs s), .int .i64 0] ∧ (parseE s).2.2.nodes ≤ 60 := by
  cases hw : wordsOf s with
  | none => rw [parseE_none hw] at h; cases h
  | some ws =>
    by_cases hl : ws.length = 3
    · obtain ⟨a, b, c, rfl⟩ : ∃ a b c, ws = [a, b, c] := by
        match ws, hl with
        | [a, b, c], _ => exact ⟨a, b, c, rfl⟩
      cases ha : numOf a with
      | none => rw [parseE_num hw (.inl ha)] at h; cases h
      | some n =>
        cases hb : numOf b with
        | none => rw [parseE_num hw (.inr hb)] at h; cases h
        | some r =>
          have he := parseE_three hw
          rw [ha, hb] at he
          dsimp only at he
          by_cases hp : (parseD c).1 = 0
          · rw [if_pos hp] at he
            by_cases hf : forE n r (parseD c).2 = 0
            · rw [if_pos hf] at he
              rw [he]
              dsimp only
              refine ⟨?_, (parseD_wf hp).2.2.1⟩
              rw [printE, if_pos hf, (parseD_ok hp).1]
              dsimp only
              have hs : lineE n r c = s := by
                rw [← words_sub hw, glue_three, lineE, Int.toNat_natCast, Int.toNat_natCast, ← numOf_inv ha, ← numOf_inv hb]
              rw [hs]
            · rw [if_neg hf] at he
              rw [he] at h
              exact absurd h hf
          · rw [if_neg hp] at he
            rw [he] at h
            exact absurd h hp
    · rw [parseE_len hw hl] at h; cases h
end Go.Proofs.YtephllgddhncgaaGreatDoor.Lex
/- An entry's line reads back as the entry. No function of the program. -/
namespace Go.Proofs.YtephllgddhncgaaGreatDoor.Lex
open Go.RowKit
set_option linter.unusedSimpArgs false
set_option linter.unusedVariables false
/-- Such bytes a word has. -/
def fineB (c : UInt8) : Bool := okb c && !(c == 32)
theorem dec_fine (n : Nat) : (Lib.decDigits n).all fineB = true := by
  have one : ∀ d : Fin 10, fineB (UInt8.ofNat (48 + d.1)) = true := by decide +kernel
  induction n using Nat.strongRecOn with
  | _ n ih =>
    by_cases h : n < 10
    · rw [decDigits_small h]
      simpa using one ⟨n, h⟩
    · rw [decDigits_big h, List.all_append, ih (n / 10) (by omega)]
      simpa using one ⟨n % 10, by omega⟩
theorem word_fine {k : Int} (h : 1 ≤ k ∧ k ≤ 7) : wordD k ≠ [] ∧ (wordD k).all fineB = true := by
  rcases (by omega : k = 1 ∨ k = 2 ∨ k = 3 ∨ k = 4 ∨ k = 5 ∨ k = 6 ∨ k = 7) with rfl | rfl | rfl | rfl | rfl | rfl | rfl <;> decide
theorem join_fine : ∀ ts : List (List UInt8), (∀ x ∈ ts, x.all fineB = true) → (Lib.join ts [44]).all fineB = true
  | [], _ => rfl
  | [a], h => by simpa [Lib.join] using h a (by simp)
  | a :: b :: r, h => by
    have ih := join_fine (b :: r) fun x hx => h x (List.mem_cons_of_mem _ hx)
    have ha := h a (by simp)
    rw [show Lib.join (a :: b :: r) [44] = a ++ [44] ++ Lib.join (b :: r) [44] by simp [Lib.join], List.all_append, List.all_append, ha, ih]
    decide
mutual
theorem textD_fine : ∀ {d : DescV} {t : List UInt8}, textD d = some t → t ≠ [] ∧ t.all fineB = true
  | .mk k n l, t, h => by
    rw [textD] at h
    split at h
    · next hok =>
      obtain ⟨ts, hts, rfl⟩ := Option.map_eq_some_iff.1 h
      have h1 := textsD_fine hts
      have hk := okH_iff.1 hok
      obtain ⟨w1, w2⟩ := word_fine ⟨hk.1, hk.2.1⟩
      refine ⟨by simp [w1], ?_⟩
      rw [List.all_append, List.all_append, w2, dec_fine]
      split
      · rfl
      · rw [List.all_append, List.all_append, join_fine ts h1]
        decide
    · cases h
theorem textsD_fine : ∀ {l : List DescV} {ts : List (List UInt8)}, textsD l = some ts → ∀ x ∈ ts, x.all fineB = true
  | [], ts, h => by cases h; simp
  | a :: l, ts, h => by
    rw [textsD] at h
    cases ha : textD a with
    | none => rw [ha] at h; cases h
    | some t =>
      rw [ha] at h
      obtain ⟨ts', hts, rfl⟩ := Option.map_eq_some_iff.1 h
      intro x hx
      rcases List.mem_cons.1 hx with rfl | hx
      · exact (textD_fine ha).2
      · exact textsD_fine hts x hx
end
theorem pieces_wordB : ∀ {x : List UInt8}, x.all fineB = true → pieces x = [x]
  | [], _ => rfl
  | c :: l, h => by
    rw [List.all_cons, Bool.and_eq_true] at h
    have h1 := h.1
    unfold fineB at h1
    simp at h1
    have ih := pieces_wordB h.2
    rw [pieces, if_neg h1.2, ih]
    rfl
theorem pieces_appB : ∀ {x : List UInt8} (l : List UInt8), x.all fineB = true → pieces (x ++ 32 :: l) = x :: pieces l
  | [], l, _ => by rw [List.nil_append, pieces, if_pos rfl]
  | c :: x, l, h => by
    rw [List.all_cons, Bool.and_eq_true] at h
    have h1 := h.1
    unfold fineB at h1
    simp at h1
    have ih := pieces_appB (x := x) l h.2
    rw [List.cons_append, pieces, if_neg h1.2, ih]
    rfl
theorem fine_ok {x : List UInt8} (h : x.all fineB = true) {c : UInt8} (hc : c ∈ x) : okb c = true := by
  have := List.all_eq_true.1 h c hc
  unfold fineB at this
  simp at this
  exact this.1
theorem wordsOf_three {a b c : List UInt8} (ha : a.all fineB = true) (hb : b.all fineB = true) (hc : c.all fineB = true) (na : a ≠ []) (nb : b ≠ []) (nc : c ≠ []) : wordsOf (a ++ [32] ++ b ++ [32] ++ c) = some [a, b, c] := by
  have e : pieces (a ++ [32] ++ b ++ [32] ++ c) = [a, b, c] := by
    rw [show a ++ [32] ++ b ++ [32] ++ c = a ++ 32 :: (b ++ 32 :: c) by simp, pieces_appB _ ha, pieces_appB _ hb, pieces_wordB hc]
  rw [wordsOf_ok (fun x hx => ?_) (by simp), e, if_neg]
  · intro h
    simp only [List.mem_cons, List.not_mem_nil, or_false] at h
    rcases h with h | h | h
    · exact na h.symm
    · exact nb h.symm
    · exact nc h.symm
  · simp only [List.mem_append, List.mem_singleton] at hx
    rcases hx with (((hx | rfl) | hx) | rfl) | hx
    · exact fine_ok ha hx
    · decide
    · exact fine_ok hb hx
    · decide
    · exact fine_ok hc hx
theorem parseD_text {d : DescV} {t : List UInt8} (h : textD d = some t) (hb : bigD d = false) : parseD t = (0, d) := by
  have hl := textD_len h
  have hn : d.nodes ≤ 60 := by
    unfold bigD at hb
    simp at hb
    omega
  rw [parseD, if_neg (by omega), treeT_iff.2 h]
  dsimp only
  rw [if_neg (by rw [hb]; decide)]
/-- What forE = 0 tells. -/
theorem forE_ok {n r : Int} {d : DescV} (h : forE n r d = 0) : 1 ≤ n ∧ n ≤ 16777216 ∧ (r = 0 ∨ r = 1) ∧ bigD d = false ∧ d.rightD = true := by
  unfold forE at h
  split at h
  · next hh =>
    split at h
    · next hr =>
      split at h
      · next hc =>
        unfold checkE at hc
        split at hc
        · cases hc
        · next hb =>
          split at hc
          · next hrd => exact ⟨(hasB_le hh).1, (hasB_le hh).2, hr, by simpa using hb, hrd⟩
          · cases hc
      · next hc => exact absurd h hc
    · cases h
  · cases h
theorem parseE_line {n r : Int} {d : DescV} {t : List UInt8} (hf : forE n r d = 0) (ht : textD d = some t) : parseE (lineE n r t) = (0, ((n, r), d)) := by
  obtain ⟨h1, h2, h3, h4, _⟩ := forE_ok hf
  have hn : ((n.toNat : Nat) : Int) = n := by omega
  have hr : ((r.toNat : Nat) : Int) = r := by omega
  obtain ⟨c1, c2⟩ := textD_fine ht
  have hw := wordsOf_three (dec_fine n.toNat) (dec_fine r.toNat) c2 (decDigits_ne _) (decDigits_ne _) c1
  have := parseE_three hw
  rw [numOf_digits (by omega), numOf_digits (by omega), parseD_text ht h4] at this
  dsimp only at this
  rw [hn, hr, if_pos rfl, if_pos hf] at this
  exact this
theorem lineE_len {n r : Int} {d : DescV} {t : List UInt8} (hf : forE n r d = 0) (ht : textD d = some t) : (Lib.decDigits n.toNat).length ≤ 19 ∧ (Lib.decDigits r.toNat).length ≤ 19 ∧ t.length ≤ 1200 ∧ (lineE n r t).length ≤ 1048576 := by
  obtain ⟨h1, h2, h3, h4, _⟩ := forE_ok hf
  have l1 := decDigits_len (n := n.toNat) (by omega)
  have l2 := decDigits_len (n := r.toNat) (by omega)
  have l3 := textD_len ht
  have hn : d.nodes ≤ 60 := by
    unfold bigD at h4
    simp at h4
    omega
  refine ⟨l1, l2, by omega, ?_⟩
  unfold lineE
  simp only [List.length_append, List.length_cons, List.length_nil]
  omega
/-- What may be has a text. -/
theorem forE_text {n r : Int} {d : DescV} (hf : forE n r d = 0) : ∃ t, textD d = some t := by
  obtain ⟨_, _, _, _, hr⟩ := forE_ok hf
  exact right_text hr
end Go.Proofs.YtephllgddhncgaaGreatDoor.Lex
