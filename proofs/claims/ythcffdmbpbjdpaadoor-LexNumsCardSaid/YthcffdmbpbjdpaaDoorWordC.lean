/- lex.Words, walked. -/
import Derived.Test.YthcffdmbpbjdpaaDoorSplit
import Derived.Test.YthcffdmbpbjdpaaDoorLexM
import Derived.Laws.IdiomStrings
import Derived.Deep.LoopGhost
namespace Go.Proofs.YthcffdmbpbjdpaaDoor.Lex
open Go.RowKit
set_option linter.unusedSimpArgs false
set_option linter.unusedVariables false
/-- '[]byte(s)'. -/
theorem conv_bytes {P : Program} {src dst e : TypeId} (hs : P.underlying src = some .string) (hd : P.underlying dst = some (.slice e)) (he : P.underlying e = some (.int .u8)) (s : ByteArray) (w : World) :
    ∃ cap W1, (convert src dst (.string s)).run P w = .ok (.slice (some ⟨w.heap.size, 0, none⟩) s.size cap) W1 ∧ (∀ j (h : j < s.size), W1.cell? ⟨w.heap.size, j, none⟩ = some (.int .u8 ((s[j]'h).toNat))) ∧ Below w.heap.size w W1 ∧ W1.heap.size = w.heap.size + 1 := by
  refine ⟨_, _, run_bytes_of_string w src dst e s hs hd he, fun j h => ?_, ((Below.refl _ _).drew).alloc (Nat.le_refl _) _, by simp⟩
  have h2 := bytesRow_at s (grownCap w s.size 0 e) j h
  exact cell_at (heap_alloc_new w.drew _) h2
/-- What Words makes of a line: its words in a row, or none. -/
def WordPost (l : List UInt8) (w : World) (e : Ending) (w' : World) : Prop :=
  Below w.heap.size w w' ∧
  match wordsOf l with
  | none => e = .returned (.tuple #[.slice none 0 0, .int .i64 10])
  | some ws => ∃ v, e = .returned (.tuple #[v, .int .i64 0]) ∧ w'.ownsRow w.heap.size 9 1 v ws.length (ws.map fun l => .string (bs l))
theorem wordPost_none {l : List UInt8} {w w' : World} (h : wordsOf l = none) (hb : Below w.heap.size w w') : WordPost l w (.returned (.tuple #[.slice none 0 0, .int .i64 10])) w' := by
  refine ⟨hb, ?_⟩
  rw [h]
theorem wordPost_some {l : List UInt8} {w w' : World} {ws : List (List UInt8)} {v : Value} (h : wordsOf l = some ws) (hb : Below w.heap.size w w') (ho : w'.ownsRow w.heap.size 9 1 v ws.length (ws.map fun l => .string (bs l))) : WordPost l w (.returned (.tuple #[v, .int .i64 0])) w' := by
  refine ⟨hb, ?_⟩
  rw [h]
  exact ⟨v, rfl, ho⟩
theorem okb_iff (c : UInt8) : okb c = true ↔ 32 ≤ c.toNat ∧ c.toNat ≤ 126 := by
  unfold okb
  rw [Bool.not_eq_true', Bool.or_eq_false_iff, decide_eq_false_iff_not, decide_eq_false_iff_not]
  rw [UInt8.lt_iff_toNat_lt, gt_iff_lt, UInt8.lt_iff_toNat_lt]
  show ¬ c.toNat < 32 ∧ ¬ 126 < c.toNat ↔ _
  omega
theorem get_mem (s : ByteArray) (i : Nat) (h : i < s.size) : (s[i]'h) ∈ s.data.toList := by
  have hi : i < s.data.size := h
  exact Array.mem_toList_iff.2 (Array.getElem_mem hi)
set_option maxRecDepth 100000 in
set_option maxHeartbeats 4000000 in
theorem words (s : ByteArray) (w : World) (hs : s.size ≤ 1048576) (hm : HasMax w) : Calls Tryd.prog 9 #[.string s] w (WordPost s.data.toList w) := by
  obtain ⟨cap, W1, hconv, hcell, hb1, hz1⟩ := conv_bytes Tryd.underlying9 Tryd.underlying44 Tryd.underlying5 s w
  have hsz := s.size
  have HC := Lib.hid hcell
  have HB := Lib.hid hb1
  have HM := Lib.hid (hm.below hb1)
  have HZ := Lib.hid hz1
  clear hcell hb1 hz1 hm
  go_enter Tryd.func9, Tryd.ntmps9
  go_wp2
  go_loop [12] (fun i => ∃ k : Nat, k ≤ s.size ∧ i = .int .i64 k ∧ ∀ j (h : j < s.size), j < k → okb (s[j]'h) = true) (fun i => s.size - (intOf i).toNat)
  case atStart => exact ⟨0, Nat.zero_le _, rfl, by omega⟩
  case round =>
    obtain ⟨k, hk, rfl, hok⟩ := hrel
    have HOK := Lib.hid hok
    clear hok
    by_cases hlt : k < s.size
    · have c1 := HC.out k hlt
      have HO := Lib.hid (okb_iff (s[k]'hlt))
      have HG := Lib.hid (get_mem s k hlt)
      have h255 : (s[k]'hlt).toNat < 256 := (s[k]'hlt).toNat_lt
      by_cases hb : okb (s[k]'hlt) = true
      · have ⟨b1, b2⟩ := HO.out.1 hb
        have HBK := Lib.hid hb
        clear hb
        go_wp2_with fail
        go_round
        case rel => exact ⟨k + 1, by omega, by go_num, fun j h hj => by
          rcases Nat.lt_or_ge j k with h1 | h1
          · exact HOK.out j h h1
          · obtain rfl : j = k := by omega
            exact HBK.out⟩
        case measure => simp [intOf]; omega
      · have hw : wordsOf s.data.toList = none := wordsOf_bad HG.out (by simpa using hb)
        have hnb : ¬ (32 ≤ (s[k]'hlt).toNat ∧ (s[k]'hlt).toNat ≤ 126) := fun h => hb (HO.out.2 h)
        have HW := Lib.hid hw
        clear hb hw
        by_cases h1 : (s[k]'hlt).toNat < 32
        · clear hnb
          go_wp2_with fail
          go_ret2
          exact wordPost_none HW.out HB.out
        · have h2 : 126 < (s[k]'hlt).toNat := by omega
          clear hnb
          go_wp2_with fail
          go_ret2
          exact wordPost_none HW.out HB.out
    · obtain rfl : k = s.size := by omega
      have hall : ∀ c ∈ s.data.toList, okb c = true := fun c hc => by
        obtain ⟨j, hj, rfl⟩ := List.mem_iff_getElem.1 hc
        exact HOK.out j (by simpa using hj) (by simpa using hj)
      by_cases h0 : s.data.toList = []
      · have h1 : s.toList.isEmpty = true := by rw [Lib.toList_data, h0]; rfl
        have HW : Hid (wordsOf s.data.toList = some []) := Lib.hid (by rw [h0]; rfl)
        clear h0 hall
        go_wp2_with fail
        go_ret2
        exact wordPost_some HW.out HB.out (World.ownsRow_nil _ _ _ _)
      · have h1 : s.toList.isEmpty = false := by rw [Lib.toList_data]; exact (List.isEmpty_eq_false_iff).2 h0
        have hw := wordsOf_ok hall h0
        have HW := Lib.hid hw
        clear h0 hall hw
        go_wp2_with (go_at_call 14; (with_reducible refine (split_any s _ HM.out (by omega)).mono ?_); rintro e w' ⟨rfl, hown, hb2⟩)
        generalize hP : pieces s.data.toList = ps at *
        have HO2 := Lib.hid hown
        have HB2 := Lib.hid (HB.out.trans (hb2.mono (by have := HZ.out; omega)))
        have hlp : ps.length ≤ s.size + 1 := by
          rw [← hP, ← pieces_length]
          have := Lib.countB_le ⟨#[32]⟩ (by decide) s.size s (Nat.le_refl _)
          omega
        clear hown hb2 hP
        go_loop [29] (fun i => ∃ k : Nat, k ≤ ps.length ∧ i = .int .i64 k ∧ ∀ j (h : j < ps.length), j < k → ps[j]'h ≠ []) (fun i => ps.length - (intOf i).toNat)
        case atStart => exact ⟨0, Nat.zero_le _, rfl, by omega⟩
        case round =>
          obtain ⟨k, hk, rfl, hne⟩ := hrel
          have HN := Lib.hid hne
          clear hne
          by_cases hlt : k < ps.length
          · have ⟨c1, _⟩ := own_cell HO2.out (i := k) (u := .string (bs (ps[k]'hlt))) (by simp [hlt])
            by_cases he : ps[k]'hlt = []
            · have h1 : (bs (ps[k]'hlt)).toList.isEmpty = true := by rw [Lib.toList_data, data_bs, he]; rfl
              have hmem : [] ∈ ps := by rw [← he]; exact List.getElem_mem hlt
              have HW2 : Hid (wordsOf s.data.toList = none) := Lib.hid (by rw [HW.out, if_pos hmem])
              clear he hmem
              generalize bs (ps[k]'hlt) = x at *
              go_wp2_with fail
              go_ret2
              exact wordPost_none HW2.out HB2.out
            · have h1 : (bs (ps[k]'hlt)).toList.isEmpty = false := by rw [Lib.toList_data, data_bs]; exact (List.isEmpty_eq_false_iff).2 he
              have HE := Lib.hid he
              clear he
              generalize bs (ps[k]'hlt) = x at *
              go_wp2_with fail
              go_round
              case rel => exact ⟨k + 1, by omega, by go_num, fun j h hj => by
                rcases Nat.lt_or_ge j k with h1 | h1
                · exact HN.out j h h1
                · obtain rfl : j = k := by omega
                  exact HE.out⟩
              case measure => simp [intOf]; omega
          · have hmem : [] ∉ ps := fun hm => by
              obtain ⟨j, hj, h0⟩ := List.mem_iff_getElem.1 hm
              exact HN.out j hj (by omega) h0
            have HW2 : Hid (wordsOf s.data.toList = some ps) := Lib.hid (by rw [HW.out, if_neg hmem])
            clear hmem
            go_wp2_with fail
            go_ret2
            refine wordPost_some HW2.out HB2.out ?_
            obtain ⟨o1, o2⟩ := HO2.out
            refine ⟨o1, ?_⟩
            rcases o2 with h | ⟨g, cp, cur, a, b, c⟩
            · exact .inl h
            · exact .inr ⟨g, cp, cur, a, by have := HB.out.size; omega, c⟩
end Go.Proofs.YthcffdmbpbjdpaaDoor.Lex
