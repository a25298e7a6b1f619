/- The reference's words, walked; two rows of texts compared. -/
import Derived.Test.YtephllgddhncgaaGreatDoorGPar
import Derived.Test.YtephllgddhncgaaGreatDoorLine
import Derived.Test.YtephllgddhncgaaGreatDoorGLex
namespace Go.Proofs.YtephllgddhncgaaGreatDoor.Lex
open Go.RowKit
set_option linter.unusedSimpArgs false
set_option linter.unusedVariables false
/-- What the reference's Words makes of a line. -/
def RWordPost (l : List UInt8) (w : World) (e : Ending) (w' : World) : Prop :=
  Below w.heap.size w w' ∧
  match wordsOf l with
  | none => e = .returned (.tuple #[.slice none 0 0, .bool false])
  | some ws => ∃ v, e = .returned (.tuple #[v, .bool true]) ∧ w'.ownsRow w.heap.size 9 1 v ws.length (ws.map fun l => .string (bs l))
theorem rwordPost_none {l : List UInt8} {w w' : World} (h : wordsOf l = none) (hb : Below w.heap.size w w') : RWordPost l w (.returned (.tuple #[.slice none 0 0, .bool false])) w' := by
  refine ⟨hb, ?_⟩
  rw [h]
theorem rwordPost_some {l : List UInt8} {w w' : World} {ws : List (List UInt8)} {v : Value} (h : wordsOf l = some ws) (hb : Below w.heap.size w w') (ho : w'.ownsRow w.heap.size 9 1 v ws.length (ws.map fun l => .string (bs l))) : RWordPost l w (.returned (.tuple #[v, .bool true])) w' := by
  refine ⟨hb, ?_⟩
  rw [h]
  exact ⟨v, rfl, ho⟩
/-- What stands when k bytes are read: the pieces behind one another, the last one apart; none before it is empty. -/
structure Got (s : ByteArray) (k : Nat) (L : List (List UInt8)) (x : List UInt8) : Prop where
  cut : pieces (s.data.toList.take k) = L ++ [x]
  ok : ∀ c ∈ s.data.toList.take k, okb c = true
  ne : [] ∉ L
theorem Got.zero (s : ByteArray) : Got s 0 [] [] := ⟨rfl, by simp, by simp⟩
theorem Got.more {s : ByteArray} {k : Nat} {L : List (List UInt8)} {x : List UInt8} (h : Got s k L x) (hk : k < s.size) (ho : okb (byteAt s k) = true) (hc : byteAt s k ≠ 32) : Got s (k + 1) L (x ++ [byteAt s k]) := by
  refine ⟨?_, fun c hm => ?_, h.ne⟩
  · rw [take_succ_at hk, pieces_snoc hc, h.cut, List.dropLast_concat, List.getLastD_concat]
  · rw [take_succ_at hk, List.mem_append, List.mem_singleton] at hm
    rcases hm with hm | rfl
    · exact h.ok c hm
    · exact ho
theorem Got.next {s : ByteArray} {k : Nat} {L : List (List UInt8)} {x : List UInt8} (h : Got s k L x) (hk : k < s.size) (hc : byteAt s k = 32) (hx : x ≠ []) : Got s (k + 1) (L ++ [x]) [] := by
  refine ⟨?_, fun c hm => ?_, ?_⟩
  · rw [take_succ_at hk, hc, pieces_snoc_32, h.cut]
  · rw [take_succ_at hk, List.mem_append, List.mem_singleton] at hm
    rcases hm with hm | rfl
    · exact h.ok c hm
    · rw [hc]; decide
  · rw [List.mem_append, List.mem_singleton]
    rintro (hm | hm)
    · exact h.ne hm
    · exact hx hm.symm
theorem mem_byteAt {s : ByteArray} {k : Nat} (h : k < s.size) : byteAt s k ∈ s.data.toList := List.mem_of_getElem? (some_at h)
theorem pieces_app : ∀ (a b : List UInt8) (L : List (List UInt8)) (x : List UInt8), pieces a = L ++ [x] → pieces (a ++ b) = L ++ (x ++ (pieces b).headD []) :: (pieces b).tail
  | [], b, L, x, h => by
    have h1 : [[]] = L ++ [x] := h
    cases L with
    | nil =>
      obtain rfl : [] = x := by simpa using h1
      simpa using pieces_cons b
    | cons y r => simp at h1
  | c :: a, b, L, x, h => by
    obtain ⟨M, y, hM⟩ : ∃ M y, pieces a = M ++ [y] := by
      rcases List.eq_nil_or_concat (pieces a) with h0 | ⟨M, y, hM⟩
      · exact absurd h0 (pieces_ne a)
      · exact ⟨M, y, by rw [hM, List.concat_eq_append]⟩
    have ih := pieces_app a b M y hM
    simp only [pieces, List.cons_append, hM] at h ⊢
    rw [ih]
    split
    · rename_i hc
      rw [if_pos hc] at h
      have h1 : ([] :: M) ++ [y] = L ++ [x] := h
      obtain ⟨rfl, e⟩ := List.append_inj' h1 rfl
      obtain rfl : y = x := by simpa using e
      rfl
    · rename_i hc
      rw [if_neg hc] at h
      cases M with
      | nil =>
        have h1 : [] ++ [c :: y] = L ++ [x] := by simpa using h
        obtain ⟨rfl, e⟩ := List.append_inj' h1 rfl
        obtain rfl : c :: y = x := by simpa using e
        rfl
      | cons m M =>
        have h1 : ((c :: m) :: M) ++ [y] = L ++ [x] := by simpa using h
        obtain ⟨rfl, e⟩ := List.append_inj' h1 rfl
        obtain rfl : y = x := by simpa using e
        rfl
theorem wordsOf_gap {l : List UInt8} (h0 : l ≠ []) (h : [] ∈ pieces l) : wordsOf l = none := by
  by_cases ha : l.all okb = false
  · rw [wordsOf, if_pos ha]
  · rw [wordsOf, if_neg ha, if_neg h0, if_pos h]
/-- A blank behind a blank, or ahead of all. -/
theorem Got.gap {s : ByteArray} {k : Nat} {L : List (List UInt8)} (h : Got s k L []) (hk : k < s.size) (hc : byteAt s k = 32) : wordsOf s.data.toList = none := by
  have h1 : pieces (s.data.toList.take (k + 1)) = (L ++ [[]]) ++ [[]] := by rw [take_succ_at hk, hc, pieces_snoc_32, h.cut]
  have h2 := pieces_app _ (s.data.toList.drop (k + 1)) _ _ h1
  rw [List.take_append_drop] at h2
  refine wordsOf_gap (fun e => ?_) (by rw [h2]; simp)
  have := mem_byteAt hk
  rw [e] at this
  simp at this
theorem Got.all {s : ByteArray} {L : List (List UInt8)} {x : List UInt8} (h : Got s s.size L x) (h0 : s.data.toList ≠ []) : wordsOf s.data.toList = if x = [] then none else some (L ++ [x]) := by
  have e : s.data.toList.take s.size = s.data.toList := List.take_of_length_le (by simp)
  obtain ⟨h1, h2, h3⟩ := h
  rw [e] at h1 h2
  rw [wordsOf_ok h2 h0, h1]
  by_cases hx : x = []
  · rw [if_pos hx, if_pos (by rw [hx]; simp)]
  · rw [if_neg hx, if_neg (by simp [h3, Ne.symm hx])]
theorem bs_app (x : List UInt8) (s : ByteArray) (k : Nat) (hk : k < s.size) : bs x ++ s.extract k (k + 1) = bs (x ++ [byteAt s k]) := by
  apply WideShapes.bytes_inj
  rw [ByteArray.data_append]
  simp only [Array.toList_append, Lib.extract_data, data_bs]
  rw [show k + 1 - k = 1 by omega, List.take_one, List.head?_drop, some_at hk]
  rfl
set_option maxRecDepth 100000 in
set_option maxHeartbeats 4000000 in
theorem rwords (s : ByteArray) (w : World) (hs : s.size ≤ 1048576) : Calls Tryz.prog 52 #[.string s] w (RWordPost s.data.toList w) := by
  go_enter Tryz.func52, Tryz.ntmps52
  go_wp2
  go_loopg [4, 5, 6] s.size (fun g v xv iv wr => ∃ (k : Nat) (L : List (List UInt8)) (x : List UInt8), k ≤ s.size ∧ g = s.size - k ∧ L.length ≤ k ∧ x.length ≤ k ∧ iv = .int .i64 k ∧ xv = .string (bs x) ∧ Got s k L x ∧ wr.ownsRow w.heap.size 9 1 v L.length (L.map fun l => .string (bs l)) ∧ Below w.heap.size w wr)
  case atStart => exact ⟨0, [], [], by omega, by omega, by simp, by simp, rfl, rfl, Got.zero s, World.ownsRow_nil _ _ _ _, Below.refl _ _⟩
  case round =>
    obtain ⟨k, L, x, hk, rfl, hL, hx, rfl, rfl, hg, hown, hb⟩ := hrel
    obtain ⟨wo, rfl⟩ : ∃ wo : World, wo = wr := ⟨_, rfl⟩
    have HG := Lib.hid hg
    have HO := Lib.hid hown
    have HB := Lib.hid hb
    have hsz := hb.size
    clear hg hown hb
    by_cases hlt : k < s.size
    · have hbe := byteAt_eq hlt
      have h255 : (s[k]'hlt).toNat < 256 := (s[k]'hlt).toNat_lt
      by_cases ho : okb (byteAt s k) = true
      · have HOK := Lib.hid ho
        have ⟨b1, b2⟩ := (okb_iff _).1 ho
        rw [hbe] at b1 b2
        clear ho
        by_cases hc : byteAt s k = 32
        · have HC := Lib.hid hc
          rw [hbe] at hc
          have t : (((s[k]'hlt).toNat : Int) != 32) = false := by rw [hc]; rfl
          clear hc hbe
          by_cases hx0 : x = []
          · subst hx0
            have HW := Lib.hid (HG.out.gap hlt HC.out)
            have h1 : (bs []).toList.isEmpty = true := by rw [Lib.toList_data]; rfl
            generalize bs [] = z at *
            go_wp2_with fail
            go_ret2
            exact rwordPost_none HW.out HB.out
          · have HX := Lib.hid hx0
            have h1 : (bs x).toList.isEmpty = false := by rw [Lib.toList_data]; exact (List.isEmpty_eq_false_iff).2 hx0
            have HG2 := Lib.hid (HG.out.next hlt HC.out hx0)
            clear hx0
            generalize hz : bs x = z at *
            have HZ := Lib.hid hz
            clear hz
            go_wp2_with (at_builtin; refine wpl_app1 rfl _ _ 82 rfl strElem _ _ _ rfl _ rfl rfl HO.out HB.out (by omega) hsz (by omega) (by unfold maxLen; omega) ?_; intro v' w3 hown3 hbw3 hg3; have HO3 := Lib.hid hown3; have HB3 := Lib.hid hbw3; clear hg3 hown3 hbw3)
            go_roundg (s.size - (k + 1))
            case measure => omega
            case rel => exact ⟨k + 1, L ++ [x], [], by omega, rfl, by simp; omega, by simp, by go_num, rfl, HG2.out, by simpa [HZ.out] using HO3.out, HB3.out⟩
        · have HC := Lib.hid hc
          have HG2 := Lib.hid (HG.out.more hlt HOK.out hc)
          have t : (((s[k]'hlt).toNat : Int) != 32) = true := by
            rw [bne_iff_ne]
            intro e
            exact hc (by rw [hbe]; exact UInt8.toNat_inj.1 (by show (s[k]'hlt).toNat = 32; omega))
          have HZ := Lib.hid (bs_app x s k hlt)
          have hzs : (bs x).size ≤ s.size := by rw [size_bs]; omega
          clear hc hbe
          generalize bs x = z at *
          go_wp2_with fail
          go_roundg (s.size - (k + 1))
          case measure => omega
          case rel => exact ⟨k + 1, L, x ++ [byteAt s k], by omega, rfl, by omega, by simp; omega, by go_num, congrArg Value.string HZ.out, HG2.out, HO.out, HB.out⟩
      · have hw : wordsOf s.data.toList = none := wordsOf_bad (mem_byteAt hlt) (by simpa using ho)
        have hnb : ¬ (32 ≤ (s[k]'hlt).toNat ∧ (s[k]'hlt).toNat ≤ 126) := fun h => ho ((okb_iff _).2 (by rw [hbe]; exact h))
        have HW := Lib.hid hw
        clear ho hw hbe
        generalize bs x = z at *
        by_cases h1 : (s[k]'hlt).toNat < 32
        · clear hnb
          go_wp2_with fail
          go_ret2
          exact rwordPost_none HW.out HB.out
        · have h2 : 126 < (s[k]'hlt).toNat := by omega
          clear hnb
          go_wp2_with fail
          go_ret2
          exact rwordPost_none HW.out HB.out
    · obtain rfl : k = s.size := by omega
      by_cases h0 : s.data.toList = []
      · have h1 : s.toList.isEmpty = true := by rw [Lib.toList_data, h0]; rfl
        have HW : Hid (wordsOf s.data.toList = some []) := Lib.hid (by rw [h0]; rfl)
        clear h0
        generalize bs x = z at *
        go_wp2_with fail
        go_ret2
        exact rwordPost_some HW.out HB.out (World.ownsRow_nil _ _ _ _)
      · have h1 : s.toList.isEmpty = false := by rw [Lib.toList_data]; exact (List.isEmpty_eq_false_iff).2 h0
        have hw := HG.out.all h0
        clear h0
        by_cases hx0 : x = []
        · rw [if_pos hx0] at hw
          have HW := Lib.hid hw
          have h2 : (bs x).toList.isEmpty = true := by rw [Lib.toList_data, hx0]; rfl
          clear hw hx0
          generalize bs x = z at *
          go_wp2_with fail
          go_ret2
          exact rwordPost_none HW.out HB.out
        · rw [if_neg hx0] at hw
          have HW := Lib.hid hw
          have h2 : (bs x).toList.isEmpty = false := by rw [Lib.toList_data]; exact (List.isEmpty_eq_false_iff).2 hx0
          clear hw hx0
          generalize hz : bs x = z at *
          have HZ := Lib.hid hz
          clear hz
          go_wp2_with (at_builtin; refine wpl_app1 rfl _ _ 82 rfl strElem _ _ _ rfl _ rfl rfl HO.out HB.out (by omega) hsz (by omega) (by unfold maxLen; omega) ?_; intro v' w3 hown3 hbw3 hg3; have HO3 := Lib.hid hown3; have HB3 := Lib.hid hbw3; clear hg3 hown3 hbw3)
          go_ret2
          exact rwordPost_some HW.out HB3.out (by simpa [HZ.out] using HO3.out)
end Go.Proofs.YtephllgddhncgaaGreatDoor.Lex
