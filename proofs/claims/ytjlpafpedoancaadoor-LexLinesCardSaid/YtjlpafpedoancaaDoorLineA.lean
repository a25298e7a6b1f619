/- The statement on lines and words, walked. -/
import Derived.Test.YtjlpafpedoancaaDoorLexA
import Derived.Test.YtjlpafpedoancaaDoorWordR
namespace Go.Proofs.YtjlpafpedoancaaDoor.Lex
open Go.RowKit
set_option linter.unusedSimpArgs false
set_option linter.unusedVariables false
theorem rwordPost_get {l : List UInt8} {w w' : World} {e : Ending} {ws : List (List UInt8)} (hp : RWordPost l w e w') (h : wordsOf l = some ws) :
    ∃ v, e = .returned (.tuple #[v, .bool true]) ∧ w'.ownsRow w.heap.size 9 1 v ws.length (ws.map fun l => .string (bs l)) ∧ Below w.heap.size w w' := by
  obtain ⟨hb, h2⟩ := hp
  rw [h] at h2
  obtain ⟨v, h3, h4⟩ := h2
  exact ⟨v, h3, h4, hb⟩
theorem rwordPost_no {l : List UInt8} {w w' : World} {e : Ending} (hp : RWordPost l w e w') (h : wordsOf l = none) :
    e = .returned (.tuple #[.slice none 0 0, .bool false]) ∧ Below w.heap.size w w' := by
  obtain ⟨hb, h2⟩ := hp
  rw [h] at h2
  exact ⟨h2, hb⟩
/-- What a slice of texts shows. -/
def Shows (w : World) (a : Option Addr) (ws : List (List UInt8)) : Prop := ∀ i (h : i < ws.length), ∃ g, a = some ⟨g, 0, none⟩ ∧ w.cell? ⟨g, i, none⟩ = some (.string (bs (ws[i]'h)))
theorem shows_of {w : World} {base n : Nat} {e : TypeId} {v : Value} {ws : List (List UInt8)} (h : w.ownsRow base e 1 v n (ws.map fun l => .string (bs l))) : ∃ a cap, v = .slice a n cap ∧ n ≤ cap ∧ cap ≤ maxLen ∧ Shows w a ws := by
  obtain ⟨a, cap, h1, h2, h3, h4⟩ := own_row h
  exact ⟨a, cap, h1, h2, h3, fun i hi => h4 i _ (by simp [hi])⟩
theorem Shows.below {w w' : World} {a : Option Addr} {ws : List (List UInt8)} (h : Shows w a ws) (hb : Below w.heap.size w w') : Shows w' a ws := fun i hi => by
  obtain ⟨g, h1, h2⟩ := h i hi
  exact ⟨g, h1, (hb.cell (p := ⟨g, i, none⟩) (World.block_lt_of_cell? _ _ h2)).trans h2⟩
set_option maxRecDepth 100000 in
set_option maxHeartbeats 1000000 in
theorem same_yes (ws : List (List UInt8)) (a1 a2 : Option Addr) (c1 c2 : Nat) (w : World) (hn : ws.length ≤ 9223372036854775807) (h1 : Shows w a1 ws) (h2 : Shows w a2 ws) :
    Calls Tryd.prog 12 #[.slice a1 ws.length c1, .slice a2 ws.length c2] w fun e w' => e = .returned (.bool true) ∧ ∃ d, w' = w.drewN d := by
  have H1 := Lib.hid h1
  have H2 := Lib.hid h2
  clear h1 h2
  go_enter Tryd.func12, Tryd.ntmps12
  go_wp2_with fail
  go_loopg [5] ws.length (fun g iv wr => ∃ k d : Nat, k ≤ ws.length ∧ g = ws.length - k ∧ iv = .int .i64 k ∧ wr = w.drewN d)
  case atStart => exact ⟨0, 0, Nat.zero_le _, rfl, rfl, rfl⟩
  case round =>
    obtain ⟨k, d, hk, rfl, rfl, rfl⟩ := hrel
    by_cases hlt : k < ws.length
    · obtain ⟨g1, rfl, d1⟩ := H1.out k hlt
      obtain ⟨g2, rfl, d2⟩ := H2.out k hlt
      generalize bs (ws[k]'hlt) = z at *
      go_wp2_with fail
      go_quiet (fail)
      go_wp2_with fail
      go_roundg (ws.length - (k + 1))
      case measure => omega
      case rel => exact ⟨k + 1, _, by omega, rfl, by go_num, rfl⟩
    · go_wp2_with fail
      go_ret
      exact ⟨rfl, d, rfl⟩
theorem glue_take (ws : List (List UInt8)) (k : Nat) (h : k < ws.length) : glue (ws.take (k + 1)) = (if 0 < k then glue (ws.take k) ++ [32] else []) ++ ws[k]'h := by
  rw [List.take_succ_eq_append_getElem h]
  by_cases hk : 0 < k
  · rw [if_pos hk, glue_snoc _ _ (fun e => by have := congrArg List.length e; rw [List.length_take, List.length_nil] at this; omega)]
    simp
  · obtain rfl : k = 0 := by omega
    simp [glue]
theorem glue_le {ws : List (List UInt8)} {l : List UInt8} (h : glue ws = l) (k : Nat) : (glue (ws.take k)).length ≤ l.length := by
  subst h
  induction ws generalizing k with
  | nil => simp [glue]
  | cons a r ih =>
    cases k with
    | zero => simp [glue]
    | succ k =>
      cases r with
      | nil => simp [glue]
      | cons b r =>
        have := ih k
        cases k with
        | zero => simp [glue]
        | succ k => simp [glue] at this ⊢; omega
theorem word_le {ws : List (List UInt8)} {l : List UInt8} (h : glue ws = l) {k : Nat} (hk : k < ws.length) : (ws[k]'hk).length ≤ l.length := by
  have h1 := glue_le h (k + 1)
  rw [glue_take ws k hk] at h1
  simp at h1
  omega
theorem wordsOf_glue {l : List UInt8} {ws : List (List UInt8)} (h : wordsOf l = some ws) : glue ws = l := by
  unfold wordsOf at h
  split at h
  · cases h
  · split at h
    · rename_i h0
      cases h
      rw [h0]; rfl
    · split at h
      · cases h
      · cases h
        exact glue_pieces l
theorem bs_bs (x y : List UInt8) : bs x ++ bs y = bs (x ++ y) := ByteArray.mk_append_mk x y
theorem bs_nil : bs [] = ⟨#[]⟩ := rfl
set_option maxRecDepth 100000 in
set_option maxHeartbeats 4000000 in
/-- The second half: the words. -/
theorem law_tail (s : ByteArray) (at' : Int) (w : World) (hm : HasMax w) (h300 : s.size ≤ 300) (x : ByteArray) (n : Int) (b : Bool)
    (hl : ∀ w, Calls Tryd.prog 8 #[.string s, .int .i64 at'] w fun e w' => e = .returned (.tuple #[.string x, .int .i64 n, .bool b]) ∧ w = w')
    (hr : ∀ w, Calls Tryd.prog 9 #[.string s, .int .i64 at'] w fun e w' => e = .returned (.tuple #[.string x, .int .i64 n, .bool b]) ∧ w = w') :
    Calls Tryd.prog 4 #[.string s, .int .i64 at'] w fun e w' => e = .returned (.bool true) ∧ Below w.heap.size w w' := by
  have HM := Lib.hid hm
  have HL := Lib.hid hl
  have HR := Lib.hid hr
  clear hm hl hr
  cases hw : wordsOf s.data.toList with
  | none =>
    have HW := Lib.hid hw
    clear hw
    go_enter Tryd.func4, Tryd.ntmps4
    go_wp2_with fail
    refine (HL.out _).mono ?_
    rintro e w' ⟨rfl, rfl⟩
    go_wp2_with fail
    refine (HR.out _).mono ?_
    rintro e w' ⟨rfl, rfl⟩
    go_wp2_with fail
    refine (words s w (by omega) HM.out).mono ?_
    intro e w1 hp
    obtain ⟨rfl, hb1⟩ := wordPost_no hp HW.out
    have HB1 := Lib.hid hb1
    clear hp hb1
    go_wp2_with fail
    refine (rwords s w1 (by omega)).mono ?_
    intro e w2 hp
    obtain ⟨rfl, hb2⟩ := rwordPost_no hp HW.out
    have HB2 := Lib.hid (HB1.out.trans (hb2.mono HB1.out.size))
    clear hp hb2
    go_wp2_with (go_at_call 5; (with_reducible refine (live _ (HM.out.below HB2.out)).mono ?_); rintro e w' ⟨rfl, hb⟩; have HB := Lib.hid (HB2.out.trans (hb.mono HB2.out.size)); clear hb)
    go_ret
    exact ⟨rfl, HB.out⟩
  | some ws =>
    have HW := Lib.hid hw
    have HGL := Lib.hid (wordsOf_glue hw)
    clear hw
    go_enter Tryd.func4, Tryd.ntmps4
    go_wp2_with fail
    refine (HL.out _).mono ?_
    rintro e w' ⟨rfl, rfl⟩
    go_wp2_with fail
    refine (HR.out _).mono ?_
    rintro e w' ⟨rfl, rfl⟩
    go_wp2_with fail
    refine (words s w (by omega) HM.out).mono ?_
    intro e w1 hp
    obtain ⟨v1, rfl, ho1, hb1⟩ := wordPost_get hp HW.out
    obtain ⟨a1, c1, rfl, hc1, hm1, hs1⟩ := shows_of ho1
    have HB1 := Lib.hid hb1
    have HS1 := Lib.hid hs1
    clear hp hb1 ho1 hs1
    go_wp2_with fail
    refine (rwords s w1 (by omega)).mono ?_
    intro e w2 hp
    obtain ⟨v2, rfl, ho2, hb2⟩ := rwordPost_get hp HW.out
    obtain ⟨a2, c2, rfl, hc2, hm2, hs2⟩ := shows_of ho2
    have HB2 := Lib.hid (HB1.out.trans (hb2.mono HB1.out.size))
    have HS12 := Lib.hid (HS1.out.below hb2)
    have HS2 := Lib.hid hs2
    clear hp hb2 ho2 hs2
    have hn : ws.length ≤ 9223372036854775807 := by unfold maxLen at hm1; omega
    go_wp2_with fail
    go_loop [15, 16] (fun tv iv => ∃ k : Nat, k ≤ ws.length ∧ iv = .int .i64 k ∧ tv = .string (bs (glue (ws.take k)))) (fun _ iv => ws.length - (intOf iv).toNat)
    case atStart => exact ⟨0, Nat.zero_le _, rfl, rfl⟩
    case round =>
      obtain ⟨k, hk, rfl, rfl⟩ := hrel
      by_cases hlt : k < ws.length
      · obtain ⟨g1, rfl, d1⟩ := HS12.out k hlt
        have hg := glue_take ws k hlt
        have z1 : (bs (glue (ws.take k))).size ≤ 300 := by rw [size_bs]; have := glue_le HGL.out k; simp at this; omega
        have z2 : (bs (ws[k]'hlt)).size ≤ 300 := by rw [size_bs]; have := word_le HGL.out hlt; simp at this; omega
        by_cases hk0 : 0 < k
        · rw [if_pos hk0] at hg
          have HG : Hid (bs (glue (ws.take k)) ++ ⟨#[32]⟩ ++ bs (ws[k]'hlt) = bs (glue (ws.take (k + 1)))) := Lib.hid (by rw [hg, ← bs_bs, ← bs_bs]; rfl)
          clear hg
          generalize bs (ws[k]'hlt) = z at *
          generalize bs (glue (ws.take k)) = y at *
          go_wp2_with fail
          go_round
          case rel => exact ⟨k + 1, by omega, by go_num, congrArg Value.string HG.out⟩
          case measure => simp [intOf]; omega
        · rw [if_neg hk0] at hg
          have hy : bs (glue (ws.take k)) = ⟨#[]⟩ := by
            obtain rfl : k = 0 := by omega
            rfl
          have HG : Hid (bs (glue (ws.take k)) ++ bs (ws[k]'hlt) = bs (glue (ws.take (k + 1)))) := Lib.hid (by rw [hg, hy, ← bs_nil, bs_bs])
          clear hg hy
          generalize bs (ws[k]'hlt) = z at *
          generalize bs (glue (ws.take k)) = y at *
          go_wp2_with fail
          go_round
          case rel => exact ⟨k + 1, by omega, by go_num, congrArg Value.string HG.out⟩
          case measure => simp [intOf]; omega
      · have hy : bs (glue (ws.take k)) = s := by
          rw [show ws.take k = ws from List.take_of_length_le (by omega), HGL.out]
          rfl
        rw [hy]
        clear hy
        go_wp2_with (first | (go_at_call 12; (with_reducible refine (same_yes ws _ _ _ _ _ hn HS12.out HS2.out).mono ?_); rintro e w' ⟨rfl, d, rfl⟩) | (go_at_call 5; (with_reducible refine (live _ (HM.out.below (below_drewN HB2.out _))).mono ?_); rintro e w' ⟨rfl, hb⟩; have HB := Lib.hid ((below_drewN HB2.out _).trans (hb.mono HB2.out.size)); clear hb))
        go_ret
        exact ⟨rfl, HB.out⟩
theorem lawLines (s : ByteArray) (at' : Int) (w : World) (hm : HasMax w) (hs : s.size ≤ maxLen) : Calls Tryd.prog 4 #[.string s, .int .i64 at'] w fun e w' => e = .returned (.bool true) ∧ Below w.heap.size w w' := by
  by_cases h300 : 300 < s.size
  · have HM := Lib.hid hm
    clear hm
    go_enter Tryd.func4, Tryd.ntmps4
    go_wp2_with (go_at_call 5; (with_reducible refine (live _ HM.out).mono ?_); rintro e w' ⟨rfl, hb⟩; have HB := Lib.hid hb; clear hb)
    go_ret
    exact ⟨rfl, HB.out⟩
  · rcases Int.lt_or_le at' 0 with h0 | h0
    · exact law_tail s at' w hm (by omega) _ _ _ (fun w => line_no s at' w (by omega) (.inl h0)) (fun w => rline_no s at' w (by omega) (.inl h0))
    · obtain ⟨a, rfl⟩ : ∃ a : Nat, at' = a := ⟨at'.toNat, by omega⟩
      rcases firstLF_or s a with ⟨i, hi⟩ | hn
      · exact law_tail s a w hm (by omega) _ _ _ (fun w => line_yes s a i w (by omega) hi) (fun w => rline_yes s a i w (by omega) hi)
      · exact law_tail s a w hm (by omega) _ _ _ (fun w => line_no s a w (by omega) (.inr fun j h1 h2 => hn j (by omega) h2)) (fun w => rline_no s a w (by omega) (.inr fun j h1 h2 => hn j (by omega) h2))
end Go.Proofs.YtjlpafpedoancaaDoor.Lex
