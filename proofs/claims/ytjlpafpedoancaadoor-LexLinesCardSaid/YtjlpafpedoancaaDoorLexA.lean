/- The statement on tokens, walked. -/
import Derived.Test.YtjlpafpedoancaaDoorLexL
import Derived.Test.YtjlpafpedoancaaDoorLexR
namespace Go.Proofs.YtjlpafpedoancaaDoor.Lex
open Go.RowKit
set_option linter.unusedSimpArgs false
set_option linter.unusedVariables false
theorem rtokPost_get {s : ByteArray} {w w' : World} {e : Ending} (hp : RTokPost s w e w') (h : ∀ m, m < s.size → kb s m ≠ 0) :
    ∃ v, e = .returned (.tuple #[v, .bool true]) ∧ w'.ownsRow w.heap.size 32 3 v (toks s s.size).length (tokCells s (toks s s.size)) ∧ Below w.heap.size w w' := by
  rcases hp with ⟨⟨m, hm, h0⟩, _⟩ | ⟨_, h2⟩
  · exact absurd h0 (h m hm)
  · exact h2
theorem rtokPost_no {s : ByteArray} {w w' : World} {e : Ending} (hp : RTokPost s w e w') (h : ∃ m, m < s.size ∧ kb s m = 0) :
    e = .returned (.tuple #[.slice none 0 0, .bool false]) ∧ Below w.heap.size w w' := by
  rcases hp with ⟨_, h2⟩ | ⟨h1, _⟩
  · exact h2
  · obtain ⟨m, hm, h0⟩ := h
    exact absurd h0 (h1 m hm)
theorem own_row {w : World} {base : Nat} {e : TypeId} {size n : Nat} {v : Value} {xs : List Value} (h : w.ownsRow base e size v n xs) :
    ∃ a cap, v = .slice a n cap ∧ n ≤ cap ∧ cap ≤ maxLen ∧ ∀ i u, xs[i]? = some u → ∃ g, a = some ⟨g, 0, none⟩ ∧ w.cell? ⟨g, i, none⟩ = some u := by
  rcases h.2 with ⟨rfl, rfl⟩ | ⟨g, cap, cur, rfl, hb, hg, hn, hm, hs, ht⟩
  · have : xs = [] := List.eq_nil_of_length_eq_zero (by rw [h.1]; simp)
    subst this
    exact ⟨none, 0, rfl, Nat.le_refl _, by simp, by simp⟩
  · exact ⟨_, cap, rfl, hn, hm, fun i u hu => ⟨g, rfl, (own_cell h hu).1⟩⟩
theorem chained_det : ∀ {l : List Tok} {a b c : Nat}, chained a l b → chained a l c → b = c
  | [], _, _, _, h, k => h.symm.trans k
  | _ :: _, _, _, _, h, k => chained_det h.2.2 k.2.2
theorem chained_at : ∀ {l : List Tok} {a n : Nat} (h : chained a l n) (i : Nat) (hi : i < l.length),
    chained a (l.take i) (l[i]'hi).2.1 ∧ (l[i]'hi).2.1 < (l[i]'hi).2.2 ∧ (l[i]'hi).2.2 ≤ n ∧ chained a (l.take (i + 1)) (l[i]'hi).2.2 := by
  intro l
  induction l with
  | nil => intro a n h i hi; simp at hi
  | cons x l ih =>
    intro a n h i hi
    have hle : ∀ {l : List Tok} {a n : Nat}, chained a l n → a ≤ n := by
      intro l
      induction l with
      | nil => intro a n h; exact Nat.le_of_eq h
      | cons x l ih => intro a n h; have := ih h.2.2; have := h.1; have := h.2.1; omega
    cases i with
    | zero => exact ⟨h.1.symm, by have := h.1; have := h.2.1; simp only [List.getElem_cons_zero]; omega, hle h.2.2, h.1, h.2.1, rfl⟩
    | succ i =>
      obtain ⟨h1, h2, h3, h4⟩ := ih h.2.2 i (by simpa using hi)
      exact ⟨⟨h.1, h.2.1, h1⟩, h2, h3, ⟨h.1, h.2.1, h4⟩⟩
theorem extract_join (s : ByteArray) (a b : Nat) (h : a ≤ b) (hb : b ≤ s.size) : s.extract 0 a ++ s.extract a b = s.extract 0 b := by
  apply WideShapes.bytes_inj
  rw [ByteArray.data_append]
  simp only [Array.toList_append, Lib.extract_data, List.drop_zero]
  rw [Nat.sub_zero, Nat.sub_zero, ← List.drop_take]
  have e := List.take_append_drop a (List.take b s.data.toList)
  rw [List.take_take, Nat.min_eq_left h] at e
  exact e
theorem tokCells_at (s : ByteArray) (l : List Tok) (i : Nat) (hi : i < l.length) :
    (tokCells s l)[i * 3]? = some (.int .i64 (l[i]'hi).1) ∧ (tokCells s l)[i * 3 + 1]? = some (.string (s.extract (l[i]'hi).2.1 (l[i]'hi).2.2)) ∧ (tokCells s l)[i * 3 + 2]? = some (.int .i64 (l[i]'hi).2.1) := by
  induction l generalizing i with
  | nil => simp at hi
  | cons x l ih =>
    have e : tokCells s (x :: l) = [.int .i64 x.1, .string (s.extract x.2.1 x.2.2), .int .i64 x.2.1] ++ tokCells s l := by simp [tokCells]
    rw [e]
    cases i with
    | zero => exact ⟨rfl, rfl, rfl⟩
    | succ i =>
      have := ih i (by simpa using hi)
      refine ⟨?_, ?_, ?_⟩
      · rw [List.getElem?_append_right (by simp; omega)]; simpa [show (i + 1) * 3 - 3 = i * 3 by omega] using this.1
      · rw [List.getElem?_append_right (by simp; omega)]; simpa [show (i + 1) * 3 + 1 - 3 = i * 3 + 1 by omega] using this.2.1
      · rw [List.getElem?_append_right (by simp; omega)]; simpa [show (i + 1) * 3 + 2 - 3 = i * 3 + 2 by omega] using this.2.2
set_option maxRecDepth 100000 in
set_option maxHeartbeats 4000000 in
theorem law (s : ByteArray) (w : World) (hm : HasMax w) : Calls Tryd.prog 3 #[.string s] w fun e w' => e = .returned (.bool true) ∧ Below w.heap.size w w' := by
  have HM := Lib.hid hm
  clear hm
  by_cases h300 : 300 < s.size
  · go_enter Tryd.func3, Tryd.ntmps3
    go_wp2_with (go_at_call 5; (with_reducible refine (live _ HM.out).mono ?_); rintro e w' ⟨rfl, hb⟩; have HB := Lib.hid hb; clear hb)
    go_ret
    exact ⟨rfl, HB.out⟩
  · by_cases hbad : ∃ m, m < s.size ∧ kb s m = 0
    · have HBAD := Lib.hid hbad
      clear hbad
      go_enter Tryd.func3, Tryd.ntmps3
      go_wp2_with fail
      refine (lexToks s w (by omega)).mono ?_
      intro e w1 hp
      obtain ⟨rfl, hb1⟩ := tokPost_no hp HBAD.out
      have HB1 := Lib.hid hb1
      clear hb1 hp
      go_wp2_with fail
      refine (rtoks s w1 (by omega)).mono ?_
      intro e w2 hp
      obtain ⟨rfl, hb2⟩ := rtokPost_no hp HBAD.out
      have HB2 := Lib.hid (HB1.out.trans (hb2.mono HB1.out.size))
      clear hb2 hp
      go_wp2_with (go_at_call 5; (with_reducible refine (live _ (HM.out.below HB2.out)).mono ?_); rintro e w' ⟨rfl, hb⟩; have HB := Lib.hid (HB2.out.trans (hb.mono HB2.out.size)); clear hb)
      go_ret
      exact ⟨rfl, HB.out⟩
    · have hgood : ∀ m, m < s.size → kb s m ≠ 0 := fun m hm h0 => hbad ⟨m, hm, h0⟩
      have HG := Lib.hid hgood
      have HCH := Lib.hid (toks_chained s.size hgood)
      clear hbad hgood
      go_enter Tryd.func3, Tryd.ntmps3
      go_wp2_with fail
      refine (lexToks s w (by omega)).mono ?_
      intro e w1 hp
      obtain ⟨v1, rfl, ho1, hb1⟩ := tokPost_get hp HG.out
      have HB1 := Lib.hid hb1
      have HO1 := Lib.hid ho1
      obtain ⟨a1, cp1, rfl, hn1, hc1, hr1⟩ := own_row ho1
      clear hb1 hp ho1 hr1
      go_wp2_with fail
      refine (rtoks s w1 (by omega)).mono ?_
      intro e w2 hp
      obtain ⟨v2, rfl, ho2, hb2⟩ := rtokPost_get hp HG.out
      have HB2 := Lib.hid (HB1.out.trans (hb2.mono HB1.out.size))
      have ho12 := own_below HO1.out hb2
      obtain ⟨a2, cp2, rfl, hn2, hc2, hr2⟩ := own_row ho2
      obtain ⟨a1', cp1', he, _, _, hr1⟩ := own_row ho12
      cases he
      have HR1 := Lib.hid hr1
      have HR2 := Lib.hid hr2
      clear hb2 hp ho2 ho12 hr1 hr2 HO1
      have hlen : (toks s s.size).length ≤ s.size := toks_le s s.size
      generalize hL : toks s s.size = L at *
      clear hL
      go_wp2_with fail
      go_loopg [7, 8] L.length (fun g t iv wr => ∃ i p d : Nat, i ≤ L.length ∧ p ≤ s.size ∧ g = L.length - i ∧ iv = .int .i64 i ∧ t = .string (s.extract 0 p) ∧ wr = w2.drewN d ∧ chained 0 (L.take i) p)
      case atStart => exact ⟨0, 0, 0, by omega, by omega, by omega, rfl, congrArg Value.string (by rw [ByteArray.extract_same]; rfl), rfl, rfl⟩
      case round =>
        obtain ⟨i, p, d, hi, hp, rfl, rfl, rfl, rfl, hch⟩ := hrel
        by_cases hlt : i < L.length
        · obtain ⟨k1, k2, k3, k4⟩ := chained_at HCH.out i hlt
          obtain ⟨t1, t2, t3⟩ := tokCells_at s L i hlt
          have hpe := chained_det hch k1
          obtain ⟨g1, rfl, c1⟩ := HR1.out _ _ t1
          obtain ⟨g1', hg, c2⟩ := HR1.out _ _ t2
          cases hg
          obtain ⟨g1', hg, c3⟩ := HR1.out _ _ t3
          cases hg
          obtain ⟨g2, rfl, d1⟩ := HR2.out _ _ t1
          obtain ⟨g2', hg, d2⟩ := HR2.out _ _ t2
          cases hg
          obtain ⟨g2', hg, d3⟩ := HR2.out _ _ t3
          cases hg
          have HK := Lib.hid k4
          have HP := Lib.hid hpe
          clear t1 t2 t3 k1 k4 hch hpe
          generalize L[i]'hlt = x at *
          obtain ⟨x1, x2, x3⟩ := x
          go_wp2_with fail
          go_quiet (fail)
          go_wp2_with fail
          go_roundg (L.length - (i + 1))
          case measure => omega
          case rel => exact ⟨i + 1, x3, _, by omega, k3, rfl, by go_num, congrArg Value.string (by rw [show p = x2 from HP.out]; exact extract_join s x2 x3 (Nat.le_of_lt k2) k3), rfl, HK.out⟩
        · have hpe : p = s.size := by
            have h1 := HCH.out
            rw [show L.take i = L from List.take_of_length_le (by omega)] at hch
            exact chained_det hch h1
          subst hpe
          have hs : s.extract 0 s.size = s := ByteArray.extract_zero_size
          have HB3 := Lib.hid (below_drewN HB2.out d)
          clear hch
          rw [hs]
          clear hs
          go_wp2_with (go_at_call 5; (with_reducible refine (live _ (HM.out.below HB3.out)).mono ?_); rintro e w' ⟨rfl, hb⟩; have HB := Lib.hid (HB3.out.trans (hb.mono HB3.out.size)); clear hb)
          go_ret
          exact ⟨rfl, HB.out⟩
end Go.Proofs.YtjlpafpedoancaaDoor.Lex
