/- The page's example. -/
import Derived.Test.YthcffdmbpbjdpaaDoorWordC
import Derived.Test.YthcffdmbpbjdpaaDoorLexT
namespace Go.Proofs.YthcffdmbpbjdpaaDoor.Lex
open Go.RowKit
set_option linter.unusedSimpArgs false
set_option linter.unusedVariables false
theorem wordPost_get {l : List UInt8} {w w' : World} {e : Ending} {ws : List (List UInt8)} (hp : WordPost l w e w') (h : wordsOf l = some ws) :
    ∃ v, e = .returned (.tuple #[v, .int .i64 0]) ∧ w'.ownsRow w.heap.size 9 1 v ws.length (ws.map fun l => .string (bs l)) ∧ Below w.heap.size w w' := by
  obtain ⟨hb, h2⟩ := hp
  rw [h] at h2
  obtain ⟨v, h3, h4⟩ := h2
  exact ⟨v, h3, h4, hb⟩
theorem wordPost_no {l : List UInt8} {w w' : World} {e : Ending} (hp : WordPost l w e w') (h : wordsOf l = none) :
    e = .returned (.tuple #[.slice none 0 0, .int .i64 10]) ∧ Below w.heap.size w w' := by
  obtain ⟨hb, h2⟩ := hp
  rw [h] at h2
  exact ⟨h2, hb⟩
theorem tokPost_get {s : ByteArray} {w w' : World} {e : Ending} (hp : TokPost s w e w') (h : ∀ m, m < s.size → kb s m ≠ 0) :
    ∃ v, e = .returned (.tuple #[v, .int .i64 0]) ∧ w'.ownsRow (w.heap.size + 1) 38 3 v (toks s s.size).length (tokCells s (toks s s.size)) ∧ Below w.heap.size w w' := by
  rcases hp with ⟨⟨m, hm, h0⟩, _⟩ | ⟨_, h2⟩
  · exact absurd h0 (h m hm)
  · exact h2
theorem tokPost_no {s : ByteArray} {w w' : World} {e : Ending} (hp : TokPost s w e w') (h : ∃ m, m < s.size ∧ kb s m = 0) :
    e = .returned (.tuple #[.slice none 0 0, .int .i64 10]) ∧ Below w.heap.size w w' := by
  rcases hp with ⟨_, h2⟩ | ⟨h1, _⟩
  · exact h2
  · obtain ⟨m, hm, h0⟩ := h
    exact absurd h0 (h1 m hm)
def exW : List UInt8 := [56, 32, 48, 32, 115, 116, 111, 99, 107, 56]
def exT : ByteArray := ⟨#[115, 112, 108, 105, 116, 54, 40, 115, 109, 97, 108, 108, 50]⟩
theorem exW_words : wordsOf exW = some [[56], [48], [115, 116, 111, 99, 107, 56]] := by decide
theorem exT_ok : ∀ m, m < exT.size → kb exT m ≠ 0 := by
  have h : ∀ m : Fin 13, kb exT m.1 ≠ 0 := by decide +kernel
  intro m hm
  exact h ⟨m, hm⟩
theorem exT_toks : toks exT exT.size = [(1, 0, 5), (2, 5, 6), (3, 6, 7), (1, 7, 12), (2, 12, 13)] := by decide +kernel
theorem exT_small : exT.extract 7 12 = ⟨#[115, 109, 97, 108, 108]⟩ := by decide +kernel
set_option maxRecDepth 100000 in
set_option maxHeartbeats 2000000 in
theorem live (w : World) (hm : HasMax w) : Calls Tryd.prog 4 #[] w fun e w' => e = .returned (.bool true) ∧ Below w.heap.size w w' := by
  have HM := Lib.hid hm
  clear hm
  go_enter Tryd.func4, Tryd.ntmps4
  go_wp2_with fail
  refine (words ⟨#[56, 32, 48, 32, 115, 116, 111, 99, 107, 56]⟩ w (by decide) HM.out).mono ?_
  intro e w1 hp
  obtain ⟨v1, rfl, hown1, hb1⟩ := wordPost_get (ws := [[56], [48], [115, 116, 111, 99, 107, 56]]) hp exW_words
  obtain ⟨g1, cp1, rfl, _, _, _, _⟩ := own_some hown1 (by simp)
  have HB1 := Lib.hid hb1
  clear hown1 hb1 hp
  go_wp2_with fail
  refine (lexToks ⟨#[115, 112, 108, 105, 116, 54, 40, 115, 109, 97, 108, 108, 50]⟩ w1 (by decide)).mono ?_
  intro e w2 hp
  obtain ⟨v2, rfl, hown2, hb2⟩ := tokPost_get hp exT_ok
  have hown3 : w2.ownsRow (w1.heap.size + 1) 38 3 v2 5 (tokCells exT [(1, 0, 5), (2, 5, 6), (3, 6, 7), (1, 7, 12), (2, 12, 13)]) := by rw [← exT_toks]; exact hown2
  obtain ⟨g2, cp2, rfl, _, _, _, _⟩ := own_some hown3 (by omega)
  have ⟨c1, _⟩ := own_cell hown3 (i := 10) (u := .string ⟨#[115, 109, 97, 108, 108]⟩) (by rw [← exT_small]; rfl)
  have ⟨c2, _⟩ := own_cell hown3 (i := 11) (u := .int .i64 7) rfl
  have HB2 := Lib.hid (HB1.out.trans (hb2.mono HB1.out.size))
  clear hown2 hown3 hb2 hp
  go_wp2_with fail
  go_ret
  exact ⟨rfl, HB2.out⟩
end Go.Proofs.YthcffdmbpbjdpaaDoor.Lex
