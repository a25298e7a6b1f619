/- lex.Words, walked. -/
import Derived.Test.YthjcmcgmalnfpaaGreatDoorSplit
import Derived.Test.YthjcmcgmalnfpaaGreatDoorGLex
import Derived.Laws.IdiomStrings
import Derived.Deep.LoopGhost
namespace Go.Proofs.YthjcmcgmalnfpaaGreatDoor.Lex
open Go.RowKit
set_option linter.unusedSimpArgs false
set_option linter.unusedVariables false
/-- '[]byte(s)'. -/
theorem conv_bytes {P : Program} {src dst e : TypeId} (hs : P.underlying src = some .string) (hd : P.underlying dst = some (.slice e)) (he : P.underlying e = some (.int .u8)) (s : ByteArray) (w : World) :
    ∃ cap W1, (convert src dst (.string s)).run P w = .ok (.slice (some ⟨w.heap.size, 0, none⟩) s.size cap) W1 ∧ (∀ j (h : j < s.size), W1.cell? ⟨w.heap.size, j, none⟩ = some (.int .u8 ((s[j]'h).toNat))) ∧ Below w.heap.size w W1 ∧ W1.heap.size = w.heap.size + 1 := by
  refine ⟨_, _, run_bytes_of_string w src dst e s hs hd he, fun j h => ?_, ((Below.refl _ _).drew).alloc (Nat.le_refl _) _, by simp⟩
  have h2 := bytesRow_at s (grownCap w s.size 0 e) j h
  exact cell_at (heap_alloc_new w.drew _) h2
/-- What Words makes of a line: its words in a row, or none. -/
def WordPost (l : List UInt8) (w : World) (e : Ending) (w' : World) : Prop :=
  Below w.heap.size w w' ∧
  match wordsOf l with
  | none => e = .returned (.tuple #[.slice none 0 0, .int .i64 10])
  | some ws => ∃ v, e = .returned (.tuple #[v, .int .i64 0]) ∧ w'.ownsRow w.heap.size 9 1 v ws.length (ws.map fun l => .string (bs l))
theorem wordPost_none {l : List UInt8} {w w' : World} (h : wordsOf l = none) (hb : Below w.heap.size w w') : WordPost l w (.returned (.tuple #[.slice none 0 0, .int .i64 10])) w' := by
  refine ⟨hb, ?_⟩
  rw [h]
theorem wordPost_some {l : List UInt8} {w w' : World} {ws : List (List UInt8)} {v : Value} (h : wordsOf l = some ws) (hb : Below w.heap.size w w') (ho : w'.ownsRow w.heap.size 9 1 v ws.length (ws.map fun l => .string (bs l))) : WordPost l w (.returned (.tuple #[v, .int .i64 0])) w' := by
  refine ⟨hb, ?_⟩
  rw [h]
  exact ⟨v, rfl, ho⟩
theorem okb_iff (c : UInt8) : okb c = true ↔ 32 ≤ c.toNat ∧ c.toNat ≤ 126 := by
  unfold okb
  rw [Bool.not_eq_true', Bool.or_eq_false_iff, decide_eq_false_iff_not, decide_eq_false_iff_not]
  rw [UInt8.lt_iff_toNat_lt, gt_iff_lt, UInt8.lt_iff_toNat_lt]
  show ¬ c.toNat < 32 ∧ ¬ 126 < c.toNat ↔ _
  omega
theorem get_mem (s : ByteArray) (i : Nat) (h : i < s.size) : (s[i]'h) ∈ s.data.toList := by
  have hi : i < s.data.size := h
  exact Array.mem_toList_iff.2 (Array.getElem_mem hi)
end Go.Proofs.YthjcmcgmalnfpaaGreatDoor.Lex
