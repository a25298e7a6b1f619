/- Rows of texts: what slices of texts show; words glued. -/
import Derived.Test.YthjcmcgmalnfpaaGreatDoorGLex
import Derived.Test.YthjcmcgmalnfpaaGreatDoorWordS
import Derived.Test.YthjcmcgmalnfpaaGreatDoorChecked
import Derived.Laws.Concat
namespace Go.Proofs.YthjcmcgmalnfpaaGreatDoor.Lex
open Go.RowKit
set_option linter.unusedSimpArgs false
set_option linter.unusedVariables false
theorem strElem : Elem Tryz.prog 96 9 1 16 := ⟨Tryz.underlying96, ⟨.string ByteArray.empty, by kernel_rfl, rfl⟩, by omega⟩
theorem own_row {w : World} {base : Nat} {e : TypeId} {size n : Nat} {v : Value} {xs : List Value} (h : w.ownsRow base e size v n xs) :
    ∃ a cap, v = .slice a n cap ∧ n ≤ cap ∧ cap ≤ maxLen ∧ ∀ i u, xs[i]? = some u → ∃ g, a = some ⟨g, 0, none⟩ ∧ w.cell? ⟨g, i, none⟩ = some u := by
  rcases h.2 with ⟨rfl, rfl⟩ | ⟨g, cap, cur, rfl, hb, hg, hn, hm, hs, ht⟩
  · have : xs = [] := List.eq_nil_of_length_eq_zero (by rw [h.1]; simp)
    subst this
    exact ⟨none, 0, rfl, Nat.le_refl _, by simp, by simp⟩
  · exact ⟨_, cap, rfl, hn, hm, fun i u hu => ⟨g, rfl, (own_cell h hu).1⟩⟩
theorem size_bs (x : List UInt8) : (bs x).size = x.length := by simp [bs, ByteArray.size]
/-- What a slice of texts shows. -/
def Shows (w : World) (a : Option Addr) (ws : List (List UInt8)) : Prop := ∀ i (h : i < ws.length), ∃ g, a = some ⟨g, 0, none⟩ ∧ w.cell? ⟨g, i, none⟩ = some (.string (bs (ws[i]'h)))
theorem shows_of {w : World} {base n : Nat} {e : TypeId} {v : Value} {ws : List (List UInt8)} (h : w.ownsRow base e 1 v n (ws.map fun l => .string (bs l))) : ∃ a cap, v = .slice a n cap ∧ n ≤ cap ∧ cap ≤ maxLen ∧ Shows w a ws := by
  obtain ⟨a, cap, h1, h2, h3, h4⟩ := own_row h
  exact ⟨a, cap, h1, h2, h3, fun i hi => h4 i _ (by simp [hi])⟩
theorem Shows.below {w w' : World} {a : Option Addr} {ws : List (List UInt8)} (h : Shows w a ws) (hb : Below w.heap.size w w') : Shows w' a ws := fun i hi => by
  obtain ⟨g, h1, h2⟩ := h i hi
  exact ⟨g, h1, (hb.cell (p := ⟨g, i, none⟩) (World.block_lt_of_cell? _ _ h2)).trans h2⟩
theorem glue_take (ws : List (List UInt8)) (k : Nat) (h : k < ws.length) : glue (ws.take (k + 1)) = (if 0 < k then glue (ws.take k) ++ [32] else []) ++ ws[k]'h := by
  rw [List.take_succ_eq_append_getElem h]
  by_cases hk : 0 < k
  · rw [if_pos hk, glue_snoc _ _ (fun e => by have := congrArg List.length e; rw [List.length_take, List.length_nil] at this; omega)]
    simp
  · obtain rfl : k = 0 := by omega
    simp [glue]
theorem glue_le {ws : List (List UInt8)} {l : List UInt8} (h : glue ws = l) (k : Nat) : (glue (ws.take k)).length ≤ l.length := by
  subst h
  induction ws generalizing k with
  | nil => simp [glue]
  | cons a r ih =>
    cases k with
    | zero => simp [glue]
    | succ k =>
      cases r with
      | nil => simp [glue]
      | cons b r =>
        have := ih k
        cases k with
        | zero => simp [glue]
        | succ k => simp [glue] at this ⊢; omega
theorem word_le {ws : List (List UInt8)} {l : List UInt8} (h : glue ws = l) {k : Nat} (hk : k < ws.length) : (ws[k]'hk).length ≤ l.length := by
  have h1 := glue_le h (k + 1)
  rw [glue_take ws k hk] at h1
  simp at h1
  omega
theorem bs_bs (x y : List UInt8) : bs x ++ bs y = bs (x ++ y) := ByteArray.mk_append_mk x y
end Go.Proofs.YthjcmcgmalnfpaaGreatDoor.Lex
