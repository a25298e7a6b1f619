/- Lines and words, in plain words: lists of bytes. No program in sight. -/
import Derived.WalkKit
import Derived.Lib.SplitLaws
namespace Go.Proofs.YthjcmcgmalnfpaaGreatDoor.Lex
/-- What lies between the blanks. -/
def pieces : List UInt8 → List (List UInt8)
  | [] => [[]]
  | c :: l => if c = 32 then [] :: pieces l else (c :: (pieces l).headD []) :: (pieces l).tail
theorem pieces_ne : ∀ l, pieces l ≠ []
  | [] => by simp [pieces]
  | c :: l => by simp only [pieces]; split <;> simp
theorem pieces_cons (l : List UInt8) : pieces l = (pieces l).headD [] :: (pieces l).tail := by
  cases h : pieces l with
  | nil => exact absurd h (pieces_ne l)
  | cons a r => rfl
theorem pieces_splitK : ∀ l : List UInt8, Lib.splitK [32] 0 (Lib.count l [32]) l = pieces l
  | [] => rfl
  | c :: l => by
    have ih := pieces_splitK l
    by_cases hc : c = 32
    · subst hc
      rw [Lib.count_cons_eq, Nat.add_comm, Lib.splitK]
      have hi : Lib.index (32 :: l) [32] = 0 := by simp [Lib.index]
      simp [hi, ih, pieces]
    · rw [Lib.count_cons_ne _ _ _ hc]
      have hi : Lib.index (c :: l) [32] = if Lib.index l [32] == -1 then -1 else Lib.index l [32] + 1 := by
        simp [Lib.index, Ne.symm hc]
      simp only [pieces, if_neg hc]
      cases hk : Lib.count l [32] with
      | zero =>
        rw [hk] at ih
        simp only [Lib.splitK] at ih ⊢
        rw [← ih]
        rfl
      | succ k =>
        rw [hk] at ih
        have hne : ¬ (Lib.index l [32] == -1) = true := fun e => by
          have := Lib.count_miss (beq_iff_eq.1 e)
          omega
        have hge := Lib.index_ge l [32]
        have hne' : Lib.index l [32] ≠ -1 := fun e => hne (beq_iff_eq.2 e)
        obtain ⟨i, hi'⟩ : ∃ i : Nat, Lib.index l [32] = i := ⟨(Lib.index l [32]).toNat, by omega⟩
        rw [if_neg hne, hi'] at hi
        rw [Lib.splitK, if_neg hne, hi'] at ih
        rw [Lib.splitK, hi, if_neg (by rw [beq_iff_eq]; omega)]
        rw [← ih]
        simp only [List.headD_cons, List.tail_cons]
        rw [show ((i : Int) + 1).toNat = i + 1 by omega, Int.toNat_natCast]
        simp
/-- A byte of a line. -/
def okb (c : UInt8) : Bool := !(c < 32 || c > 126)
def bs (l : List UInt8) : ByteArray := ⟨l.toArray⟩
theorem bs_data (s : ByteArray) : bs s.data.toList = s := rfl
theorem data_bs (l : List UInt8) : (bs l).data.toList = l := rfl
theorem splitB_pieces (s : ByteArray) : Lib.splitB ⟨#[32]⟩ 0 (Lib.countB s ⟨#[32]⟩) s = (pieces s.data.toList).map bs := by
  have h := Lib.splitB_data ⟨#[32]⟩ 0 (Lib.countB s ⟨#[32]⟩) s
  have h2 : Lib.splitK [32] 0 (Lib.countB s ⟨#[32]⟩) s.data.toList = pieces s.data.toList := pieces_splitK s.data.toList
  have h3 := h.trans h2
  rw [← h3, List.map_map]
  symm
  calc (Lib.splitB ⟨#[32]⟩ 0 (Lib.countB s ⟨#[32]⟩) s).map (bs ∘ fun x => x.data.toList) = (Lib.splitB ⟨#[32]⟩ 0 (Lib.countB s ⟨#[32]⟩) s).map id := by
        apply List.map_congr_left
        intro x _
        exact bs_data x
    _ = _ := List.map_id _
theorem pieces_length (s : ByteArray) : Lib.countB s ⟨#[32]⟩ + 1 = (pieces s.data.toList).length := by
  have h := Lib.splitB_all ⟨#[32]⟩ (by decide) 0 _ s rfl
  rw [← h, splitB_pieces, List.length_map]
/-- One byte more. -/
theorem pieces_snoc_32 : ∀ l, pieces (l ++ [32]) = pieces l ++ [[]]
  | [] => by decide
  | c :: l => by
    have ih := pieces_snoc_32 l
    simp only [List.cons_append, pieces, ih]
    rw [pieces_cons l]
    split <;> simp
theorem pieces_snoc {c : UInt8} (hc : c ≠ 32) : ∀ l, pieces (l ++ [c]) = (pieces l).dropLast ++ [(pieces l).getLastD [] ++ [c]]
  | [] => by simp [pieces, hc]
  | d :: l => by
    have ih := pieces_snoc hc l
    simp only [List.cons_append, pieces, ih]
    rcases List.eq_nil_or_concat (pieces l) with h0 | ⟨r, x, hr⟩
    · exact absurd h0 (pieces_ne l)
    · rw [List.concat_eq_append] at hr
      rw [hr, List.dropLast_concat, List.getLastD_concat]
      split
      · rw [show ([] :: (r ++ [x])) = ([] :: r) ++ [x] from rfl, List.dropLast_concat, List.getLastD_concat]
        simp
      · cases r with
        | nil => simp
        | cons y r =>
          simp only [List.cons_append, List.headD_cons, List.tail_cons]
          rw [show ((d :: y) :: (r ++ [x])) = ((d :: y) :: r) ++ [x] from rfl, List.dropLast_concat, List.getLastD_concat]
          simp
/-- The words of a line; none: another byte, or an empty piece. -/
def wordsOf (l : List UInt8) : Option (List (List UInt8)) := if l.all okb = false then none else if l = [] then some [] else if [] ∈ pieces l then none else some (pieces l)
theorem wordsOf_bad {l : List UInt8} {c : UInt8} (h : c ∈ l) (hc : okb c = false) : wordsOf l = none := by
  have : l.all okb = false := by rw [List.all_eq_false]; exact ⟨c, h, by simp [hc]⟩
  rw [wordsOf, if_pos this]
theorem wordsOf_ok {l : List UInt8} (h : ∀ c ∈ l, okb c = true) (h0 : l ≠ []) : wordsOf l = if [] ∈ pieces l then none else some (pieces l) := by
  have : ¬ l.all okb = false := by rw [Bool.not_eq_false, List.all_eq_true]; exact h
  rw [wordsOf, if_neg this, if_neg h0]
/-- Words as a text: a blank between each two. -/
def glue : List (List UInt8) → List UInt8
  | [] => []
  | [a] => a
  | a :: b :: r => a ++ 32 :: glue (b :: r)
theorem glue_pieces : ∀ l, glue (pieces l) = l
  | [] => rfl
  | c :: l => by
    have ih := glue_pieces l
    simp only [pieces]
    rw [pieces_cons l] at ih
    split
    · rename_i h
      subst h
      rw [pieces_cons l]
      simpa [glue] using ih
    · cases hr : (pieces l).tail with
      | nil => rw [hr] at ih; simpa [glue] using ih
      | cons a r => rw [hr] at ih; simpa [glue] using ih
theorem glue_snoc (a : List UInt8) : ∀ l, l ≠ [] → glue (l ++ [a]) = glue l ++ 32 :: a
  | [], h => absurd rfl h
  | [b], _ => by simp [glue]
  | b :: d :: r, _ => by
    have ih := glue_snoc a (d :: r) (by simp)
    simp only [List.cons_append, glue] at ih ⊢
    rw [ih]
    simp
end Go.Proofs.YthjcmcgmalnfpaaGreatDoor.Lex
