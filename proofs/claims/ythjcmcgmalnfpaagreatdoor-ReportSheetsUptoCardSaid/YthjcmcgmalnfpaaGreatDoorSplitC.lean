/- strings.Split at a line feed. -/
import Derived.Test.YthjcmcgmalnfpaaGreatDoorSplit
import Derived.Test.YthjcmcgmalnfpaaGreatDoorStr
namespace Go.Proofs.YthjcmcgmalnfpaaGreatDoor.Lex
open Go.RowKit
set_option linter.unusedSimpArgs false
/-- What lies between bytes z. -/
def piecesC (z : UInt8) : List UInt8 → List (List UInt8)
  | [] => [[]]
  | c :: l => if c = z then [] :: piecesC z l else (c :: (piecesC z l).headD []) :: (piecesC z l).tail
theorem piecesC_splitK (z : UInt8) : ∀ l : List UInt8, Lib.splitK [z] 0 (Lib.count l [z]) l = piecesC z l
  | [] => rfl
  | c :: l => by
    have ih := piecesC_splitK z l
    by_cases hc : c = z
    · subst hc
      rw [Lib.count_cons_eq, Nat.add_comm, Lib.splitK]
      have hi : Lib.index (c :: l) [c] = 0 := by simp [Lib.index]
      simp [hi, ih, piecesC]
    · rw [Lib.count_cons_ne _ _ _ hc]
      have hi : Lib.index (c :: l) [z] = if Lib.index l [z] == -1 then -1 else Lib.index l [z] + 1 := by
        simp [Lib.index, Ne.symm hc]
      simp only [piecesC, if_neg hc]
      cases hk : Lib.count l [z] with
      | zero =>
        rw [hk] at ih
        simp only [Lib.splitK] at ih ⊢
        rw [← ih]
        rfl
      | succ k =>
        rw [hk] at ih
        have hne : ¬ (Lib.index l [z] == -1) = true := fun e => by
          have := Lib.count_miss (beq_iff_eq.1 e)
          omega
        have hge := Lib.index_ge l [z]
        have hne' : Lib.index l [z] ≠ -1 := fun e => hne (beq_iff_eq.2 e)
        obtain ⟨i, hi'⟩ : ∃ i : Nat, Lib.index l [z] = i := ⟨(Lib.index l [z]).toNat, by omega⟩
        rw [if_neg hne, hi'] at hi
        rw [Lib.splitK, if_neg hne, hi'] at ih
        rw [Lib.splitK, hi, if_neg (by rw [beq_iff_eq]; omega)]
        rw [← ih]
        simp only [List.headD_cons, List.tail_cons]
        rw [show ((i : Int) + 1).toNat = i + 1 by omega, Int.toNat_natCast]
        simp
theorem splitB_piecesC (z : UInt8) (s : ByteArray) : Lib.splitB ⟨#[z]⟩ 0 (Lib.countB s ⟨#[z]⟩) s = (piecesC z s.data.toList).map bs := by
  have h := Lib.splitB_data ⟨#[z]⟩ 0 (Lib.countB s ⟨#[z]⟩) s
  have h2 : Lib.splitK [z] 0 (Lib.countB s ⟨#[z]⟩) s.data.toList = piecesC z s.data.toList := piecesC_splitK z s.data.toList
  have h3 := h.trans h2
  rw [← h3, List.map_map]
  symm
  calc (Lib.splitB ⟨#[z]⟩ 0 (Lib.countB s ⟨#[z]⟩) s).map (bs ∘ fun x => x.data.toList) = (Lib.splitB ⟨#[z]⟩ 0 (Lib.countB s ⟨#[z]⟩) s).map id := by
        apply List.map_congr_left
        intro x _
        exact bs_data x
    _ = _ := List.map_id _
theorem piecesC_length (z : UInt8) (s : ByteArray) : Lib.countB s ⟨#[z]⟩ + 1 = (piecesC z s.data.toList).length := by
  have h := Lib.splitB_all ⟨#[z]⟩ (by show 0 < 1; omega) 0 _ s rfl
  rw [← h, splitB_piecesC, List.length_map]
theorem piecesC_app {z : UInt8} : ∀ (x l : List UInt8), (∀ c ∈ x, c ≠ z) → piecesC z (x ++ z :: l) = x :: piecesC z l
  | [], l, _ => by simp [piecesC]
  | c :: x, l, h => by
    rw [List.cons_append, piecesC, if_neg (h c (by simp)), piecesC_app x l (fun d hd => h d (by simp [hd]))]
    rfl
theorem piecesC_lines {z : UInt8} : ∀ (ws : List (List UInt8)), (∀ x ∈ ws, ∀ c ∈ x, c ≠ z) → piecesC z (ws.flatMap fun x => x ++ [z]) = ws ++ [[]]
  | [], _ => rfl
  | x :: ws, h => by
    rw [List.flatMap_cons, List.append_assoc, List.singleton_append, piecesC_app x _ (h x (by simp)), piecesC_lines ws (fun y hy => h y (by simp [hy]))]
    rfl
theorem splitC_any (z : UInt8) (s : ByteArray) (w : World) (hm : HasMax w) (hs : s.size < 4294967281) :
    Calls Tryz.prog 38 #[.string s, .string ⟨#[z]⟩] w fun e w' => e = .returned (.slice (some ⟨w.heap.size, 0, none⟩) (piecesC z s.data.toList).length (piecesC z s.data.toList).length) ∧
      (∀ i x, (piecesC z s.data.toList)[i]? = some x → w'.cell? ⟨w.heap.size, i, none⟩ = some (.string (bs x))) ∧ Below w.heap.size w w' := by
  obtain ⟨m, hm⟩ := hm
  refine (Tryz.strings_Split s ⟨#[z]⟩ m w hs hm (by show 1 ≤ 1; omega)).mono ?_
  rintro e w' ⟨rfl, rfl⟩
  rw [piecesC_length, splitB_piecesC]
  refine ⟨rfl, fun i x hx => ?_, (Below.refl _ _).alloc (Nat.le_refl _) _⟩
  rw [List.map_map]
  refine cell_at (heap_alloc_new w _) ?_
  simp [hx]
end Go.Proofs.YthjcmcgmalnfpaaGreatDoor.Lex
