/- WordS, Split, LexM, Str, NumS, LexS, LexK: laid into one text. -/
import Derived.WalkKit
import Derived.Lib.SplitLaws
import Derived.Test.YtephllgddhncgaaGreatDoorGBase
import Derived.Test.YtephllgddhncgaaGreatDoorChecked
import Derived.Test.YtephllgddhncgaaGreatDoorShelf
import Derived.Lib.OthersKept
import Derived.Laws.Concat
import Derived.Lib.ItoaNum
import Derived.Lib.Atoi
/- Lines and words, in plain words: lists of bytes. No program in sight. -/
namespace Go.Proofs.YtephllgddhncgaaGreatDoor.Lex
/-- What lies between the blanks. -/
def pieces : List UInt8 → List (List UInt8)
  | [] => [[]]
  | c :: l => if c = 32 then [] :: pieces l else (c :: (pieces l).headD []) :: (pieces l).tail
theorem pieces_ne : ∀ l, pieces l ≠ []
  | [] => by simp [pieces]
  | c :: l => by simp only [pieces]; split <;> simp
theorem pieces_cons (l : List UInt8) : pieces l = (pieces l).headD [] :: (pieces l).tail := by
  cases h : pieces l with
  | nil => exact absurd h (pieces_ne l)
  | cons a r => rfl
theorem pieces_splitK : ∀ l : List UInt8, Lib.splitK [32] 0 (Lib.count l [32]) l = pieces l
  | [] => rfl
  | c :: l => by
    have ih := pieces_splitK l
    by_cases hc : c = 32
    · subst hc
      rw [Lib.count_cons_eq, Nat.add_comm, Lib.splitK]
      have hi : Lib.index (32 :: l) [32] = 0 := by simp [Lib.index]
      simp [hi, ih, pieces]
    · rw [Lib.count_cons_ne _ _ _ hc]
      have hi : Lib.index (c :: l) [32] = if Lib.index l [32] == -1 then -1 else Lib.index l [32] + 1 := by
        simp [Lib.index, Ne.symm hc]
      simp only [pieces, if_neg hc]
      cases hk : Lib.count l [32] with
      | zero =>
        rw [hk] at ih
        simp only [Lib.splitK] at ih ⊢
        rw [← ih]
        rfl
      | succ k =>
        rw [hk] at ih
        have hne : ¬ (Lib.index l [32] == -1) = true := fun e => by
          have := Lib.count_miss (beq_iff_eq.1 e)
          omega
        have hge := Lib.index_ge l [32]
        have hne' : Lib.index l [32] ≠ -1 := fun e => hne (beq_iff_eq.2 e)
        obtain ⟨i, hi'⟩ : ∃ i : Nat, Lib.index l [32] = i := ⟨(Lib.index l [32]).toNat, by omega⟩
        rw [if_neg hne, hi'] at hi
        rw [Lib.splitK, if_neg hne, hi'] at ih
        rw [Lib.splitK, hi, if_neg (by rw [beq_iff_eq]; omega)]
        rw [← ih]
        simp only [List.headD_cons, List.tail_cons]
        rw [show ((i : Int) + 1).toNat = i + 1 by omega, Int.toNat_natCast]
        simp
/-- A byte of a line. -/
def okb (c : UInt8) : Bool := !(c < 32 || c > 126)
def bs (l : List UInt8) : ByteArray := ⟨l.toArray⟩
theorem bs_data (s : ByteArray) : bs s.data.toList = s := rfl
theorem data_bs (l : List UInt8) : (bs l).data.toList = l := rfl
theorem splitB_pieces (s : ByteArray) : Lib.splitB ⟨#[32]⟩ 0 (Lib.countB s ⟨#[32]⟩) s = (pieces s.data.toList).map bs := by
  have h := Lib.splitB_data ⟨#[32]⟩ 0 (Lib.countB s ⟨#[32]⟩) s
  have h2 : Lib.splitK [32] 0 (Lib.countB s ⟨#[32]⟩) s.data.toList = pieces s.data.toList := pieces_splitK s.data.toList
  have h3 := h.trans h2
  rw [← h3, List.map_map]
  symm
  calc (Lib.splitB ⟨#[32]⟩ 0 (Lib.countB s ⟨#[32]⟩) s).map (bs ∘ fun x => x.data.toList) = (Lib.splitB ⟨#[32]⟩ 0 (Lib.countB s ⟨#[32]⟩) s).map id := by
        apply List.map_congr_left
        intro x _
        exact bs_data x
    _ = _ := List.map_id _
theorem pieces_length (s : ByteArray) : Lib.countB s ⟨#[32]⟩ + 1 = (pieces s.data.toList).length := by
  have h := Lib.splitB_all ⟨#[32]⟩ (by decide) 0 _ s rfl
  rw [← h, splitB_pieces, List.length_map]
/-- One byte more. -/
theorem pieces_snoc_32 : ∀ l, pieces (l ++ [32]) = pieces l ++ [[]]
  | [] => by decide
  | c :: l => by
    have ih := pieces_snoc_32 l
    simp only [List.cons_append, pieces, ih]
    rw [pieces_cons l]
    split <;> simp
theorem pieces_snoc {c : UInt8} (hc : c ≠ 32) : ∀ l, pieces (l ++ [c]) = (pieces l).dropLast ++ [(pieces l).getLastD [] ++ [c]]
  | [] => by simp [pieces, hc]
  | d :: l => by
    have ih := pieces_snoc hc l
    simp only [List.cons_append, pieces, ih]
    rcases List.eq_nil_or_concat (pieces l) with h0 | ⟨r, x, hr⟩
    · exact absurd h0 (pieces_ne l)
    · rw [List.concat_eq_append] at hr
      rw [hr, List.dropLast_concat, List.getLastD_concat]
      split
      · rw [show ([] :: (r ++ [x])) = ([] :: r) ++ [x] from rfl, List.dropLast_concat, List.getLastD_concat]
        simp
      · cases r with
        | nil => simp
        | cons y r =>
          simp only [List.cons_append, List.headD_cons, List.tail_cons]
          rw [show ((d :: y) :: (r ++ [x])) = ((d :: y) :: r) ++ [x] from rfl, List.dropLast_concat, List.getLastD_concat]
          simp
/-- The words of a line; none: another byte, or an empty piece. -/
def wordsOf (l : List UInt8) : Option (List (List UInt8)) := if l.all okb = false then none else if l = [] then some [] else if [] ∈ pieces l then none else some (pieces l)
theorem wordsOf_bad {l : List UInt8} {c : UInt8} (h : c ∈ l) (hc : okb c = false) : wordsOf l = none := by
  have : l.all okb = false := by rw [List.all_eq_false]; exact ⟨c, h, by simp [hc]⟩
  rw [wordsOf, if_pos this]
theorem wordsOf_ok {l : List UInt8} (h : ∀ c ∈ l, okb c = true) (h0 : l ≠ []) : wordsOf l = if [] ∈ pieces l then none else some (pieces l) := by
  have : ¬ l.all okb = false := by rw [Bool.not_eq_false, List.all_eq_true]; exact h
  rw [wordsOf, if_neg this, if_neg h0]
/-- Words as a text: a blank between each two. -/
def glue : List (List UInt8) → List UInt8
  | [] => []
  | [a] => a
  | a :: b :: r => a ++ 32 :: glue (b :: r)
theorem glue_pieces : ∀ l, glue (pieces l) = l
  | [] => rfl
  | c :: l => by
    have ih := glue_pieces l
    simp only [pieces]
    rw [pieces_cons l] at ih
    split
    · rename_i h
      subst h
      rw [pieces_cons l]
      simpa [glue] using ih
    · cases hr : (pieces l).tail with
      | nil => rw [hr] at ih; simpa [glue] using ih
      | cons a r => rw [hr] at ih; simpa [glue] using ih
theorem glue_snoc (a : List UInt8) : ∀ l, l ≠ [] → glue (l ++ [a]) = glue l ++ 32 :: a
  | [], h => absurd rfl h
  | [b], _ => by simp [glue]
  | b :: d :: r, _ => by
    have ih := glue_snoc a (d :: r) (by simp)
    simp only [List.cons_append, glue] at ih ⊢
    rw [ih]
    simp
end Go.Proofs.YtephllgddhncgaaGreatDoor.Lex
/- strings.Split at a blank. -/
namespace Go.Proofs.YtephllgddhncgaaGreatDoor.Lex
open Go.RowKit
/-- internal/bytealg.MaxLen holds some number. -/
def HasMax (w : World) : Prop := ∃ m, w.cell? ⟨0, 0, none⟩ = some (.int .i64 m)
theorem HasMax.below {w w' : World} (h : HasMax w) (hb : Below w.heap.size w w') : HasMax w' := by
  obtain ⟨m, hm⟩ := h
  exact ⟨m, (hb.cell (p := ⟨0, 0, none⟩) (World.block_lt_of_cell? _ _ hm)).trans hm⟩
theorem hasMax_of_shape {w : World} (h : w.ShapedOpen Tryz.prog) : HasMax w := Tryz.laysM146.s1_3 w h
theorem split_any (s : ByteArray) (w : World) (hm : HasMax w) (hs : s.size < 4294967281) :
    Calls Tryz.prog 70 #[.string s, .string ⟨#[32]⟩] w fun e w' => e = .returned (.slice (some ⟨w.heap.size, 0, none⟩) (pieces s.data.toList).length (pieces s.data.toList).length) ∧
      w'.ownsRow w.heap.size 9 1 (.slice (some ⟨w.heap.size, 0, none⟩) (pieces s.data.toList).length (pieces s.data.toList).length) (pieces s.data.toList).length ((pieces s.data.toList).map fun l => .string (bs l)) ∧ Below w.heap.size w w' := by
  obtain ⟨m, hm⟩ := hm
  refine (Tryz.strings_Split s ⟨#[32]⟩ m w hs hm (by decide)).mono ?_
  rintro e w' ⟨rfl, rfl⟩
  rw [pieces_length, splitB_pieces]
  have hl : ((pieces s.data.toList).map fun l => Value.string (bs l)).length = (pieces s.data.toList).length := by simp
  have hle : (pieces s.data.toList).length ≤ s.size + 1 := by
    rw [← pieces_length]
    have := Lib.countB_le ⟨#[32]⟩ (by decide) s.size s (Nat.le_refl _)
    omega
  refine ⟨rfl, ⟨by rw [hl]; omega, .inr ⟨w.heap.size, _, ((pieces s.data.toList).map fun l => Value.string (bs l)).toArray, rfl, Nat.le_refl _, ?_, Nat.le_refl _, by unfold maxLen; omega, by simp, ?_⟩⟩, (Below.refl _ _).alloc (Nat.le_refl _) _⟩
  · rw [List.map_map]
    exact heap_alloc_new w _
  · rw [List.take_of_length_le (by simp)]
end Go.Proofs.YtephllgddhncgaaGreatDoor.Lex
/- Rows of structs of three cells: an append of one, a store into one. Plain memory. -/
namespace Go.Proofs.YtephllgddhncgaaGreatDoor
open Go.RowKit
set_option linter.unusedSimpArgs false
set_option linter.unusedVariables false
/-- 'append(out, T{u0, u1, u2})', out the call's own: behind the block that holds the struct. -/
theorem wpl_app3 {P : Program} {W w0 : World} {ops : Array Oper} {rest : List Oper} {o : Oper} {a : Act} {Q : Exit → Act → World → Prop} (hgd : o.guard = none) (s x : Operand) (t : TypeId)
    (ho : o.op = .call { callee := .builtin .append, args := #[s, x], argTypes := #[t, t] })
    {base B : Nat} {e : TypeId} {bytes : Nat} (E : Elem P t e 3 bytes) (v : Value) (n : Nat) (xs : List Value) (hs : a.eval s = v) (u0 u1 u2 : Value) (hx : a.eval x = .slice (some ⟨W.heap.size, 0, none⟩) 1 1) (hu : ∀ u ∈ [u0, u1, u2], u.oneCell' = true)
    (hown : W.ownsRow base e 3 v n xs) (hB : Below B w0 W) (hBb : B ≤ base) (hbase : base ≤ W.heap.size) (hn : (n + 1) * bytes ≤ 140737488355328) (hm : n + 1 ≤ maxLen)
    (h : ∀ v' w', w'.ownsRow base e 3 v' (n + 1) (xs ++ [u0, u1, u2]) → Below B w0 w' → W.grownBy w' v.ownBlock → wpList P ops Q rest (a.put o.dst v') w') : wpList P ops Q (o :: rest) a (W.alloc (.cells #[u0, u1, u2] e)) := by
  refine wpl_append hgd s x t ho E v n xs hs (some ⟨W.heap.size, 0, none⟩) 1 1 [u0, u1, u2] hx (hown.alloc _) ⟨rfl, by simp, fun y hy j z hz => ?_, hu⟩ hm hn (by simp; omega) fun v' w' h1 h2 _ => h v' w' h1 ?_ (grown_trans (World.grownBy_alloc W _ _) h2)
  · cases hy
    rw [Addr.add_lit, Nat.zero_add]
    exact cell_at (heap_alloc_new W _) (by simpa using hz)
  · exact (hB.alloc (by omega) _).grown h2 (by simp; omega) (fun k hk => by have := own_lt hown k hk; omega)
/-- A store into a row of the call's own. -/
theorem own_set {w : World} {base : Nat} {e : TypeId} {size g cap n : Nat} {xs : List Value} (h : w.ownsRow base e size (.slice (some ⟨g, 0, none⟩) n cap) n xs) (i : Nat) (hi : i < n * size) (u : Value) :
    (w.setCell ⟨g, i, none⟩ u).ownsRow base e size (.slice (some ⟨g, 0, none⟩) n cap) n (xs.set i u) := by
  refine ⟨by simpa using h.1, .inr ?_⟩
  rcases h.2 with ⟨h1, _⟩ | ⟨g', cap', cur, h1, hb, hg, hn, hm, hs, ht⟩
  · cases h1
  · cases h1
    refine ⟨g, cap, cur.setIfInBounds i u, rfl, hb, heap_set_at u hg, hn, hm, by simpa using hs, ?_⟩
    rw [Array.toList_setIfInBounds, List.take_set, ht]
theorem grown_obj {W w3 : World} {base : Nat} {e : TypeId} {size : Nat} {v : Value} {n : Nat} {xs : List Value} (h : W.ownsRow base e size v n xs) (hg : W.grownBy w3 v.ownBlock) {k : Nat} {o : Obj} (hit : W.heap[k]? = some o) (hk : k < base) : w3.heap[k]? = some o := by
  rw [hg.block k (Array.getElem?_eq_some_iff.1 hit).1 (fun e => by have := own_lt h k e.symm; omega)]
  exact hit
theorem set_mid (xs : List Value) (a b c u : Value) : (xs ++ [a, b, c]).set (xs.length + 1) u = xs ++ [a, u, c] := by
  rw [List.set_append_right _ _ (by omega)]
  simp
theorem own_some {w : World} {base : Nat} {e : TypeId} {size n : Nat} {v : Value} {xs : List Value} (h : w.ownsRow base e size v n xs) (hn : 0 < n) : ∃ g cap, v = .slice (some ⟨g, 0, none⟩) n cap ∧ base ≤ g ∧ g < w.heap.size ∧ n ≤ cap ∧ cap ≤ maxLen := by
  rcases h.2 with ⟨_, h1⟩ | ⟨g', cap', cur, h1, hb, hg, hn, hm, hs, ht⟩
  · omega
  · exact ⟨g', cap', h1, hb, (Array.getElem?_eq_some_iff.1 hg).1, hn, hm⟩
theorem own_cell {w : World} {base : Nat} {e : TypeId} {size g cap n : Nat} {xs : List Value} (h : w.ownsRow base e size (.slice (some ⟨g, 0, none⟩) n cap) n xs) {i : Nat} {u : Value} (hi : xs[i]? = some u) :
    w.cell? ⟨g, i, none⟩ = some u ∧ w.frozen? ⟨g, i, none⟩ = false := by
  rcases h.2 with ⟨h1, _⟩ | ⟨g', cap', cur, h1, hb, hg, hn, hm, hs, ht⟩
  · cases h1
  · cases h1
    have hi' := (List.getElem?_eq_some_iff.1 hi).1
    rw [h.1] at hi'
    refine ⟨cell_at hg ?_, free_at hg⟩
    rw [← ht, List.getElem?_take, if_pos hi'] at hi
    simpa using hi
end Go.Proofs.YtephllgddhncgaaGreatDoor
/- Rows of texts: what slices of texts show; words glued. -/
namespace Go.Proofs.YtephllgddhncgaaGreatDoor.Lex
open Go.RowKit
set_option linter.unusedSimpArgs false
set_option linter.unusedVariables false
theorem strElem : Elem Tryz.prog 82 9 1 16 := ⟨Tryz.underlying82, ⟨.string ByteArray.empty, by kernel_rfl, rfl⟩, by omega⟩
theorem own_row {w : World} {base : Nat} {e : TypeId} {size n : Nat} {v : Value} {xs : List Value} (h : w.ownsRow base e size v n xs) :
    ∃ a cap, v = .slice a n cap ∧ n ≤ cap ∧ cap ≤ maxLen ∧ ∀ i u, xs[i]? = some u → ∃ g, a = some ⟨g, 0, none⟩ ∧ w.cell? ⟨g, i, none⟩ = some u := by
  rcases h.2 with ⟨rfl, rfl⟩ | ⟨g, cap, cur, rfl, hb, hg, hn, hm, hs, ht⟩
  · have : xs = [] := List.eq_nil_of_length_eq_zero (by rw [h.1]; simp)
    subst this
    exact ⟨none, 0, rfl, Nat.le_refl _, by simp, by simp⟩
  · exact ⟨_, cap, rfl, hn, hm, fun i u hu => ⟨g, rfl, (own_cell h hu).1⟩⟩
theorem size_bs (x : List UInt8) : (bs x).size = x.length := by simp [bs, ByteArray.size]
/-- What a slice of texts shows. -/
def Shows (w : World) (a : Option Addr) (ws : List (List UInt8)) : Prop := ∀ i (h : i < ws.length), ∃ g, a = some ⟨g, 0, none⟩ ∧ w.cell? ⟨g, i, none⟩ = some (.string (bs (ws[i]'h)))
theorem shows_of {w : World} {base n : Nat} {e : TypeId} {v : Value} {ws : List (List UInt8)} (h : w.ownsRow base e 1 v n (ws.map fun l => .string (bs l))) : ∃ a cap, v = .slice a n cap ∧ n ≤ cap ∧ cap ≤ maxLen ∧ Shows w a ws := by
  obtain ⟨a, cap, h1, h2, h3, h4⟩ := own_row h
  exact ⟨a, cap, h1, h2, h3, fun i hi => h4 i _ (by simp [hi])⟩
theorem Shows.below {w w' : World} {a : Option Addr} {ws : List (List UInt8)} (h : Shows w a ws) (hb : Below w.heap.size w w') : Shows w' a ws := fun i hi => by
  obtain ⟨g, h1, h2⟩ := h i hi
  exact ⟨g, h1, (hb.cell (p := ⟨g, i, none⟩) (World.block_lt_of_cell? _ _ h2)).trans h2⟩
theorem glue_take (ws : List (List UInt8)) (k : Nat) (h : k < ws.length) : glue (ws.take (k + 1)) = (if 0 < k then glue (ws.take k) ++ [32] else []) ++ ws[k]'h := by
  rw [List.take_succ_eq_append_getElem h]
  by_cases hk : 0 < k
  · rw [if_pos hk, glue_snoc _ _ (fun e => by have := congrArg List.length e; rw [List.length_take, List.length_nil] at this; omega)]
    simp
  · obtain rfl : k = 0 := by omega
    simp [glue]
theorem glue_le {ws : List (List UInt8)} {l : List UInt8} (h : glue ws = l) (k : Nat) : (glue (ws.take k)).length ≤ l.length := by
  subst h
  induction ws generalizing k with
  | nil => simp [glue]
  | cons a r ih =>
    cases k with
    | zero => simp [glue]
    | succ k =>
      cases r with
      | nil => simp [glue]
      | cons b r =>
        have := ih k
        cases k with
        | zero => simp [glue]
        | succ k => simp [glue] at this ⊢; omega
theorem word_le {ws : List (List UInt8)} {l : List UInt8} (h : glue ws = l) {k : Nat} (hk : k < ws.length) : (ws[k]'hk).length ≤ l.length := by
  have h1 := glue_le h (k + 1)
  rw [glue_take ws k hk] at h1
  simp at h1
  omega
theorem bs_bs (x y : List UInt8) : bs x ++ bs y = bs (x ++ y) := ByteArray.mk_append_mk x y
end Go.Proofs.YtephllgddhncgaaGreatDoor.Lex
/- Numbers as digits, in plain words. No program in sight. -/
namespace Go.Proofs.YtephllgddhncgaaGreatDoor.Lex
theorem decFrom_append (a : Nat) (l r : List UInt8) : Lib.decFrom a (l ++ r) = (Lib.decFrom a l).bind fun m => Lib.decFrom m r := by
  induction l generalizing a with
  | nil => rfl
  | cons b l ih =>
    simp only [List.cons_append, Lib.decFrom]
    cases Lib.digitVal b with
    | none => rfl
    | some d => exact ih _
theorem digitVal_dig {d : Nat} (h : d < 10) : Lib.digitVal (UInt8.ofNat (48 + d)) = some d := by
  have e : (UInt8.ofNat (48 + d)).toNat = 48 + d := by simp [UInt8.toNat_ofNat']; omega
  unfold Lib.digitVal
  rw [e, if_pos ⟨by omega, by omega⟩]
  congr 1
  omega
theorem decDigits_small {u : Nat} (h : u < 10) : Lib.decDigits u = [UInt8.ofNat (48 + u)] := by rw [Lib.decDigits, dif_pos h]
theorem decDigits_big {u : Nat} (h : ¬ u < 10) : Lib.decDigits u = Lib.decDigits (u / 10) ++ [UInt8.ofNat (48 + u % 10)] := by rw [Lib.decDigits, dif_neg h]
theorem decFrom_digits (n : Nat) : Lib.decFrom 0 (Lib.decDigits n) = some n := by
  induction n using Nat.strongRecOn with
  | _ n ih =>
    by_cases h : n < 10
    · rw [decDigits_small h]
      simp only [Lib.decFrom, digitVal_dig h]
      congr 1
      omega
    · rw [decDigits_big h, decFrom_append, ih (n / 10) (by omega)]
      simp only [Option.bind_some, Lib.decFrom, digitVal_dig (show n % 10 < 10 by omega)]
      congr 1
      omega
theorem decDigits_ne (n : Nat) : Lib.decDigits n ≠ [] := by
  by_cases h : n < 10
  · rw [decDigits_small h]; simp
  · rw [decDigits_big h]; simp
theorem decDigits_head (n : Nat) (hn : 0 < n) : (Lib.decDigits n)[0]? ≠ some 48 := by
  induction n using Nat.strongRecOn with
  | _ n ih =>
    by_cases h : n < 10
    · rw [decDigits_small h]
      simp only [List.getElem?_cons_zero, ne_eq, Option.some.injEq]
      intro e
      have := congrArg UInt8.toNat e
      simp [UInt8.toNat_ofNat'] at this
      omega
    · rw [decDigits_big h]
      have := ih (n / 10) (by omega) (by omega)
      rw [List.getElem?_append_left]
      · exact this
      · exact List.length_pos_iff.2 (decDigits_ne _)
theorem nDigits_le (k : Nat) : ∀ u, u < 10 ^ (k + 1) → Lib.nDigits u ≤ k + 1 := by
  induction k with
  | zero => intro u h; rw [Lib.nDigits_small (by simpa using h)]; exact Nat.le_refl _
  | succ k ih =>
    intro u h
    by_cases h10 : u < 10
    · rw [Lib.nDigits_small h10]; omega
    · rw [Lib.nDigits_big h10]
      have := ih (u / 10) (by rw [Nat.pow_succ] at h; omega)
      omega
/-- The number that a text of digits is: nine at most, no nought ahead of others. -/
def numOf (l : List UInt8) : Option Nat := if l.length = 0 ∨ 9 < l.length ∨ (l[0]? = some 48 ∧ 1 < l.length) then none else Lib.decFrom 0 l
theorem numOf_digits {n : Nat} (h : n ≤ 999999999) : numOf (Lib.decDigits n) = some n := by
  have hl : (Lib.decDigits n).length ≤ 9 := by
    rw [Lib.decDigits_length]
    exact nDigits_le 8 n (by omega)
  have h0 : (Lib.decDigits n).length ≠ 0 := fun e => decDigits_ne n (List.eq_nil_of_length_eq_zero e)
  rw [numOf, if_neg, decFrom_digits]
  rintro (h1 | h1 | ⟨h1, h2⟩)
  · exact h0 h1
  · omega
  · rcases Nat.eq_zero_or_pos n with rfl | hn
    · rw [decDigits_small (by omega)] at h2
      simp at h2
    · exact decDigits_head n hn h1
theorem numOf_lt {l : List UInt8} {n : Nat} (h : numOf l = some n) : n < 1000000000 ∧ l.length ≤ 9 ∧ 0 < l.length := by
  unfold numOf at h
  split at h
  · cases h
  · rename_i hc
    have h1 := Lib.decFrom_lt l 0 n h
    have h9 : l.length ≤ 9 := by omega
    have : 10 ^ l.length ≤ 10 ^ 9 := Nat.pow_le_pow_right (by omega) h9
    exact ⟨by omega, h9, by omega⟩
end Go.Proofs.YtephllgddhncgaaGreatDoor.Lex
/- Tokens, in plain words: kind, from, to. No program in sight. -/
namespace Go.Proofs.YtephllgddhncgaaGreatDoor.Lex
abbrev Tok := Nat × Nat × Nat
def kd (c : Nat) : Nat := if 97 ≤ c ∧ c ≤ 122 then 1 else if 48 ≤ c ∧ c ≤ 57 then 2 else if c = 40 ∨ c = 41 ∨ c = 44 then 3 else 0
def kb (s : ByteArray) (i : Nat) : Nat := kd (s.data.toList.getD i 0).toNat
/-- The kind of the byte ahead of place i; 0: there is none. -/
def lastK (s : ByteArray) : Nat → Nat
  | 0 => 0
  | i + 1 => kb s i
/-- The tokens of the first i bytes. -/
def toks (s : ByteArray) : Nat → List Tok
  | 0 => []
  | i + 1 => if kb s i = 3 ∨ kb s i ≠ lastK s i then toks s i ++ [(kb s i, i, i + 1)] else (toks s i).dropLast ++ [(((toks s i).getLastD (0, 0, 0)).1, ((toks s i).getLastD (0, 0, 0)).2.1, i + 1)]
theorem toks_new {s : ByteArray} {i : Nat} (h : kb s i = 3 ∨ kb s i ≠ lastK s i) : toks s (i + 1) = toks s i ++ [(kb s i, i, i + 1)] := by
  simp only [toks, if_pos h]
theorem toks_more {s : ByteArray} {i : Nat} (h : ¬ (kb s i = 3 ∨ kb s i ≠ lastK s i)) : toks s (i + 1) = (toks s i).dropLast ++ [(((toks s i).getLastD (0, 0, 0)).1, ((toks s i).getLastD (0, 0, 0)).2.1, i + 1)] := by
  simp only [toks, if_neg h]
/-- Bytes of one kind behind a border are one token. -/
theorem toks_run {s : ByteArray} {i k : Nat} (hk : k ≠ 3) (hb : k ≠ lastK s i) : ∀ j, i < j → (∀ m, i ≤ m → m < j → kb s m = k) → toks s j = toks s i ++ [(k, i, j)] := by
  intro j hij
  obtain ⟨d, rfl⟩ : ∃ d, j = i + 1 + d := ⟨j - (i + 1), by omega⟩
  clear hij
  induction d with
  | zero =>
    intro h
    have h0 := h i (Nat.le_refl _) (by omega)
    rw [Nat.add_zero, toks_new (Or.inr (by rw [h0]; exact hb)), h0]
  | succ d ih =>
    intro h
    have h1 := ih fun m h1 h2 => h m h1 (by omega)
    have h0 : kb s (i + 1 + d) = k := h _ (by omega) (by omega)
    have h2 : lastK s (i + 1 + d) = k := by
      rw [show i + 1 + d = (i + d) + 1 by omega]
      exact h (i + d) (by omega) (by omega)
    rw [show i + 1 + (d + 1) = (i + 1 + d) + 1 by omega, toks_more (by rw [h0, h2]; simp [hk]), h1]
    simp
/-- Tokens that lie one behind the other, from a to b. -/
def chained : Nat → List Tok → Nat → Prop
  | a, [], b => a = b
  | a, x :: l, b => x.2.1 = a ∧ a < x.2.2 ∧ chained x.2.2 l b
theorem chained_snoc {x : Tok} : ∀ {l : List Tok} {a b c : Nat}, chained a l b → x.2.1 = b → b < x.2.2 → x.2.2 = c → chained a (l ++ [x]) c
  | [], a, b, c, h, h1, h2, h3 => by
    simp only [chained] at h
    subst h
    exact ⟨h1, h2, h3⟩
  | y :: l, a, b, c, h, h1, h2, h3 => ⟨h.1, h.2.1, chained_snoc h.2.2 h1 h2 h3⟩
theorem chained_last {x : Tok} : ∀ {l : List Tok} {a c : Nat}, chained a (l ++ [x]) c → ∃ b, chained a l b ∧ x.2.1 = b ∧ b < x.2.2 ∧ x.2.2 = c
  | [], a, c, h => ⟨a, rfl, h.1, h.2.1, h.2.2⟩
  | y :: l, a, c, h => by
    obtain ⟨b, h1, h2⟩ := chained_last h.2.2
    exact ⟨b, ⟨h.1, h.2.1, h1⟩, h2⟩
theorem toks_ne {s : ByteArray} {i : Nat} (hi : 0 < i) : toks s i ≠ [] := by
  obtain ⟨i, rfl⟩ : ∃ j, i = j + 1 := ⟨i - 1, by omega⟩
  simp only [toks]
  split <;> simp
theorem toks_chained {s : ByteArray} : ∀ i, (∀ m, m < i → kb s m ≠ 0) → chained 0 (toks s i) i
  | 0, _ => rfl
  | i + 1, h => by
    have ih := toks_chained i fun m hm => h m (by omega)
    by_cases hc : kb s i = 3 ∨ kb s i ≠ lastK s i
    · rw [toks_new hc]
      exact chained_snoc ih rfl (Nat.lt_succ_self i) rfl
    · rw [toks_more hc]
      have hi : 0 < i := by
        rcases Nat.eq_zero_or_pos i with rfl | hi
        · exact absurd (Or.inr (h 0 (by omega))) hc
        · exact hi
      rcases List.eq_nil_or_concat (toks s i) with h0 | ⟨l, x, hl⟩
      · exact absurd h0 (toks_ne hi)
      · rw [List.concat_eq_append] at hl
        rw [hl] at ih ⊢
        obtain ⟨b, h1, h2, h3, h4⟩ := chained_last ih
        simp only [List.dropLast_concat, List.getLastD_concat]
        exact chained_snoc h1 h2 (by simp only; omega) rfl
end Go.Proofs.YtephllgddhncgaaGreatDoor.Lex
/- The kinds of bytes. -/
namespace Go.Proofs.YtephllgddhncgaaGreatDoor.Lex
set_option linter.unusedSimpArgs false
theorem kd_1 {c : Nat} (h : 97 ≤ c ∧ c ≤ 122) : kd c = 1 := by unfold kd; rw [if_pos h]
theorem kd_2 {c : Nat} (h : 48 ≤ c ∧ c ≤ 57) : kd c = 2 := by unfold kd; rw [if_neg (by omega), if_pos h]
theorem kd_3 {c : Nat} (h : c = 40 ∨ c = 41 ∨ c = 44) : kd c = 3 := by unfold kd; rw [if_neg (by omega), if_neg (by omega), if_pos h]
theorem kd_0 {c : Nat} (h1 : ¬ (97 ≤ c ∧ c ≤ 122)) (h2 : ¬ (48 ≤ c ∧ c ≤ 57)) (h3 : ¬ (c = 40 ∨ c = 41 ∨ c = 44)) : kd c = 0 := by unfold kd; rw [if_neg h1, if_neg h2, if_neg h3]
theorem lkind (c : Nat) (w : World) : Calls Tryz.prog 71 #[.int .i32 c] w fun e w' => e = .returned (.int .i64 (kd c)) ∧ w = w' := by
  go_enter Tryz.func71, Tryz.ntmps71
  go_wp2
  all_goals go_ret
  all_goals first
    | (have h9 : kd c = 1 := kd_1 (by omega); rw [h9]; exact ⟨rfl, rfl⟩)
    | (have h9 : kd c = 2 := kd_2 (by omega); rw [h9]; exact ⟨rfl, rfl⟩)
    | (have h9 : kd c = 3 := kd_3 (by simp only [beq_iff_eq, beq_eq_false_iff_ne, ne_eq] at *; omega); rw [h9]; exact ⟨rfl, rfl⟩)
    | (have h9 : kd c = 0 := kd_0 (by omega) (by omega) (by omega); rw [h9]; exact ⟨rfl, rfl⟩)
    | (have h9 : kd c = 3 := kd_3 (by omega); rw [h9]; exact ⟨rfl, rfl⟩)
    | (have h9 : kd c = 0 := (by simp only [beq_iff_eq, beq_eq_false_iff_ne, ne_eq] at *; exact kd_0 (by omega) (by omega) (by omega)); rw [h9]; exact ⟨rfl, rfl⟩)
    | (exfalso; simp only [beq_iff_eq, beq_eq_false_iff_ne, ne_eq] at *; omega)
end Go.Proofs.YtephllgddhncgaaGreatDoor.Lex
