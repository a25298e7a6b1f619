/- Wis25, Twice25, Step25, RangeW, Iter25, GrowR, Seen25, HeldR: laid into one text. -/
import Derived.Test.YtephllgddhncgaaGreatDoorGPar
import Derived.Test.YtephllgddhncgaaGreatDoorGEnt
import Derived.Test.YtephllgddhncgaaGreatDoorLine
import Derived.RangeFuncRecord
import Derived.RangeFuncFrom
import Derived.RangeFuncCalls
import Derived.Test.YtephllgddhncgaaGreatDoorGTree
import Derived.RangeFuncNested
import Derived.RangeFuncLeaves
import Derived.Shelf.Abstract
import Derived.Shelf.RegionOpen
import Derived.OwnWalkIn
import Derived.TacticsInMore
import Derived.LoopNIn
import Derived.LoopIn
import Derived.Sort.LoopGhostIn
import Derived.Lib.SmallJoins
import Derived.Test.YtephllgddhncgaaGreatDoorGBase
import Derived.MapKept
import Derived.WideKeyEntry
import Derived.OrdersIn
import Derived.OrdersHeld
import Derived.Test.YtephllgddhncgaaGreatDoorHeldZ
/- Entries as a text, and texts as entries: the plain law of chapter 25. No function of the program. -/
namespace Go.Proofs.YtephllgddhncgaaGreatDoor.Lex
open Go.RowKit Stab
set_option linter.unusedSimpArgs false
set_option linter.unusedVariables false
theorem ins_perm {α : Type} (lt : α → α → Bool) (x : α) : ∀ s : List α, (ins lt x s).Perm (x :: s)
  | [] => by simp [ins]
  | a :: s => by
    rw [ins]
    split
    · exact List.Perm.refl _
    · exact ((ins_perm lt x s).cons a).trans (List.Perm.swap x a s)
theorem isort_perm {α : Type} (lt : α → α → Bool) : ∀ (l acc : List α), (l.foldl (fun acc x => ins lt x acc) acc).Perm (acc ++ l)
  | [], acc => by simp
  | x :: l, acc => by
    rw [List.foldl_cons]
    refine (isort_perm lt l (ins lt x acc)).trans ?_
    refine ((ins_perm lt x acc).append_right l).trans ?_
    exact List.perm_middle.symm
theorem sortE_perm (l : List EntryV) : (sortE l).Perm l := by
  have := isort_perm (fun x y : EntryV => ltK x.1 y.1) l []
  simpa [sortE, isort] using this
theorem sortE_srt {l : List EntryV} (h : Srt (fun x y : EntryV => ltK x.1 y.1) l) : sortE l = l := by
  have ho := ord_by ltK_ord fun x : EntryV => x.1
  obtain ⟨h1, h2⟩ := isort_spec ho l
  exact uniq ho h1 h h2.symm
theorem sortE_idem (l : List EntryV) : sortE (sortE l) = sortE l := sortE_srt (isort_spec (ord_by ltK_ord fun x : EntryV => x.1) l).1
/-- An entry's line, if it may be. -/
def lineX (x : EntryV) : List UInt8 := lineE x.1.1 x.1.2 ((textD x.2).getD [])
def FineX (x : EntryV) : Prop := forE x.1.1 x.1.2 x.2 = 0
def bodyW (l : List EntryV) : List UInt8 := l.flatMap fun x => lineX x ++ [10]
def headW : List UInt8 := [100, 117, 108, 99, 105, 109, 101, 114, 32, 49, 10]
/-- Entries as a text. -/
def textW (l : List EntryV) : List UInt8 := headW ++ bodyW (sortE l)
/-- The first line of a text, and what is behind its end. -/
def lineOf : List UInt8 → Option (List UInt8 × List UInt8)
  | [] => none
  | c :: r => if c = 10 then some ([], r) else (lineOf r).map fun p => (c :: p.1, p.2)
theorem lineOf_app : ∀ {x : List UInt8} (r : List UInt8), (∀ c ∈ x, c ≠ 10) → lineOf (x ++ 10 :: r) = some (x, r)
  | [], r, _ => by simp [lineOf]
  | c :: x, r, h => by
    rw [List.cons_append, lineOf, if_neg (h c (by simp)), lineOf_app r fun d hd => h d (by simp [hd])]
    rfl
theorem lineOf_some : ∀ {s x r : List UInt8}, lineOf s = some (x, r) → s = x ++ 10 :: r ∧ ∀ c ∈ x, c ≠ 10
  | [], x, r, h => by cases h
  | c :: s, x, r, h => by
    rw [lineOf] at h
    split at h
    · next hc =>
      cases h
      exact ⟨by rw [hc]; rfl, by simp⟩
    · next hc =>
      obtain ⟨⟨y, q⟩, hy, he⟩ := Option.map_eq_some_iff.1 h
      cases he
      obtain ⟨h1, h2⟩ := lineOf_some hy
      refine ⟨by rw [h1]; rfl, fun d hd => ?_⟩
      rcases List.mem_cons.1 hd with rfl | hd
      · exact hc
      · exact h2 d hd
theorem lineX_parse {x : EntryV} (h : FineX x) : parseE (lineX x) = (0, x) := by
  obtain ⟨t, ht⟩ := forE_text h
  have := parseE_line h ht
  rw [lineX, ht]
  exact this
theorem lineX_noLF {x : EntryV} (h : FineX x) : ∀ c ∈ lineX x, c ≠ 10 := by
  obtain ⟨t, ht⟩ := forE_text h
  rw [lineX, ht]
  have f1 := (textD_fine ht).2
  have key : ∀ c, okb c = true → c ≠ 10 := by
    rintro c hc rfl
    exact absurd hc (by decide)
  intro c hc
  unfold lineE at hc
  simp only [Option.getD_some, List.mem_append, List.mem_singleton] at hc
  rcases hc with (((hc | rfl) | hc) | rfl) | hc
  · exact key c (fine_ok (dec_fine _) hc)
  · decide
  · exact key c (fine_ok (dec_fine _) hc)
  · decide
  · exact key c (fine_ok f1 hc)
theorem parseE_inv {s : List UInt8} (h : (parseE s).1 = 0) : FineX (parseE s).2 ∧ lineX (parseE s).2 = s := by
  have hp := (parseE_ok h).1
  generalize (parseE s).2 = x at *
  obtain ⟨⟨n, r⟩, d⟩ := x
  dsimp only at hp
  unfold printE at hp
  split at hp
  · next hf =>
    refine ⟨hf, ?_⟩
    obtain ⟨t, ht⟩ := forE_text hf
    rw [ht] at hp
    dsimp only at hp
    have e : bs (lineE n r t) = bs s := by simpa using hp
    have e2 := congrArg (fun b : ByteArray => b.data.toList) e
    simp only [data_bs] at e2
    rw [lineX, ht]
    exact e2
  · next hf =>
    exfalso
    have e : forE n r d = 0 := by
      simp at hp
      exact hp.2
    exact hf e
/-- What lines say, from line n on, behind entries that came. -/
def readW : Nat → Int → List EntryV → List UInt8 → Int × Int × List EntryV
  | 0, n, acc, s => (0, 0, sortE acc)
  | f + 1, n, acc, s => if s = [] then (0, 0, sortE acc) else match lineOf s with
    | none => (10, n, [])
    | some (l, r) => if (parseE l).1 ≠ 0 then ((parseE l).1, n, []) else if (parseE l).2.1 ∈ acc.map Prod.fst then (11, n, []) else readW f (n + 1) (acc ++ [(parseE l).2]) r
/-- What a text says: the error, the line at fault, the entries. -/
def parseW (s : List UInt8) : Int × Int × List EntryV :=
  if 65536 < s.length then (12, 0, []) else if headW <+: s then readW s.length 2 [] (s.drop 11) else (9, 1, [])
theorem readW_body : ∀ (l acc : List EntryV) (n : Int) (f : Nat), (∀ x ∈ l, FineX x) → ((acc ++ l).map Prod.fst).Nodup → (bodyW l).length ≤ f → readW f n acc (bodyW l) = (0, 0, sortE (acc ++ l))
  | [], acc, n, f, _, _, _ => by
    cases f with
    | zero => simp [readW]
    | succ f => simp [readW, bodyW]
  | x :: l, acc, n, f, hf, hd, hl => by
    have e : bodyW (x :: l) = lineX x ++ 10 :: bodyW l := by simp [bodyW]
    rw [e] at hl ⊢
    simp only [List.length_append, List.length_cons] at hl
    obtain ⟨f, rfl⟩ : ∃ g, f = g + 1 := ⟨f - 1, by omega⟩
    have hx := hf x (by simp)
    rw [readW, if_neg (by simp), lineOf_app _ (lineX_noLF hx)]
    dsimp only
    have hp := lineX_parse hx
    have hnm : ¬ x.1 ∈ acc.map Prod.fst := fun hm => by
      rw [List.map_append, List.nodup_append] at hd
      exact hd.2.2 _ hm _ (by simp) rfl
    rw [hp]
    dsimp only
    rw [if_neg (by simp), if_neg hnm, readW_body l (acc ++ [x]) (n + 1) f (fun y hy => hf y (by simp [hy])) (by simpa using hd) (by omega)]
    simp
theorem readW_inv : ∀ (f : Nat) (n m : Int) (acc l : List EntryV) (s : List UInt8), s.length ≤ f → (acc.map Prod.fst).Nodup → readW f n acc s = (0, m, l) →
    m = 0 ∧ ∃ b, s = bodyW b ∧ l = sortE (acc ++ b) ∧ (∀ x ∈ b, FineX x) ∧ ((acc ++ b).map Prod.fst).Nodup
  | 0, n, m, acc, l, s, hs, hd, h => by
    rw [readW] at h
    have h0 : s = [] := List.eq_nil_of_length_eq_zero (by omega)
    cases h
    exact ⟨rfl, [], by rw [h0]; rfl, by simp, by simp, by simpa using hd⟩
  | f + 1, n, m, acc, l, s, hs, hd, h => by
    rw [readW] at h
    by_cases h0 : s = []
    · rw [if_pos h0] at h
      cases h
      exact ⟨rfl, [], by rw [h0]; rfl, by simp, by simp, by simpa using hd⟩
    · rw [if_neg h0] at h
      cases hl : lineOf s with
      | none => rw [hl] at h; cases h
      | some p =>
        obtain ⟨x, r⟩ := p
        rw [hl] at h
        dsimp only at h
        obtain ⟨hs2, _⟩ := lineOf_some hl
        by_cases he : (parseE x).1 ≠ 0
        · rw [if_pos he] at h
          exact absurd (congrArg Prod.fst h) he
        · rw [if_neg he] at h
          by_cases hm : (parseE x).2.1 ∈ acc.map Prod.fst
          · rw [if_pos hm] at h
            cases h
          · rw [if_neg hm] at h
            obtain ⟨fx, lx⟩ := parseE_inv (s := x) (by omega)
            have hlen : r.length ≤ f := by
              have := congrArg List.length hs2
              simp at this
              omega
            obtain ⟨h1, b, h2, h3, h4, h5⟩ := readW_inv f (n + 1) m (acc ++ [(parseE x).2]) l r hlen (by
              rw [List.map_append, List.nodup_append]
              refine ⟨hd, by simp, fun u hu v hv => ?_⟩
              simp at hv
              subst hv
              rintro rfl
              exact hm hu) h
            refine ⟨h1, (parseE x).2 :: b, ?_, by rw [h3]; simp, fun y hy => ?_, by simpa using h5⟩
            · rw [hs2, h2]
              simp [bodyW, lx]
            · rcases List.mem_cons.1 hy with rfl | hy
              · exact fx
              · exact h4 y hy
theorem bodyW_perm {l m : List EntryV} (h : l.Perm m) : (bodyW l).length = (bodyW m).length := (h.flatMap_right _).length_eq
/-- What is printed is read. -/
theorem parseW_text {l : List EntryV} (hf : ∀ x ∈ l, FineX x) (hd : (l.map Prod.fst).Nodup) (hl : (textW l).length ≤ 65536) : parseW (textW l) = (0, 0, sortE l) := by
  have hp := sortE_perm l
  rw [parseW, if_neg (by omega), if_pos ⟨_, rfl⟩, show (textW l).drop 11 = bodyW (sortE l) by rw [textW]; rfl]
  rw [readW_body (sortE l) [] 2 _ (fun x hx => hf x (hp.mem_iff.1 hx)) (by simpa using (hp.map Prod.fst).nodup_iff.2 hd) (by rw [textW]; simp), List.nil_append, sortE_idem]
/-- What is read is as long when it is printed, and in order it is the same. -/
theorem parseW_inv {s : List UInt8} {m : Int} {l : List EntryV} (h : parseW s = (0, m, l)) : m = 0 ∧ sortE l = l ∧ (∀ x ∈ l, FineX x) ∧ (l.map Prod.fst).Nodup ∧ (textW l).length = s.length ∧ s.length ≤ 65536 := by
  unfold parseW at h
  split at h
  · cases h
  · next hs =>
    split at h
    · next hh =>
      obtain ⟨h1, b, h2, h3, h4, h5⟩ := readW_inv s.length 2 m [] l (s.drop 11) (by simp) (by simp) h
      rw [List.nil_append] at h3 h5
      subst h3
      have hp := sortE_perm b
      obtain ⟨t, rfl⟩ := hh
      have ht : t = bodyW b := by rw [← h2]; rfl
      refine ⟨h1, sortE_idem b, fun x hx => h4 x (hp.mem_iff.1 hx), (hp.map Prod.fst).nodup_iff.2 h5, ?_, by omega⟩
      rw [textW, sortE_idem, List.length_append, List.length_append, ht, bodyW_perm hp]
    · cases h
end Go.Proofs.YtephllgddhncgaaGreatDoor.Lex
/- Keys that come twice; the error of entries that are to be told. No function of the program. -/
namespace Go.Proofs.YtephllgddhncgaaGreatDoor.Lex
open Go.RowKit Stab
set_option linter.unusedSimpArgs false
set_option linter.unusedVariables false
/-- Does a key come twice in a row? -/
def twiceB : List EntryV → Bool
  | [] => false
  | [_] => false
  | a :: b :: l => decide (a.1 = b.1) || twiceB (b :: l)
theorem ltK_tri {a b : KeyV} (h1 : ltK a b = false) (h2 : ltK b a = false) : a = b := by
  rcases cmpK_ways a b with ⟨h, e⟩ | ⟨h, e⟩ | ⟨h, h', e⟩
  · exact absurd (ltK_iff.2 h) (by rw [h1]; decide)
  · exact absurd (ltK_iff.2 h) (by rw [h2]; decide)
  · exact Prod.ext h h'
theorem ltK_self (a : KeyV) : ltK a a = false := by
  cases h : ltK a a with
  | false => rfl
  | true => have := ltK_iff.1 h; omega
theorem twiceB_nodup : ∀ {l : List EntryV}, Srt (fun x y : EntryV => ltK x.1 y.1) l → (twiceB l = false ↔ (l.map Prod.fst).Nodup)
  | [], _ => by simp [twiceB]
  | [a], _ => by simp [twiceB]
  | a :: b :: l, h => by
    obtain ⟨h1, h2⟩ := List.pairwise_cons.1 h
    have ih := twiceB_nodup h2
    rw [twiceB, Bool.or_eq_false_iff, ih, decide_eq_false_iff_not, List.map_cons (l := b :: l), List.nodup_cons]
    refine and_congr_left fun hn => ⟨fun hab hm => ?_, fun hm e => hm (by simp [e])⟩
    obtain ⟨c, hc, hce⟩ := List.mem_map.1 hm
    rcases List.mem_cons.1 hc with rfl | hc
    · exact hab hce.symm
    · have hbc := (List.pairwise_cons.1 h2).1 c hc
      have hab' := h1 b (by simp)
      dsimp only at hbc hab'
      rw [hce] at hbc
      exact hab (ltK_tri hbc hab')
/-- The error of entries that are to be told. -/
def chkW (l : List EntryV) : Int := match l.find? fun x => decide (forE x.1.1 x.1.2 x.2 ≠ 0) with
  | some x => forE x.1.1 x.1.2 x.2
  | none => if (l.map Prod.fst).Nodup then (if 65536 < (textW l).length then 12 else 0) else 11
theorem chkW_ok {l : List EntryV} (h : chkW l = 0) : (∀ x ∈ l, FineX x) ∧ (l.map Prod.fst).Nodup ∧ (textW l).length ≤ 65536 := by
  unfold chkW at h
  split at h
  · next x hx =>
    have := List.find?_some hx
    simp at this
    exact absurd h this
  · next hx =>
    split at h
    · next hd =>
      split at h
      · cases h
      · next hl =>
        refine ⟨fun x hxl => ?_, hd, by omega⟩
        have := List.find?_eq_none.1 hx x hxl
        simpa [FineX] using this
    · cases h
theorem sortE_twice (l : List EntryV) : twiceB (sortE l) = false ↔ (l.map Prod.fst).Nodup := by
  exact (twiceB_nodup (l := sortE l) (isort_spec (ord_by ltK_ord fun x : EntryV => x.1) l).1).trans ((sortE_perm l).map Prod.fst).nodup_iff
/-- What was read may be told. -/
theorem chkW_read {s : List UInt8} {m : Int} {l : List EntryV} (h : parseW s = (0, m, l)) : chkW l = 0 := by
  obtain ⟨_, _, hf, hd, hl, hs⟩ := parseW_inv h
  unfold chkW
  split
  · next x hx =>
    have := List.find?_some hx
    simp at this
    exact absurd (hf x (List.mem_of_find?_eq_some hx)) this
  · rw [if_pos hd, if_neg (by omega)]
/-- What is told of a text that was read is read as the same, and told the same. -/
theorem order_law {s : List UInt8} {m : Int} {l : List EntryV} (h : parseW s = (0, m, l)) : parseW (textW l) = (0, 0, l) ∧ chkW l = 0 ∧ (textW l).length = s.length := by
  obtain ⟨_, h2, hf, hd, hl, hs⟩ := parseW_inv h
  have := parseW_text hf hd (by omega)
  rw [h2] at this
  exact ⟨this, chkW_read h, hl⟩
end Go.Proofs.YtephllgddhncgaaGreatDoor.Lex
/- One line on: how the reading of a text goes from state to state. -/
namespace Go.Proofs.YtephllgddhncgaaGreatDoor.Lex
open Go.RowKit Stab
set_option linter.unusedSimpArgs false
set_option linter.unusedVariables false
theorem ext_drop (s : ByteArray) (a e : Nat) : (s.extract a e).data.toList = (s.data.toList.drop a).take (e - a) := by
  rw [ByteArray.data_extract, Array.toList_extract, List.extract_eq_take_drop]
theorem ext_size {s : ByteArray} {a e : Nat} (h : a ≤ e) (h2 : e ≤ s.size) : (s.extract a e).size = e - a := by
  rw [ByteArray.size_extract]
  omega
theorem lineOf_yes {s : ByteArray} {a e : Nat} (h : FirstLF s a e) : lineOf (s.data.toList.drop a) = some ((s.extract a e).data.toList, s.data.toList.drop (e + 1)) := by
  have h1 := h.le
  have h2 := h.lt
  have hlen : s.data.toList.length = s.size := by simp
  have e1 : s.data.toList.drop a = (s.extract a e).data.toList ++ 10 :: s.data.toList.drop (e + 1) := by
    rw [ext_drop]
    have := List.take_append_drop (e - a) (s.data.toList.drop a)
    rw [List.drop_drop, show a + (e - a) = e by omega] at this
    rw [← this]
    congr 1
    · rw [this]
    · have hg := some_at h2
      rw [h.here] at hg
      rw [List.drop_eq_getElem_cons (by omega)]
      have : s.data.toList[e]'(by omega) = 10 := by
        rw [List.getElem?_eq_getElem (by omega)] at hg
        exact Option.some.inj hg
      rw [this]
  rw [e1]
  refine lineOf_app _ fun c hc => ?_
  rw [ext_drop] at hc
  obtain ⟨i, hi, rfl⟩ := List.mem_iff_getElem.1 hc
  rw [List.length_take, List.length_drop] at hi
  rw [List.getElem_take, List.getElem_drop]
  have := h.no (a + i) (by omega) (by omega)
  have hg := some_at (s := s) (j := a + i) (by omega)
  rw [List.getElem?_eq_getElem (by omega)] at hg
  rw [Option.some.inj hg]
  exact this
theorem lineOf_no {s : ByteArray} {a : Nat} (h : ∀ j, a ≤ j → j < s.size → byteAt s j ≠ 10) : lineOf (s.data.toList.drop a) = none := by
  cases hl : lineOf (s.data.toList.drop a) with
  | none => rfl
  | some p =>
    obtain ⟨x, r⟩ := p
    obtain ⟨h1, _⟩ := lineOf_some hl
    have hg : (s.data.toList.drop a)[x.length]? = some 10 := by rw [h1]; simp
    rw [List.getElem?_drop] at hg
    obtain ⟨h2, h3⟩ := at_some hg
    exact absurd h3 (h _ (by omega) h2)
abbrev StW := Nat × Nat × List EntryV
/-- One line on, or none. -/
def nextW (i : StW) (x : ByteArray × Bool) : Option StW :=
  if x.2 = false then none
  else if i.1 = 0 then some (1, i.2.1 + x.1.size + 1, i.2.2)
  else if (parseE x.1.data.toList).1 ≠ 0 then none
  else if (parseE x.1.data.toList).2.1 ∈ i.2.2.map Prod.fst then none
  else some (i.1 + 1, i.2.1 + x.1.size + 1, i.2.2 ++ [(parseE x.1.data.toList).2])
def errW (x : ByteArray × Bool) : Int := if x.2 = false then 10 else if (parseE x.1.data.toList).1 ≠ 0 then (parseE x.1.data.toList).1 else 11
/-- What a line may be. -/
def OkW (s : ByteArray) (i : StW) (x : ByteArray × Bool) : Prop :=
  (x.2 = true ∧ ∃ e, FirstLF s i.2.1 e ∧ x.1 = s.extract i.2.1 e) ∨ (x.2 = false ∧ i.2.1 < s.size ∧ (∀ j, i.2.1 ≤ j → j < s.size → byteAt s j ≠ 10) ∧ x.1 = s.extract i.2.1 s.size)
structure AtW (s : ByteArray) (i : StW) : Prop where
  pos : i.2.1 ≤ s.size
  count : i.1 ≤ i.2.1
  len : i.2.2.length ≤ i.1
  zero : i.1 = 0 → i = (0, 0, [])
  nd : (i.2.2.map Prod.fst).Nodup
  small : ∀ x ∈ i.2.2, x.2.nodes ≤ 60
  read : i.1 ≠ 0 → ∃ f, s.size ≤ f + i.2.1 ∧ parseW s.data.toList = readW f (i.1 + 1) i.2.2 (s.data.toList.drop i.2.1)
theorem atW_start (s : ByteArray) : AtW s (0, 0, []) := ⟨Nat.zero_le _, Nat.le_refl _, Nat.le_refl _, fun _ => rfl, by simp, by simp, fun h => absurd rfl h⟩
theorem OkW.size {s : ByteArray} {i : StW} {x : ByteArray × Bool} (h : OkW s i x) : i.2.1 + x.1.size ≤ s.size ∧ (x.2 = true → i.2.1 + x.1.size < s.size) := by
  rcases h with ⟨h1, e, h2, h3⟩ | ⟨h1, h2, _, h3⟩
  · have := h2.le
    have := h2.lt
    rw [h3, ext_size h2.le (by omega)]
    exact ⟨by omega, fun _ => by omega⟩
  · rw [h3, ext_size (by omega) (Nat.le_refl _)]
    exact ⟨by omega, fun h => by rw [h1] at h; cases h⟩
theorem head_first {s : ByteArray} (hh : headW <+: s.data.toList) : FirstLF s 0 10 ∧ 11 ≤ s.size := by
  obtain ⟨t, ht⟩ := hh
  have hb : ∀ j, j < 11 → s.data.toList[j]? = headW[j]? := fun j hj => by rw [← ht, List.getElem?_append_left (by simpa [headW] using hj)]
  have hlen : 11 ≤ s.size := by
    have := congrArg List.length ht
    simp [headW] at this
    omega
  refine ⟨⟨Nat.zero_le _, by omega, ?_, fun j _ hj => ?_⟩, hlen⟩
  · exact (at_some (hb 10 (by omega))).2
  · have hg := some_at (s := s) (j := j) (by omega)
    rw [hb j (by omega)] at hg
    intro e
    rw [e] at hg
    rcases (by omega : j = 0 ∨ j = 1 ∨ j = 2 ∨ j = 3 ∨ j = 4 ∨ j = 5 ∨ j = 6 ∨ j = 7 ∨ j = 8 ∨ j = 9) with rfl | rfl | rfl | rfl | rfl | rfl | rfl | rfl | rfl | rfl <;> exact absurd hg (by decide)
theorem parseW_head {s : ByteArray} (hs : s.size ≤ 65536) (hh : headW <+: s.data.toList) : parseW s.data.toList = readW s.size 2 [] (s.data.toList.drop 11) := by
  have hl : s.data.toList.length = s.size := by simp
  rw [parseW, if_neg (by omega), if_pos hh, hl]
/-- At a state behind the first line: one step of the reading. -/
theorem AtW.step {s : ByteArray} {i : StW} (h : AtW s i) (h0 : i.1 ≠ 0) {e : Nat} (he : FirstLF s i.2.1 e) : ∃ f, s.size ≤ f + (e + 1) ∧ parseW s.data.toList =
    (if (parseE (s.extract i.2.1 e).data.toList).1 ≠ 0 then ((parseE (s.extract i.2.1 e).data.toList).1, ((i.1 + 1 : Nat) : Int), []) else if (parseE (s.extract i.2.1 e).data.toList).2.1 ∈ i.2.2.map Prod.fst then (11, ((i.1 + 1 : Nat) : Int), []) else readW f ((i.1 + 1 : Nat) + 1) (i.2.2 ++ [(parseE (s.extract i.2.1 e).data.toList).2]) (s.data.toList.drop (e + 1))) := by
  obtain ⟨f, hf, hr⟩ := h.read h0
  have h1 := he.le
  have h2 := he.lt
  have hl : s.data.toList.length = s.size := by simp
  obtain ⟨f, rfl⟩ : ∃ g, f = g + 1 := ⟨f - 1, by omega⟩
  have hne : ¬ s.data.toList.drop i.2.1 = [] := by
    rw [List.drop_eq_nil_iff]
    omega
  refine ⟨f, by omega, ?_⟩
  rw [hr, readW, if_neg hne, lineOf_yes he]
  rfl
theorem atW_next {s : ByteArray} (hs : s.size ≤ 65536) (hh : headW <+: s.data.toList) {i i' : StW} {x : ByteArray × Bool} (h : AtW s i) (hx : OkW s i x) (hn : nextW i x = some i') : AtW s i' ∧ i'.2.1 = i.2.1 + x.1.size + 1 := by
  obtain ⟨hf0, h11⟩ := head_first hh
  have hsz := hx.size
  rcases hx with ⟨hx1, e, he, hx2⟩ | ⟨hx1, _⟩
  · have h1 := he.le
    have h2 := he.lt
    have hz : x.1.size = e - i.2.1 := by rw [hx2, ext_size h1 (by omega)]
    rw [nextW, if_neg (by simp [hx1])] at hn
    split at hn
    · next h0 =>
      have hi := h.zero h0
      subst hi
      cases hn
      obtain rfl := he.det hf0
      refine ⟨⟨?_, ?_, ?_, fun h => by simp at h, by simp, by simp, fun _ => ⟨s.size, by omega, ?_⟩⟩, rfl⟩
      · dsimp only at hz ⊢; omega
      · dsimp only at hz ⊢; omega
      · simp
      · have e11 : 0 + x.1.size + 1 = 11 := by dsimp only at hz ⊢; omega
        dsimp only
        rw [e11, parseW_head hs hh]
        rfl
    · next h0 =>
      obtain ⟨f, hf, hr⟩ := h.step h0 he
      rw [← hx2] at hr
      split at hn
      · cases hn
      · next hk =>
        rw [if_neg hk] at hr
        split at hn
        · cases hn
        · next hm =>
          rw [if_neg hm] at hr
          cases hn
          have hc := h.count
          have hle := h.len
          refine ⟨⟨?_, ?_, ?_, fun h => by simp at h, ?_, ?_, fun _ => ⟨f, ?_, ?_⟩⟩, rfl⟩
          · dsimp only; omega
          · dsimp only; omega
          · simp; omega
          · dsimp only
            rw [List.map_append, List.nodup_append]
            refine ⟨h.nd, by simp, fun u hu v hv => ?_⟩
            simp at hv
            subst hv
            rintro rfl
            exact hm hu
          · intro y hy
            rcases List.mem_append.1 hy with hy | hy
            · exact h.small y hy
            · simp at hy
              subst hy
              exact (parseE_ok (s := x.1.data.toList) (by simpa using hk)).2
          · dsimp only; omega
          · dsimp only
            rw [hr, show i.2.1 + x.1.size + 1 = e + 1 by omega]
  · rw [nextW, if_pos hx1] at hn
    cases hn
theorem atW_fin {s : ByteArray} (hh : headW <+: s.data.toList) {i : StW} (h : AtW s i) (hp : i.2.1 = s.size) : parseW s.data.toList = (0, 0, sortE i.2.2) := by
  obtain ⟨hf0, h11⟩ := head_first hh
  have h0 : i.1 ≠ 0 := fun h0 => by
    rw [h.zero h0] at hp
    dsimp only at hp
    omega
  obtain ⟨f, hf, hr⟩ := h.read h0
  have hl : s.data.toList.length = s.size := by simp
  rw [hr, List.drop_of_length_le (by omega)]
  cases f with
  | zero => rw [readW]
  | succ f => rw [readW, if_pos rfl]
theorem atW_stop {s : ByteArray} (hh : headW <+: s.data.toList) {i : StW} {x : ByteArray × Bool} (h : AtW s i) (hx : OkW s i x) (hn : nextW i x = none) : i.1 ≠ 0 ∧ parseW s.data.toList = (errW x, ((i.1 + 1 : Nat) : Int), []) := by
  obtain ⟨hf0, h11⟩ := head_first hh
  rcases hx with ⟨hx1, e, he, hx2⟩ | ⟨hx1, hlt, hno, hx2⟩
  · rw [nextW, if_neg (by simp [hx1])] at hn
    split at hn
    · cases hn
    · next h0 =>
      refine ⟨h0, ?_⟩
      obtain ⟨f, hf, hr⟩ := h.step h0 he
      rw [← hx2] at hr
      rw [errW, if_neg (by simp [hx1])]
      split at hn
      · next hk => rw [if_pos hk] at hr ⊢; exact hr
      · next hk =>
        rw [if_neg hk] at hr ⊢
        split at hn
        · next hm => rw [if_pos hm] at hr; exact hr
        · cases hn
  · have h0 : i.1 ≠ 0 := fun h0 => by
      rw [h.zero h0] at hno
      exact hno 10 (by simp) (by omega) hf0.here
    refine ⟨h0, ?_⟩
    obtain ⟨f, hf, hr⟩ := h.read h0
    have hl : s.data.toList.length = s.size := by simp
    have hc := h.pos
    obtain ⟨f, rfl⟩ : ∃ g, f = g + 1 := ⟨f - 1, by omega⟩
    have hne : ¬ s.data.toList.drop i.2.1 = [] := by
      rw [List.drop_eq_nil_iff]
      omega
    rw [hr, readW, if_neg hne, lineOf_no hno, errW, if_pos hx1]
    rfl
theorem parseW_bad {s : List UInt8} {k m : Int} {l : List EntryV} (h : parseW s = (k, m, l)) (hk : k ≠ 0) : l = [] := by
  have go : ∀ (f : Nat) (n : Int) (acc : List EntryV) (t : List UInt8), readW f n acc t = (k, m, l) → l = [] := by
    intro f
    induction f with
    | zero => intro n acc t h; rw [readW] at h; cases h; exact absurd rfl hk
    | succ f ih =>
      intro n acc t h
      rw [readW] at h
      split at h
      · cases h; exact absurd rfl hk
      · split at h
        · cases h; rfl
        · split at h
          · cases h; rfl
          · split at h
            · cases h; rfl
            · exact ih _ _ _ h
  unfold parseW at h
  split at h
  · cases h; rfl
  · split at h
    · exact go _ _ _ _ h
    · cases h; rfl
end Go.Proofs.YtephllgddhncgaaGreatDoor.Lex
/- A range over a function whose body goes on from state to state, or returns. -/
namespace Go.Proofs.YtephllgddhncgaaGreatDoor.Lex
open Go.RowKit
set_option linter.unusedVariables false
/-- A round's own records. -/
def isLD : Obj → Bool
  | .loop _ => true
  | .deferred _ => true
  | _ => false
/-- Loops and deferred calls are kept (maps need not be). -/
structure KeepsLD (W W' : World) : Prop where
  size : W.heap.size ≤ W'.heap.size
  same : ∀ (k : Nat) (o : Obj), W.heap[k]? = some o → isLD o = true → W'.heap[k]? = some o
theorem KeepsLD.refl (W : World) : KeepsLD W W := ⟨Nat.le_refl _, fun _ _ h _ => h⟩
theorem KeepsLD.trans {A B C : World} (h : KeepsLD A B) (k : KeepsLD B C) : KeepsLD A C := ⟨Nat.le_trans h.size k.size, fun b o hb ho => k.same b o (h.same b o hb ho) ho⟩
/-- What changes no block but those from n on and some that hold no such record. -/
theorem KeepsLD.of {W W' : World} (hs : W.heap.size ≤ W'.heap.size) (h : ∀ b, b < W.heap.size → W'.heap[b]? = W.heap[b]? ∨ ∃ o, W.heap[b]? = some o ∧ isLD o = false) : KeepsLD W W' := ⟨hs, fun b o hb ho => by
  rcases h b (Array.getElem?_eq_some_iff.1 hb).1 with e | ⟨o', e, hf⟩
  · rw [e, hb]
  · rw [hb] at e
    cases e
    rw [ho] at hf
    cases hf⟩
/-- How a round must end: on, at the next state, or left. -/
def walksOn {σ : Type} (Kp : World → World → Prop) (J : σ → World → Prop) (nx : Option σ) (Z : World → Prop) (W : World) : Exit → Act → World → Prop
  | .normal, _, W' => ∃ s', nx = some s' ∧ KeepsLD W W' ∧ Kp W W' ∧ J s' W'
  | .ret, _, W' => nx = none ∧ KeepsLD W W' ∧ Z W'
  | _, _, _ => False
theorem wp_rangeWalk {α σ : Type} {F : Fence} {n : Nat} {P : Program} {g : Operand} {ps : Array Tmp} {assign body : Code} {Q : Exit → Act → World → Prop} {a : Act} {w : World}
    (hro : F.round = none) (h1 : 1 ≤ n) {gf : Nat} {lb : Array Value} (hg : a.eval g = .func (.func gf) #[] lb) (hFg : F.fn gf) (eg : ∀ args w, (callFunc gf args).run P w = .ok (.enter gf args) w)
    (encs : α → Array Value) (hps : ∀ x, (encs x).size = ps.size) (next : σ → α → Option σ) (J : σ → World → Prop) (Z : σ → α → World → Prop) (Ok : σ → α → Prop) (Fin : σ → Prop) (Kp : World → World → Prop) (s0 : σ) (h0 : J s0 w)
    (hKt : ∀ A B C, Kp A B → Kp B C → Kp A C) (hKp : ∀ W l o o', w.heap.size ≤ l → l < w.heap.size + 2 → W.heap[l]? = some o → o.isCells = false → Kp W (W.putObj l o'))
    (hJb : ∀ i W W', J i W → Below W.heap.size W W' → J i W')
    (hJp : ∀ i W l o o', J i W → w.heap.size ≤ l → l < w.heap.size + 2 → W.heap[l]? = some o → o.isCells = false → J i (W.putObj l o'))
    (hZb : ∀ i x W W', Z i x W → Below W.heap.size W W' → Z i x W')
    (hZp : ∀ i x W l o o', Z i x W → w.heap.size ≤ l → l < w.heap.size + 2 → W.heap[l]? = some o → o.isCells = false → Z i x (W.putObj l o'))
    (hseq : ∀ (l : Nat) (K : σ → World → Prop) (Zk : σ → α → World → Prop) (W : World), Below w.heap.size w W → (∀ i W W', K i W → Below W.heap.size W W' → K i W') → (∀ i x W W', Zk i x W → Below W.heap.size W W' → Zk i x W') →
      (∀ i x W1, Ok i x → K i W1 → YieldAt F (n - 1 - 1) P l (encs x) W1 fun e W' => (∃ i', next i x = some i' ∧ e = .returned (.bool true) ∧ K i' W' ∧ Kp W1 W') ∨ (next i x = none ∧ e = .returned (.bool false) ∧ Zk i x W')) → K s0 W →
      CallsIn F (n - 1) P gf (#[.func (.yield l) #[] #[]] ++ lb) W fun e W' => (∃ v, e = .returned v) ∧ ((∃ i, Fin i ∧ K i W') ∨ ∃ i x, Ok i x ∧ next i x = none ∧ Zk i x W'))
    (a₁ : α → Act)
    (hassign : ∀ (l : Nat) (x : α) (W : World) (K : Act → World → Prop), K (a₁ x) W →
      assign.wpIn (F.inRound l) (n - 1 - 1) P (Exit.then K (fun _ _ _ => False)) { tmps := (ps.zip (encs x)).foldl (fun t (p, v) => t.setIfInBounds p v) a.tmps, defers := [] } W)
    (hbody : ∀ (l : Nat) (i : σ) (x : α) (W : World), w.heap.size + 2 ≤ W.heap.size → Ok i x → J i W → body.wpIn (F.inRound l) (n - 1 - 1) P (walksOn Kp J (next i x) (Z i x) W) (a₁ x) W)
    (hdone : ∀ (D : Nat) (i : σ) (W : World), w.heap.size ≤ D → Fin i → J i W → W.heap[D]? = some (.deferred (some [])) → Q .normal { a with defers := { target := .collected D, args := #[] } :: a.defers } W)
    (hstop : ∀ (D : Nat) (i : σ) (x : α) (W : World), w.heap.size ≤ D → Ok i x → next i x = none → Z i x W → W.heap[D]? = some (.deferred (some [])) → Code.ret.wpIn F n P Q { a with defers := { target := .collected D, args := #[] } :: a.defers } W) :
    (Code.rangeFunc g ps assign body).wpIn F n P Q a w := by
  refine wpIn_rangeFunc fun fn hfn => ?_
  rw [hro]
  obtain ⟨rec, hrec⟩ : ∃ rec : LoopState → Option Code → Loop, rec = fun st pe => { state := st, pending := pe, fn, tmps := a.tmps, params := ps, assign, body, defers := w.heap.size } := ⟨_, rfl⟩
  obtain ⟨W1, hW1⟩ : ∃ W1, (w.alloc (.deferred (some []))).alloc (.loop (rec .ready none)) = W1 := ⟨_, rfl⟩
  have hbW : Below w.heap.size w W1 := by rw [← hW1]; exact ((Below.refl _ w).alloc (Nat.le_refl _) _).alloc (by simp) _
  have hL1 : W1.heap[w.heap.size + 1]? = some (.loop (rec .ready none)) := by
    rw [← hW1]; have := World.alloc_heap_new (w.alloc (.deferred (some []))) (.loop (rec .ready none)); rwa [World.size_alloc] at this
  have hD1 : W1.heap[w.heap.size]? = some (.deferred (some [])) := by
    rw [← hW1]; exact (Below.heap_alloc _ _ _ (by simp)).trans (World.alloc_heap_new w _)
  refine ⟨w.heap.size + 1, [{ target := .collected w.heap.size, args := #[] }], W1, { target := .fn (.func gf) lb, args := #[.func (.yield (w.heap.size + 1)) #[] #[]] }, W1, gf,
    #[.func (.yield (w.heap.size + 1)) #[] #[]] ++ lb, W1, ?_, ?_, ?_, ?_, fun _ => h1, ?_⟩
  · rw [← hW1, hrec]; exact run_enterLoop_outer _ _ _ _ _
  · simp only [resolve, hg]
    simp [go_sem]
  · intro f' hf'; simp [Target.leads] at hf'; subst hf'; exact hFg
  · simp [invoke, go_sem, eg]
  · have stays : ∀ {k : Nat} {o : Obj} {A B : World}, A.heap[k]? = some o → Below A.heap.size A B → B.heap[k]? = some o := fun hk hb => (hb.block _ (Array.getElem?_eq_some_iff.1 hk).1).trans hk
    have begin_ : ∀ (x : α) (W : World) (R : Ending → World → Prop), W.heap[w.heap.size + 1]? = some (.loop (rec .ready none)) → W.heap[w.heap.size]? = some (.deferred (some [])) →
        (∀ (W2 : World), W2 = W.putObj (w.heap.size + 1) (.loop { rec .ready none with state := .busy }) → W2.heap[w.heap.size + 1]? = some (.loop { rec .ready none with state := .busy }) → W2.heap[w.heap.size]? = some (.deferred (some [])) →
          body.wpIn (F.inRound (w.heap.size + 1)) (n - 1 - 1) P (roundPost P (w.heap.size + 1) R) (a₁ x) W2) →
        YieldAt F (n - 1 - 1) P (w.heap.size + 1) (encs x) W R := by
      intro x W R hl hk hB
      have hy := run_yield (P := P) (args := encs x) hl (by rw [hrec]; exact hps x)
      rw [hrec] at hy
      have hlt : w.heap.size + 1 < W.heap.size := (Array.getElem?_eq_some_iff.1 hl).1
      exact ⟨fn, _, assign, body, hy, roundIn_of_wpIn hfn (hassign _ x W _ ⟨_, run_beginRound hl (by rw [hrec]), hB _ rfl (World.putObj_heap_same hlt) ((World.putObj_heap_other (by omega)).trans hk)⟩)⟩
    refine (hseq (w.heap.size + 1) (fun i W => J i W ∧ W.heap[w.heap.size + 1]? = some (.loop (rec .ready none)) ∧ W.heap[w.heap.size]? = some (.deferred (some [])))
      (fun i x W => Z i x W ∧ W.heap[w.heap.size + 1]? = some (.loop (rec .done (some .ret))) ∧ W.heap[w.heap.size]? = some (.deferred (some []))) W1 hbW
      (fun i A B h hb => ⟨hJb i A B h.1 hb, stays h.2.1 hb, stays h.2.2 hb⟩) (fun i x A B h hb => ⟨hZb i x A B h.1 hb, stays h.2.1 hb, stays h.2.2 hb⟩) ?_ ⟨hJb s0 w W1 h0 hbW, hL1, hD1⟩).mono ?_
    · rintro i x W hok ⟨hi, hl, hk⟩
      refine begin_ x W _ hl hk fun W2 hW2 hl2 hk2 => ?_
      subst hW2
      refine wpIn_mono (hbody _ i x _ (by rw [World.putObj_size]; have := (Array.getElem?_eq_some_iff.1 hl).1; omega) hok (hJp i W _ _ _ hi (by omega) (by omega) hl rfl)) ?_
      rintro e a3 W3 hp
      cases e with
      | normal =>
        obtain ⟨i', hn, hk3, hkp, hi3⟩ := hp
        have hl3 := hk3.same _ _ hl2 rfl
        have hend := run_endRound (P := P) none hl3
        refine ⟨_, _, hend, .inl ⟨i', hn, rfl, ⟨hJp _ W3 _ _ _ hi3 (by omega) (by omega) hl3 rfl, ?_, (World.putObj_heap_other (by omega)).trans (hk3.same _ _ hk2 rfl)⟩, hKt _ _ _ (hKp W _ _ _ (by omega) (by omega) hl rfl) (hKt _ _ _ hkp (hKp W3 _ _ _ (by omega) (by omega) hl3 rfl))⟩⟩
        rw [World.putObj_heap_same (Array.getElem?_eq_some_iff.1 hl3).1, hrec]
        rfl
      | ret =>
        obtain ⟨hn, hk3, hi3⟩ := hp
        have hl3 := hk3.same _ _ hl2 rfl
        have hend := run_endRound (P := P) (some .ret) hl3
        refine ⟨_, _, hend, .inr ⟨hn, rfl, hZp i x W3 _ _ _ hi3 (by omega) (by omega) hl3 rfl, ?_, (World.putObj_heap_other (by omega)).trans (hk3.same _ _ hk2 rfl)⟩⟩
        rw [World.putObj_heap_same (Array.getElem?_eq_some_iff.1 hl3).1, hrec]
        rfl
      | exit id => exact hp.elim
      | goto t => exact hp.elim
      | panic ch => exact hp.elim
      | outgrown => exact hp.elim
    · rintro e W2 ⟨⟨v, rfl⟩, (⟨i, hf, hi, hl, hk⟩ | ⟨i, x, hok, hn, hi, hl, hk⟩)⟩
      · have hend := run_endLoop (P := P) hl (by rw [hrec]; simp)
        exact ⟨none, _, by rw [hrec] at hend; exact hend, hdone _ i _ (Nat.le_refl _) hf (hJp _ W2 _ _ _ hi (by omega) (by omega) hl rfl) ((World.putObj_heap_other (by omega)).trans hk)⟩
      · have hend := run_endLoop (P := P) hl (by rw [hrec]; simp)
        exact ⟨some .ret, _, by rw [hrec] at hend; exact hend, hstop _ i x _ (Nat.le_refl _) hok hn (hZp i x W2 _ _ _ hi (by omega) (by omega) hl rfl) ((World.putObj_heap_other (by omega)).trans hk)⟩
end Go.Proofs.YtephllgddhncgaaGreatDoor.Lex
/- wisdom.lines: a text's lines, one by one. -/
namespace Go.Proofs.YtephllgddhncgaaGreatDoor.Lex
open Go.RowKit Go.Shelf Stab
set_option linter.unusedSimpArgs false
set_option linter.unusedVariables false
attribute [local go_sem] Oper.semAt_some
set_option maxRecDepth 100000 in
theorem linesF_any (s : ByteArray) (w : World) : Calls Tryz.prog 27 #[.string s] w fun e w' => e = .returned (.func (.func 44) #[] #[.pointer (some ⟨w.heap.size, 0, none⟩)]) ∧ w' = w.alloc (.cells #[.string s] 9) := by
  go_enter Tryz.func27, Tryz.ntmps27
  go_wp2_with fail
  go_ret
  exact ⟨rfl, rfl⟩
/-- The text's box is kept. -/
def KpS (B : Nat) (s : ByteArray) (W W' : World) : Prop := W.heap[B]? = some (.cells #[.string s] 9 (0, 0)) → W'.heap[B]? = some (.cells #[.string s] 9 (0, 0))
set_option maxRecDepth 100000 in
set_option maxHeartbeats 4000000 in
theorem lines1_any (s : ByteArray) (hs : s.size ≤ 65536) (hh : headW <+: s.data.toList) (L B m : Nat) (K : StW → World → Prop) (Zk : StW → ByteArray × Bool → World → Prop) (hKb : ∀ i W W', K i W → Below W.heap.size W W' → K i W')
    (hY : ∀ (m : Nat) (i : StW) (x : ByteArray × Bool) (W1 : World), AtW s i ∧ OkW s i x → K i W1 → YieldAt Fence.wide m Tryz.prog L #[.string x.1, .bool x.2] W1 fun e W' => (∃ i', nextW i x = some i' ∧ e = .returned (.bool true) ∧ K i' W' ∧ KpS B s W1 W') ∨ (nextW i x = none ∧ e = .returned (.bool false) ∧ Zk i x W'))
    (W : World) (hK : K (0, 0, []) W) (hB : W.heap[B]? = some (.cells #[.string s] 9 (0, 0))) :
    CallsIn Fence.wide m Tryz.prog 44 #[.func (.yield L) #[] #[], .pointer (some ⟨B, 0, none⟩)] W fun e W' => (∃ v, e = .returned v) ∧ ((∃ i, (AtW s i ∧ i.2.1 = s.size) ∧ K i W') ∨ ∃ i x, (AtW s i ∧ OkW s i x) ∧ nextW i x = none ∧ Zk i x W') := by
  have HKB := Lib.hid hKb
  have HY := Lib.hid hY
  have HK := Lib.hid hK
  have HB := Lib.hid hB
  have HH := Lib.hid hh
  have hsz9 : s.size ≤ 9223372036854775800 := by omega
  clear hKb hY hK hB hh
  refine callsIn_of_wp Tryz.func44 rfl trivial ?_ rfl
  simp only [Tryz.ntmps44, List.size_toArray, List.length_cons, List.length_nil, Nat.reduceAdd, Nat.reduceSub, Array.replicate_succ, Array.replicate_zero, List.push_toArray, List.append_toArray, List.nil_append, List.cons_append]
  gi_wp2
  gi_loopg [3] s.size (fun gh iv wr => ∃ i : StW, AtW s i ∧ gh = s.size - i.2.1 ∧ iv = .int .i64 (i.2.1 : Int) ∧ K i wr ∧ wr.heap[B]? = some (.cells #[.string s] 9 (0, 0)))
  case atStart => exact ⟨(0, 0, []), atW_start s, by simp, rfl, HK.out, HB.out⟩
  case round =>
    obtain ⟨⟨q, p, acc⟩, hi, rfl, rfl, hKi, hbx⟩ := hrel
    obtain ⟨wo, rfl⟩ : ∃ wo : World, wo = wr := ⟨_, rfl⟩
    have HI := Lib.hid hi
    have HKI := Lib.hid hKi
    have c0 := cell_at (o := 0) hbx rfl
    have HBX := Lib.hid hbx
    have hp : p ≤ s.size := hi.pos
    clear hi hKi hbx
    dsimp only
    by_cases hlt : p < s.size
    · rcases firstLF_or s p with ⟨e, he⟩ | hno
      · have h1 := he.le
        have h2 := he.lt
        have HL := Lib.hid (line_yes s p e wo hsz9 he)
        have HOK : Hid (OkW s (q, p, acc) (s.extract p e, true)) := Lib.hid (.inl ⟨rfl, e, he, rfl⟩)
        have hz : (s.extract p e).size = e - p := ext_size h1 (by omega)
        have HZ := Lib.hid hz
        obtain ⟨fn, tmps, assign, body, hy, hR⟩ := HY.out (m - 1) (q, p, acc) (s.extract p e, true) wo ⟨HI.out, HOK.out⟩ HKI.out
        clear he hz
        dsimp only at hy
        gi_wp2
        refine ⟨trivial, fun h => (by cases h), ?_⟩
        refine (callsIn_wide.2 HL.out).mono ?_
        rintro e1 w1 ⟨rfl, rfl⟩
        gi_wp2
        refine ⟨fun h => (by cases h), hR.mono ?_⟩
        rintro e2 w2 (⟨i', hn, rfl, hK2, hkp⟩ | ⟨hn, rfl, hZ⟩)
        · have HK2 := Lib.hid hK2
          have HKP := Lib.hid hkp
          have HN := Lib.hid (atW_next hs HH.out HI.out HOK.out hn)
          have he' : i'.2.1 = e + 1 := by have := HN.out.2; rw [this, HZ.out]; dsimp only; omega
          clear hK2 hkp hn hy hR
          gi_wp2
          gi_roundg (s.size - i'.2.1)
          case measure => omega
          case rel => exact ⟨i', HN.out.1, rfl, by rw [he']; go_num, HK2.out, HKP.out HBX.out⟩
        · have HZZ := Lib.hid hZ
          have HN := Lib.hid hn
          clear hZ hn hy hR
          gi_wp2
          refine bodyPost_ret (results_none rfl _ _ _) rfl ?_
          exact ⟨⟨_, rfl⟩, .inr ⟨(q, p, acc), _, ⟨HI.out, HOK.out⟩, HN.out, HZZ.out⟩⟩
      · have HL := Lib.hid (line_no s p wo hsz9 (.inr fun j h1 h2 => hno j (by omega) h2))
        have HOK : Hid (OkW s (q, p, acc) (s.extract p s.size, false)) := Lib.hid (.inr ⟨rfl, hlt, hno, rfl⟩)
        obtain ⟨fn, tmps, assign, body, hy, hR⟩ := HY.out (m - 1) (q, p, acc) (s.extract p s.size, false) wo ⟨HI.out, HOK.out⟩ HKI.out
        clear hno
        dsimp only at hy
        gi_wp2
        refine ⟨trivial, fun h => (by cases h), ?_⟩
        refine (callsIn_wide.2 HL.out).mono ?_
        rintro e1 w1 ⟨rfl, rfl⟩
        gi_wp2
        refine ⟨fun h => (by cases h), hR.mono ?_⟩
        rintro e2 w2 (⟨i', hn, rfl, hK2, hkp⟩ | ⟨hn, rfl, hZ⟩)
        · exact absurd hn (by simp [nextW])
        · have HZZ := Lib.hid hZ
          have HN := Lib.hid hn
          clear hZ hn hy hR
          gi_wp2
          refine bodyPost_ret (results_none rfl _ _ _) rfl ?_
          exact ⟨⟨_, rfl⟩, .inr ⟨(q, p, acc), _, ⟨HI.out, HOK.out⟩, HN.out, HZZ.out⟩⟩
    · gi_wp2
      go_end0
      exact ⟨⟨_, rfl⟩, .inl ⟨q, p, acc, ⟨HI.out, by omega⟩, HKI.out⟩⟩
end Go.Proofs.YtephllgddhncgaaGreatDoor.Lex
/- A row of the call's own that grows, of whatever reading; of entries. -/
namespace Go.Proofs.YtephllgddhncgaaGreatDoor
open Go.RowKit
set_option linter.unusedVariables false
/-- A row of the call's own, from block B on, that shows what the reading says: it leans on blocks from B on, and on none of the row's own. -/
structure Gro {α : Type} (r : Rd α) (size : Nat) (e : TypeId) (B : Nat) (w : World) (v : Value) (l : List α) (xs : List Value) : Prop where
  row : w.ownsRow B e size v l.length xs
  at_ : ∀ i d, l[i]? = some d → r (fun b => B ≤ b ∧ some b ≠ v.ownBlock) w ((xs.drop (i * size)).take size) d
section
variable {α : Type} {r : Rd α} {size : Nat} {e : TypeId} {B : Nat}
theorem Gro.nil (w : World) : Gro r size e B w (.slice none 0 0) [] [] := ⟨World.ownsRow_nil w _ _ _, fun i d h => by simp at h⟩
theorem Gro.below {w w' : World} {v : Value} {l : List α} {xs : List Value} (hr : r.Ok size) (h : Gro r size e B w v l xs) (hb : Below w.heap.size w w') : Gro r size e B w' v l xs :=
  ⟨own_below h.row hb, fun i d hi => hr.keep (h.at_ i d hi) (Fix.of_below hb)⟩
theorem Gro.setCell {w : World} {v : Value} {l : List α} {xs : List Value} (hr : r.Ok size) (h : Gro r size e B w v l xs) {a : Addr} (ha : a.block < B) (u : Value) : Gro r size e B (w.setCell a u) v l xs :=
  ⟨ownsRow_setCell_below h.row ha u, fun i d hi => hr.keep (h.at_ i d hi) (Fix.setCell w a u fun hf => by have := hf.1; omega)⟩
/-- What changes no block from B on keeps it. -/
theorem Gro.fix {w w' : World} {v : Value} {l : List α} {xs : List Value} (hr : r.Ok size) (h : Gro r size e B w v l xs) (hs : w.heap.size ≤ w'.heap.size) (hb : ∀ b, B ≤ b → b < w.heap.size → w'.heap[b]? = w.heap[b]?) : Gro r size e B w' v l xs := by
  refine ⟨⟨h.row.1, ?_⟩, fun i d hi => hr.keep (h.at_ i d hi) ⟨hs, fun b hlt hf => hb b hf.1 hlt⟩⟩
  rcases h.row.2 with hn | ⟨g, cap, cur, rfl, hbg, hg, rest⟩
  · exact .inl hn
  · exact .inr ⟨g, cap, cur, rfl, hbg, by rw [hb g hbg (Array.getElem?_eq_some_iff.1 hg).1]; exact hg, rest⟩
theorem Gro.add {wm w3 : World} {v v' : Value} {l : List α} {xs cs : List Value} {d : α} (hr : r.Ok size) (h : Gro r size e B wm v l xs) (hd : r (fun b => B ≤ b ∧ some b ≠ v.ownBlock) wm cs d)
    (ho : w3.ownsRow B e size v' (l.length + 1) (xs ++ cs)) (hg : wm.grownBy w3 v.ownBlock) (hat : v'.ownBlock = v.ownBlock ∨ v'.ownBlock = some wm.heap.size) : Gro r size e B w3 v' (l ++ [d]) (xs ++ cs) := by
  have hl := h.row.1
  have hc := hr.len hd
  have fx : Fix (fun b => some b ≠ v.ownBlock) wm w3 := .of_grown hg fun b _ hf => hf
  have nv : ∀ b, b < wm.heap.size → some b ≠ v.ownBlock → some b ≠ v'.ownBlock := fun b hb hn e => by
    rcases hat with h | h
    · exact hn (e.trans h)
    · rw [h] at e; cases e; omega
  refine ⟨by rw [List.length_append]; exact ho, fun i x hi => ?_⟩
  have put : ∀ {ys : List Value} {y : α}, r (fun b => B ≤ b ∧ some b ≠ v.ownBlock) wm ys y → r (fun b => B ≤ b ∧ some b ≠ v'.ownBlock) w3 ys y := fun {ys y} hy => by
    have g := hr.mono (G := fun b => (B ≤ b ∧ some b ≠ v.ownBlock) ∧ b < wm.heap.size) hy fun b hb hf => ⟨hf, hb⟩
    have g2 := hr.keep g (fx.mono fun b _ hf => hf.1.2)
    exact hr.mono g2 fun b _ hf => ⟨hf.1.1, nv b hf.2 hf.1.2⟩
  by_cases hlt : i < l.length
  · rw [List.getElem?_append_left hlt] at hi
    have g3 := put (h.at_ i x hi)
    have hm : (i + 1) * size ≤ l.length * size := Nat.mul_le_mul_right _ hlt
    rw [Nat.succ_mul] at hm
    have e : ((xs ++ cs).drop (i * size)).take size = (xs.drop (i * size)).take size := by
      rw [List.drop_append_of_le_length (by omega), List.take_append_of_le_length (by rw [List.length_drop]; omega)]
    rw [e]
    exact g3
  · rw [List.getElem?_append_right (by omega)] at hi
    have hi0 : i - l.length = 0 := by have := (List.getElem?_eq_some_iff.1 hi).1; simp at this; omega
    rw [hi0] at hi
    obtain rfl : d = x := by simpa using hi
    obtain rfl : i = l.length := by omega
    have g3 := put hd
    have e : ((xs ++ cs).drop (l.length * size)).take size = cs := by
      rw [List.drop_append, List.drop_of_length_le (by omega), List.nil_append, hl, Nat.sub_self, List.drop_zero, List.take_of_length_le (by omega)]
    rw [e]
    exact g3
theorem Gro.slice {w : World} {v : Value} {l : List α} {xs : List Value} (h : Gro r size e B w v l xs) : ∃ a c, v = .slice a l.length c := by
  rcases h.row.2 with ⟨q1, q2⟩ | ⟨g, cap, cur, q1, _⟩
  · rw [q2]; exact ⟨_, _, q1⟩
  · exact ⟨_, _, q1⟩
theorem Gro.rowOf {w : World} {v : Value} {l : List α} {xs : List Value} {bytes : Nat} (hr : r.Ok size) (hs0 : 0 < size) (h : Gro r size e B w v l xs) (hroom : l.length * bytes ≤ 140737488351232) : ∃ a cap, v = .slice a l.length cap ∧ RowOf r size bytes (From B) w a l.length cap l :=
  RowOf.of_owns h.row hs0 rfl hroom (fun b hb => own_lt h.row b hb) fun i x hx => by
    have g := h.at_ i x hx
    exact ⟨hr.len g, hr.mono g fun b _ hf => hf.1⟩
end
theorem entElemG : Elem Tryz.prog 22 44 5 56 := ⟨Tryz.underlying22, ⟨.agg #[.int .i64 0, .int .i64 0, .int .i64 0, .int .i64 0, .slice none 0 0], by kernel_rfl, rfl⟩, by omega⟩
/-- A row of entries that grows. -/
abbrev GroE (k B : Nat) (w : World) (v : Value) (l : List EntryV) (xs : List Value) : Prop := Gro (entryRd k) 5 44 B w v l xs
theorem one5 {p q k n : Int} {a : Option Addr} {m c : Nat} : ∀ u ∈ [Value.int .i64 p, .int .i64 q, .int .i64 k, .int .i64 n, .slice a m c], u.oneCell' = true := by
  intro u hu
  simp only [List.mem_cons, List.not_mem_nil, or_false] at hu
  rcases hu with rfl | rfl | rfl | rfl | rfl <;> rfl
end Go.Proofs.YtephllgddhncgaaGreatDoor
/- A map from keys to numbers: what was seen. -/
namespace Go.Proofs.YtephllgddhncgaaGreatDoor
open Go.RowKit
set_option linter.unusedVariables false
set_option linter.unusedSimpArgs false
theorem key_eq (a b c d : Int) (w : World) : (Op.equal 39 (.agg #[.int .i64 a, .int .i64 b]) (.agg #[.int .i64 c, .int .i64 d])).run Tryz.prog w = .ok (a == c && b == d) w := by
  have h := run_equalIn_struct w (P := Tryz.prog) 9999 39 #[.int .i64 a, .int .i64 b] #[.int .i64 c, .int .i64 d] (by kernel_rfl) (by kernel_rfl)
  refine (show (Op.equal 39 _ _).run Tryz.prog w = _ from h).trans ?_
  clear h
  by_cases h : a = c
  · by_cases h2 : b = d
    · subst h; subst h2
      go_simp
    · subst h
      have h3 : (b == d) = false := by simpa using h2
      go_simp
  · have h3 : (a == c) = false := by simpa using h
    go_simp
theorem key_check (em : Bool) (a b : Int) (w : World) : (Instr.checkKey em 10000 39 (.agg #[.int .i64 a, .int .i64 b])).run Tryz.prog w = .ok () w := by kernel_rfl
theorem key_stays (a b : Int) (w : World) : (Instr.keyThatStays (.agg #[.int .i64 a, .int .i64 b]) (.agg #[.int .i64 a, .int .i64 b])).run Tryz.prog w = .ok (.agg #[.int .i64 a, .int .i64 b]) w := by
  simp [Instr.keyThatStays, Instr.sameBits]
abbrev keyVal (k : KeyV) : Value := .agg #[.int .i64 k.1, .int .i64 k.2]
theorem keyVal_inj {a b : KeyV} (h : keyVal a = keyVal b) : a = b := by
  simp [keyVal] at h
  exact Prod.ext h.1 h.2
/-- Where a key stands among entries of a map. -/
theorem find_key (k : KeyV) (w : World) : ∀ (es : List MapEntry) (ks : List KeyV) (i : Nat), es.map (·.key) = ks.map keyVal →
    ((Instr.findAsking 39 (keyVal k) es i).run Tryz.prog w = .ok none w ∧ k ∉ ks) ∨ ∃ j e, (Instr.findAsking 39 (keyVal k) es i).run Tryz.prog w = .ok (some (i + j, e.val)) w ∧ es[j]? = some e ∧ e.key = keyVal k ∧ k ∈ ks
  | [], ks, i, h => by
    have : ks = [] := by simpa using h.symm
    subst this
    exact .inl ⟨by simp [Instr.findAsking], by simp⟩
  | e :: es, [], i, h => by simp at h
  | e :: es, x :: ks, i, h => by
    rw [List.map_cons, List.map_cons] at h
    obtain ⟨h1, h2⟩ := List.cons.inj h
    have hq : (Op.equal 39 (keyVal k) e.key).run Tryz.prog w = .ok (k.1 == x.1 && k.2 == x.2) w := by rw [h1]; exact key_eq _ _ _ _ w
    by_cases hx : k = x
    · subst hx
      refine .inr ⟨0, e, ?_, rfl, h1, by simp⟩
      simp [Instr.findAsking, hq, Result.andThen]
    · have hf : (k.1 == x.1 && k.2 == x.2) = false := by
        cases hc : (k.1 == x.1 && k.2 == x.2) with
        | false => rfl
        | true => simp at hc; exact absurd (Prod.ext hc.1 hc.2) hx
      rw [hf] at hq
      have hstep : (Instr.findAsking 39 (keyVal k) (e :: es) i).run Tryz.prog w = (Instr.findAsking 39 (keyVal k) es (i + 1)).run Tryz.prog w := by
        simp [Instr.findAsking, hq, Result.andThen]
      rcases find_key k w es ks (i + 1) h2 with ⟨r1, r2⟩ | ⟨j, e', r1, r2, r3, r4⟩
      · exact .inl ⟨by rw [hstep, r1], by simp [hx, r2]⟩
      · exact .inr ⟨j + 1, e', by rw [hstep, r1, show i + 1 + j = i + (j + 1) by omega], by simpa using r2, r3, by simp [r4]⟩
set_option maxRecDepth 100000 in
theorem find_map (k : KeyV) (w : World) (es : List MapEntry) (ks : List KeyV) (h : es.map (·.key) = ks.map keyVal) :
    ((Instr.findKey 39 (keyVal k) es).run Tryz.prog w = .ok none w ∧ k ∉ ks) ∨ ∃ j e, (Instr.findKey 39 (keyVal k) es).run Tryz.prog w = .ok (some (j, e.val)) w ∧ es[j]? = some e ∧ e.key = keyVal k ∧ k ∈ ks := by
  cases es with
  | nil =>
    have : ks = [] := by simpa using h.symm
    subst this
    exact .inl ⟨by rw [Instr.findKey, Sem.run_bind, run_underlying Tryz.underlying39]; rfl, by simp⟩
  | cons e es =>
    have hs : (Instr.findKey 39 (keyVal k) (e :: es)).run Tryz.prog w = (Instr.findAsking 39 (keyVal k) (e :: es) 0).run Tryz.prog w := by
      unfold Instr.findKey
      rw [Sem.run_bind, run_underlying Tryz.underlying39]
      rfl
    rw [hs]
    rcases find_key k w (e :: es) ks 0 h with ⟨r1, r2⟩ | ⟨j, e', r1, r2, r3, r4⟩
    · exact .inl ⟨r1, r2⟩
    · exact .inr ⟨j, e', by rw [r1, Nat.zero_add], r2, r3, r4⟩
/-- The map in block b: these keys were seen once each. -/
def Seen (w : World) (b : Nat) (ks : List KeyV) : Prop :=
  ∃ es clock, w.heap[b]? = some (.map es clock) ∧ (∀ x ∈ es.toList, x.born < clock) ∧ (es.toList.map (·.born)).Nodup ∧ es.toList.map (·.key) = ks.map keyVal ∧ ks.Nodup ∧ ∀ x ∈ es.toList, x.val = .int .i64 1
theorem seen_new (w : World) : (Instr.makeMap 60 none).run Tryz.prog w = .ok (.map (some w.heap.size)) (w.alloc (.map #[] 0)) ∧ Seen (w.alloc (.map #[] 0)) w.heap.size [] := by
  refine ⟨by kernel_rfl, #[], 0, heap_alloc_new w _, by simp, by simp, by simp, by simp, by simp⟩
theorem Seen.same {w w' : World} {b : Nat} {ks : List KeyV} (h : Seen w b ks) (e : w'.heap[b]? = w.heap[b]?) : Seen w' b ks := by
  obtain ⟨es, clock, h1, h2⟩ := h
  exact ⟨es, clock, e.trans h1, h2⟩
theorem Seen.lt {w : World} {b : Nat} {ks : List KeyV} (h : Seen w b ks) : b < w.heap.size := by
  obtain ⟨es, clock, h1, h2⟩ := h
  exact (Array.getElem?_eq_some_iff.1 h1).1
theorem zero_int (w : World) : (zeroValue 3).run Tryz.prog w = .ok (.int .i64 0) w := by kernel_rfl
set_option maxRecDepth 100000 in
theorem seen_no {w : World} {b : Nat} {ks : List KeyV} (h : Seen w b ks) {k : KeyV} (hk : k ∉ ks) :
    ∃ W1 st, (Instr.mapEntry 60 (.map (some b)) (keyVal k)).run Tryz.prog w = .ok (.tuple #[.int .i64 0, .int .i64 st]) W1 ∧ (∃ es c, W1 = w.putObj b (.map es c)) ∧
      (∀ u : World, u.heap[b]? = w.heap[b]? → (Instr.lookup 60 (.map (some b)) (keyVal k) false).run Tryz.prog u = .ok (.int .i64 0) u) ∧
      (∀ u : World, u.heap[b]? = W1.heap[b]? → (Instr.lookup 60 (.map (some b)) (keyVal k) false).run Tryz.prog u = .ok (.int .i64 0) u) ∧
      ∀ u : World, u.heap[b]? = W1.heap[b]? → ∃ es c W2, (Instr.entryStore 60 (.map (some b)) (.int .i64 st) (.int .i64 1)).run Tryz.prog u = .ok () W2 ∧ W2 = u.putObj b (.map es c) ∧ Seen W2 b (ks ++ [k]) ∧
        ∀ u2 : World, u2.heap[b]? = W2.heap[b]? → (Instr.lookup 60 (.map (some b)) (keyVal k) false).run Tryz.prog u2 = .ok (.int .i64 1) u2 := by
  obtain ⟨es, clock, hb, s1, s2, s3, s5, s4⟩ := h
  have hlt := (Array.getElem?_eq_some_iff.1 hb).1
  have hkey : ∀ e ∈ es.toList, e.key ≠ keyVal k := fun e he e2 => hk (by
    have : keyVal k ∈ es.toList.map (·.key) := List.mem_map.2 ⟨e, he, e2⟩
    rw [s3] at this
    obtain ⟨q, hq, e3⟩ := List.mem_map.1 this
    rw [← keyVal_inj e3]
    exact hq)
  have fd : ∀ u : World, (Instr.findKey 39 (keyVal k) es.toList).run Tryz.prog u = .ok none u := fun u => by
    rcases find_map k u es.toList ks s3 with ⟨h1, _⟩ | ⟨_, _, _, _, _, h1⟩
    · exact h1
    · exact absurd h1 hk
  have hks' : ∀ v : Value, ((es.push ⟨keyVal k, v, clock⟩).toList.map (·.key)) = (ks ++ [k]).map keyVal := fun v => by simp [s3]
  have look : ∀ (u : World) (v : Value), u.heap[b]? = some (.map (es.push ⟨keyVal k, v, clock⟩) (clock + 1)) → (Instr.lookup 60 (.map (some b)) (keyVal k) false).run Tryz.prog u = .ok v u := fun u v hu => by
    have hf : (Instr.findKey 39 (keyVal k) (es.push ⟨keyVal k, v, clock⟩).toList).run Tryz.prog u = .ok (some (es.size, v)) u := by
      rcases find_map k u _ _ (hks' v) with ⟨_, h1⟩ | ⟨j, e, h1, h2, h3, _⟩
      · exact absurd (by simp) h1
      · rw [h1]
        have hj : ¬ j < es.toList.length := fun hj => by
          rw [Array.toList_push, List.getElem?_append_left hj] at h2
          exact hkey e (List.mem_of_getElem? h2) h3
        rw [Array.toList_push, List.getElem?_append_right (by omega)] at h2
        have hj0 : j - es.toList.length = 0 := by have := (List.getElem?_eq_some_iff.1 h2).1; simp at this; simp; omega
        rw [hj0] at h2
        have he : e = ⟨keyVal k, v, clock⟩ := by simpa using h2.symm
        have hjs : j = es.size := by simp at hj hj0; omega
        rw [he, hjs]
    have hc := key_check (es.push ⟨keyVal k, v, clock⟩).isEmpty k.1 k.2 u
    simp only [Instr.lookup, Sem.run_bind, run_underlying Tryz.underlying60, Result.andThen_ok, MapKept.run_getObj_map hu, Sem.run_pure, hc, hf]
    simp
  have hidx : (es.push ⟨keyVal k, .int .i64 0, clock⟩).findIdx? (fun e => ((e.born : Nat) : Int) == ((clock : Nat) : Int)) = some es.size := by
    rw [WideElems.findIdx_arr]
    refine WideElems.findIdx_born (l := (es.push ⟨keyVal k, .int .i64 0, clock⟩).toList) (j := es.size) (e0 := ⟨keyVal k, .int .i64 0, clock⟩) ?_ (by simp)
    simp only [Array.toList_push, List.map_append, List.map_cons, List.map_nil]
    refine List.nodup_append.2 ⟨s2, by simp, fun a ha c hc e1 => ?_⟩
    simp only [List.mem_singleton] at hc
    obtain ⟨x, hx, rfl⟩ := List.mem_map.1 ha
    have := s1 x hx
    omega
  have hmod : (es.push ⟨keyVal k, .int .i64 0, clock⟩).modify es.size (fun e => { e with val := .int .i64 1 }) = es.push ⟨keyVal k, .int .i64 1, clock⟩ := by
    apply Array.ext'
    rw [Array.toList_modify, Array.toList_push, Array.toList_push, ← Array.length_toList, WideElems.modify_last]
  refine ⟨w.putObj b (.map (es.push ⟨keyVal k, .int .i64 0, clock⟩) (clock + 1)), clock, ?_, ⟨_, _, rfl⟩, fun u hu => ?_, fun u hu => look u _ (hu.trans (World.putObj_heap_same hlt)), fun u hu => ?_⟩
  · have hc := key_check false k.1 k.2 w
    have hz := zero_int w
    simp only [Instr.mapEntry, Sem.run_bind, run_underlying Tryz.underlying60, Result.andThen_ok, MapKept.run_getObj_map hb, hc, fd w, hz, MapKept.run_setObj_map _ hb, Sem.run_pure]
    rfl
  · have hc := key_check es.isEmpty k.1 k.2 u
    have hz := zero_int u
    simp only [Instr.lookup, Sem.run_bind, run_underlying Tryz.underlying60, Result.andThen_ok, MapKept.run_getObj_map (hu.trans hb), Sem.run_pure, hc, fd u, hz]
    simp
  · have hu' := hu.trans (World.putObj_heap_same hlt)
    have hlu := (Array.getElem?_eq_some_iff.1 hu').1
    refine ⟨es.push ⟨keyVal k, .int .i64 1, clock⟩, clock + 1, _, ?_, rfl, ⟨_, _, World.putObj_heap_same hlu, ?_, ?_, hks' _, by rw [List.nodup_append]; exact ⟨s5, by simp, fun a ha c hc e => hk (by simp at hc; rw [← hc, ← e]; exact ha)⟩, ?_⟩, fun u2 hu2 => look u2 _ (hu2.trans (World.putObj_heap_same hlu))⟩
    · simp only [Instr.entryStore, Sem.run_bind, MapKept.run_getObj_map hu', Result.andThen_ok, asInt, asIntOf, Sem.run_pure, hidx, hmod, MapKept.run_setObj_map _ hu']
      rfl
    · intro x hx
      simp only [Array.toList_push, List.mem_append, List.mem_singleton] at hx
      rcases hx with hx | rfl
      · exact Nat.lt_succ_of_lt (s1 x hx)
      · exact Nat.lt_succ_self _
    · simp only [Array.toList_push, List.map_append, List.map_cons, List.map_nil]
      refine List.nodup_append.2 ⟨s2, by simp, fun a ha c hc e1 => ?_⟩
      simp only [List.mem_singleton] at hc
      obtain ⟨x, hx, rfl⟩ := List.mem_map.1 ha
      have := s1 x hx
      omega
    · intro x hx
      simp only [Array.toList_push, List.mem_append, List.mem_singleton] at hx
      rcases hx with hx | rfl
      · exact s4 x hx
      · rfl
set_option maxRecDepth 100000 in
theorem seen_yes {w : World} {b : Nat} {ks : List KeyV} (h : Seen w b ks) {k : KeyV} (hk : k ∈ ks) :
    ∃ W1 st, (Instr.mapEntry 60 (.map (some b)) (keyVal k)).run Tryz.prog w = .ok (.tuple #[.int .i64 1, .int .i64 st]) W1 ∧ (∃ es c, W1 = w.putObj b (.map es c)) ∧
      (∀ u : World, u.heap[b]? = w.heap[b]? → (Instr.lookup 60 (.map (some b)) (keyVal k) false).run Tryz.prog u = .ok (.int .i64 1) u) ∧
      (∀ u : World, u.heap[b]? = W1.heap[b]? → (Instr.lookup 60 (.map (some b)) (keyVal k) false).run Tryz.prog u = .ok (.int .i64 1) u) ∧
      ∀ u : World, u.heap[b]? = W1.heap[b]? → ∃ es c W2, (Instr.entryStore 60 (.map (some b)) (.int .i64 st) (.int .i64 2)).run Tryz.prog u = .ok () W2 ∧ W2 = u.putObj b (.map es c) ∧
        ∀ u2 : World, u2.heap[b]? = W2.heap[b]? → (Instr.lookup 60 (.map (some b)) (keyVal k) false).run Tryz.prog u2 = .ok (.int .i64 2) u2 := by
  obtain ⟨es, clock, hb, s1, s2, s3, s5, s4⟩ := h
  have hlt := (Array.getElem?_eq_some_iff.1 hb).1
  have hnd : ∀ l : List MapEntry, l.map (·.key) = ks.map keyVal → (l.map (·.key)).Nodup := fun l hl => by
    rw [hl]
    exact (List.pairwise_map.2 (s5.imp fun {a b} hab e => hab (keyVal_inj e)))
  have uniq : ∀ (l : List MapEntry), l.map (·.key) = ks.map keyVal → ∀ {i j : Nat} {e e' : MapEntry}, l[i]? = some e → l[j]? = some e' → e.key = e'.key → i = j := fun l hl i j e e' hi hj he => by
    have hn := hnd l hl
    have h1 : (l.map (·.key))[i]? = some e.key := by rw [List.getElem?_map, hi]; rfl
    have h2 : (l.map (·.key))[j]? = some e.key := by rw [List.getElem?_map, hj, he]; rfl
    have l1 := (List.getElem?_eq_some_iff.1 h1).1
    exact (List.getElem?_inj l1 hn).1 (h1.trans h2.symm)
  obtain ⟨j, e0, h2, h3, fd⟩ : ∃ j e0, es.toList[j]? = some e0 ∧ e0.key = keyVal k ∧ ∀ u : World, (Instr.findKey 39 (keyVal k) es.toList).run Tryz.prog u = .ok (some (j, .int .i64 1)) u := by
    rcases find_map k w es.toList ks s3 with ⟨_, h1⟩ | ⟨j, e0, _, h2, h3, _⟩
    · exact absurd hk h1
    · refine ⟨j, e0, h2, h3, fun u => ?_⟩
      rcases find_map k u es.toList ks s3 with ⟨_, h1⟩ | ⟨j', e1, r1, r2, r3, _⟩
      · exact absurd hk h1
      · obtain rfl := uniq _ s3 h2 r2 (h3.trans r3.symm)
        rw [r1, s4 e1 (List.mem_of_getElem? r2)]
  have hj : es[j]? = some e0 := by simpa using h2
  have hsame : es.modify j (fun e => { e with key := keyVal k }) = es := by
    apply Array.ext'
    rw [Array.toList_modify, ChangeMaps.modify_eq_set _ _ _ _ h2]
    have : ({ e0 with key := keyVal k } : MapEntry) = e0 := by rw [← h3]
    rw [this]
    exact WideElems.set_self _ _ _ h2
  have look1 : ∀ u : World, u.heap[b]? = some (.map es clock) → (Instr.lookup 60 (.map (some b)) (keyVal k) false).run Tryz.prog u = .ok (.int .i64 1) u := fun u hu => by
    have hc := key_check es.isEmpty k.1 k.2 u
    simp only [Instr.lookup, Sem.run_bind, run_underlying Tryz.underlying60, Result.andThen_ok, MapKept.run_getObj_map hu, Sem.run_pure, hc, fd u]
    simp
  have hidx : es.findIdx? (fun e => ((e.born : Nat) : Int) == ((e0.born : Nat) : Int)) = some j := by
    rw [WideElems.findIdx_arr]
    exact WideElems.findIdx_born s2 h2
  have hl2 : (es.modify j (fun e => { e with val := .int .i64 2 })).toList = es.toList.set j { e0 with val := .int .i64 2 } := by
    rw [Array.toList_modify, ChangeMaps.modify_eq_set _ _ _ _ h2]
  have hk2 : (es.modify j (fun e => { e with val := .int .i64 2 })).toList.map (·.key) = ks.map keyVal := by
    rw [hl2, List.map_set, ← s3]
    refine WideElems.set_self _ _ _ ?_
    rw [List.getElem?_map, h2]
    rfl
  have hj2 : (es.modify j (fun e => { e with val := .int .i64 2 })).toList[j]? = some { e0 with val := .int .i64 2 } := by
    rw [hl2, List.getElem?_set_self (List.getElem?_eq_some_iff.1 h2).1]
  have look2 : ∀ u : World, u.heap[b]? = some (.map (es.modify j (fun e => { e with val := .int .i64 2 })) clock) → (Instr.lookup 60 (.map (some b)) (keyVal k) false).run Tryz.prog u = .ok (.int .i64 2) u := fun u hu => by
    have hf : (Instr.findKey 39 (keyVal k) (es.modify j (fun e => { e with val := .int .i64 2 })).toList).run Tryz.prog u = .ok (some (j, .int .i64 2)) u := by
      rcases find_map k u _ ks hk2 with ⟨_, h1⟩ | ⟨j', e1, r1, r2, r3, _⟩
      · exact absurd hk h1
      · obtain rfl := uniq _ hk2 hj2 r2 (h3.trans r3.symm)
        rw [hj2] at r2
        cases r2
        rw [r1]
    have hc := key_check (es.modify j (fun e => { e with val := .int .i64 2 })).isEmpty k.1 k.2 u
    simp only [Instr.lookup, Sem.run_bind, run_underlying Tryz.underlying60, Result.andThen_ok, MapKept.run_getObj_map hu, Sem.run_pure, hc, hf]
    simp
  refine ⟨w.putObj b (.map es clock), e0.born, ?_, ⟨_, _, rfl⟩, fun u hu => look1 u (hu.trans hb), fun u hu => look1 u (hu.trans (World.putObj_heap_same hlt)), fun u hu => ?_⟩
  · have hc := key_check false k.1 k.2 w
    have hst := key_stays k.1 k.2 w
    simp only [Instr.mapEntry, Sem.run_bind, run_underlying Tryz.underlying60, Result.andThen_ok, MapKept.run_getObj_map hb, hc, fd w, hj, Option.map_some, Option.getD_some, h3, hst, hsame, MapKept.run_setObj_map _ hb, Sem.run_pure]
    rfl
  · have hu' := hu.trans (World.putObj_heap_same hlt)
    have hlu := (Array.getElem?_eq_some_iff.1 hu').1
    refine ⟨_, clock, _, ?_, rfl, fun u2 hu2 => look2 u2 (hu2.trans (World.putObj_heap_same hlu))⟩
    simp only [Instr.entryStore, Sem.run_bind, MapKept.run_getObj_map hu', Result.andThen_ok, asInt, asIntOf, Sem.run_pure, hidx, MapKept.run_setObj_map _ hu']
    rfl
end Go.Proofs.YtephllgddhncgaaGreatDoor
/- A region that draws its order, walked inside a fence or a round, that reads cells and ends in a store of one of them: the cells' facts are asked behind every operation but the last one. -/
namespace Go.Proofs.YtephllgddhncgaaGreatDoor.Lex
open Go
set_option linter.unusedVariables false
section
variable {F : Fence} {n : Nat} {P : Program} {ops : Array Oper} {Q : Exit → Act → World → Prop} {md : Region.Mode} {S : World → Prop} {z : Nat}
/-- No operation defers a call. -/
def noDefer (ops : Array Oper) : Bool := ops.all fun o => match o.op with
  | .defer _ => false
  | _ => true
theorem noDefer_spec {ops : Array Oper} (h : noDefer ops = true) {j : Nat} {o : Oper} (hj : ops[j]? = some o) : ∀ c, o.op ≠ .defer c := fun c e => by
  unfold noDefer at h
  rw [Array.all_eq_true'] at h
  have := h o (Array.mem_of_getElem? hj)
  rw [e] at this
  cases this
/-- It yields v wherever S holds, and it calls nothing. -/
def YieldsS (P : Program) (ops : Array Oper) (S : World → Prop) (o : Oper) (v : Value) (a : Act) : Prop := YieldsIf P ops S o v a ∧ ∀ w, o.about P w a.eval = none
theorem YieldsS.here {i : Nat} {o : Oper} {v : Value} {a : Act} (hnd : noDefer ops = true) (hi : ops[i]? = some o) (hy : YieldsS P ops S o v a) {K : Act → World → Prop} {w : World} (hS : S w) (h : K (a.put o.dst v) w) : wpOpIn F n P ops Q i K a w := by
  have hab : ∀ f, o.about P w a.eval = some f → F.fn f := fun f hf => by rw [hy.2 w] at hf; cases hf
  unfold wpOpIn
  simp only [hi]
  rcases hy.1 with ⟨hw, hv⟩ | ⟨hw, rfl⟩
  · simp only [hw, if_true, Oper.wpIn, Oper.semAt_plain F _ _ (noDefer_spec hnd hi), hv w hS, Oper.uponIn]
    exact ⟨hab, h⟩
  · simp only [hw, Bool.false_eq_true, if_false]
    exact ⟨hab, h⟩
theorem YieldsS.same {o : Oper} {v : Value} {a a' : Act} (hy : YieldsS P ops S o v a) (he : execOp a'.eval o = execOp a.eval o) (hw : Region.wanted o (yielded ops a'.tmps) = Region.wanted o (yielded ops a.tmps)) (hb : ∀ w, o.about P w a'.eval = o.about P w a.eval) : YieldsS P ops S o v a' :=
  ⟨hy.1.of_same he hw, fun w => by rw [hb w]; exact hy.2 w⟩
/-- Whether oi's value is laid already makes no difference to oj, and oj makes none to oi. -/
theorem wpOpIn_putS {j : Nat} {oi oj : Oper} {v : Value} (hnd : noDefer ops = true) (hj : ops[j]? = some oj) (hap : oi.apart ops oj = true) (hsi : ∀ cs b, oi.op ≠ .select cs b) (hsj : ∀ cs b, oj.op ≠ .select cs b)
    (hQ : ∀ c a w, Q (.panic c) (a.put oi.dst v) w → Q (.panic c) a w) {K : Act → World → Prop} {a : Act} {w : World} (hy : YieldsS P ops S oi v a) (h : wpOpIn F n P ops Q j K (a.put oi.dst v) w) :
    wpOpIn F n P ops Q j (fun a' w' => YieldsS P ops S oi v a' ∧ K (a'.put oi.dst v) w') a w := by
  obtain ⟨p1, p2, p3⟩ := Oper.apart_spec hap
  have keep : ∀ b : Act, YieldsS P ops S oi v b → ∀ u, YieldsS P ops S oi v (b.put oj.dst u) := fun b hb u => hb.same (execOp_put oi hsi b oj.dst u p3) (wanted_put oi b oj.dst u p3) (fun w => about_put oi w b oj.dst u p3)
  have swap : ∀ (b : Act) u, YieldsS P ops S oi v b → ∀ w', K ((b.put oi.dst v).put oj.dst u) w' → YieldsS P ops S oi v (b.put oj.dst u) ∧ K ((b.put oj.dst u).put oi.dst v) w' := fun b u hb w' hk => ⟨keep b hb u, by rw [← Act.put_comm b v u p2]; exact hk⟩
  unfold wpOpIn at *
  have hsm : ∀ r, Oper.semAt F.round r oj = execOp r oj := fun r => Oper.semAt_plain F r oj (noDefer_spec hnd hj)
  simp only [hj] at *
  rw [wanted_put oj a oi.dst v p1, about_put oj w a oi.dst v p1] at h
  by_cases hw : Region.wanted oj (yielded ops a.tmps) = true
  · rw [if_pos hw] at h ⊢
    unfold Oper.wpIn at *
    rw [about_put oj w a oi.dst v p1, hsm, execOp_put oj hsj a oi.dst v p1] at h
    rw [hsm]
    refine ⟨h.1, ?_⟩
    have h := h.2
    generalize (execOp a.eval oj).run P w = r at *
    cases r with
    | ok x w' =>
      cases x with
      | value u => exact swap a u hy w' h
      | skip => exact swap a undef hy w' h
      | defer d =>
        have h1 := swap { a with defers := d :: a.defers } undef (hy.same rfl rfl (fun _ => rfl)) w' (by rw [← Act.put_defers]; exact h)
        exact h1
      | enter f args => exact ⟨h.1, CallsIn.mono h.2 fun e w'' he => by
          cases e with
          | returned u => exact swap a u hy w'' he
          | panicked c => exact hQ _ _ _ he
          | outgrown => exact he⟩
      | row row args => exact ⟨h.1, RowsIn.mono h.2 fun u w'' he => swap a u hy w'' he⟩
      | round l f tmps assign body => exact ⟨h.1, RoundIn.mono h.2 fun e w'' he => by
          cases e with
          | returned u => exact swap a u hy w'' he
          | panicked c => exact hQ _ _ _ he
          | outgrown => exact he⟩
      | _ => exact h
    | halt x w' =>
      cases x with
      | panic u => exact hQ _ _ _ h
      | _ => exact h
  · rw [if_neg hw] at h ⊢
    exact ⟨h.1, swap a undef hy w h.2⟩
/-- Whatever order is picked, S holds behind every operation but number z. -/
def wpZIn (F : Fence) (n : Nat) (P : Program) (md : Region.Mode) (ops : Array Oper) (Q : Exit → Act → World → Prop) (S : World → Prop) (z : Nat) : Nat → Array Bool → Act → World → Prop
  | 0, listed, a, w => Region.ready md ops listed = [] ∧ Q .normal a w
  | fuel + 1, listed, a, w => (Region.ready md ops listed = [] → Q .normal a w) ∧
    ∀ i ∈ Region.ready md ops listed, wpOpIn F n P ops Q i (fun a' w' => (i = z ∨ S w') ∧ wpZIn F n P md ops Q S z fuel (listed.setIfInBounds i true) a' w') a w
theorem wpZIn_any : ∀ (fuel : Nat) (listed : Array Bool) (a : Act) (w : World), wpZIn F n P md ops Q S z fuel listed a w → wpAnyIn F n P md ops Q fuel listed a w
  | 0, _, _, _, h => h
  | fuel + 1, _, _, _, h => ⟨h.1, fun i hi => wpOpIn_mono (fun a' w' h' => wpZIn_any fuel _ a' w' h'.2) (h.2 i hi)⟩
theorem wpZIn_first {i : Nat} {oi : Oper} {v : Value} (hnd : noDefer ops = true) (hi : ops[i]? = some oi) (hz : Region.waitsFor md ops z i = true) (hsel : ∀ (j : Nat) (o : Oper) cs b, ops[j]? = some o → o.op ≠ .select cs b)
    (hQ : ∀ c a w, Q (.panic c) (a.put oi.dst v) w → Q (.panic c) a w) :
    ∀ (fuel : Nat) (listed : Array Bool) (a : Act) (w : World),
      (∀ j oj, ops[j]? = some oj → j ≠ i → listed.getD j true = false → (∀ e ∈ oj.after, Region.binds md e = true → e.on ≠ i) → oi.apart ops oj = true) →
      i ∈ Region.ready md ops listed → YieldsS P ops S oi v a → S w →
      wpZIn F n P md ops Q S z fuel (listed.setIfInBounds i true) (a.put oi.dst v) w → wpZIn F n P md ops Q S z (fuel + 1) listed a w
  | 0, listed, a, w, _, hr, hy, hS, H => ⟨fun h => (by rw [h] at hr; cases hr), fun j hj => by
    by_cases hji : j = i
    · subst hji
      exact hy.here hnd hi hS ⟨.inr hS, H⟩
    · have := ready_mono hj hji
      rw [H.1] at this
      cases this⟩
  | fuel + 1, listed, a, w, hfree, hr, hy, hS, H => ⟨fun h => (by rw [h] at hr; cases hr), fun j hj => by
    by_cases hji : j = i
    · subst hji
      exact hy.here hnd hi hS ⟨.inr hS, H⟩
    · have hjz := not_ready_z hz hr hj
      have h1 := H.2 j (ready_mono hj hji)
      obtain ⟨hjun, oj, hoj, hall⟩ := mem_ready.1 hj
      have hnot : ∀ e ∈ oj.after, Region.binds md e = true → e.on ≠ i := fun e he hb heq => by
        have g1 := hall e he hb
        have g0 := (mem_ready.1 hr).1
        rw [heq] at g1
        rcases Nat.lt_or_ge i listed.size with h' | h'
        · simp [h'] at g0 g1
          rw [g0] at g1
          cases g1
        · simp [Array.getElem?_eq_none h'] at g1
      have h2 := wpOpIn_putS hnd hoj (hfree j oj hoj hji hjun hnot) (fun cs b => hsel i oi cs b hi) (fun cs b => hsel j oj cs b hoj) hQ hy h1
      refine wpOpIn_mono (fun a' w' h3 => ?_) h2
      have hS' : S w' := h3.2.1.resolve_left hjz
      refine ⟨.inr hS', wpZIn_first hnd hi hz hsel hQ fuel (listed.setIfInBounds j true) a' w' (fun k ok hk hki hun hno => ?_) (ready_mono hr (Ne.symm hji)) h3.1 hS' ?_⟩
      · refine hfree k ok hk hki ?_ hno
        by_cases hjk : j = k
        · subst hjk
          exact hjun
        · rw [getD_set_ne true hjk] at hun
          exact hun
      · rw [Array.setIfInBounds_comm _ _ hji]
        exact h3.2.2⟩
theorem wpZIn_take {i : Nat} {oi : Oper} {v : Value} {fuel : Nat} {listed : Array Bool} {a : Act} {w : World} (hnd : noDefer ops = true) (hi : ops[i]? = some oi) (hz : Region.waitsFor md ops z i = true)
    (hs : Region.noSelect ops = true) (hf : Region.free md ops listed i = true) (hr : (Region.ready md ops listed).contains i = true)
    (hQ : ∀ c a w, Q (.panic c) (a.put oi.dst v) w → Q (.panic c) a w) (hy : YieldsS P ops S oi v a) (hS : S w)
    (h : wpZIn F n P md ops Q S z fuel (listed.setIfInBounds i true) (a.put oi.dst v) w) : wpZIn F n P md ops Q S z (fuel + 1) listed a w :=
  wpZIn_first hnd hi hz (Region.noSelect_spec hs) hQ fuel listed a w (Region.free_spec hi hf) (by simpa using hr) hy hS h
theorem wpZIn_one {i : Nat} {fuel : Nat} {listed : Array Bool} {a : Act} {w : World} (hr : Region.ready md ops listed = [i])
    (h : wpOpIn F n P ops Q i (fun a' w' => (i = z ∨ S w') ∧ wpZIn F n P md ops Q S z fuel (listed.setIfInBounds i true) a' w') a w) : wpZIn F n P md ops Q S z (fuel + 1) listed a w :=
  ⟨fun h0 => (by rw [hr] at h0; cases h0), fun j hj => (by rw [hr] at hj; rw [List.mem_singleton.1 hj]; exact h)⟩
theorem wpZIn_done {listed : Array Bool} {a : Act} {w : World} (hr : Region.ready md ops listed = []) (h : Q .normal a w) : ∀ fuel, wpZIn F n P md ops Q S z fuel listed a w
  | 0 => ⟨hr, h⟩
  | _ + 1 => ⟨fun _ => h, by rw [hr]; simp⟩
theorem wpIn_region_zi {id : Nat} {a : Act} {w : World} (S : World → Prop) (z : Nat) (hm : P.follows .mixedOrders = true)
    (h : wpZIn F n P .any ops Q S z ops.size (Array.replicate ops.size false) a { w with drawn := w.drawn + 1 }) : (Code.region id ops true).wpIn F n P Q a w :=
  wpIn_region_any hm (wpZIn_any _ _ _ _ h)
end
end Go.Proofs.YtephllgddhncgaaGreatDoor.Lex
