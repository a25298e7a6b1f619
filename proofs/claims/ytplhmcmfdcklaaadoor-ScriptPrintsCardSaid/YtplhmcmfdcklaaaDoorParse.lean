/- script.Parse in general. -/
import Derived.Test.YtplhmcmfdcklaaaDoorTakeA
import Derived.Test.YtplhmcmfdcklaaaDoorBig
namespace Go.Proofs.YtplhmcmfdcklaaaDoor.Lex
open Go.RowKit
set_option linter.unusedSimpArgs false
set_option linter.unusedVariables false
/-- Where the first line feed stands, and what follows it. -/
def lineL : List UInt8 → Option (List UInt8 × List UInt8)
  | [] => none
  | c :: l => if c = 10 then some ([], l) else (lineL l).map fun p => (c :: p.1, p.2)
theorem lineL_len : ∀ {l a b : List UInt8}, lineL l = some (a, b) → l.length = a.length + 1 + b.length
  | [], _, _, h => by cases h
  | c :: l, a, b, h => by
    by_cases hc : c = 10
    · rw [lineL, if_pos hc] at h
      cases h
      simp; omega
    · rw [lineL, if_neg hc] at h
      cases hl : lineL l with
      | none => rw [hl] at h; cases h
      | some p =>
        rw [hl] at h
        cases h
        have := lineL_len hl
        simp at *; omega
theorem lineL_eq : ∀ {l a b : List UInt8}, lineL l = some (a, b) → l = a ++ 10 :: b
  | [], _, _, h => by cases h
  | c :: l, a, b, h => by
    by_cases hc : c = 10
    · rw [lineL, if_pos hc] at h
      cases h
      rw [hc]; rfl
    · rw [lineL, if_neg hc] at h
      cases hl : lineL l with
      | none => rw [hl] at h; cases h
      | some p =>
        rw [hl] at h
        cases h
        have := lineL_eq hl
        simp [← this]
/-- One line: the next state, or none. -/
def lineStep (k : Nat) (S : ScrV) (l : List UInt8) : Option ScrV := (wordsOf l).bind (stepL k S)
/-- What script.Parse makes of what is left: the line at fault, or how many lines there were and the script. -/
def parseL (k : Nat) (S : ScrV) (l : List UInt8) : Except Nat (Nat × ScrV) :=
  if l = [] then .ok (k, S) else match h : lineL l with
  | none => .error (k + 1)
  | some p => match lineStep k S p.1 with
    | none => .error (k + 1)
    | some S' => parseL (k + 1) S' p.2
termination_by l.length
decreasing_by have := lineL_len (a := p.1) (b := p.2) (by rw [h]); omega
def S0 : ScrV := ⟨0, 0, [], [], []⟩
theorem parseL_nil (k : Nat) (S : ScrV) : parseL k S [] = .ok (k, S) := by rw [parseL, if_pos rfl]
theorem parseL_no {k : Nat} {S : ScrV} {l : List UInt8} (h0 : l ≠ []) (h : lineL l = none) : parseL k S l = .error (k + 1) := by
  rw [parseL, if_neg h0]
  split
  · rfl
  · next p hp => rw [h] at hp; cases hp
theorem parseL_bad {k : Nat} {S : ScrV} {l a b : List UInt8} (h0 : l ≠ []) (h : lineL l = some (a, b)) (hs : lineStep k S a = none) : parseL k S l = .error (k + 1) := by
  rw [parseL, if_neg h0]
  split
  · rfl
  · next p hp =>
    rw [h] at hp
    cases hp
    rw [hs]
theorem parseL_go {k : Nat} {S S' : ScrV} {l a b : List UInt8} (h0 : l ≠ []) (h : lineL l = some (a, b)) (hs : lineStep k S a = some S') : parseL k S l = parseL (k + 1) S' b := by
  rw [parseL, if_neg h0]
  split
  · next hp => rw [h] at hp; cases hp
  · next p hp =>
    rw [h] at hp
    cases hp
    simp only [hs]
theorem lineL_of : ∀ {x y : List UInt8}, (10 : UInt8) ∉ x → lineL (x ++ 10 :: y) = some (x, y)
  | [], y, _ => by rw [List.nil_append, lineL, if_pos rfl]
  | c :: x, y, h => by
    have hc : ¬ c = 10 := fun e => h (by rw [e]; exact List.mem_cons_self)
    rw [List.cons_append, lineL, if_neg hc, lineL_of (fun hm => h (List.mem_cons_of_mem _ hm))]
    rfl
theorem lineL_none : ∀ {l : List UInt8}, (10 : UInt8) ∉ l → lineL l = none
  | [], _ => rfl
  | c :: l, h => by
    have hc : ¬ c = 10 := fun e => h (by rw [e]; exact List.mem_cons_self)
    rw [lineL, if_neg hc, lineL_none (fun hm => h (List.mem_cons_of_mem _ hm))]
    rfl
theorem byteAt_get {s : ByteArray} {j : Nat} (h : j < s.data.toList.length) : s.data.toList[j] = byteAt s j := by
  simp [byteAt, List.getD, List.getElem?_eq_getElem h]
theorem lineL_first {s : ByteArray} {a i : Nat} (h : FirstLF s a i) : lineL (s.data.toList.drop a) = some ((s.extract a i).data.toList, s.data.toList.drop (i + 1)) := by
  have hl : s.data.toList.length = s.size := by rw [Array.length_toList]; rfl
  have h1 := h.le
  have h2 := h.lt
  have he : (s.extract a i).data.toList = (s.data.toList.take i).drop a := by
    simp [ByteArray.data_extract, List.drop_take]
  have hsp : s.data.toList.drop a = (s.data.toList.take i).drop a ++ 10 :: s.data.toList.drop (i + 1) := by
    have e1 : s.data.toList = s.data.toList.take i ++ 10 :: s.data.toList.drop (i + 1) := by
      have e2 : s.data.toList.drop i = 10 :: s.data.toList.drop (i + 1) := by
        rw [List.drop_eq_getElem_cons (by omega), byteAt_get (by omega), h.here]
      rw [← e2, List.take_append_drop]
    conv => lhs; rw [e1]
    rw [List.drop_append_of_le_length (by simp; omega)]
  rw [hsp, he]
  refine lineL_of fun hm => ?_
  obtain ⟨j, hj, hx⟩ := List.getElem_of_mem hm
  simp only [List.length_drop, List.length_take] at hj
  rw [List.getElem_drop, List.getElem_take, byteAt_get (by omega)] at hx
  exact h.no (a + j) (by omega) (by omega) hx
theorem lineL_no {s : ByteArray} {a : Nat} (h : ∀ j, a ≤ j → j < s.size → byteAt s j ≠ 10) : lineL (s.data.toList.drop a) = none := by
  have hl : s.data.toList.length = s.size := by rw [Array.length_toList]; rfl
  refine lineL_none fun hm => ?_
  obtain ⟨j, hj, hx⟩ := List.getElem_of_mem hm
  simp only [List.length_drop] at hj
  rw [List.getElem_drop, byteAt_get (by omega)] at hx
  exact h (a + j) (by omega) (by omega) hx
theorem glue_of {l : List UInt8} {ws : List (List UInt8)} (h : wordsOf l = some ws) : glue ws = l := by
  unfold wordsOf at h
  split at h
  · cases h
  · split at h
    · next h0 => cases h; rw [h0]; rfl
    · split at h
      · cases h
      · cases h; exact glue_pieces l
theorem glue_short : ∀ ws : List (List UInt8), (∀ x ∈ ws, x.length ≤ (glue ws).length) ∧ ws.length ≤ (glue ws).length + 1
  | [] => ⟨fun x hx => (by cases hx), by simp⟩
  | [a] => ⟨fun x hx => by rw [List.mem_singleton.1 hx]; exact Nat.le_refl _, by simp⟩
  | a :: b :: r => by
    obtain ⟨h1, h2⟩ := glue_short (b :: r)
    have e : (glue (a :: b :: r)).length = a.length + 1 + (glue (b :: r)).length := by
      rw [show glue (a :: b :: r) = a ++ 32 :: glue (b :: r) from rfl, List.length_append, List.length_cons]
      omega
    refine ⟨fun x hx => ?_, ?_⟩
    · rw [e]
      rcases List.mem_cons.1 hx with rfl | hx
      · omega
      · have := h1 x hx; omega
    · rw [List.length_cons, e]; omega
theorem words_short {l h : List UInt8} {rest : List (List UInt8)} (hw : wordsOf l = some (h :: rest)) (hl : l.length ≤ 1048576) : Short rest := by
  obtain ⟨h1, h2⟩ := glue_short (h :: rest)
  rw [glue_of hw] at h1 h2
  refine ⟨by simp at h2; omega, fun x hx => ?_⟩
  have := h1 x (List.mem_cons_of_mem _ hx)
  omega
theorem stepL_le {k B : Nat} {S S' : ScrV} {ws : List (List UInt8)} (h : stepL k S ws = some S') (hc : S.clients.length ≤ B) (hl : ∀ l ∈ S.clients, l.length ≤ B) : S'.clients.length ≤ B + 1 ∧ ∀ l ∈ S'.clients, l.length ≤ B + 1 := by
  have same : ∀ {X : ScrV}, X.clients = S.clients → X.clients.length ≤ B + 1 ∧ ∀ l ∈ X.clients, l.length ≤ B + 1 := fun e => by
    rw [e]
    exact ⟨by omega, fun l hm => by have := hl l hm; omega⟩
  cases ws with
  | nil => cases h
  | cons w rest =>
    simp only [stepL] at h
    split at h
    · split at h
      · obtain ⟨p, _, rfl⟩ := Option.map_eq_some_iff.1 h; exact same rfl
      · cases h
    · split at h
      · split at h
        · obtain ⟨p, _, rfl⟩ := Option.map_eq_some_iff.1 h; exact same rfl
        · cases h
      · split at h
        · split at h
          · obtain ⟨p, _, rfl⟩ := Option.map_eq_some_iff.1 h; exact same rfl
          · cases h
        · split at h
          · split at h
            · cases h
              refine ⟨by simp; omega, fun l hm => ?_⟩
              rcases List.mem_append.1 hm with hm | hm
              · have := hl l hm; omega
              · rw [List.mem_singleton.1 hm]; simp
            · cases h
          · split at h
            · next c _ =>
              obtain ⟨L, hL, rfl⟩ := Option.map_eq_some_iff.1 h
              have hne : S.clients ≠ [] := fun e => by rw [e] at hL; cases hL
              rw [addLast_some hne] at hL
              cases hL
              refine ⟨by simp; omega, fun l hm => ?_⟩
              rcases List.mem_append.1 hm with hm | hm
              · have := hl l (List.dropLast_subset _ hm); omega
              · rw [List.mem_singleton.1 hm]
                have := hl _ (List.getLast_mem hne)
                simp; omega
            · cases h
theorem takePost_get {W1 w' : World} {k : Nat} {r : Option ScrV} {e : Ending} {S : ScrV} (h : TakePost W1 k r e w') (hr : r = some S) : e = .returned (.bool true) ∧ RS W1 w' k S := by
  subst hr; exact h
theorem takePost_nget {W1 w' : World} {k : Nat} {r : Option ScrV} {e : Ending} (h : TakePost W1 k r e w') (hr : r = none) : e = .returned (.bool false) ∧ RF W1 w' k := by
  subst hr; exact h
/-- Cells up to R of another kind are set. -/
theorem RC.low {w w' : World} {R : Nat} {v : Value} {L : List (List CallV)} (h : RC w R v L) (hz : w.heap.size ≤ w'.heap.size) (hs : ∀ g, R < g → w'.heap[g]? = w.heap[g]?) (hk : ∀ B, Kept B w w') : RC w' R v L := by
  have own : ∀ {base : Nat} {e : TypeId} {size n : Nat} {v : Value} {xs : List Value}, R < base → w.ownsRow base e size v n xs → w'.ownsRow base e size v n xs := fun hb ho => by
    refine ⟨ho.1, ?_⟩
    rcases ho.2 with hn | ⟨g, cap, cur, rfl, hbg, hg, rest⟩
    · exact .inl hn
    · exact .inr ⟨g, cap, cur, rfl, hbg, (hs g (by omega)).trans hg, rest⟩
  obtain ⟨cells, B, h1, h2, h3, h4, h5⟩ := h
  refine ⟨cells, B, h1, Nat.le_trans h2 hz, own (by omega) h3, fun i hi hl => ?_, fun hi => ?_⟩
  · obtain ⟨a, c, e1, e2⟩ := h4 i hi hl
    exact ⟨a, c, e1, e2.keep (hk _)⟩
  · obtain ⟨a, c, cs, e1, e2, e3⟩ := h5 hi
    exact ⟨a, c, cs, e1, own h1 e2, (e3.keep (hk _)).mono hz⟩
/-- Five cells of the answer set. -/
theorem kept5 {w : World} {b : Nat} {cs : Array Value} (h : w.heap[b]? = some (.cells cs 36 (0, 0))) (v0 v1 v2 v3 v4 : Value) :
    (∀ B, Kept B w (((((w.setCell ⟨b, 0, none⟩ v0).setCell ⟨b, 1, none⟩ v1).setCell ⟨b, 2, none⟩ v2).setCell ⟨b, 3, none⟩ v3).setCell ⟨b, 4, none⟩ v4)) ∧
    (∀ g, g ≠ b → (((((w.setCell ⟨b, 0, none⟩ v0).setCell ⟨b, 1, none⟩ v1).setCell ⟨b, 2, none⟩ v2).setCell ⟨b, 3, none⟩ v3).setCell ⟨b, 4, none⟩ v4).heap[g]? = w.heap[g]?) := by
  have one : ∀ (W : World) (cs : Array Value) (o : Nat) (v : Value), W.heap[b]? = some (.cells cs 36 (0, 0)) → (∀ B, Kept B W (W.setCell ⟨b, o, none⟩ v)) ∧ (W.setCell ⟨b, o, none⟩ v).heap[b]? = some (.cells (cs.setIfInBounds o v) 36 (0, 0)) :=
    fun W cs o v hW => ⟨fun B => Kept.setCell hW (by decide) (by decide) (fun e => absurd e (by decide)), heap_set_at (o := o) v hW⟩
  obtain ⟨k0, h0⟩ := one w cs 0 v0 h
  obtain ⟨k1, h1⟩ := one _ _ 1 v1 h0
  obtain ⟨k2, h2⟩ := one _ _ 2 v2 h1
  obtain ⟨k3, h3⟩ := one _ _ 3 v3 h2
  obtain ⟨k4, h4⟩ := one _ _ 4 v4 h3
  refine ⟨fun B => ((((k0 B).trans (k1 B)).trans (k2 B)).trans (k3 B)).trans (k4 B), fun g hg => ?_⟩
  rw [Below.heap_setCell _ _ _ _ hg, Below.heap_setCell _ _ _ _ hg, Below.heap_setCell _ _ _ _ hg, Below.heap_setCell _ _ _ _ hg, Below.heap_setCell _ _ _ _ hg]
/-- What script.Parse answers. -/
def ParsePost (s : ByteArray) (w : World) (e : Ending) (w' : World) : Prop := Below w.heap.size w w' ∧ match parseL 0 S0 s.data.toList with
  | .error n => e = .returned (.tuple #[zeroScr, .int .i64 (n : Int), .int .i64 10])
  | .ok p => if p.1 < 3 then e = .returned (.tuple #[zeroScr, .int .i64 ((p.1 : Int) + 1), .int .i64 10]) else
    ∃ vC vP vT, IntV w' vP p.2.picks ∧ IntV w' vT p.2.ticks ∧ RC w' (w.heap.size + 1) vC p.2.clients ∧ e = .returned (.tuple #[.agg #[.int .i64 p.2.stripes, .int .i64 p.2.room, vC, vP, vT], .int .i64 0, .int .i64 0])
/-- The loop of lines: at a, k lines behind. -/
structure LoopP (s : ByteArray) (W1 : World) (g : Nat) (v : Value) (wr : World) (a k : Nat) (S : ScrV) : Prop where
  hv : v = .int .i64 (a : Int)
  ha : a ≤ s.size
  hg : g = s.size - a
  rs : RS W1 wr k S
  hk : k ≤ a
  hc : S.clients.length ≤ a
  hl : ∀ l ∈ S.clients, l.length ≤ a
  left : parseL k S (s.data.toList.drop a) = parseL 0 S0 s.data.toList
set_option maxRecDepth 100000 in
set_option maxHeartbeats 4000000 in
theorem parse_any (s : ByteArray) (w : World) (hm : HasMax w) (ht : HasTab w) (he : HasErrs w) (h : s.size ≤ 1048576) :
    Calls Tryd.prog 15 #[.string s] w (ParsePost s w) := by
  have HM := Lib.hid hm
  have HT := Lib.hid ht
  have HE := Lib.hid he
  clear hm ht he
  go_enter Tryd.func15, Tryd.ntmps15
  go_wp2_with fail
  go_step3
  go_wp2_with fail
  go_step3
  go_wp2_with fail
  have hR : RS (w.alloc (.cells #[.int .i64 0, .int .i64 0, .slice none 0 0, .slice none 0 0, .slice none 0 0] 36)) ((w.alloc (.cells #[.int .i64 0, .int .i64 0, .slice none 0 0, .slice none 0 0, .slice none 0 0] 36)).alloc (.cells #[.int .i64 0, .int .i64 0, .slice none 0 0, .slice none 0 0, .slice none 0 0, .int .i64 0] 74)) 0 S0 :=
    ⟨(Below.refl _ _).alloc (Nat.le_refl _) _, _, _, _, heap_alloc_new _ _, IntV.nil _, IntV.nil _, RC.nil _ _ (by simp)⟩
  have HR := Lib.hid hR
  clear hR
  go_loopg [6] s.size (fun g v wr => ∃ a k S, LoopP s (w.alloc (.cells #[.int .i64 0, .int .i64 0, .slice none 0 0, .slice none 0 0, .slice none 0 0] 36)) g v wr a k S)
  case atStart => exact ⟨0, 0, S0, rfl, by omega, rfl, HR.out, Nat.le_refl _, Nat.le_refl _, fun l hl => by simp [S0] at hl, by rw [List.drop_zero]⟩
  case round =>
    obtain ⟨a, k, S, hL⟩ := hrel
    have h1 := hL.hv
    subst h1
    have ha := hL.ha
    have HL := Lib.hid hL
    clear hL
    have hz : (w.alloc (.cells #[.int .i64 0, .int .i64 0, .slice none 0 0, .slice none 0 0, .slice none 0 0] 36)).heap.size = w.heap.size + 1 := by simp
    have HZ := Lib.hid hz
    clear hz
    by_cases hlt : a < s.size
    · have hlt' : (a : Int) < s.size := by omega
      have hne : s.data.toList.drop a ≠ [] := fun e => by
        have := congrArg List.length e
        rw [List.length_drop, Array.length_toList] at this
        have hsz : s.data.size = s.size := rfl
        simp at this
        omega
      have HNE := Lib.hid hne
      clear hne
      obtain ⟨vC, vP, vT, hbox, -⟩ := HL.out.rs.box
      have HB0 : Hid (Below w.heap.size w wr) := Lib.hid (((Below.refl _ _).alloc (Nat.le_refl _) _).trans (HL.out.rs.below.mono (by rw [HZ.out]; omega)))
      have g0 := (HL.out.rs.below.block w.heap.size (by rw [HZ.out]; omega)).trans (heap_alloc_new w _)
      rw [HZ.out] at hbox
      have HBX := Lib.hid hbox
      have HG0 := Lib.hid g0
      have hRz : w.heap.size + 1 < wr.heap.size := (Array.getElem?_eq_some_iff.1 hbox).1
      clear hbox g0
      rcases firstLF_or s a with ⟨i, hi⟩ | hno
      · have HPL0 : Hid (∀ (x : Option ScrV), lineStep k S (s.extract a i).data.toList = x → match x with
            | none => parseL 0 S0 s.data.toList = .error (k + 1)
            | some S' => parseL 0 S0 s.data.toList = parseL (k + 1) S' (s.data.toList.drop (i + 1))) := Lib.hid (fun x hx => by
          cases x with
          | none => exact HL.out.left.symm.trans (parseL_bad HNE.out (lineL_first hi) hx)
          | some S' => exact HL.out.left.symm.trans (parseL_go HNE.out (lineL_first hi) hx))
        have hia := hi.le
        have hil := hi.lt
        have HI := Lib.hid hi
        clear hi
        have hsx : (s.extract a i).size ≤ 1048576 := by rw [ByteArray.size_extract]; omega
        cases hw : wordsOf (s.extract a i).data.toList with
        | none =>
          have HPL : Hid (parseL 0 S0 s.data.toList = .error (k + 1)) := Lib.hid (HPL0.out none (by rw [lineStep, hw]; rfl))
          go_upto_region 8 with (first
            | (go_at_call 29; (with_reducible refine (line_yes s a i _ (by omega) HI.out).mono ?_); rintro e w1 ⟨rfl, rfl⟩)
            | (go_at_call 30; (with_reducible refine (words (s.extract a i) _ hsx (HM.out.below HB0.out)).mono ?_); rintro e w1 ⟨hb1, hw1⟩; rw [hw] at hw1; subst hw1))
          have g1 := (hb1.block _ hRz).trans HBX.out
          have g0 := (hb1.block _ (by omega)).trans HG0.out
          have HB1 := Lib.hid (HB0.out.trans (hb1.mono HB0.out.size))
          have hz1 := hb1.size
          have c5 := cell_at (o := 5) g1 rfl
          have f5 := free_at (o := 5) g1
          have hwk : IntKind.i64.wrap ((k : Int) + 1) = (k : Int) + 1 := by
            have := HL.out.hk
            rw [IntKind.wrap_i64]; omega
          go_upto_region 15 with (fail)
          obtain ⟨W2, hW2⟩ : ∃ W2, W2 = w1.setCell ⟨w.heap.size + 1, 5, none⟩ (.int .i64 ((k : Int) + 1)) := ⟨_, rfl⟩
          rw [← hW2]
          have k5 : W2.cell? ⟨w.heap.size + 1, 5, none⟩ = some (.int .i64 ((k : Int) + 1)) := by
            have e := heap_set_at (o := 5) (.int .i64 ((k : Int) + 1)) g1
            rw [← hW2] at e
            exact cell_at e rfl
          have k0 : W2.heap[w.heap.size]? = some (.cells #[.int .i64 0, .int .i64 0, .slice none 0 0, .slice none 0 0, .slice none 0 0] 36 (0, 0)) := by
            rw [hW2]
            exact (Below.heap_setCell _ _ _ _ (by show w.heap.size ≠ w.heap.size + 1; omega)).trans g0
          have HB2 : Hid (Below w.heap.size w W2) := Lib.hid (by rw [hW2]; exact HB1.out.setCell (by show w.heap.size ≤ w.heap.size + 1; omega) _)
          have q0 := cell_at (o := 0) k0 rfl
          have q1 := cell_at (o := 1) k0 rfl
          have q2 := cell_at (o := 2) k0 rfl
          have q3 := cell_at (o := 3) k0 rfl
          have q4 := cell_at (o := 4) k0 rfl
          have p0 := free_at (o := 0) k0
          have p1 := free_at (o := 1) k0
          have p2 := free_at (o := 2) k0
          have p3 := free_at (o := 3) k0
          have p4 := free_at (o := 4) k0
          clear hW2 c5 f5 g1 g0 k0 hb1
          go_region
          all_goals
            go_wp2_with fail
            rw [Exit.noGoto_ret]
            refine bodyPost_ret (v := .tuple #[zeroScr, .int .i64 ((k : Int) + 1), .int .i64 10]) ?_ rfl ?_
            · simp [results, Tryd.results15, go_sem, *]
            · refine ⟨?_, ?_⟩
              · refine Below.drew ?_
                repeat (refine Below.setCell ?_ (by show w.heap.size ≤ w.heap.size; omega) _)
                exact HB2.out
              · rw [HPL.out]
                rfl
        | some ws =>
          cases ws with
          | nil =>
            have HPL : Hid (parseL 0 S0 s.data.toList = .error (k + 1)) := Lib.hid (HPL0.out none (by rw [lineStep, hw]; rfl))
            go_upto_region 8 with (first
              | (go_at_call 29; (with_reducible refine (line_yes s a i _ (by omega) HI.out).mono ?_); rintro e w1 ⟨rfl, rfl⟩)
              | (go_at_call 30; (with_reducible refine (words (s.extract a i) _ hsx (HM.out.below HB0.out)).mono ?_); rintro e w1 ⟨hb1, hw1⟩; rw [hw] at hw1; obtain ⟨v, rfl, ho⟩ := hw1; obtain ⟨aW, cW, rfl⟩ := own_slice ho; clear ho))
            have g1 := (hb1.block _ hRz).trans HBX.out
            have g0 := (hb1.block _ (by omega)).trans HG0.out
            have HB1 := Lib.hid (HB0.out.trans (hb1.mono HB0.out.size))
            have hz1 := hb1.size
            have c5 := cell_at (o := 5) g1 rfl
            have f5 := free_at (o := 5) g1
            have hwk : IntKind.i64.wrap ((k : Int) + 1) = (k : Int) + 1 := by
              have := HL.out.hk
              rw [IntKind.wrap_i64]; omega
            have hz0 : (([] : List (List UInt8)).length : Int) = 0 := rfl
            go_wp2_with (go_at_call 31; (with_reducible refine (take_nil _ aW cW _).mono ?_); rintro e w2 ⟨rfl, rfl⟩)
            obtain ⟨W2, hW2⟩ : ∃ W2, W2 = w2.setCell ⟨w.heap.size + 1, 5, none⟩ (.int .i64 ((k : Int) + 1)) := ⟨_, rfl⟩
            rw [← hW2]
            have k5 : W2.cell? ⟨w.heap.size + 1, 5, none⟩ = some (.int .i64 ((k : Int) + 1)) := by
              have e := heap_set_at (o := 5) (.int .i64 ((k : Int) + 1)) g1
              rw [← hW2] at e
              exact cell_at e rfl
            have k0 : W2.heap[w.heap.size]? = some (.cells #[.int .i64 0, .int .i64 0, .slice none 0 0, .slice none 0 0, .slice none 0 0] 36 (0, 0)) := by
              rw [hW2]
              exact (Below.heap_setCell _ _ _ _ (by show w.heap.size ≠ w.heap.size + 1; omega)).trans g0
            have HB2 : Hid (Below w.heap.size w W2) := Lib.hid (by rw [hW2]; exact HB1.out.setCell (by show w.heap.size ≤ w.heap.size + 1; omega) _)
            have q0 := cell_at (o := 0) k0 rfl
            have q1 := cell_at (o := 1) k0 rfl
            have q2 := cell_at (o := 2) k0 rfl
            have q3 := cell_at (o := 3) k0 rfl
            have q4 := cell_at (o := 4) k0 rfl
            have p0 := free_at (o := 0) k0
            have p1 := free_at (o := 1) k0
            have p2 := free_at (o := 2) k0
            have p3 := free_at (o := 3) k0
            have p4 := free_at (o := 4) k0
            clear hW2 c5 f5 g1 g0 k0 hb1
            go_region
            all_goals
              go_wp2_with fail
              rw [Exit.noGoto_ret]
              refine bodyPost_ret (v := .tuple #[zeroScr, .int .i64 ((k : Int) + 1), .int .i64 10]) ?_ rfl ?_
              · simp [results, Tryd.results15, go_sem, *]
              · refine ⟨?_, ?_⟩
                · refine Below.drew ?_
                  repeat (refine Below.setCell ?_ (by show w.heap.size ≤ w.heap.size; omega) _)
                  exact HB2.out
                · rw [HPL.out]
                  rfl
          | cons hd rest =>
            have hws := words_short hw (by rw [Array.length_toList]; exact hsx)
            have HWS := Lib.hid hws
            clear hws
            have hsr := HWS.out.1
            go_upto_region 8 with (first
              | (go_at_call 29; (with_reducible refine (line_yes s a i _ (by omega) HI.out).mono ?_); rintro e w1 ⟨rfl, rfl⟩)
              | (go_at_call 30; (with_reducible refine (words (s.extract a i) _ hsx (HM.out.below HB0.out)).mono ?_); rintro e w1 ⟨hb1, hw1⟩; rw [hw] at hw1; obtain ⟨v, rfl, ho⟩ := hw1; obtain ⟨gW, cW, rfl, hgW, _, hcW, _⟩ := own_some ho (by simp)))
            have HRS1 := Lib.hid (HL.out.rs.to hb1)
            have HOW := Lib.hid ho
            have HB1 := Lib.hid hb1
            clear ho hb1
            have HTK : Hid (Calls Tryd.prog 31 #[.pointer (some ⟨w.heap.size + 1, 0, none⟩), .slice (some ⟨gW, 0, none⟩) (rest.length + 1) cW] w1 (TakePost (w.alloc (.cells #[.int .i64 0, .int .i64 0, .slice none 0 0, .slice none 0 0, .slice none 0 0] 36)) (k + 1) (stepL k S (hd :: rest)))) := Lib.hid (by
              have hb01 : Below w.heap.size w (w.alloc (.cells #[.int .i64 0, .int .i64 0, .slice none 0 0, .slice none 0 0, .slice none 0 0] 36)) := (Below.refl _ _).alloc (Nat.le_refl _) _
              have hka := HL.out.hk
              have := take_any _ w1 k S hd rest gW 0 cW (by omega) HRS1.out (own_cell (i := 0) HOW.out rfl).1 (fun i hi => ⟨gW, 1, rfl, World.block_lt_of_cell? w1 _ (own_cell (i := 0) HOW.out rfl).1, by
                have := (own_cell (i := i + 1) (u := .string (bs (rest[i]'hi))) HOW.out (by simp [hi])).1
                rw [Nat.add_comm]; exact this⟩) HWS.out hcW (by rw [HZ.out]; omega) (by have := HL.out.hc; omega) (HM.out.below hb01) (HT.out.below hb01) (HE.out.below hb01) (fun l hl => by have := HL.out.hl l hl; omega)
              rw [HZ.out] at this
              exact this)
            have hlen0 : ((rest.length : Int) + 1 == 0) = false := by simp only [beq_eq_false_iff_ne, ne_eq]; omega
            cases hst : stepL k S (hd :: rest) with
            | none =>
              have HPL : Hid (parseL 0 S0 s.data.toList = .error (k + 1)) := Lib.hid (HPL0.out none (by rw [lineStep, hw]; exact hst))
              go_wp2_with (go_at_call 31; (with_reducible refine HTK.out.mono ?_); rintro e w2 hp; obtain ⟨rfl, hrf⟩ := takePost_nget hp hst; clear hp; have HRFX := Lib.hid hrf; obtain ⟨cF, hcF, hcF5⟩ := hrf.box; rw [HZ.out] at hcF; have k5 := cell_at (o := 5) hcF hcF5; have k0 : w2.heap[w.heap.size]? = some (.cells #[.int .i64 0, .int .i64 0, .slice none 0 0, .slice none 0 0, .slice none 0 0] 36 (0, 0)) := (hrf.below.block w.heap.size (by rw [HZ.out]; omega)).trans (heap_alloc_new w _); have HB2 : Hid (Below w.heap.size w w2) := Lib.hid (((Below.refl _ _).alloc (Nat.le_refl _) _).trans (hrf.below.mono (by rw [HZ.out]; omega))); have q0 := cell_at (o := 0) k0 rfl; have q1 := cell_at (o := 1) k0 rfl; have q2 := cell_at (o := 2) k0 rfl; have q3 := cell_at (o := 3) k0 rfl; have q4 := cell_at (o := 4) k0 rfl; have p0 := free_at (o := 0) k0; have p1 := free_at (o := 1) k0; have p2 := free_at (o := 2) k0; have p3 := free_at (o := 3) k0; have p4 := free_at (o := 4) k0; clear hrf k0 hcF hcF5)
              go_region
              all_goals
                go_wp2_with fail
                rw [Exit.noGoto_ret]
                refine bodyPost_ret (v := .tuple #[zeroScr, .int .i64 ((k : Int) + 1), .int .i64 10]) ?_ rfl ?_
                · simp [results, Tryd.results15, go_sem, *]
                · refine ⟨?_, ?_⟩
                  · refine Below.drew ?_
                    repeat (refine Below.setCell ?_ (by show w.heap.size ≤ w.heap.size; omega) _)
                    exact HB2.out
                  · rw [HPL.out]
                    rfl
            | some S' =>
              go_wp2_with (go_at_call 31; (with_reducible refine HTK.out.mono ?_); rintro e w2 hp; obtain ⟨rfl, hrs⟩ := takePost_get hp hst; clear hp)
              have hgk := HL.out.hg
              go_roundg (s.size - (i + 1))
              case measure => omega
              case rel =>
                obtain ⟨b1, b2⟩ := stepL_le hst HL.out.hc HL.out.hl
                have hka := HL.out.hk
                refine ⟨i + 1, k + 1, S', ⟨rfl, by omega, rfl, hrs, by omega, by omega, fun l hl => ?_, ?_⟩⟩
                · have := b2 l hl; omega
                · exact (HPL0.out (some S') (by rw [lineStep, hw]; exact hst)).symm
      · have HNO := Lib.hid hno
        clear hno
        have HPL : Hid (parseL 0 S0 s.data.toList = .error (k + 1)) := Lib.hid (by
          rw [← HL.out.left]
          exact parseL_no HNE.out (lineL_no HNO.out))
        go_upto_region 8 with (first
          | (go_at_call 29; (with_reducible refine (line_no s (a : Int) _ (by omega) (.inr fun j h1 hj => HNO.out j (by omega) hj)).mono ?_); rintro e w1 ⟨rfl, rfl⟩)
          | (go_at_call 30; (with_reducible refine (words ⟨#[]⟩ _ (by decide) (HM.out.below HB0.out)).mono ?_); rintro e w1 ⟨hb1, hw1⟩; obtain ⟨v, rfl, ho⟩ := words_nil hw1; clear hw1 ho))
        have g1 := (hb1.block _ hRz).trans HBX.out
        have g0 := (hb1.block _ (by omega)).trans HG0.out
        have HB1 := Lib.hid (HB0.out.trans (hb1.mono HB0.out.size))
        have hz1 := hb1.size
        have c5 := cell_at (o := 5) g1 rfl
        have f5 := free_at (o := 5) g1
        have hwk : IntKind.i64.wrap ((k : Int) + 1) = (k : Int) + 1 := by
          have := HL.out.hk
          rw [IntKind.wrap_i64]; omega
        go_upto_region 15 with (fail)
        obtain ⟨W2, hW2⟩ : ∃ W2, W2 = w1.setCell ⟨w.heap.size + 1, 5, none⟩ (.int .i64 ((k : Int) + 1)) := ⟨_, rfl⟩
        rw [← hW2]
        have k5 : W2.cell? ⟨w.heap.size + 1, 5, none⟩ = some (.int .i64 ((k : Int) + 1)) := by
          have e := heap_set_at (o := 5) (.int .i64 ((k : Int) + 1)) g1
          rw [← hW2] at e
          exact cell_at e rfl
        have k0 : W2.heap[w.heap.size]? = some (.cells #[.int .i64 0, .int .i64 0, .slice none 0 0, .slice none 0 0, .slice none 0 0] 36 (0, 0)) := by
          rw [hW2]
          exact (Below.heap_setCell _ _ _ _ (by show w.heap.size ≠ w.heap.size + 1; omega)).trans g0
        have HB2 : Hid (Below w.heap.size w W2) := Lib.hid (by rw [hW2]; exact HB1.out.setCell (by show w.heap.size ≤ w.heap.size + 1; omega) _)
        have q0 := cell_at (o := 0) k0 rfl
        have q1 := cell_at (o := 1) k0 rfl
        have q2 := cell_at (o := 2) k0 rfl
        have q3 := cell_at (o := 3) k0 rfl
        have q4 := cell_at (o := 4) k0 rfl
        have p0 := free_at (o := 0) k0
        have p1 := free_at (o := 1) k0
        have p2 := free_at (o := 2) k0
        have p3 := free_at (o := 3) k0
        have p4 := free_at (o := 4) k0
        clear hW2 c5 f5 g1 g0 k0 hb1
        go_region
        all_goals
          go_wp2_with fail
          rw [Exit.noGoto_ret]
          refine bodyPost_ret (v := .tuple #[zeroScr, .int .i64 ((k : Int) + 1), .int .i64 10]) ?_ rfl ?_
          · simp [results, Tryd.results15, go_sem, *]
          · refine ⟨?_, ?_⟩
            · refine Below.drew ?_
              repeat (refine Below.setCell ?_ (by show w.heap.size ≤ w.heap.size; omega) _)
              exact HB2.out
            · rw [HPL.out]
              rfl
    · have hae : a = s.size := by omega
      subst hae
      have hge : decide ((s.size : Int) < s.size) = false := decide_eq_false (by omega)
      have hge2 : ¬ ((s.size : Int) < s.size) := by omega
      have hbox := HL.out.rs.box
      obtain ⟨vC, vP, vT, hbox, hP, hT, hC⟩ := hbox
      have HP := Lib.hid hP
      have HTK := Lib.hid hT
      have HC := Lib.hid hC
      obtain ⟨aP, cP, rfl, -⟩ := hP
      obtain ⟨aT, cT, rfl, -⟩ := hT
      obtain ⟨cells', B', hb1, hb2, hCo, hb4, hb5⟩ := hC
      obtain ⟨aC, cC, rfl⟩ := own_slice hCo
      clear hCo hb1 hb2 hb4 hb5
      have hB := HL.out.rs.below
      have hz := HZ.out
      have g0 := (hB.block w.heap.size (by omega)).trans (heap_alloc_new w _)
      rw [hz] at hbox
      have r0 := cell_at (o := 0) hbox rfl
      have r1 := cell_at (o := 1) hbox rfl
      have r2 := cell_at (o := 2) hbox rfl
      have r3 := cell_at (o := 3) hbox rfl
      have r4 := cell_at (o := 4) hbox rfl
      have r5 := cell_at (o := 5) hbox rfl
      have q0 := cell_at (o := 0) g0 rfl
      have q1 := cell_at (o := 1) g0 rfl
      have q2 := cell_at (o := 2) g0 rfl
      have q3 := cell_at (o := 3) g0 rfl
      have q4 := cell_at (o := 4) g0 rfl
      have p0 := free_at (o := 0) g0
      have p1 := free_at (o := 1) g0
      have p2 := free_at (o := 2) g0
      have p3 := free_at (o := 3) g0
      have p4 := free_at (o := 4) g0
      have hkm := HL.out.hk
      have hPL : parseL 0 S0 s.data.toList = .ok (k, S) := by
        rw [← HL.out.left, List.drop_eq_nil_of_le (by rw [Array.length_toList]; exact Nat.le_refl _), parseL_nil]
      by_cases hk3 : k < 3
      · have hk3' : (k : Int) < 3 := by omega
        go_wp2_with fail
        go_region
        all_goals
          go_wp2_with fail
          rw [Exit.noGoto_ret]
          refine bodyPost_ret (v := .tuple #[zeroScr, .int .i64 ((k : Int) + 1), .int .i64 10]) ?_ rfl ?_
          · simp [results, Tryd.results15, go_sem, *]
          · refine ⟨?_, ?_⟩
            · refine Below.drew ?_
              repeat (refine Below.setCell ?_ (by show w.heap.size ≤ w.heap.size; omega) _)
              exact ((Below.refl _ _).alloc (Nat.le_refl _) _).trans (hB.mono (by omega))
            · rw [hPL]
              simp only
              rw [if_pos hk3]
              trivial
      · have hk3' : decide ((k : Int) < 3) = false := decide_eq_false (by omega)
        go_wp2_with fail
        refine bodyPost_ret (v := .tuple #[.agg #[.int .i64 S.stripes, .int .i64 S.room, .slice aC S.clients.length cC, .slice aP S.picks.length cP, .slice aT S.ticks.length cT], .int .i64 0, .int .i64 0]) ?_ rfl ?_
        · simp [results, Tryd.results15, go_sem, *]
        · have hk5 := kept5 g0 (.int .i64 S.stripes) (.int .i64 S.room) (.slice aC S.clients.length cC) (.slice aP S.picks.length cP) (.slice aT S.ticks.length cT)
          refine ⟨?_, ?_⟩
          · repeat (refine Below.setCell ?_ (by show w.heap.size ≤ w.heap.size; omega) _)
            exact ((Below.refl _ _).alloc (Nat.le_refl _) _).trans (hB.mono (by omega))
          · rw [hPL]
            simp only
            rw [if_neg hk3]
            exact ⟨_, _, _, HP.out.keep (hk5.1 0), HTK.out.keep (hk5.1 0), by
              have hc := HC.out
              rw [hz] at hc
              exact hc.low (by simp) (fun g hg => hk5.2 g (by omega)) hk5.1, rfl⟩
end Go.Proofs.YtplhmcmfdcklaaaDoor.Lex
