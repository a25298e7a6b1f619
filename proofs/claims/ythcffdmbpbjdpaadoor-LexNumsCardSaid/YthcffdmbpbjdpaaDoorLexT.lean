/- lex.Tokens, walked. -/
import Derived.Test.YthcffdmbpbjdpaaDoorLexK
import Derived.Test.YthcffdmbpbjdpaaDoorLexM
import Derived.Deep.LoopGhost
import Derived.Deep.DeepCutAuto
namespace Go.Proofs.YthcffdmbpbjdpaaDoor.Lex
open Go.RowKit
set_option linter.unusedSimpArgs false
set_option linter.unusedVariables false
def tokCells (s : ByteArray) (l : List Tok) : List Value := l.flatMap fun x => [.int .i64 x.1, .string (s.extract x.2.1 x.2.2), .int .i64 x.2.1]
theorem tokCells_snoc (s : ByteArray) (l : List Tok) (x : Tok) : tokCells s (l ++ [x]) = tokCells s l ++ [.int .i64 x.1, .string (s.extract x.2.1 x.2.2), .int .i64 x.2.1] := by simp [tokCells]
theorem tokCells_length (s : ByteArray) (l : List Tok) : (tokCells s l).length = l.length * 3 := by
  induction l with
  | nil => rfl
  | cons x l ih => simp [tokCells] at ih ⊢; omega
theorem ownsRow_iterAt {w : World} {base : Nat} {e : TypeId} {size : Nat} {v : Value} {n : Nat} {xs : List Value} (h : w.ownsRow base e size v n xs) {k : Nat} (hk : k < base) (s : ByteArray) (p : Nat) : (w.iterAt k s p).ownsRow base e size v n xs := by
  obtain ⟨h1, h2⟩ := h
  refine ⟨h1, ?_⟩
  rcases h2 with h2 | ⟨g, cap, cur, a, b, c, d⟩
  · exact .inl h2
  · exact .inr ⟨g, cap, cur, a, b, by rw [Lib.iterAt_other _ _ _ _ _ (by omega)]; exact c, d⟩
theorem kb_ascii {s : ByteArray} {i : Nat} (h : i < s.size) (hk : kb s i ≠ 0) : (s[i]'h).toNat < 128 ∧ kb s i = kd (s[i]'h).toNat := by
  have e : s.data.toList.getD i 0 = s[i]'h := by
    have hi : i < s.data.toList.length := by simpa using h
    simp [List.getD, List.getElem?_eq_getElem hi]
    rfl
  unfold kb at hk ⊢
  rw [e] at hk ⊢
  refine ⟨?_, rfl⟩
  apply Classical.byContradiction
  intro h1
  exact hk (kd_0 (by omega) (by omega) (by omega))
theorem tokElem : Elem Tryd.prog 34 38 3 32 := ⟨Tryd.underlying34, ⟨.agg #[.int .i64 0, .string ByteArray.empty, .int .i64 0], by kernel_rfl, rfl⟩, by omega⟩
theorem toks_le (s : ByteArray) : ∀ i, (toks s i).length ≤ i
  | 0 => Nat.le_refl _
  | i + 1 => by
    have ih := toks_le s i
    simp only [toks]
    split <;> simp <;> omega
theorem tokCells_set (s : ByteArray) (l : List Tok) (k a b n : Nat) (h : l.length = n) {x : ByteArray} :
    (tokCells s l ++ [Value.int .i64 k, .string x, .int .i64 a]).set (n * 3 + 1) (.string (s.extract a b)) = tokCells s (l ++ [(k, a, b)]) := by
  subst h
  rw [tokCells_snoc, ← tokCells_length s l, set_mid]
/-- A byte that is of no kind: what the loop reads there. -/
theorem next_bad {w : World} {k : Nat} {s : ByteArray} {i : Nat} (hk : w.heap[k]? = some (.stringIter s i)) (h : i < s.size) (hz : kb s i = 0) :
    ∃ (c p : Nat), kd c = 0 ∧ ∀ ty, (Instr.next (.pointer (some ⟨k, 0, none⟩)) true ty).run Tryd.prog w = .ok (.tuple #[.bool true, .int .i64 i, .int .i32 c]) (w.iterAt k s p) := by
  have e : s.data.toList.getD i 0 = s[i]'h := by
    have hi : i < s.data.toList.length := by simpa using h
    simp [List.getD, List.getElem?_eq_getElem hi]
    rfl
  unfold kb at hz
  rw [e] at hz
  by_cases ha : (s[i]'h).toNat < 128
  · exact ⟨_, _, hz, fun ty => Lib.run_next_ascii_at w k s i ty hk h ha⟩
  · have := decode_high s i h (by omega)
    exact ⟨_, _, kd_0 (by omega) (by omega) (by omega), fun ty => Lib.run_next_any_at w k s i ty hk h⟩
/-- What Tokens makes of s. -/
def TokPost (s : ByteArray) (w : World) (e : Ending) (w' : World) : Prop :=
  ((∃ m, m < s.size ∧ kb s m = 0) ∧ e = .returned (.tuple #[.slice none 0 0, .int .i64 10]) ∧ Below w.heap.size w w') ∨
  ((∀ m, m < s.size → kb s m ≠ 0) ∧ ∃ v, e = .returned (.tuple #[v, .int .i64 0]) ∧ w'.ownsRow (w.heap.size + 1) 38 3 v (toks s s.size).length (tokCells s (toks s s.size)) ∧ Below w.heap.size w w')
set_option maxRecDepth 100000 in
set_option maxHeartbeats 4000000 in
theorem lexToks (s : ByteArray) (w : World) (hs : s.size ≤ 8192) : Calls Tryd.prog 10 #[.string s] w (TokPost s w) := by
  go_enter Tryd.func10, Tryd.ntmps10
  go_wp2
  go_loopg [4, 5] s.size (fun g v last wr => ∃ i : Nat, i ≤ s.size ∧ g = s.size - i ∧ last = .int .i64 (lastK s i) ∧ wr.heap[w.heap.size]? = some (.stringIter s i) ∧ wr.ownsRow (w.heap.size + 1) 38 3 v (toks s i).length (tokCells s (toks s i)) ∧ Below w.heap.size w wr ∧ ∀ m, m < i → kb s m ≠ 0)
  case atStart => exact ⟨0, by omega, rfl, rfl, World.iter_heap w s 0, World.ownsRow_nil _ _ _ _, (Below.refl _ _).alloc (Nat.le_refl _) _, by omega⟩
  case round =>
    obtain ⟨i, hi, rfl, rfl, hit, hown, hbw, hall⟩ := hrel
    obtain ⟨wo, rfl⟩ : ∃ wo : World, wo = wr := ⟨_, rfl⟩
    have HA := Lib.hid hall
    clear hall
    by_cases hp : i < s.size
    · by_cases hz : kb s i = 0
      · obtain ⟨c, p, hc, hnx⟩ := next_bad hit hp hz
        have hbw2 := Lib.hid (Lib.below_iterAt hbw (k := w.heap.size) (Nat.le_refl _) s p)
        generalize wo.iterAt w.heap.size s p = W1 at *
        have HC := Lib.hid hc
        have HZ := Lib.hid hz
        clear hit hown hbw hz hc
        go_wp2_with (go_at_call 11; (with_reducible refine (lkind _ _).mono ?_); rintro e w' ⟨rfl, rfl⟩; rw [HC.out])
        go_ret2
        exact .inl ⟨⟨i, hp, HZ.out⟩, rfl, hbw2.out⟩
      · obtain ⟨ha, hk⟩ := kb_ascii hp hz
        have hnx : ∀ ty, (Instr.next (.pointer (some ⟨w.heap.size, 0, none⟩)) true ty).run Tryd.prog wo = _ := fun ty => Lib.run_next_ascii_at wo w.heap.size s i ty hit hp ha
        have hit2 := Lib.hid (Lib.iterAt_heap wo w.heap.size s i (i + 1) hit)
        have hbw2 := Lib.hid (Lib.below_iterAt hbw (k := w.heap.size) (Nat.le_refl _) s (i + 1))
        have hown2 := Lib.hid (ownsRow_iterAt hown (k := w.heap.size) (by omega) s (i + 1))
        generalize wo.iterAt w.heap.size s (i + 1) = W1 at *
        clear hit hown hbw
        have hk0 : kd (s[i]'hp).toNat ≠ 0 := by rw [← hk]; exact hz
        have hsz : w.heap.size + 1 ≤ W1.heap.size := (Array.getElem?_eq_some_iff.1 hit2.out).1
        have hlen := tokCells_length s (toks s i)
        have hlt : (toks s i).length ≤ i := toks_le s i
        have HKB := Lib.hid hk
        generalize hkk : kd (s[i]'hp).toNat = k at *
        have HKK := Lib.hid hkk
        have t0 : ((k : Int) == 0) = false := beq_eq_false_iff_ne.2 (by omega)
        have HA1 : Hid (∀ m, m < i + 1 → kb s m ≠ 0) := Lib.hid fun m hm => by
          rcases Nat.lt_or_ge m i with h | h
          · exact HA.out m h
          · obtain rfl : m = i := by omega
            exact hz
        have HZ := Lib.hid hz
        clear hk hkk hz
        have s2 : IntKind.i64.wrap ((i : Int) + 1) = (i : Int) + 1 := IntWalk.i64_in _ (by omega)
        have s3 : (i : Int) + 1 ≤ (s.size : Int) := by omega
        have s4 : ((i : Int) + 1).toNat = i + 1 := by omega
        by_cases hnew : k = 3 ∨ k ≠ lastK s i
        · have HN := Lib.hid (toks_new (s := s) (i := i) (by rw [HKB.out]; exact hnew))
          have t3 : ((k : Int) == 3 || (k : Int) != (lastK s i : Int)) = true := by
            rcases hnew with h | h
            · subst h; rfl
            · have : (k : Int) ≠ (lastK s i : Int) := by omega
              simp [this]
          clear hnew
          go_upto_region 11 with (first | (go_at_call 11; (with_reducible refine (lkind _ _).mono ?_); rintro e w' ⟨rfl, rfl⟩; rw [HKK.out]) | (at_builtin; refine wpl_app3 rfl _ _ 34 rfl tokElem _ _ _ rfl _ _ _ rfl (by simp [Value.oneCell']) hown2.out hbw2.out (by omega) hsz (by omega) (by unfold maxLen; omega) ?_; intro v' w3 hown3 hbw3 hg3; have hit3 := Lib.hid (grown_obj hown2.out hg3 hit2.out (by omega)); clear hg3; obtain ⟨g, cp, rfl, hbg, hgl, hgc, hgm⟩ := own_some hown3 (by omega)))
          all_goals
            have s1 : IntKind.i64.wrap ((((toks s i).length + 1 : Nat) : Int) - 1) = ((toks s i).length : Int) := by
              rw [show (((toks s i).length + 1 : Nat) : Int) - 1 = ((toks s i).length : Int) by omega]
              exact IntWalk.i64_in _ (by omega)
            have ⟨c1, f1⟩ := own_cell hown3 (i := (toks s i).length * 3 + 1) (u := .string ⟨#[]⟩) (by rw [← hlen, List.getElem?_append_right (by omega)]; simp)
            have ⟨c2, f2⟩ := own_cell hown3 (i := (toks s i).length * 3 + 2) (u := .int .i64 i) (by rw [← hlen, List.getElem?_append_right (by omega)]; simp)
            have HO3 := Lib.hid hown3
            have HB3 := Lib.hid hbw3
            clear hown3 hbw3
            go_wp2_with fail
            go_roundg (s.size - (i + 1))
            case measure => omega
            case rel =>
              refine ⟨i + 1, by omega, rfl, (by have h9 : lastK s (i + 1) = k := HKB.out; refine congrArg (Value.int .i64) ?_; omega), ?_, ?_, HB3.out.setCell (by simp; omega) _, HA1.out⟩
              · rw [Below.heap_setCell _ _ _ _ (by simp; omega)]
                exact hit3.out
              · have h9 := own_set HO3.out ((toks s i).length * 3 + 1) (by omega) (.string (s.extract i (i + 1)))
                rw [HN.out, HKB.out]
                first
                  | (rw [tokCells_set s (toks s i) k i (i + 1) _ rfl] at h9; simpa using h9)
                  | (rw [show ((3 : Int)) = (k : Int) by omega, tokCells_set s (toks s i) k i (i + 1) _ rfl] at h9; simpa using h9)
        · have HN := Lib.hid (toks_more (s := s) (i := i) (by rw [HKB.out]; exact hnew))
          have hk3 : k ≠ 3 := fun h => hnew (.inl h)
          have hkl : k = lastK s i := Classical.byContradiction fun h => hnew (.inr h)
          have t3 : ((k : Int) == 3) = false := beq_eq_false_iff_ne.2 (by omega)
          have t4 : ((k : Int) != (lastK s i : Int)) = false := by rw [← hkl]; simp
          have i0 : 0 < i := by
            rcases Nat.eq_zero_or_pos i with rfl | h
            · exact absurd hkl hk0
            · exact h
          have hne := toks_ne (s := s) i0
          obtain ⟨l, x, hl⟩ : ∃ l x, toks s i = l ++ [x] := by
            rcases List.eq_nil_or_concat (toks s i) with h0 | ⟨l, x, hl⟩
            · exact absurd h0 hne
            · exact ⟨l, x, by rw [hl, List.concat_eq_append]⟩
          obtain ⟨x1, x2, x3⟩ := x
          have hch := toks_chained i HA.out
          rw [hl] at hch
          obtain ⟨b, hb1, hb2, hb3, hb4⟩ := chained_last hch
          obtain rfl : x2 = b := hb2
          obtain rfl : x3 = i := hb4
          have hb3 : x2 < x3 := hb3
          have hown3 := hown2.out
          have HN2 : Hid (toks s (x3 + 1) = l ++ [(x1, x2, x3 + 1)]) := Lib.hid (by rw [HN.out, hl]; simp)
          have h8 : (toks s x3).length = l.length + 1 := by rw [hl]; simp
          rw [h8, hl] at hown3
          have HOL := Lib.hid hown3
          obtain ⟨g, cp, rfl, hbg, hgl, hgc, hgm⟩ := own_some hown3 (by omega)
          rw [tokCells_snoc] at hown3
          have hll := tokCells_length s l
          have ⟨c1, f1⟩ := own_cell hown3 (i := l.length * 3 + 1) (u := .string (s.extract x2 x3)) (by rw [← hll, List.getElem?_append_right (by omega)]; simp)
          have ⟨c2, f2⟩ := own_cell hown3 (i := l.length * 3 + 2) (u := .int .i64 x2) (by rw [← hll, List.getElem?_append_right (by omega)]; simp)
          have HO3 := Lib.hid hown3
          have HKL := Lib.hid hkl
          have hl3 : l.length ≤ 8192 := by omega
          have s1 : IntKind.i64.wrap (((l.length + 1 : Nat) : Int) - 1) = (l.length : Int) := by
            rw [show ((l.length + 1 : Nat) : Int) - 1 = (l.length : Int) by omega]
            exact IntWalk.i64_in _ (by omega)
          clear hown3 hnew hkl hl hch hb1 hlen hll hne h8
          go_upto_region 11 with (go_at_call 11; (with_reducible refine (lkind _ _).mono ?_); rintro e w' ⟨rfl, rfl⟩; rw [HKK.out])
          go_wp2_with fail
          go_roundg (s.size - (x3 + 1))
          case measure => omega
          case rel =>
            refine ⟨x3 + 1, by omega, rfl, (by have h9 : lastK s (x3 + 1) = k := HKB.out; refine congrArg (Value.int .i64) ?_; omega), ?_, ?_, hbw2.out.setCell (by simp; omega) _, HA1.out⟩
            · rw [Below.heap_setCell _ _ _ _ (by simp; omega)]
              exact hit2.out
            · have h9 := own_set HO3.out (l.length * 3 + 1) (by omega) (.string (s.extract x2 (x3 + 1)))
              rw [HN2.out]
              rw [tokCells_set s l x1 x2 (x3 + 1) _ rfl] at h9
              simpa using h9
    · have hnx : ∀ ty, (Instr.next (.pointer (some ⟨w.heap.size, 0, none⟩)) true ty).run Tryd.prog wo = _ := fun ty => Lib.run_next_end_at wo w.heap.size s i ty hit hp
      have HB := Lib.hid hbw
      have HO := Lib.hid hown
      clear hbw hown
      obtain ⟨n, hn⟩ : ∃ n, n = i := ⟨_, rfl⟩
      go_wp2_with fail
      go_ret2
      have he : i = s.size := by omega
      exact .inr ⟨fun m hm => HA.out m (by omega), _, rfl, by rw [← he]; exact HO.out, HB.out⟩
end Go.Proofs.YthcffdmbpbjdpaaDoor.Lex
