/- strings.Builder: its methods at this program's numbers (the loader refuses one statement of copyCheck's, so the shelf's contracts do not lay; the walks are the shelf's, turned). -/
import Derived.Test.YthjcmcgmalnfpaaGreatDoorMem2
import Derived.Test.YthjcmcgmalnfpaaGreatDoorWordS
import Derived.Test.YthjcmcgmalnfpaaGreatDoorChecked
import Derived.Test.YthjcmcgmalnfpaaGreatDoorShelf
import Derived.Shelf.Strings.Builder1
namespace Go.Proofs.YthjcmcgmalnfpaaGreatDoor.Lex
open Go.RowKit
set_option linter.unusedSimpArgs false
set_option linter.unusedVariables false
theorem x72 : (Tryz.prog.info? 64).map (·.size) = some 2 := by kernel_rfl
theorem lies72 : liesAt Tryz.prog Tryz.prog.depth 64 (2 / Tryz.prog.cellsOf 64) 0 64 1 = true := by kernel_rfl
theorem infoByte : (Tryz.prog.info? 5).map (fun i => (i.zero, i.size, i.bytes)) = some (some (.int .u8 0), 1, 1) := by kernel_rfl
set_option maxHeartbeats 1000000 in
set_option maxRecDepth 100000 in
theorem copyCheck_used (b : Nat) (w : World) (h0 : w.cell? ⟨b, 0, none⟩ = some (.pointer (some ⟨b, 0, none⟩))) :
    Calls Tryz.prog 24 #[.pointer (some ⟨b, 0, none⟩)] w fun e w' => e = .returned (.tuple #[]) ∧ w' = w := by
  obtain ⟨j, hj, _⟩ := Option.map_eq_some_iff.1 x72
  go_enter Tryz.func24, Tryz.ntmps24
  go_wp2
  rw [Lib.run_neq_ptr_same w _ Tryz.underlying61 hj]
  go_wp2
  go_end0
  exact ⟨rfl, rfl⟩
set_option maxHeartbeats 1000000 in
set_option maxRecDepth 100000 in
theorem copyCheck_fresh (b : Nat) (w : World) (h0 : w.cell? ⟨b, 0, none⟩ = some (.pointer none)) (hsh : w.shape? b = some (64, 2)) (hfz : w.frozen? ⟨b, 0, none⟩ = false) :
    Calls Tryz.prog 24 #[.pointer (some ⟨b, 0, none⟩)] w fun e w' => e = .returned (.tuple #[]) ∧ w' = w.setCell ⟨b, 0, none⟩ (.pointer (some ⟨b, 0, none⟩)) := by
  obtain ⟨j, hj, hjs⟩ := Option.map_eq_some_iff.1 x72
  go_enter Tryz.func24, Tryz.ntmps24
  go_wp2
  rw [Lib.run_to_unsafe w ⟨b, 0, none⟩ Tryz.underlying61 Tryz.underlying98 hj (by rw [hjs]; decide) hsh (Nat.zero_lt_succ 1)]
  simp only [Result.andThen]
  rw [Oper.upon_value]
  go_wp2
  rw [run_callFunc_extern Tryz.func39 (by kernel_rfl) (by kernel_rfl) (by kernel_rfl) (e := Extern.AbiNoEscape.same) (by kernel_rfl)]
  rw [Lib.run_noEscape]
  simp only [Result.andThen]
  rw [Oper.upon_value]
  go_wp2
  rw [Lib.run_from_unsafe w ⟨b, 0, none⟩ Tryz.underlying98 Tryz.underlying61 hj hsh lies72]
  simp only [Result.andThen]
  rw [Oper.upon_value]
  go_wp2
  go_end0
  exact ⟨rfl, rfl⟩
/-! ### The builder's block, and its row: no older than block C -/
def BAt (b C : Nat) (p : Value) (bs : List Value) (w : World) : Prop :=
  ∃ v, w.heap[b]? = some (.cells #[p, v] 64 (0, 0)) ∧ w.ownsRow C 5 1 v bs.length bs ∧ v.ownBlock ≠ some b
def IsB (b C : Nat) (bs : List Value) (w : World) : Prop := BAt b C (.pointer none) bs w ∨ BAt b C (.pointer (some ⟨b, 0, none⟩)) bs w
/-- All below C but block b is as it was. -/
structure But (b C : Nat) (w w' : World) : Prop where
  os : w'.os = w.os
  tape : w'.tape = w.tape
  output : w'.output = w.output
  size : w.heap.size ≤ w'.heap.size
  block : ∀ k, k < C → k ≠ b → w'.heap[k]? = w.heap[k]?
theorem But.refl (b C : Nat) (w : World) : But b C w w := ⟨rfl, rfl, rfl, Nat.le_refl _, fun _ _ _ => rfl⟩
theorem But.trans {b C : Nat} {u v w : World} (h : But b C u v) (k : But b C v w) : But b C u w :=
  ⟨k.os.trans h.os, k.tape.trans h.tape, k.output.trans h.output, Nat.le_trans h.size k.size, fun i hi hn => (k.block i hi hn).trans (h.block i hi hn)⟩
theorem But.below {b C B : Nat} {w w' : World} (h : But b C w w') (hb : B ≤ b) (hc : B ≤ C) : Below B w w' := ⟨h.os, h.tape, h.output, h.size, fun k hk => h.block k (by omega) (by omega)⟩
theorem But.of_below {b C : Nat} {w w' : World} (h : Below C w w') : But b C w w' := ⟨h.os, h.tape, h.output, h.size, fun k hk _ => h.block k hk⟩
theorem But.setCell (b C : Nat) (w : World) (o : Nat) (u : Value) : But b C w (w.setCell ⟨b, o, none⟩ u) := ⟨rfl, rfl, rfl, by simp, fun k _ hn => Below.heap_setCell _ _ _ _ hn⟩
theorem But.grown {b C : Nat} {w w1 w2 : World} {r : Option Nat} (h : But b C w w1) (hg : w1.grownBy w2 r) (hc : C ≤ w1.heap.size) (hr : ∀ k, r = some k → C ≤ k) : But b C w w2 :=
  h.trans (.of_below ((Below.refl C w1).grown hg hc hr))
theorem But.mono {b C C' : Nat} {w w' : World} (h : But b C w w') (hc : C' ≤ C) : But b C' w w' := ⟨h.os, h.tape, h.output, h.size, fun k hk hn => h.block k (by omega) hn⟩
theorem own_mono {w : World} {C C' : Nat} {e : TypeId} {size n : Nat} {v : Value} {xs : List Value} (h : w.ownsRow C e size v n xs) (hc : C' ≤ C) : w.ownsRow C' e size v n xs := by
  refine ⟨h.1, ?_⟩
  rcases h.2 with hn | ⟨g, cap, cur, rfl, hbg, rest⟩
  · exact .inl hn
  · exact .inr ⟨g, cap, cur, rfl, by omega, rest⟩
theorem own_other {w w' : World} {C : Nat} {e : TypeId} {size n : Nat} {v : Value} {xs : List Value} (h : w.ownsRow C e size v n xs) (hk : ∀ k, v.ownBlock = some k → w'.heap[k]? = w.heap[k]?) : w'.ownsRow C e size v n xs := by
  refine ⟨h.1, ?_⟩
  rcases h.2 with hn | ⟨g, cap, cur, rfl, hbg, hg, rest⟩
  · exact .inl hn
  · exact .inr ⟨g, cap, cur, rfl, hbg, by rw [hk g rfl]; exact hg, rest⟩
theorem BAt.at_ {b C : Nat} {p : Value} {bs : List Value} {w : World} (h : BAt b C p bs w) : Lib.BuilderAt 64 5 (min b C) b p bs w := by
  obtain ⟨v, h1, h2, h3⟩ := h
  exact ⟨Nat.min_le_left _ _, v, h1, own_mono h2 (Nat.min_le_right _ _), h3⟩
theorem IsB.is {b C : Nat} {bs : List Value} {w : World} (h : IsB b C bs w) : Lib.IsBuilder 64 5 (min b C) b bs w := by
  rcases h with h | h
  · exact .inl h.at_
  · exact .inr h.at_
theorem BAt.used {b C : Nat} {p : Value} {bs : List Value} {w : World} (h : BAt b C p bs w) (q : Value) : BAt b C q bs (w.setCell ⟨b, 0, none⟩ q) := by
  obtain ⟨v, h1, h2, h3⟩ := h
  refine ⟨v, heap_set_at q h1, own_other h2 fun k hk => Below.heap_setCell _ _ _ _ (fun e => h3 (by rw [hk, e])), h3⟩
theorem BAt.put {b C : Nat} {p v v' : Value} {bs' : List Value} {w : World} (hb : w.heap[b]? = some (.cells #[p, v] 64 (0, 0))) (hown : w.ownsRow C 5 1 v' bs'.length bs') : BAt b C p bs' (w.setCell ⟨b, 1, none⟩ v') := by
  have hne : v'.ownBlock ≠ some b := fun e => by
    rcases hown.2 with ⟨hv, _⟩ | ⟨g, cap, cur, hv, _, hg, _⟩
    · rw [hv] at e; cases e
    · rw [hv] at e
      cases e
      rw [hb] at hg
      cases hg
  refine ⟨v', heap_set_at v' hb, own_other hown fun k hk => Below.heap_setCell _ _ _ _ (fun e => hne (by rw [hk, e])), hne⟩
theorem copyCheck (b C : Nat) (bs : List Value) (w : World) (h : IsB b C bs w) :
    Calls Tryz.prog 24 #[.pointer (some ⟨b, 0, none⟩)] w fun e w' => e = .returned (.tuple #[]) ∧ (BAt b C (.pointer (some ⟨b, 0, none⟩)) bs w' ∧ But b C w w') := by
  rcases h with h | h
  · refine (copyCheck_fresh b w h.at_.cell0 h.at_.shape h.at_.frozen0).mono ?_
    rintro e w' ⟨rfl, rfl⟩
    exact ⟨rfl, h.used _, But.setCell _ _ _ _ _⟩
  · refine (copyCheck_used b w h.at_.cell0).mono ?_
    rintro e w' ⟨rfl, rfl⟩
    exact ⟨rfl, h, But.refl _ _ _⟩
set_option maxHeartbeats 1000000 in
set_option maxRecDepth 100000 in
theorem writeByte (b C : Nat) (bs : List Value) (c : Int) (w : World) (h : IsB b C bs w) (hlen : bs.length + 1 ≤ 140737488355328) (hBw : C ≤ w.heap.size) :
    Calls Tryz.prog 94 #[.pointer (some ⟨b, 0, none⟩), .int .u8 c] w fun e w' => e = .returned .nilIface ∧ (BAt b C (.pointer (some ⟨b, 0, none⟩)) (bs ++ [.int .u8 c]) w' ∧ But b C w w') := by
  obtain ⟨i0, hi, hz0, hz1, hz2⟩ := info_parts infoByte
  go_enter Tryz.func94, Tryz.ntmps94
  go_wp2_with (go_at_call 24; refine (copyCheck b C bs _ h).mono ?_)
  rintro e w1 ⟨rfl, h1, hb1⟩
  obtain ⟨v, hbk, hown, hne⟩ := h1
  have c0 : w1.cell? ⟨b, 0, none⟩ = some (.pointer (some ⟨b, 0, none⟩)) := by rw [Lib.cell_of_heap hbk]; rfl
  have c1 : w1.cell? ⟨b, 1, none⟩ = some v := by rw [Lib.cell_of_heap hbk]; rfl
  go_wp2_with (at_builtin; refine wpList_append_own _ rfl _ _ 62 rfl C 5 i0 (.int .u8 0) 1 1 Tryz.underlying62 hi hz0 hz1 hz2 rfl (by decide) _ _ _ rfl (hown.alloc _) ⟨w1.heap.size, 0, none⟩ 1 1 [.int .u8 c] rfl rfl ?c1 ?c2 ?c3 ?c4 ?c5 ?_)
  case c1 =>
    intro j u hj
    match j, hj with
    | 0, hj => simp at hj; subst hj; simp [Addr.add]
  case c2 => intro u hu; simp at hu; subst hu; rfl
  case c3 => unfold maxLen; omega
  case c4 => omega
  case c5 => have := hb1.size; simp; omega
  intro v' w2 hown' hgrow _
  have hlt : b < w1.heap.size := by
    rcases Nat.lt_or_ge b w1.heap.size with h' | h'
    · exact h'
    · simp [Array.getElem?_eq_none h'] at hbk
  have hb2 : w2.heap[b]? = some (.cells #[.pointer (some ⟨b, 0, none⟩), v] 64 (0, 0)) := by
    rw [hgrow.block b (by simp; omega) (fun e => hne e.symm), Lib.alloc_old w1 _ b hlt]
    exact hbk
  have d0 : w2.cell? ⟨b, 0, none⟩ = some (.pointer (some ⟨b, 0, none⟩)) := by rw [Lib.cell_of_heap hb2]; rfl
  have d1 : w2.cell? ⟨b, 1, none⟩ = some v := by rw [Lib.cell_of_heap hb2]; rfl
  have f1 : w2.frozen? ⟨b, 1, none⟩ = false := Lib.frozen_of_heap hb2 1
  obtain ⟨g, cap, rfl⟩ : ∃ g cap, v' = .slice (some ⟨g, 0, none⟩) (bs.length + 1) cap := by
    rcases hown'.2 with ⟨_, h0⟩ | ⟨g, cap, cur, hv, _⟩
    · omega
    · exact ⟨g, cap, hv⟩
  go_wp2
  go_ret
  refine ⟨rfl, ?_, ?_⟩
  · exact BAt.put hb2 (bs' := bs ++ [.int .u8 c]) (by simpa using hown')
  · exact ((hb1.trans (.of_below ((Below.refl C w1).alloc (by have := hb1.size; omega) _))).grown hgrow (by have := hb1.size; simp; omega) (fun k hk => (hown.lt k hk).1)).trans (But.setCell _ _ _ _ _)
set_option maxHeartbeats 2000000 in
set_option maxRecDepth 100000 in
theorem writeString (b C : Nat) (bs : List Value) (s : ByteArray) (w : World) (h : IsB b C bs w) (hlen : bs.length + s.size ≤ 140737488355328) (hBw : C ≤ w.heap.size) :
    Calls Tryz.prog 14 #[.pointer (some ⟨b, 0, none⟩), .string s] w fun e w' => e = .returned (.tuple #[.int .i64 s.size, .nilIface]) ∧ (BAt b C (.pointer (some ⟨b, 0, none⟩)) (bs ++ Lib.strCells s) w' ∧ But b C w w') := by
  obtain ⟨i0, hi, hz0, hz1, hz2⟩ := info_parts infoByte
  go_enter Tryz.func14, Tryz.ntmps14
  go_wp2_with (go_at_call 24; refine (copyCheck b C bs _ h).mono ?_)
  rintro e w1 ⟨rfl, h1, hb1⟩
  obtain ⟨v, hbk, hown, hne⟩ := h1
  have c0 : w1.cell? ⟨b, 0, none⟩ = some (.pointer (some ⟨b, 0, none⟩)) := by rw [Lib.cell_of_heap hbk]; rfl
  have c1 : w1.cell? ⟨b, 1, none⟩ = some v := by rw [Lib.cell_of_heap hbk]; rfl
  go_wp2_with (at_builtin; refine Lib.wpList_append_own_string _ rfl _ _ 62 9 rfl C 5 i0 Tryz.underlying62 Tryz.underlying9 hi hz0 hz1 hz2 _ _ _ rfl hown s rfl ?c3 ?c4 ?c5 ?_)
  case c3 => unfold maxLen; omega
  case c4 => omega
  case c5 => have := hb1.size; omega
  intro v' w2 hown' hgrow _
  have hlt : b < w1.heap.size := by
    rcases Nat.lt_or_ge b w1.heap.size with h' | h'
    · exact h'
    · simp [Array.getElem?_eq_none h'] at hbk
  have hb2 : w2.heap[b]? = some (.cells #[.pointer (some ⟨b, 0, none⟩), v] 64 (0, 0)) := by
    rw [hgrow.block b hlt (fun e => hne e.symm)]
    exact hbk
  have d0 : w2.cell? ⟨b, 0, none⟩ = some (.pointer (some ⟨b, 0, none⟩)) := by rw [Lib.cell_of_heap hb2]; rfl
  have d1 : w2.cell? ⟨b, 1, none⟩ = some v := by rw [Lib.cell_of_heap hb2]; rfl
  have f1 : w2.frozen? ⟨b, 1, none⟩ = false := Lib.frozen_of_heap hb2 1
  obtain ⟨ao, n', cap, rfl⟩ : ∃ ao n' cap, v' = .slice ao n' cap := by
    rcases hown'.2 with ⟨hv, _⟩ | ⟨g, cap, cur, hv, _⟩
    · exact ⟨_, _, _, hv⟩
    · exact ⟨_, _, _, hv⟩
  go_wp2
  go_ret2
  refine ⟨rfl, ?_, ?_⟩
  · exact BAt.put hb2 (bs' := bs ++ Lib.strCells s) (by simpa [Lib.strCells_length] using hown')
  · exact (hb1.grown hgrow (by have := hb1.size; omega) (fun k hk => (hown.lt k hk).1)).trans (But.setCell _ _ _ _ _)
/-! ### In bytes -/
/-- The builder in block b holds the bytes l; its row is no older than block C. -/
def Bld (w : World) (b C : Nat) (l : List UInt8) : Prop := IsB b C (Lib.byteCells l) w
theorem bld_new (w : World) (C : Nat) : Bld (w.alloc (.cells #[.pointer none, .slice none 0 0] 64)) w.heap.size C [] :=
  .inl ⟨_, heap_alloc_new w _, World.ownsRow_nil _ _ _ _, by simp [Value.ownBlock]⟩
theorem Bld.keep {w w' : World} {b C : Nat} {l : List UInt8} (h : Bld w b C l) (hb : Below w.heap.size w w') : Bld w' b C l := by
  have one : ∀ {p}, BAt b C p (Lib.byteCells l) w → BAt b C p (Lib.byteCells l) w' := by
    rintro p ⟨v, h2, h3, h4⟩
    exact ⟨v, (hb.block b (Array.getElem?_eq_some_iff.1 h2).1).trans h2, own_below h3 hb, h4⟩
  rcases h with h | h
  · exact .inl (one h)
  · exact .inr (one h)
theorem Bld.lt {w : World} {b C : Nat} {l : List UInt8} (h : Bld w b C l) : b < w.heap.size := by
  rcases h with ⟨_, h, _⟩ | ⟨_, h, _⟩
  · exact (Array.getElem?_eq_some_iff.1 h).1
  · exact (Array.getElem?_eq_some_iff.1 h).1
theorem Bld.mono {w : World} {b C C' : Nat} {l : List UInt8} (h : Bld w b C l) (hc : C' ≤ C) : Bld w b C' l := by
  rcases h with ⟨v, h1, h2, h3⟩ | ⟨v, h1, h2, h3⟩
  · exact .inl ⟨v, h1, own_mono h2 hc, h3⟩
  · exact .inr ⟨v, h1, own_mono h2 hc, h3⟩
theorem byteCells_app (l : List UInt8) (s : ByteArray) : Lib.byteCells l ++ Lib.strCells s = Lib.byteCells (l ++ s.data.toList) := by simp [Lib.byteCells, Lib.strCells]
theorem bld_write (b C : Nat) (l : List UInt8) (s : ByteArray) (w : World) (h : Bld w b C l) (hlen : l.length + s.size ≤ 140737488355328) (hBw : C ≤ w.heap.size) :
    Calls Tryz.prog 14 #[.pointer (some ⟨b, 0, none⟩), .string s] w fun e w' => e = .returned (.tuple #[.int .i64 s.size, .nilIface]) ∧ Bld w' b C (l ++ s.data.toList) ∧ But b C w w' :=
  (writeString b C _ s w h (by rw [Lib.byteCells_length]; exact hlen) hBw).mono fun e w' ⟨h1, h2, h3⟩ => ⟨h1, .inr (by rw [← byteCells_app]; exact h2), h3⟩
theorem bld_byte (b C : Nat) (l : List UInt8) (c : UInt8) (w : World) (h : Bld w b C l) (hlen : l.length + 1 ≤ 140737488355328) (hBw : C ≤ w.heap.size) :
    Calls Tryz.prog 94 #[.pointer (some ⟨b, 0, none⟩), .int .u8 c.toNat] w fun e w' => e = .returned .nilIface ∧ Bld w' b C (l ++ [c]) ∧ But b C w w' :=
  (writeByte b C _ _ w h (by rw [Lib.byteCells_length]; exact hlen) hBw).mono fun e w' ⟨h1, h2, h3⟩ => ⟨h1, .inr (by simpa [Lib.byteCells] using h2), h3⟩
theorem bld_string (b C : Nat) (l : List UInt8) (w : World) (h : Bld w b C l) (hBw : min b C ≤ w.heap.size) :
    Calls Tryz.prog 17 #[.pointer (some ⟨b, 0, none⟩)] w fun e w' => e = .returned (.string (bs l)) ∧ Below (min b C) w w' := Tryz.Builder_String_any (min b C) b l w h.is hBw
theorem bld_len (b C : Nat) (l : List UInt8) (w : World) (h : Bld w b C l) :
    Calls Tryz.prog 57 #[.pointer (some ⟨b, 0, none⟩)] w fun e w' => e = .returned (.int .i64 l.length) ∧ w = w' :=
  (Tryz.Builder_Len (min b C) b _ w h.is).mono fun e w' ⟨h1, h2⟩ => ⟨by rw [h1, Lib.byteCells_length], h2.symm⟩
end Go.Proofs.YthjcmcgmalnfpaaGreatDoor.Lex
