/- All1, RowV43, AllE, ShT, RAll: laid into one text. -/
import Derived.Test.YthjcmcgmalnfpaaGreatDoorPut
import Derived.Test.YthjcmcgmalnfpaaGreatDoorOpE
import Derived.Test.YthjcmcgmalnfpaaGreatDoorOpV
import Derived.Test.YthjcmcgmalnfpaaGreatDoorGOp
import Derived.Deep.DeepCutAuto
import Derived.Deep.CutBlock
import Derived.Test.YthjcmcgmalnfpaaGreatDoorROpE
/- report.All's closure: one line more. -/
namespace Go.Proofs.YthjcmcgmalnfpaaGreatDoor.Lex
open Go.RowKit
set_option linter.unusedSimpArgs false
set_option linter.unusedVariables false
set_option maxRecDepth 100000 in
set_option maxHeartbeats 4000000 in
theorem line_all (l : List Part) (a : Option Addr) (cap : Nat) (b C : Nat) (t : List UInt8) (w : World) (hr : PartRow w a l) (hok : ∀ p ∈ l, p.Ok) (hn : l.length ≤ 64) (ht : HasTab w) (hb : Bld w b C t) (hlen : t.length ≤ 70368744177664) (hBw : C ≤ w.heap.size) :
    Calls Tryz.prog 13 #[.slice a l.length cap, .pointer (some ⟨b, 0, none⟩)] w fun e w' => e = .returned (.tuple #[]) ∧ Bld w' b C (t ++ (partsT l ++ [10])) ∧ But b C w w' := by
  have hpl : (partsT l).length ≤ 1073741824 * 64 := Nat.le_trans (parts_len hok) (Nat.mul_le_mul_left _ hn)
  have HP := Lib.hid (put_any l a cap w hr hok (by omega) ht)
  obtain ⟨s, hs⟩ : ∃ s, s = bs (partsT l) := ⟨_, rfl⟩
  rw [← hs] at HP
  have hss : s.size ≤ 68719476736 := by rw [hs, size_bs]; omega
  obtain ⟨s2, hs2⟩ : ∃ s2 : ByteArray, s ++ ⟨#[10]⟩ = s2 := ⟨_, rfl⟩
  have h2 : s2 = bs (partsT l ++ [10]) := by rw [← hs2, hs]; exact bs_bs _ _
  have hz2 : s2.size ≤ 68719476737 := by rw [h2, size_bs, List.length_append]; show (partsT l).length + 1 ≤ _; omega
  have e2 : s2.data.toList = partsT l ++ [10] := by rw [h2]; simp [bs]
  have HWR : Hid (∀ W, Below w.heap.size w W → Calls Tryz.prog 14 #[.pointer (some ⟨b, 0, none⟩), .string s2] W fun e w' => e = .returned (.tuple #[.int .i64 s2.size, .nilIface]) ∧ Bld w' b C (t ++ (partsT l ++ [10])) ∧ But b C w w') := Lib.hid fun W hB => by
    refine (bld_write b C t s2 W (hb.keep hB) (by omega) (Nat.le_trans hBw hB.size)).mono ?_
    rintro e w' ⟨h1, h2, h3⟩
    rw [e2] at h2
    exact ⟨h1, h2, (But.of_below (hB.mono hBw)).trans h3⟩
  have hss2 : ¬ 9223372036854775807 < s.size + 1 := by omega
  have HSS := Lib.hid hss
  clear hr hok hn ht hb hs hpl h2 e2
  go_enter Tryz.func13, Tryz.ntmps13
  go_wp2_with (first
    | (go_at_call 15; (with_reducible refine HP.out.mono ?_); rintro e w1 ⟨rfl, hb1⟩; have HB1 := Lib.hid hb1; clear hb1)
    | (go_at_call 14; (with_reducible refine (HWR.out _ HB1.out).mono ?_); rintro e w2 ⟨rfl, h1, h2⟩; have H1 := Lib.hid h1; have H2 := Lib.hid h2; clear h1 h2))
  go_end0
  exact ⟨rfl, H1.out, H2.out⟩
end Go.Proofs.YthjcmcgmalnfpaaGreatDoor.Lex
/- Rows of keys and of names; the texts of a report's parts. No function of the program. -/
namespace Go.Proofs.YthjcmcgmalnfpaaGreatDoor.Lex
open Go.RowKit
abbrev NameV := Int × Int × Int × Int
abbrev nameRd : Rd NameV := .pair (.int .i64) (.pair (.int .i64) (.pair (.int .i64) (.int .i64)))
theorem keyRd_ok43 : (keyRd : Rd KeyV).Ok 2 := Rd.pair_ok (Rd.int_ok _) (Rd.int_ok _)
theorem nameRd_ok : nameRd.Ok 4 := Rd.pair_ok (Rd.int_ok _) (Rd.pair_ok (Rd.int_ok _) (Rd.pair_ok (Rd.int_ok _) (Rd.int_ok _)))
theorem wf_i64 {n : Int} (h : (Lit.int .i64 n).wf = true) : InI n := by
  simp only [Lit.wf, Bool.and_eq_true, decide_eq_true_eq] at h
  exact h
theorem row_keys {F : Foot} {w : World} {a : Option Addr} {n cap : Nat} {K : List (List KeyV)} (h : RowOf (Rd.slice keyRd 2 16) 1 24 F w a n cap K) (i : Nat) (hi : i < K.length) :
    ∃ b off ia im ic, a = some ⟨b, off, none⟩ ∧ b < w.heap.size ∧ w.cell? ⟨b, off + i, none⟩ = some (.slice ia im ic) ∧ RowOf keyRd 2 16 F w ia im ic (K[i]'hi) := by
  obtain ⟨b, off, cs, h1, h2, _, _, h4, ia, im, ic, rfl, h5⟩ := h.at_ i _ (List.getElem?_eq_getElem hi)
  exact ⟨b, off, ia, im, ic, h1, h2, by simpa using h4 0 _ rfl, h5⟩
theorem row_key {F : Foot} {w : World} {a : Option Addr} {n cap : Nat} {l : List KeyV} (h : RowOf keyRd 2 16 F w a n cap l) (i : Nat) (hi : i < l.length) :
    ∃ b off, a = some ⟨b, off, none⟩ ∧ b < w.heap.size ∧ w.cell? ⟨b, off + i * 2, none⟩ = some (.int .i64 (l[i]'hi).1) ∧ w.cell? ⟨b, off + i * 2 + 1, none⟩ = some (.int .i64 (l[i]'hi).2) ∧ InI (l[i]'hi).1 ∧ InI (l[i]'hi).2 := by
  obtain ⟨b, off, cs, h1, h2, _, _, h4, c1, c2, rfl, ⟨rfl, w1⟩, rfl, w2⟩ := h.at_ i _ (List.getElem?_eq_getElem hi)
  exact ⟨b, off, h1, h2, by simpa using h4 0 _ rfl, h4 1 _ rfl, wf_i64 w1, wf_i64 w2⟩
theorem row_name {F : Foot} {w : World} {a : Option Addr} {n cap : Nat} {l : List NameV} (h : RowOf nameRd 4 32 F w a n cap l) (i : Nat) (hi : i < l.length) :
    ∃ b off, a = some ⟨b, off, none⟩ ∧ b < w.heap.size ∧ (w.cell? ⟨b, off + i * 4, none⟩ = some (.int .i64 (l[i]'hi).1) ∧ w.cell? ⟨b, off + i * 4 + 1, none⟩ = some (.int .i64 (l[i]'hi).2.1) ∧ w.cell? ⟨b, off + i * 4 + 2, none⟩ = some (.int .i64 (l[i]'hi).2.2.1) ∧ w.cell? ⟨b, off + i * 4 + 3, none⟩ = some (.int .i64 (l[i]'hi).2.2.2)) ∧
      InI (l[i]'hi).1 ∧ InI (l[i]'hi).2.1 ∧ InI (l[i]'hi).2.2.1 ∧ InI (l[i]'hi).2.2.2 := by
  obtain ⟨b, off, cs, h1, h2, _, _, h4, c1, c2, rfl, ⟨rfl, w1⟩, c3, c4, rfl, ⟨rfl, w2⟩, c5, c6, rfl, ⟨rfl, w3⟩, rfl, w4⟩ := h.at_ i _ (List.getElem?_eq_getElem hi)
  exact ⟨b, off, h1, h2, ⟨by simpa using h4 0 _ rfl, h4 1 _ rfl, h4 2 _ rfl, h4 3 _ rfl⟩, wf_i64 w1, wf_i64 w2, wf_i64 w3, wf_i64 w4⟩
/-- Texts one behind the other. -/
def textN (n : Nat) (f : Nat → List UInt8) : List UInt8 := (List.range n).flatMap f
theorem textN_succ (n : Nat) (f : Nat → List UInt8) : textN (n + 1) f = textN n f ++ f n := by
  unfold textN
  rw [List.range_succ, List.flatMap_append]
  simp
theorem textN_le {f : Nat → List UInt8} : ∀ {i n : Nat}, i ≤ n → (textN i f).length ≤ (textN n f).length
  | i, 0, h => by obtain rfl : i = 0 := by omega
                  exact Nat.le_refl _
  | i, n + 1, h => by
    by_cases e : i = n + 1
    · rw [e]; exact Nat.le_refl _
    · have := textN_le (f := f) (i := i) (n := n) (by omega)
      rw [textN_succ, List.length_append]
      omega
def opsT (M : List OpD) : List UInt8 := M.flatMap fun o => opL o ++ [10]
theorem opsT_take {M : List OpD} {i : Nat} (h : i < M.length) : opsT (M.take (i + 1)) = opsT (M.take i) ++ (opL (M[i]'h) ++ [10]) := by
  unfold opsT
  rw [List.take_succ_eq_append_getElem h, List.flatMap_append]
  simp
theorem opsT_le (M : List OpD) (i : Nat) : (opsT (M.take i)).length ≤ (opsT M).length := by
  have : opsT M = opsT (M.take i) ++ opsT (M.drop i) := by unfold opsT; rw [← List.flatMap_append, List.take_append_drop]
  rw [this, List.length_append]
  omega
def keyT (k : KeyV) : List UInt8 := partsT [.s [32], .i k.1, .s [46], .i k.2]
def keysT (l : List KeyV) : List UInt8 := l.flatMap keyT
theorem keysT_take {l : List KeyV} {i : Nat} (h : i < l.length) : keysT (l.take (i + 1)) = keysT (l.take i) ++ keyT (l[i]'h) := by
  unfold keysT
  rw [List.take_succ_eq_append_getElem h, List.flatMap_append]
  simp
/-- What is kept in a stripe: its line. -/
def keptR (i : Nat) (l : List KeyV) : List UInt8 := partsT [.s [107, 101, 112, 116, 32], .i i, .s [58]] ++ keysT l
def keptT (K : List (List KeyV)) : List UInt8 := textN K.length fun i => keptR i (K.getD i []) ++ [10]
def usesT (u : Option Int) : List UInt8 := match u with | some v => Lib.itoa v | none => [63]
/-- A table: its line. -/
def tabR (n : NameV) (u : Option Int) : List UInt8 := partsT [.s [116, 97, 98, 108, 101, 32], .i n.1, .s [32], .i n.2.1, .s [32], .i n.2.2.1, .s [32], .i n.2.2.2, .s [32, 117, 115, 101, 115, 32], .s (usesT u)]
def tabT (T : List NameV) (U : List Int) : List UInt8 := textN T.length fun i => tabR (T.getD i (0, 0, 0, 0)) U[i]? ++ [10]
theorem keysT_len {l : List KeyV} (h : ∀ k ∈ l, InI k.1 ∧ InI k.2) : (keysT l).length ≤ 44 * l.length := by
  induction l with
  | nil => simp [keysT]
  | cons k l ih =>
    have h1 := ih fun q hq => h q (List.mem_cons_of_mem _ hq)
    have h2 := h k (List.mem_cons_self ..)
    have e : keysT (k :: l) = keyT k ++ keysT l := by simp [keysT]
    have h3 : (keyT k).length ≤ 44 := by
      have a1 := itoa_len h2.1
      have a2 := itoa_len h2.2
      simp [keyT, partsT, Part.text]
      omega
    rw [e, List.length_append, List.length_cons]
    omega
end Go.Proofs.YthjcmcgmalnfpaaGreatDoor.Lex
/- report.All: a report, line by line (printed by tools/mk_alle.py). -/
namespace Go.Proofs.YthjcmcgmalnfpaaGreatDoor.Lex
open Go.RowKit
set_option linter.unusedSimpArgs false
set_option linter.unusedVariables false
theorem OcRow.fix {k : Nat} {F : Foot} {w w' : World} {a : Option Addr} {l : List OC} (h : OcRow k F w a l) (ha : ∀ g o, a = some ⟨g, o, none⟩ → F g) (hf : Fix F w w') : OcRow k F w' a l := fun i hi => by
  obtain ⟨g, off, h1, h2, h3, h4⟩ := h i hi
  exact ⟨g, off, h1, Nat.lt_of_lt_of_le h2 hf.size, fun j v hj => (hf.cell h2 (ha g off h1)).trans (h3 j v hj), h4.keep hf⟩
theorem part_row (ps : List Part) (W : World) : PartRow (W.alloc (.cells (ps.map Part.cell).toArray 20)) (some ⟨W.heap.size, 0, none⟩) ps := fun i p hp => by
  refine ⟨W.heap.size, rfl, by simp, cell_at (heap_alloc_new W _) ?_⟩
  simp [hp]
/-- While a report's text grows: the builder in the block behind the box, all else that was there at W1 as it was. -/
structure AS (N : Nat) (w W1 : World) (t : List UInt8) (wr : World) : Prop where
  bld : Bld wr (N + 1) W1.heap.size t
  but : But (N + 1) W1.heap.size W1 wr
theorem AS.keep {N : Nat} {w W1 : World} {t : List UInt8} {W W' : World} (h : AS N w W1 t W) (hb : Below W.heap.size W W') : AS N w W1 t W' :=
  ⟨h.bld.keep hb, h.but.trans (But.of_below (hb.mono h.but.size))⟩
theorem AS.old {N : Nat} {w W1 : World} {t : List UInt8} {W : World} (h : AS N w W1 t W) (hN : N ≤ W1.heap.size) (hb : Below N w W1) : Below N w W := hb.trans (h.but.below (by omega) hN)
theorem AS.fix {N : Nat} {w W1 : World} {t : List UInt8} {W : World} (h : AS N w W1 t W) : Fix (From (N + 2)) W1 W := ⟨h.but.size, fun b hb hf => h.but.block b hb (by have hf' : N + 2 ≤ b := hf; omega)⟩
theorem AS.line {N : Nat} {w W1 : World} {t : List UInt8} {W : World} (h : AS N w W1 t W) (ps : List Part) (n : Nat) (hn : ps.length = n) (vs : Array Value) (hvs : vs = (ps.map Part.cell).toArray) (hok : ∀ p ∈ ps, p.Ok) (h64 : n ≤ 64) (ht : HasTab W) (hl : t.length ≤ 70368744177664) :
    Calls Tryz.prog 13 #[.slice (some ⟨W.heap.size, 0, none⟩) n n, .pointer (some ⟨N + 1, 0, none⟩)] (W.alloc (.cells vs 20)) fun e w' => e = .returned (.tuple #[]) ∧ AS N w W1 (t ++ (partsT ps ++ [10])) w' := by
  subst hn hvs
  have hb : Below W.heap.size W (W.alloc (.cells (ps.map Part.cell).toArray 20)) := (Below.refl _ _).alloc (Nat.le_refl _) _
  have h2 := h.keep hb
  refine (line_all ps _ ps.length (N + 1) W1.heap.size t _ (part_row ps W) hok h64 (ht.below hb) h2.bld hl h2.but.size).mono ?_
  rintro e w' ⟨h1, h3, h4⟩
  exact ⟨h1, h3, h2.but.trans h4⟩
theorem put_row {W : World} (ps : List Part) (n : Nat) (hn : ps.length = n) (vs : Array Value) (hvs : vs = (ps.map Part.cell).toArray) (hok : ∀ p ∈ ps, p.Ok) (h64 : n ≤ 64) (ht : HasTab W) (s : ByteArray) (hs : s = bs (partsT ps)) :
    Calls Tryz.prog 15 #[.slice (some ⟨W.heap.size, 0, none⟩) n n] (W.alloc (.cells vs 20)) fun e w' => e = .returned (.string s) ∧ Below W.heap.size W w' := by
  subst hn hvs hs
  have hb : Below W.heap.size W (W.alloc (.cells (ps.map Part.cell).toArray 20)) := (Below.refl _ _).alloc (Nat.le_refl _) _
  refine (put_any ps _ ps.length _ (part_row ps W) hok (by omega) (ht.below hb)).mono ?_
  rintro e w' ⟨h1, h3⟩
  exact ⟨h1, hb.trans (h3.mono hb.size)⟩
/-- What a report's text is made of. -/
structure Sh where
  M : List OpD
  p : Int
  m : Int
  bu : Int
  ins : Int
  K : List (List KeyV)
  nk : Nat
  T : List NameV
  U : List Int
theorem ins_len {α : Type} (k : α → α → Bool) (x : α) : ∀ l : List α, (Stab.ins k x l).length = l.length + 1
  | [] => rfl
  | b :: l => by
    simp only [Stab.ins]
    split
    · rfl
    · rw [List.length_cons, ins_len k x l]; rfl
theorem sortO_len (l : List OpD) : (sortO l).length = l.length := by
  have : ∀ (l acc : List OpD), (l.foldl (fun acc x => Stab.ins (fun x y => StabW.ltW x.fr y.fr) x acc) acc).length = acc.length + l.length := by
    intro l
    induction l with
    | nil => intro acc; rfl
    | cons x l ih => intro acc; rw [List.foldl_cons, ih, ins_len, List.length_cons]; omega
  have h := this l []
  simpa [sortO, Stab.isort] using h
def Sh.t1 (s : Sh) : List UInt8 := opsT s.M
def Sh.t2 (s : Sh) : List UInt8 := s.t1 ++ (partsT [.s [112, 101, 110, 100, 105, 110, 103, 32], .i s.p] ++ [10])
def Sh.t3 (s : Sh) : List UInt8 := s.t2 ++ (partsT [.s [109, 101, 97, 115, 117, 114, 101, 100, 32], .i s.m, .s [32, 98, 117, 105, 108, 116, 32], .i s.bu, .s [32, 105, 110, 115, 101, 114, 116, 101, 100, 32], .i s.ins] ++ [10])
def Sh.t4 (s : Sh) : List UInt8 := s.t3 ++ keptT s.K
def Sh.t5 (s : Sh) : List UInt8 := s.t4 ++ (partsT [.s [107, 110, 111, 119, 110, 32], .i s.nk] ++ [10])
def Sh.text (s : Sh) : List UInt8 := s.t5 ++ tabT s.T s.U
theorem Sh.le (s : Sh) : s.t1.length ≤ s.text.length ∧ s.t2.length ≤ s.text.length ∧ s.t3.length ≤ s.text.length ∧ s.t4.length ≤ s.text.length ∧ s.t5.length ≤ s.text.length ∧ s.t3.length + (keptT s.K).length ≤ s.text.length ∧ s.t5.length + (tabT s.T s.U).length = s.text.length := by
  simp only [Sh.text, Sh.t5, Sh.t4, Sh.t3, Sh.t2, List.length_append]
  refine ⟨?_, ?_, ?_, ?_, ?_, ?_, ?_⟩
  all_goals first | omega | trivial
set_option maxRecDepth 100000 in
set_option maxHeartbeats 8000000 in
theorem reportAll_any (k : Nat) (F : Foot) (l : List OC) (s : Sh) (oa : Option Addr) (oc : Nat) (na : Option Addr) (nc : Nat) (ka : Option Addr) (kn kc : Nat) (ta : Option Addr) (tn tc : Nat) (ua : Option Addr) (un uc : Nat) (w : World)
    (hl : OcRow k F w oa l) (hn : l.length ≤ 1048576) (hM : s.M = sortO (l.map (·.o))) (hK : RowOf (Rd.slice keyRd 2 16) 1 24 All w ka kn kc s.K) (hT : RowOf nameRd 4 32 All w ta tn tc s.T) (hU : RowOf (Rd.int .i64) 1 8 All w ua un uc s.U)
    (hlen : s.text.length ≤ 70368744177664) (hp : InI s.p) (hm : InI s.m) (hbu : InI s.bu) (hins : InI s.ins) (hnk : s.nk ≤ 1048576) (hol : ∀ o ∈ s.M, (opL o).length ≤ 1073741824) (hkl : ∀ (i : Nat) (ks : List KeyV), s.K[i]? = some ks → ks.length ≤ 1048576) (hkn : s.K.length ≤ 1048576) (htn : s.T.length ≤ 1048576) (hW : HasWords w) (hx : HasMax w) (ht : HasTab w) :
    Calls Tryz.prog 6 #[.agg #[.slice oa l.length oc, .slice none 0 0, .int .i64 s.p, .slice na s.nk nc, .slice ka kn kc, .slice ta tn tc, .slice ua un uc, .int .i64 0, .int .i64 s.m, .int .i64 s.bu, .int .i64 s.ins, .slice none 0 0]] w fun e w' => e = .returned (.string (bs s.text)) ∧ Below w.heap.size w w' := by
  obtain ⟨N, hN⟩ : ∃ N, N = w.heap.size := ⟨_, rfl⟩
  obtain ⟨W0, hW0⟩ : ∃ W0, W0 = (w.alloc (.cells #[.slice oa l.length oc, .slice none 0 0, .int .i64 s.p, .slice na s.nk nc, .slice ka kn kc, .slice ta tn tc, .slice ua un uc, .int .i64 0, .int .i64 s.m, .int .i64 s.bu, .int .i64 s.ins, .slice none 0 0] 37)).alloc (.cells #[.pointer none, .slice none 0 0] 64) := ⟨_, rfl⟩
  have hb0 : Below N w W0 := by rw [hW0, hN]; exact ((Below.refl _ _).alloc (Nat.le_refl _) _).alloc (by simp) _
  have hz0 : W0.heap.size = N + 2 := by rw [hW0, hN]; simp
  have g0 : W0.heap[N]? = some (.cells #[.slice oa l.length oc, .slice none 0 0, .int .i64 s.p, .slice na s.nk nc, .slice ka kn kc, .slice ta tn tc, .slice ua un uc, .int .i64 0, .int .i64 s.m, .int .i64 s.bu, .int .i64 s.ins, .slice none 0 0] 37 (0, 0)) := by
    rw [hW0, hN, Lib.alloc_old _ _ _ (by simp)]
    exact heap_alloc_new w _
  have g1 : W0.heap[N + 1]? = some (.cells #[.pointer none, .slice none 0 0] 64 (0, 0)) := by
    have h := heap_alloc_new (w.alloc (.cells #[.slice oa l.length oc, .slice none 0 0, .int .i64 s.p, .slice na s.nk nc, .slice ka kn kc, .slice ta tn tc, .slice ua un uc, .int .i64 0, .int .i64 s.m, .int .i64 s.bu, .int .i64 s.ins, .slice none 0 0] 37)) (.cells #[.pointer none, .slice none 0 0] 64)
    rw [show (w.alloc (.cells #[.slice oa l.length oc, .slice none 0 0, .int .i64 s.p, .slice na s.nk nc, .slice ka kn kc, .slice ta tn tc, .slice ua un uc, .int .i64 0, .int .i64 s.m, .int .i64 s.bu, .int .i64 s.ins, .slice none 0 0] 37)).heap.size = N + 1 by rw [hN]; simp, ← hW0] at h
    exact h
  have hbw0 : Below w.heap.size w W0 := by rw [← hN]; exact hb0
  have HSO := Lib.hid (hsort_any k F l oa oc W0 hn (hl.keep hbw0) fun e he => by
    obtain ⟨i, hi, rfl⟩ := List.getElem_of_mem he
    obtain ⟨_, _, _, _, _, h⟩ := hl i hi
    exact ⟨by have h2 : (l[i]'hi).o.xs.length ≤ 100 := h.core.call.xs; omega, by have := h.core.yl; omega⟩)
  have HB0 := Lib.hid hb0
  have HG0 := Lib.hid g0
  have HG1 := Lib.hid g1
  have HZ0 := Lib.hid hz0
  have HK := Lib.hid hK
  have HT := Lib.hid hT
  have HU := Lib.hid hU
  have HM := Lib.hid hM
  have HLE := Lib.hid s.le
  have HLEN := Lib.hid hlen
  have HIN := Lib.hid (And.intro hp (And.intro hm (And.intro hbu (And.intro hins hnk))))
  have HOM : Hid (∀ o ∈ s.M, (opL o).length ≤ 1073741824) := Lib.hid hol
  have HKL := Lib.hid (And.intro hkn (And.intro htn hkl))
  have HKT := Lib.hid (And.intro hW (And.intro hx ht))
  have HN := Lib.hid hN
  have hkn0 := hK.len
  have htn0 := hT.len
  have hun0 := hU.len
  subst hkn0 htn0 hun0
  have c0 := cell_at (o := 0) g0 rfl
  clear hb0 hbw0 hz0 g0 g1 hK hT hU hM hlen hp hm hbu hins hnk hol hkl hkn htn hW hx ht hl
  go_enter Tryz.func6, Tryz.ntmps6
  go_upto_region 3 with fail
  rw [← hW0, ← hN]
  clear hW0 hN
  go_wp2_with (go_at_call 16; (with_reducible refine HSO.out.mono ?_); rintro e W1 ⟨L, rfl, hrow, hLO, hb1⟩; have HROW := Lib.hid hrow; have HLO := Lib.hid hLO; have HB1 := Lib.hid hb1; clear hrow hLO hb1)
  clear c0
  have HLL : Hid (L.length = l.length) := Lib.hid (by
    have h := congrArg List.length HLO.out
    rw [sortO_len, List.length_map, List.length_map] at h
    exact h)
  have HML : Hid (s.M = L.map (·.o)) := Lib.hid (HM.out.trans HLO.out.symm)
  have HZ1 : Hid (N + 2 ≤ W1.heap.size) := Lib.hid (by have := HB1.out.size; rw [HZ0.out] at this; exact this)
  have HBW : Hid (Below N w W1) := Lib.hid (HB0.out.trans (HB1.out.mono (by rw [HZ0.out]; omega)))
  have HA0 : Hid (AS N w W1 [] W1) := Lib.hid ⟨.inl ⟨.slice none 0 0, (HB1.out.block _ (by rw [HZ0.out]; omega)).trans HG1.out, World.ownsRow_nil _ _ _ _, by simp [Value.ownBlock]⟩, But.refl _ _ _⟩
  have HOLD : Hid (∀ t W, AS N w W1 t W → Below N w W) := Lib.hid fun t W h => h.old (by have := HZ1.out; omega) HBW.out
  have HTAB : Hid (∀ t W, AS N w W1 t W → HasTab W) := Lib.hid fun t W h => HKT.out.2.2.below (by rw [← HN.out]; exact HOLD.out t W h)
  have HBOX : Hid (∀ t W, AS N w W1 t W → W.heap[N]? = some (.cells #[.slice oa l.length oc, .slice none 0 0, .int .i64 s.p, .slice na s.nk nc, .slice ka s.K.length kc, .slice ta s.T.length tc, .slice ua s.U.length uc, .int .i64 0, .int .i64 s.m, .int .i64 s.bu, .int .i64 s.ins, .slice none 0 0] 37 (0, 0))) := Lib.hid fun t W h => (h.but.block N (by have := HZ1.out; omega) (by omega)).trans ((HB1.out.block N (by rw [HZ0.out]; omega)).trans HG0.out)
  have HPT : Hid (Fix (From W0.heap.size) W1 W1 ∧ ∀ t W, AS N w W1 t W → Fix (From W0.heap.size) W1 W) := Lib.hid ⟨Fix.refl _ _, fun t W h => by rw [HZ0.out]; exact h.fix⟩
  clear HSO HG0 HG1 HB0 HB1 HLO HM
  go_loopg [20] l.length (fun g iv wr => ∃ i : Nat, i ≤ l.length ∧ g = l.length - i ∧ iv = .int .i64 i ∧ AS N w W1 (opsT (s.M.take i)) wr)
  case atStart => exact ⟨0, by omega, rfl, rfl, HA0.out⟩
  case round =>
    obtain ⟨i, hi, rfl, rfl, hst⟩ := hrel
    obtain ⟨wo, rfl⟩ : ∃ wo : World, wo = wr := ⟨_, rfl⟩
    have HST := Lib.hid hst
    clear hst
    by_cases hlt : i < l.length
    · have hlti : (i : Int) < (l.length : Int) := by omega
      have hiL : i < L.length := by rw [HLL.out]; exact hlt
      obtain ⟨g, off, hgo, hg, hrg, hin⟩ := (HROW.out.fix (fun g o h => by cases h; exact Nat.le_refl _) (HPT.out.2 _ _ HST.out)) i hiL
      cases hgo
      rw [Nat.zero_add] at hrg
      have HTK : Hid (opsT (s.M.take (i + 1)) = opsT (s.M.take i) ++ (opL (L[i]'hiL).o ++ [10])) := Lib.hid (by
        have hm : i < s.M.length := by rw [HML.out, List.length_map]; exact hiL
        rw [opsT_take hm]
        congr 3
        have h : s.M[i]? = (L.map (·.o))[i]? := by rw [HML.out]
        rw [List.getElem?_eq_getElem hm, List.getElem?_map, List.getElem?_eq_getElem hiL] at h
        exact Option.some.inj h)
      have HOX : Hid ((opL (L[i]'hiL).o).length ≤ 1073741824) := Lib.hid (by
        have hmm : (L[i]'hiL).o ∈ s.M := by rw [HML.out]; exact List.mem_map.2 ⟨_, List.getElem_mem hiL, rfl⟩
        exact HOM.out _ hmm)
      generalize L[i]'hiL = x at *
      have HRG := Lib.hid hrg
      have HIN := Lib.hid hin
      obtain ⟨sx, hsx⟩ : ∃ sx, sx = bs (opL x.o) := ⟨_, rfl⟩
      obtain ⟨W4, hW4⟩ : ∃ W4, W4 = wo.alloc (.cells x.cells.toArray 58) := ⟨_, rfl⟩
      have HB4 : Hid (Below wo.heap.size wo W4) := Lib.hid (by rw [hW4]; exact (Below.refl _ _).alloc (Nat.le_refl _) _)
      have HR4 : Hid (W4.rangeAt wo.heap.size 0 x.cells) := Lib.hid (by
        have g4 : W4.heap[wo.heap.size]? = some (.cells x.cells.toArray 58 (0, 0)) := by rw [hW4]; exact heap_alloc_new wo _
        intro j u hu
        rw [Nat.zero_add]
        exact cell_at (o := j) g4 (by simpa using hu))
      have HOP : Hid (Calls Tryz.prog 12 #[.agg x.cells.toArray] W4 fun e w' => e = .returned (.string sx) ∧ Below W4.heap.size W4 w') := Lib.hid (by
        have hb : Below w.heap.size w W4 := by rw [← HN.out]; exact (HOLD.out _ _ HST.out).trans (HB4.out.mono (by have := HST.out.but.size; have := HZ1.out; omega))
        rw [hsx]
        exact opE_any k (From W0.heap.size) x.o x.xa x.da x.ya x.xc x.dm x.dc x.yc W4 (HIN.out.keep (Fix.of_below HB4.out)).core (HKT.out.1.below hb) (HKT.out.2.1.below hb) (HKT.out.2.2.below hb))
      have HLN : Hid (∀ W, Below W4.heap.size W4 W → Calls Tryz.prog 13 #[.slice (some ⟨W.heap.size, 0, none⟩) 1 1, .pointer (some ⟨N + 1, 0, none⟩)] (W.alloc (.cells #[.iface 9 (.string sx)] 20)) fun e w' => e = .returned (.tuple #[]) ∧ AS N w W1 (opsT (s.M.take i) ++ (partsT [.s (opL x.o)] ++ [10])) w') := Lib.hid fun W hb => by
        have h := HST.out.keep (HB4.out.trans (hb.mono HB4.out.size))
        refine h.line [.s (opL x.o)] 1 rfl _ (by rw [hsx]; rfl) (fun p hp => by rw [List.mem_singleton.1 hp]; exact HOX.out) (by omega) (HTAB.out _ _ h) ?_
        have h1 := opsT_le s.M i
        have h2 := HLE.out.1
        have h3 := HLEN.out
        unfold Sh.t1 at h2
        omega
      clear hrg hin hsx
      go_upto_region 6 with (first
        | (refine wpList_load_mid rfl 58 _ rfl W0.heap.size (i * 19) rfl x.cells _ HRG.out Tryz.underlying58 rfl (by kernel_rfl) ?_)
        | (refine wpList_store_new rfl 58 _ _ rfl wo.heap.size rfl x.cells rfl rfl rfl (by kernel_rfl) x.one ?_))
      rw [← hW4]
      clear hW4
      go_wp2_with (first
        | (refine wpList_load_mid rfl 58 _ rfl wo.heap.size 0 rfl x.cells _ HR4.out Tryz.underlying58 rfl (by kernel_rfl) ?_)
        | (go_at_call 12; (with_reducible refine HOP.out.mono ?_); rintro e w5 ⟨rfl, hb5⟩; have HB5 := Lib.hid hb5; clear hb5)
        | (go_at_call 13; (with_reducible refine (HLN.out _ HB5.out).mono ?_); rintro e w6 ⟨rfl, hs6⟩; have HS6 := Lib.hid hs6; clear hs6))
      go_roundg (l.length - (i + 1))
      case measure => omega
      case rel =>
        refine ⟨i + 1, by omega, rfl, by go_num, ?_⟩
        have h := HS6.out
        rw [show partsT [.s (opL x.o)] = opL x.o by simp [partsT, Part.text]] at h
        rw [HTK.out]
        exact h
    · have hni : i = l.length := by omega
      have hlti : ¬ (i : Int) < (l.length : Int) := by omega
      have HS1 : Hid (AS N w W1 s.t1 wo) := Lib.hid (by
        have h := HST.out
        rw [List.take_of_length_le (by rw [HML.out, List.length_map, HLL.out]; omega)] at h
        exact h)
      clear hni HST
      have HC1 : Hid (∀ W, Below wo.heap.size wo W → Calls Tryz.prog 13 #[.slice (some ⟨W.heap.size, 0, none⟩) 2 2, .pointer (some ⟨N + 1, 0, none⟩)] (W.alloc (.cells #[.iface 9 (.string ⟨#[112, 101, 110, 100, 105, 110, 103, 32]⟩), .iface 3 (.int .i64 s.p)] 20)) fun e w' => e = .returned (.tuple #[]) ∧ AS N w W1 s.t2 w') := Lib.hid fun W hb => by
        have h := HS1.out.keep hb
        refine h.line [.s [112, 101, 110, 100, 105, 110, 103, 32], .i s.p] 2 rfl _ rfl (fun p hp => ?_) (by omega) (HTAB.out _ _ h) (by have := HLE.out.1; have := HLEN.out; omega)
        simp only [List.mem_cons, List.not_mem_nil, or_false] at hp
        rcases hp with rfl | rfl
        · show 8 ≤ _; omega
        · exact HIN.out.1
      have c2 := cell_at (o := 2) (HBOX.out _ _ HS1.out) rfl
      go_upto_region 9 with (go_at_call 13; (with_reducible refine (HC1.out _ (Below.refl _ _)).mono ?_); rintro e w2 ⟨rfl, hs2⟩; have HS2 := Lib.hid hs2; clear hs2)
      clear c2 HC1
      have HC2 : Hid (∀ W, Below w2.heap.size w2 W → Calls Tryz.prog 13 #[.slice (some ⟨W.heap.size, 0, none⟩) 6 6, .pointer (some ⟨N + 1, 0, none⟩)] (W.alloc (.cells #[.iface 9 (.string ⟨#[109, 101, 97, 115, 117, 114, 101, 100, 32]⟩), .iface 3 (.int .i64 s.m), .iface 9 (.string ⟨#[32, 98, 117, 105, 108, 116, 32]⟩), .iface 3 (.int .i64 s.bu), .iface 9 (.string ⟨#[32, 105, 110, 115, 101, 114, 116, 101, 100, 32]⟩), .iface 3 (.int .i64 s.ins)] 20)) fun e w' => e = .returned (.tuple #[]) ∧ AS N w W1 s.t3 w') := Lib.hid fun W hb => by
        have h := HS2.out.keep hb
        refine h.line [.s [109, 101, 97, 115, 117, 114, 101, 100, 32], .i s.m, .s [32, 98, 117, 105, 108, 116, 32], .i s.bu, .s [32, 105, 110, 115, 101, 114, 116, 101, 100, 32], .i s.ins] 6 rfl _ rfl (fun p hp => ?_) (by omega) (HTAB.out _ _ h) (by have := HLE.out.2.1; have := HLEN.out; omega)
        simp only [List.mem_cons, List.not_mem_nil, or_false] at hp
        rcases hp with rfl | rfl | rfl | rfl | rfl | rfl
        · show 9 ≤ _; omega
        · exact HIN.out.2.1
        · show 7 ≤ _; omega
        · exact HIN.out.2.2.1
        · show 10 ≤ _; omega
        · exact HIN.out.2.2.2.1
      have c8 := cell_at (o := 8) (HBOX.out _ _ HS2.out) rfl
      have c9 := cell_at (o := 9) (HBOX.out _ _ HS2.out) rfl
      have c10 := cell_at (o := 10) (HBOX.out _ _ HS2.out) rfl
      go_upto_region 10 with (go_at_call 13; (with_reducible refine (HC2.out _ (Below.refl _ _)).mono ?_); rintro e w3 ⟨rfl, hs3⟩; have HS3 := Lib.hid hs3; clear hs3)
      clear c8 c9 c10 HC2
      have c4 := cell_at (o := 4) (HBOX.out _ _ HS3.out) rfl
      go_wp2_with fail
      clear c4 hlti hlt
      go_loopg [59] s.K.length (fun g iv wr => ∃ i : Nat, i ≤ s.K.length ∧ g = s.K.length - i ∧ iv = .int .i64 i ∧ AS N w W1 (s.t3 ++ textN i fun i => keptR i (s.K.getD i []) ++ [10]) wr)
      case atStart => exact ⟨0, by omega, rfl, rfl, by rw [show textN 0 _ = [] from rfl, List.append_nil]; exact HS3.out⟩
      case round =>
        obtain ⟨i2, hi2, rfl, rfl, hst⟩ := hrel
        obtain ⟨wk, rfl⟩ : ∃ wk : World, wk = wr := ⟨_, rfl⟩
        have HSK := Lib.hid hst
        clear hst
        by_cases hlt : i2 < s.K.length
        · have hlti : (i2 : Int) < (s.K.length : Int) := by omega
          obtain ⟨b, off, ia, im, ic, hka, hbz, ck0, hks⟩ := row_keys HK.out i2 hlt
          subst hka
          have ck : wk.cell? ⟨b, off + i2, none⟩ = some (.slice ia im ic) := ((HOLD.out _ _ HSK.out).cell (p := ⟨b, off + i2, none⟩) (by rw [HN.out]; exact hbz)).trans ck0
          clear ck0
          have HGD : Hid (s.K.getD i2 [] = s.K[i2]'hlt) := Lib.hid (by rw [List.getD_eq_getElem?_getD, List.getElem?_eq_getElem hlt]; rfl)
          have HKN : Hid ((s.K[i2]'hlt).length ≤ 1048576) := Lib.hid (HKL.out.2.2 i2 _ (List.getElem?_eq_getElem hlt))
          have HTL : Hid ((s.t3 ++ textN i2 fun i => keptR i (s.K.getD i []) ++ [10]).length ≤ 70368744177664) := Lib.hid (by
            have h1 := textN_le (f := fun i => keptR i (s.K.getD i []) ++ [10]) hi2
            have h2 := HLE.out.2.2.2.2.2.1
            have h3 := HLEN.out
            unfold keptT at h2
            rw [List.length_append]
            omega)
          generalize s.K[i2]'hlt = ks at *
          have him := hks.len
          subst him
          have HKS := Lib.hid hks
          have hbj := HKN.out
          have hbk := HKL.out.1
          have HI2 : Hid (InI (i2 : Int)) := Lib.hid ⟨by omega, by have := HKL.out.1; omega⟩
          obtain ⟨s0, hs0⟩ : ∃ s0, s0 = bs (partsT [.s [107, 101, 112, 116, 32], .i i2, .s [58]]) := ⟨_, rfl⟩
          have HS0 := Lib.hid hs0
          have HP0 : Hid (∀ W, Below wk.heap.size wk W → Calls Tryz.prog 15 #[.slice (some ⟨W.heap.size, 0, none⟩) 3 3] (W.alloc (.cells #[.iface 9 (.string ⟨#[107, 101, 112, 116, 32]⟩), .iface 3 (.int .i64 i2), .iface 9 (.string ⟨#[58]⟩)] 20)) fun e w' => e = .returned (.string s0) ∧ Below W.heap.size W w') := Lib.hid fun W hb => by
            refine put_row [.s [107, 101, 112, 116, 32], .i i2, .s [58]] 3 rfl _ rfl (fun p hp => ?_) (by omega) (HTAB.out _ _ (HSK.out.keep hb)) s0 HS0.out
            simp only [List.mem_cons, List.not_mem_nil, or_false] at hp
            rcases hp with rfl | rfl | rfl
            · show 5 ≤ _; omega
            · exact HI2.out
            · show 1 ≤ _; omega
          clear hks hs0
          go_upto_region 14 with (go_at_call 15; (with_reducible refine (HP0.out _ (Below.refl _ _)).mono ?_); rintro e wp ⟨rfl, hbp⟩; have HBP := Lib.hid hbp; clear hbp)
          have HSP := Lib.hid (HSK.out.keep HBP.out)
          clear ck
          go_wp2_with fail
          go_loopg [9, 72] ks.length (fun g sv jv wr => ∃ j : Nat, j ≤ ks.length ∧ g = ks.length - j ∧ jv = .int .i64 j ∧ sv = .string (bs (partsT [.s [107, 101, 112, 116, 32], .i i2, .s [58]] ++ keysT (ks.take j))) ∧ AS N w W1 (s.t3 ++ textN i2 fun i => keptR i (s.K.getD i []) ++ [10]) wr)
          case atStart => exact ⟨0, by omega, rfl, rfl, by rw [HS0.out, List.take_zero, show keysT [] = [] from rfl, List.append_nil], HSP.out⟩
          case round =>
            obtain ⟨j, hj, rfl, rfl, rfl, hst⟩ := hrel
            obtain ⟨wj, rfl⟩ : ∃ wj : World, wj = wr := ⟨_, rfl⟩
            have HSJ := Lib.hid hst
            clear hst
            have HLJ : Hid ((partsT [.s [107, 101, 112, 116, 32], .i i2, .s [58]] ++ keysT (ks.take j)).length ≤ 1073741824) := Lib.hid (by
              have h1 : (keysT (ks.take j)).length ≤ 44 * (ks.take j).length := keysT_len fun q hq => by
                obtain ⟨t, ht, rfl⟩ := List.getElem_of_mem (List.mem_of_mem_take hq)
                obtain ⟨_, _, _, _, _, _, h1, h2⟩ := row_key HKS.out t ht
                exact ⟨h1, h2⟩
              have h2 := itoa_len HI2.out
              have h3 := HKN.out
              have h4 : (ks.take j).length ≤ ks.length := by rw [List.length_take]; omega
              simp only [List.length_append, partsT, List.flatMap_cons, List.flatMap_nil, Part.text, List.length_cons, List.length_nil]
              omega)
            by_cases hltj : j < ks.length
            · have hltji : (j : Int) < (ks.length : Int) := by omega
              obtain ⟨b2, off2, hia, hb2, k10, k20, hk1, hk2⟩ := row_key HKS.out j hltj
              subst hia
              have HB2 : Hid (b2 < N) := Lib.hid (by rw [HN.out]; exact hb2)
              have k1 := ((HOLD.out _ _ HSJ.out).cell (p := ⟨b2, off2 + j * 2, none⟩) HB2.out).trans k10
              have k2 := ((HOLD.out _ _ HSJ.out).cell (p := ⟨b2, off2 + j * 2 + 1, none⟩) HB2.out).trans k20
              have HTK := Lib.hid (keysT_take hltj)
              generalize ks[j]'hltj = key at *
              have HIK := Lib.hid (And.intro hk1 hk2)
              obtain ⟨X, hX⟩ : ∃ X, X = partsT [.s [107, 101, 112, 116, 32], .i i2, .s [58]] ++ keysT (ks.take j) := ⟨_, rfl⟩
              rw [← hX] at HLJ
              obtain ⟨sx, hsx⟩ : ∃ sx, sx = bs X := ⟨_, rfl⟩
              obtain ⟨sk, hsk⟩ : ∃ sk, sk = bs (keyT key) := ⟨_, rfl⟩
              obtain ⟨sn, hsn⟩ : ∃ sn, sx ++ sk = sn := ⟨_, rfl⟩
              have HSN : Hid (sn = bs (X ++ keyT key)) := Lib.hid (by rw [← hsn, hsx, hsk]; exact bs_bs _ _)
              have HXX := Lib.hid hX
              have hkl : (keyT key).length ≤ 64 := by
                have a1 := itoa_len hk1
                have a2 := itoa_len hk2
                simp only [keyT, partsT, List.flatMap_cons, List.flatMap_nil, Part.text, List.length_append, List.length_cons, List.length_nil]
                omega
              have hsz : ¬ 9223372036854775807 < sx.size + sk.size := by
                have := HLJ.out
                rw [hsx, hsk, size_bs, size_bs]
                omega
              have HPK : Hid (Calls Tryz.prog 15 #[.slice (some ⟨wj.heap.size + 1, 0, none⟩) 4 4] ((wj.alloc (.cells #[.int .i64 key.1, .int .i64 key.2] 45)).alloc (.cells #[.iface 9 (.string ⟨#[32]⟩), .iface 3 (.int .i64 key.1), .iface 9 (.string ⟨#[46]⟩), .iface 3 (.int .i64 key.2)] 20)) fun e w' => e = .returned (.string sk) ∧ Below wj.heap.size wj w') := Lib.hid (by
                have hb : Below wj.heap.size wj (wj.alloc (.cells #[.int .i64 key.1, .int .i64 key.2] 45)) := (Below.refl _ _).alloc (Nat.le_refl _) _
                have h := (put_row (W := wj.alloc (.cells #[.int .i64 key.1, .int .i64 key.2] 45)) [.s [32], .i key.1, .s [46], .i key.2] 4 rfl #[.iface 9 (.string ⟨#[32]⟩), .iface 3 (.int .i64 key.1), .iface 9 (.string ⟨#[46]⟩), .iface 3 (.int .i64 key.2)] rfl (fun p hp => by
                  simp only [List.mem_cons, List.not_mem_nil, or_false] at hp
                  rcases hp with rfl | rfl | rfl | rfl
                  · show 1 ≤ _; omega
                  · exact HIK.out.1
                  · show 1 ≤ _; omega
                  · exact HIK.out.2) (by omega) (HTAB.out _ _ (HSJ.out.keep hb)) sk (by rw [hsk]; rfl))
                rw [show (wj.alloc (.cells #[.int .i64 key.1, .int .i64 key.2] 45)).heap.size = wj.heap.size + 1 by simp] at h
                exact h.mono fun e w' h => ⟨h.1, hb.trans (h.2.mono (by omega))⟩)
              rw [← hX, ← hsx]
              clear hX hsx hsk hkl k10 k20 hk1 hk2 hb2
              go_wp2_with (go_at_call 15; (with_reducible refine HPK.out.mono ?_); rintro e wq ⟨rfl, hbq⟩; have HBQ := Lib.hid hbq; clear hbq)
              go_roundg (ks.length - (j + 1))
              case measure => omega
              case rel =>
                exact ⟨j + 1, by omega, rfl, by go_num, by rw [HSN.out, HXX.out, HTK.out, List.append_assoc], HSJ.out.keep HBQ.out⟩
            · have hnj : j = ks.length := by omega
              have hltji : ¬ (j : Int) < (ks.length : Int) := by omega
              obtain ⟨X, hX⟩ : ∃ X, X = partsT [.s [107, 101, 112, 116, 32], .i i2, .s [58]] ++ keysT (ks.take j) := ⟨_, rfl⟩
              have HX2 : Hid (X = keptR i2 ks) := Lib.hid (by rw [hX, hnj, List.take_length]; rfl)
              rw [← hX] at HLJ
              obtain ⟨sx, hsx⟩ : ∃ sx, sx = bs X := ⟨_, rfl⟩
              have HC3 : Hid (∀ W, Below wj.heap.size wj W → Calls Tryz.prog 13 #[.slice (some ⟨W.heap.size, 0, none⟩) 1 1, .pointer (some ⟨N + 1, 0, none⟩)] (W.alloc (.cells #[.iface 9 (.string sx)] 20)) fun e w' => e = .returned (.tuple #[]) ∧ AS N w W1 ((s.t3 ++ textN i2 fun i => keptR i (s.K.getD i []) ++ [10]) ++ (partsT [.s X] ++ [10])) w') := Lib.hid fun W hb => by
                have h := HSJ.out.keep hb
                exact h.line [.s X] 1 rfl _ (by rw [hsx]; rfl) (fun p hp => by rw [List.mem_singleton.1 hp]; exact HLJ.out) (by omega) (HTAB.out _ _ h) HTL.out
              rw [← hX, ← hsx]
              clear hX hsx hnj
              go_wp2_with (go_at_call 13; (with_reducible refine (HC3.out _ (Below.refl _ _)).mono ?_); rintro e w6 ⟨rfl, hs6⟩; have HS6 := Lib.hid hs6; clear hs6)
              go_roundg (s.K.length - (i2 + 1))
              case measure => omega
              case rel =>
                refine ⟨i2 + 1, by omega, rfl, by go_num, ?_⟩
                have h := HS6.out
                rw [show partsT [.s X] = X by simp [partsT, Part.text], HX2.out, List.append_assoc] at h
                rw [textN_succ, HGD.out]
                exact h
        · have hni : i2 = s.K.length := by omega
          have hlti : ¬ (i2 : Int) < (s.K.length : Int) := by omega
          have HS4 : Hid (AS N w W1 s.t4 wk) := Lib.hid (by
            have h := HSK.out
            rw [hni] at h
            exact h)
          clear hni HSK
          have HC4 : Hid (∀ W, Below wk.heap.size wk W → Calls Tryz.prog 13 #[.slice (some ⟨W.heap.size, 0, none⟩) 2 2, .pointer (some ⟨N + 1, 0, none⟩)] (W.alloc (.cells #[.iface 9 (.string ⟨#[107, 110, 111, 119, 110, 32]⟩), .iface 3 (.int .i64 s.nk)] 20)) fun e w' => e = .returned (.tuple #[]) ∧ AS N w W1 s.t5 w') := Lib.hid fun W hb => by
            have h := HS4.out.keep hb
            refine h.line [.s [107, 110, 111, 119, 110, 32], .i s.nk] 2 rfl _ rfl (fun p hp => ?_) (by omega) (HTAB.out _ _ h) (by have := HLE.out.2.2.2.1; have := HLEN.out; omega)
            simp only [List.mem_cons, List.not_mem_nil, or_false] at hp
            rcases hp with rfl | rfl
            · show 6 ≤ _; omega
            · have := HIN.out.2.2.2.2
              exact ⟨by omega, by omega⟩
          have c3 := cell_at (o := 3) (HBOX.out _ _ HS4.out) rfl
          go_upto_region 22 with (go_at_call 13; (with_reducible refine (HC4.out _ (Below.refl _ _)).mono ?_); rintro e w5 ⟨rfl, hs5⟩; have HS5 := Lib.hid hs5; clear hs5)
          clear c3 HC4
          have c5 := cell_at (o := 5) (HBOX.out _ _ HS5.out) rfl
          go_wp2_with fail
          clear c5 hlti hlt
          go_loopg [106] s.T.length (fun g iv wr => ∃ i : Nat, i ≤ s.T.length ∧ g = s.T.length - i ∧ iv = .int .i64 i ∧ AS N w W1 (s.t5 ++ textN i fun i => tabR (s.T.getD i (0, 0, 0, 0)) s.U[i]? ++ [10]) wr)
          case atStart => exact ⟨0, by omega, rfl, rfl, by rw [show textN 0 _ = [] from rfl, List.append_nil]; exact HS5.out⟩
          case round =>
            obtain ⟨i3, hi3, rfl, rfl, hst⟩ := hrel
            obtain ⟨wt, rfl⟩ : ∃ wt : World, wt = wr := ⟨_, rfl⟩
            have HSK := Lib.hid hst
            clear hst
            by_cases hlt : i3 < s.T.length
            · have hlti : (i3 : Int) < (s.T.length : Int) := by omega
              obtain ⟨b, off, hta, hbz, ⟨q10, q20, q30, q40⟩, hi1, hi2, hi3', hi4⟩ := row_name HT.out i3 hlt
              subst hta
              have HBZ : Hid (b < N) := Lib.hid (by rw [HN.out]; exact hbz)
              have q1 := ((HOLD.out _ _ HSK.out).cell (p := ⟨b, off + i3 * 4, none⟩) HBZ.out).trans q10
              have q2 := ((HOLD.out _ _ HSK.out).cell (p := ⟨b, off + i3 * 4 + 1, none⟩) HBZ.out).trans q20
              have q3 := ((HOLD.out _ _ HSK.out).cell (p := ⟨b, off + i3 * 4 + 2, none⟩) HBZ.out).trans q30
              have q4 := ((HOLD.out _ _ HSK.out).cell (p := ⟨b, off + i3 * 4 + 3, none⟩) HBZ.out).trans q40
              have hbt := HKL.out.2.1
              have HGD : Hid (s.T.getD i3 (0, 0, 0, 0) = s.T[i3]'hlt) := Lib.hid (by rw [List.getD_eq_getElem?_getD, List.getElem?_eq_getElem hlt]; rfl)
              have HTL : Hid ((s.t5 ++ textN i3 fun i => tabR (s.T.getD i (0, 0, 0, 0)) s.U[i]? ++ [10]).length ≤ 70368744177664) := Lib.hid (by
                have h1 := textN_le (f := fun i => tabR (s.T.getD i (0, 0, 0, 0)) s.U[i]? ++ [10]) hi3
                have h2 := HLE.out.2.2.2.2.2.2
                have h3 := HLEN.out
                unfold tabT at h2
                rw [List.length_append]
                omega)
              generalize s.T[i3]'hlt = nm at *
              have HIK := Lib.hid (And.intro hi1 (And.intro hi2 (And.intro hi3' hi4)))
              clear q10 q20 q30 q40 hi1 hi2 hi3' hi4 hbz
              obtain ⟨W5, hW5⟩ : ∃ W5, W5 = wt.alloc (.cells #[.int .i64 nm.1, .int .i64 nm.2.1, .int .i64 nm.2.2.1, .int .i64 nm.2.2.2] 74) := ⟨_, rfl⟩
              have HB5 : Hid (Below wt.heap.size wt W5) := Lib.hid (by rw [hW5]; exact (Below.refl _ _).alloc (Nat.le_refl _) _)
              have g5 : W5.heap[wt.heap.size]? = some (.cells #[.int .i64 nm.1, .int .i64 nm.2.1, .int .i64 nm.2.2.1, .int .i64 nm.2.2.2] 74 (0, 0)) := by rw [hW5]; exact heap_alloc_new wt _
              have hz5 : wt.heap.size < W5.heap.size := (Array.getElem?_eq_some_iff.1 g5).1
              have HCE : Hid (∀ W, Below W5.heap.size W5 W → (W.cell? ⟨wt.heap.size, 0, none⟩ = some (.int .i64 nm.1) ∧ W.cell? ⟨wt.heap.size, 1, none⟩ = some (.int .i64 nm.2.1) ∧ W.cell? ⟨wt.heap.size, 2, none⟩ = some (.int .i64 nm.2.2.1) ∧ W.cell? ⟨wt.heap.size, 3, none⟩ = some (.int .i64 nm.2.2.2))) := Lib.hid fun W hb => by
                have g := (hb.block _ hz5).trans g5
                exact ⟨cell_at g rfl, cell_at g rfl, cell_at g rfl, cell_at g rfl⟩
              have HS5' := Lib.hid (HSK.out.keep HB5.out)
              have HLT : Hid (∀ (su : ByteArray) (W : World), su = bs (usesT s.U[i3]?) → Below W5.heap.size W5 W → Calls Tryz.prog 13 #[.slice (some ⟨W.heap.size, 0, none⟩) 10 10, .pointer (some ⟨N + 1, 0, none⟩)] (W.alloc (.cells #[.iface 9 (.string ⟨#[116, 97, 98, 108, 101, 32]⟩), .iface 3 (.int .i64 nm.1), .iface 9 (.string ⟨#[32]⟩), .iface 3 (.int .i64 nm.2.1), .iface 9 (.string ⟨#[32]⟩), .iface 3 (.int .i64 nm.2.2.1), .iface 9 (.string ⟨#[32]⟩), .iface 3 (.int .i64 nm.2.2.2), .iface 9 (.string ⟨#[32, 117, 115, 101, 115, 32]⟩), .iface 9 (.string su)] 20)) fun e w' => e = .returned (.tuple #[]) ∧ AS N w W1 ((s.t5 ++ textN i3 fun i => tabR (s.T.getD i (0, 0, 0, 0)) s.U[i]? ++ [10]) ++ (tabR nm s.U[i3]? ++ [10])) w') := Lib.hid fun su W hsu hb => by
                have h := HS5'.out.keep hb
                refine h.line [.s [116, 97, 98, 108, 101, 32], .i nm.1, .s [32], .i nm.2.1, .s [32], .i nm.2.2.1, .s [32], .i nm.2.2.2, .s [32, 117, 115, 101, 115, 32], .s (usesT s.U[i3]?)] 10 rfl _ (by rw [hsu]; rfl) (fun p hp => ?_) (by omega) (HTAB.out _ _ h) HTL.out
                simp only [List.mem_cons, List.not_mem_nil, or_false] at hp
                rcases hp with rfl | rfl | rfl | rfl | rfl | rfl | rfl | rfl | rfl | rfl
                · show 6 ≤ _; omega
                · exact HIK.out.1
                · show 1 ≤ _; omega
                · exact HIK.out.2.1
                · show 1 ≤ _; omega
                · exact HIK.out.2.2.1
                · show 1 ≤ _; omega
                · exact HIK.out.2.2.2
                · show 6 ≤ _; omega
                · show (usesT s.U[i3]?).length ≤ _
                  cases hu : s.U[i3]? with
                  | none => show 1 ≤ _; omega
                  | some v =>
                    obtain ⟨hu1, hu2⟩ := List.getElem?_eq_some_iff.1 hu
                    obtain ⟨_, _, _, _, _, _, hwf⟩ := HU.out.int i3 hu1
                    rw [hu2] at hwf
                    have := itoa_len (wf_i64 hwf)
                    show (Lib.itoa v).length ≤ _
                    omega
              have c6 := cell_at (o := 6) (HBOX.out _ _ HS5'.out) rfl
              clear g5 hz5
              go_upto_region 26 with fail
              rw [← hW5]
              clear hW5 q1 q2 q3 q4
              by_cases hu : i3 < s.U.length
              · have hui : (i3 : Int) < (s.U.length : Int) := by omega
                obtain ⟨b7, o7, hua, hb7, _, cu0, hwf⟩ := HU.out.int i3 hu
                subst hua
                have HGU : Hid (s.U[i3]? = some (s.U[i3]'hu)) := Lib.hid (List.getElem?_eq_getElem hu)
                have cu := ((HOLD.out _ _ HS5'.out).cell (p := ⟨b7, o7 + i3, none⟩) (by rw [HN.out]; exact hb7)).trans cu0
                generalize s.U[i3]'hu = uv at *
                obtain ⟨su, hsu⟩ : ∃ su, su = bs (usesT (some uv)) := ⟨_, rfl⟩
                have HPU : Hid (Calls Tryz.prog 15 #[.slice (some ⟨W5.heap.size, 0, none⟩) 1 1] (W5.alloc (.cells #[.iface 3 (.int .i64 uv)] 20)) fun e w' => e = .returned (.string su) ∧ Below W5.heap.size W5 w') := Lib.hid (put_row [.i uv] 1 rfl _ rfl (fun p hp => by rw [List.mem_singleton.1 hp]; exact wf_i64 hwf) (by omega) (HTAB.out _ _ HS5'.out) su (by rw [hsu]; simp [partsT, Part.text, usesT]))
                have HLU := Lib.hid fun W => HLT.out su W (by rw [HGU.out]; exact hsu)
                clear cu0 hwf hsu hb7 HLT
                go_upto_region 28 with (go_at_call 15; (with_reducible refine HPU.out.mono ?_); rintro e w7 ⟨rfl, hb7⟩; have HB7 := Lib.hid hb7; obtain ⟨n0, n1, n2, n3⟩ := HCE.out w7 hb7; clear hb7)
                clear c6 cu
                go_wp2_with (go_at_call 13; (with_reducible refine (HLU.out _ HB7.out).mono ?_); rintro e w8 ⟨rfl, hs8⟩; have HS8 := Lib.hid hs8; clear hs8)
                go_roundg (s.T.length - (i3 + 1))
                case measure => omega
                case rel =>
                  refine ⟨i3 + 1, by omega, rfl, by go_num, ?_⟩
                  have h := HS8.out
                  rw [List.append_assoc] at h
                  rw [textN_succ, HGD.out]
                  exact h
              · have hui : ¬ (i3 : Int) < (s.U.length : Int) := by omega
                have HGU : Hid (s.U[i3]? = none) := Lib.hid (List.getElem?_eq_none (by omega))
                have HLU := Lib.hid fun W => HLT.out ⟨#[63]⟩ W (by rw [HGU.out]; rfl)
                obtain ⟨n0, n1, n2, n3⟩ := HCE.out W5 (Below.refl _ _)
                clear HLT
                go_wp2_with (go_at_call 13; (with_reducible refine (HLU.out _ (Below.refl _ _)).mono ?_); rintro e w8 ⟨rfl, hs8⟩; have HS8 := Lib.hid hs8; clear hs8)
                go_roundg (s.T.length - (i3 + 1))
                case measure => omega
                case rel =>
                  refine ⟨i3 + 1, by omega, rfl, by go_num, ?_⟩
                  have h := HS8.out
                  rw [List.append_assoc] at h
                  rw [textN_succ, HGD.out]
                  exact h
            · have hni : i3 = s.T.length := by omega
              have hlti : ¬ (i3 : Int) < (s.T.length : Int) := by omega
              have HS9 : Hid (AS N w W1 s.text wt) := Lib.hid (by
                have h := HSK.out
                rw [hni] at h
                exact h)
              clear hni HSK
              have HBS := Lib.hid (bld_string (N + 1) W1.heap.size s.text wt HS9.out.bld (by have := HS9.out.but.size; omega))
              go_wp2_with (go_at_call 17; (with_reducible refine HBS.out.mono ?_); rintro e w9 ⟨rfl, hb9⟩; have HB9 := Lib.hid hb9; clear hb9)
              go_ret
              refine ⟨rfl, ?_⟩
              rw [← HN.out]
              exact (HOLD.out _ _ HS9.out).trans (HB9.out.mono (by have := HZ1.out; omega))
end Go.Proofs.YthjcmcgmalnfpaaGreatDoor.Lex
/- A report's text: how long it may be, and how many lines it has. No function of the program. -/
namespace Go.Proofs.YthjcmcgmalnfpaaGreatDoor.Lex
open Go.RowKit
set_option linter.unusedVariables false
theorem join_mem {sep : List UInt8} : ∀ {ts : List (List UInt8)} {c : UInt8}, c ∈ Lib.join ts sep → c ∈ sep ∨ ∃ t ∈ ts, c ∈ t
  | [], c, h => by cases h
  | [a], c, h => .inr ⟨a, by simp, by simpa [Lib.join] using h⟩
  | a :: b :: r, c, h => by
    have e : Lib.join (a :: b :: r) sep = a ++ sep ++ Lib.join (b :: r) sep := by simp [Lib.join]
    rw [e] at h
    rcases List.mem_append.1 h with h | h
    · rcases List.mem_append.1 h with h | h
      · exact .inr ⟨a, by simp, h⟩
      · exact .inl h
    · rcases join_mem h with h | ⟨x, hx, hc⟩
      · exact .inl h
      · exact .inr ⟨x, List.mem_cons_of_mem _ hx, hc⟩
theorem NoLF.app {a b : List UInt8} (h : NoLF a) (k : NoLF b) : NoLF (a ++ b) := fun c hc => by
  rcases List.mem_append.1 hc with hc | hc
  · exact h c hc
  · exact k c hc
theorem noLF_nil : NoLF [] := fun c hc => by cases hc
theorem wordD_noLF (k : Int) : NoLF (wordD k) := by
  unfold wordD
  split
  · rename_i h
    rcases (by omega : k = 1 ∨ k = 2 ∨ k = 3 ∨ k = 4 ∨ k = 5 ∨ k = 6 ∨ k = 7) with rfl | rfl | rfl | rfl | rfl | rfl | rfl <;> (unfold NoLF; decide)
  · exact noLF_nil
mutual
theorem textD_noLF : ∀ (d : DescV) (t : List UInt8), textD d = some t → NoLF t
  | .mk k n l, t, h => by
    rw [textD] at h
    split at h
    · cases hl : textsD l with
      | none => rw [hl] at h; cases h
      | some ts =>
        rw [hl] at h
        simp only [Option.map_some, Option.some.injEq] at h
        subst h
        refine ((wordD_noLF k).app (dec_noLF _)).app ?_
        split
        · exact noLF_nil
        · refine NoLF.app (NoLF.app (by unfold NoLF; decide) fun c hc => ?_) (by unfold NoLF; decide)
          rcases join_mem hc with hc | ⟨x, hx, hc⟩
          · rw [List.mem_singleton.1 hc]; decide
          · exact textsD_noLF l ts hl x hx c hc
    · cases h
theorem textsD_noLF : ∀ (l : List DescV) (ts : List (List UInt8)), textsD l = some ts → ∀ x ∈ ts, NoLF x
  | [], ts, h, x, hx => by
    rw [textsD] at h
    cases h
    cases hx
  | d :: l, ts, h, x, hx => by
    rw [textsD] at h
    cases hd : textD d with
    | none => rw [hd] at h; cases h
    | some t =>
      rw [hd] at h
      cases hl : textsD l with
      | none => rw [hl] at h; cases h
      | some us =>
        rw [hl] at h
        simp only [Option.map_some, Option.some.injEq] at h
        subst h
        rcases List.mem_cons.1 hx with rfl | hx
        · exact textD_noLF d _ hd
        · exact textsD_noLF l us hl x hx
end
theorem descT_noLF (d : DescV) : NoLF (descT d) := by
  unfold descT
  split
  · unfold NoLF; decide
  · split
    · unfold NoLF; decide
    · next t h => exact textD_noLF d t h
theorem errW_noLF (e : Int) : NoLF (errW e) := by
  unfold errW
  split
  · rename_i h
    rcases (by omega : e = 0 ∨ e = 1 ∨ e = 2 ∨ e = 3 ∨ e = 4 ∨ e = 5 ∨ e = 6 ∨ e = 7 ∨ e = 8 ∨ e = 9 ∨ e = 10 ∨ e = 11 ∨ e = 12 ∨ e = 13 ∨ e = 14) with rfl | rfl | rfl | rfl | rfl | rfl | rfl | rfl | rfl | rfl | rfl | rfl | rfl | rfl | rfl <;> (unfold NoLF; decide)
  · unfold NoLF; decide
theorem sp_noLF : NoLF [32] := by unfold NoLF; decide
theorem toldL_noLF (kind e : Int) (d : DescV) (n li tl : Int) (ys : List Nat) : NoLF (toldL kind e d n li tl ys) := by
  unfold toldL
  repeat' split
  · exact ((errW_noLF e).app sp_noLF).app (itoa_noLF _)
  · exact errW_noLF e
  · exact ((errW_noLF e).app sp_noLF).app (descT_noLF d)
  · exact ((errW_noLF e).app sp_noLF).app (itoa_noLF _)
  · exact ((errW_noLF e).app sp_noLF).app (itoa_noLF _)
  · exact ((((errW_noLF e).app sp_noLF).app (itoa_noLF _)).app sp_noLF).app (dec_noLF _)
  · exact errW_noLF e
theorem callL_noLF (c : CallV) : NoLF (callL c) := by
  unfold callL
  split
  · unfold NoLF; decide
  · next ws h => exact callW_noLF h
theorem opL_noLF (o : OpD) : NoLF (opL o) := by
  unfold opL OpD.told
  refine ((((((((((itoa_noLF _).app ?_).app (itoa_noLF _)).app sp_noLF).app (itoa_noLF _)).app ?_).app ?_).app sp_noLF).app (callL_noLF _)).app ?_).app ?_
  · unfold NoLF; decide
  · unfold NoLF; decide
  · split
    · unfold NoLF; decide
    · exact itoa_noLF _
  · unfold NoLF; decide
  · split
    · unfold NoLF; decide
    · exact toldL_noLF _ _ _ _ _ _ _
/-- How many line feeds. -/
def lfs (l : List UInt8) : Nat := l.countP (fun c => c == 10)
theorem lfs_app (a b : List UInt8) : lfs (a ++ b) = lfs a + lfs b := List.countP_append
theorem lfs_no {a : List UInt8} (h : NoLF a) : lfs a = 0 := by
  unfold lfs
  rw [List.countP_eq_zero]
  intro c hc
  simpa using h c hc
theorem lfs_line {a : List UInt8} (h : NoLF a) : lfs (a ++ [10]) = 1 := by
  rw [lfs_app, lfs_no h]
  rfl
theorem lfs_ops : ∀ M : List OpD, lfs (opsT M) = M.length
  | [] => rfl
  | o :: M => by
    have e : opsT (o :: M) = (opL o ++ [10]) ++ opsT M := by simp [opsT]
    rw [e, lfs_app, lfs_line (opL_noLF o), lfs_ops M, List.length_cons]
    omega
theorem lfs_textN {f : Nat → List UInt8} (h : ∀ i, lfs (f i) = 1) : ∀ n, lfs (textN n f) = n
  | 0 => rfl
  | n + 1 => by rw [textN_succ, lfs_app, lfs_textN h n, h]
theorem parts_noLF {ps : List Part} (h : ∀ p ∈ ps, NoLF p.text) : NoLF (partsT ps) := fun c hc => by
  unfold partsT at hc
  obtain ⟨p, hp, hc⟩ := List.mem_flatMap.1 hc
  exact h p hp c hc
theorem keysT_noLF (l : List KeyV) : NoLF (keysT l) := fun c hc => by
  unfold keysT at hc
  obtain ⟨k, _, hc⟩ := List.mem_flatMap.1 hc
  refine parts_noLF (ps := [.s [32], .i k.1, .s [46], .i k.2]) (fun p hp => ?_) c hc
  simp only [List.mem_cons, List.not_mem_nil, or_false] at hp
  rcases hp with rfl | rfl | rfl | rfl
  · exact sp_noLF
  · exact itoa_noLF _
  · show NoLF [46]; unfold NoLF; decide
  · exact itoa_noLF _
theorem keptR_noLF (i : Nat) (l : List KeyV) : NoLF (keptR i l) := by
  refine NoLF.app (parts_noLF fun p hp => ?_) (keysT_noLF l)
  simp only [List.mem_cons, List.not_mem_nil, or_false] at hp
  rcases hp with rfl | rfl | rfl
  · show NoLF [107, 101, 112, 116, 32]; unfold NoLF; decide
  · exact itoa_noLF _
  · show NoLF [58]; unfold NoLF; decide
theorem usesT_noLF (u : Option Int) : NoLF (usesT u) := by
  cases u with
  | none => show NoLF [63]; unfold NoLF; decide
  | some v => exact itoa_noLF v
theorem tabR_noLF (n : NameV) (u : Option Int) : NoLF (tabR n u) := by
  refine parts_noLF fun p hp => ?_
  simp only [List.mem_cons, List.not_mem_nil, or_false] at hp
  rcases hp with rfl | rfl | rfl | rfl | rfl | rfl | rfl | rfl | rfl | rfl
  · show NoLF [116, 97, 98, 108, 101, 32]; unfold NoLF; decide
  · exact itoa_noLF _
  · exact sp_noLF
  · exact itoa_noLF _
  · exact sp_noLF
  · exact itoa_noLF _
  · exact sp_noLF
  · exact itoa_noLF _
  · show NoLF [32, 117, 115, 101, 115, 32]; unfold NoLF; decide
  · exact usesT_noLF u
theorem Sh.lfs (s : Sh) : lfs s.text = s.M.length + s.K.length + s.T.length + 3 := by
  have h2 : Lex.lfs (partsT [.s [112, 101, 110, 100, 105, 110, 103, 32], .i s.p] ++ [10]) = 1 := lfs_line (parts_noLF fun p hp => by
    simp only [List.mem_cons, List.not_mem_nil, or_false] at hp
    rcases hp with rfl | rfl
    · show NoLF [112, 101, 110, 100, 105, 110, 103, 32]; unfold NoLF; decide
    · exact itoa_noLF _)
  have h3 : Lex.lfs (partsT [.s [109, 101, 97, 115, 117, 114, 101, 100, 32], .i s.m, .s [32, 98, 117, 105, 108, 116, 32], .i s.bu, .s [32, 105, 110, 115, 101, 114, 116, 101, 100, 32], .i s.ins] ++ [10]) = 1 := lfs_line (parts_noLF fun p hp => by
    simp only [List.mem_cons, List.not_mem_nil, or_false] at hp
    rcases hp with rfl | rfl | rfl | rfl | rfl | rfl
    · show NoLF [109, 101, 97, 115, 117, 114, 101, 100, 32]; unfold NoLF; decide
    · exact itoa_noLF _
    · show NoLF [32, 98, 117, 105, 108, 116, 32]; unfold NoLF; decide
    · exact itoa_noLF _
    · show NoLF [32, 105, 110, 115, 101, 114, 116, 101, 100, 32]; unfold NoLF; decide
    · exact itoa_noLF _)
  have h5 : Lex.lfs (partsT [.s [107, 110, 111, 119, 110, 32], .i s.nk] ++ [10]) = 1 := lfs_line (parts_noLF fun p hp => by
    simp only [List.mem_cons, List.not_mem_nil, or_false] at hp
    rcases hp with rfl | rfl
    · show NoLF [107, 110, 111, 119, 110, 32]; unfold NoLF; decide
    · exact itoa_noLF _)
  have h4 : Lex.lfs (keptT s.K) = s.K.length := lfs_textN (fun i => lfs_line (keptR_noLF _ _)) _
  have h6 : Lex.lfs (tabT s.T s.U) = s.T.length := lfs_textN (fun i => lfs_line (tabR_noLF _ _)) _
  simp only [Sh.text, Sh.t5, Sh.t4, Sh.t3, Sh.t2, Sh.t1]
  rw [lfs_app, lfs_app, lfs_app, lfs_app, lfs_app, h2, h3, h4, h5, h6, lfs_ops]
  omega
theorem textN_len {f : Nat → List UInt8} {B : Nat} : ∀ {n : Nat}, (∀ i, i < n → (f i).length ≤ B) → (textN n f).length ≤ B * n
  | 0, _ => Nat.zero_le _
  | n + 1, h => by
    have h1 := textN_len (n := n) fun i hi => h i (by omega)
    have h2 := h n (by omega)
    rw [textN_succ, List.length_append, Nat.mul_add, Nat.mul_one]
    omega
theorem opsT_len {B : Nat} : ∀ {M : List OpD}, (∀ o ∈ M, (opL o).length ≤ B) → (opsT M).length ≤ (B + 1) * M.length
  | [], _ => Nat.zero_le _
  | o :: M, h => by
    have e : opsT (o :: M) = (opL o ++ [10]) ++ opsT M := by simp [opsT]
    have h1 := opsT_len (M := M) fun q hq => h q (List.mem_cons_of_mem _ hq)
    have h2 := h o (List.mem_cons_self ..)
    have h3 : (o :: M).length = M.length + 1 := rfl
    have h4 : ([10] : List UInt8).length = 1 := rfl
    rw [e, h3, List.length_append, List.length_append, h4, Nat.mul_add, Nat.mul_one]
    omega
theorem opL_len {k : Nat} {F : Foot} {w : World} {o : OpD} {xa da ya : Option Addr} {xc dm dc yc : Nat} (hi : OpIn k F w o xa xc da dm dc ya yc) : (opL o).length ≤ 21100000 := by
  have htl : (o.told o.ki).length ≤ 20971600 := toldL_len (by rw [DescV.nodes]; have := hi.nd; omega) hi.n hi.li ⟨by omega, by have := hi.tt; omega⟩ (by have := hi.yl; omega)
  have hcl := callL_len hi.call
  have h1 := itoa_len hi.who
  have h2 := itoa_len hi.at_
  have h3 := itoa_len hi.fr
  have h4 := itoa_len hi.tz
  unfold opL
  simp only [List.length_append, List.length_cons, List.length_nil]
  repeat' split
  all_goals ((try simp only [List.length_cons, List.length_nil]); omega)
end Go.Proofs.YthjcmcgmalnfpaaGreatDoor.Lex
/- The reference's parts of a report: calls, what is kept, tables. -/
namespace Go.Proofs.YthjcmcgmalnfpaaGreatDoor.Lex
open Go.RowKit
set_option linter.unusedSimpArgs false
set_option linter.unusedVariables false
set_option maxRecDepth 100000 in
set_option maxHeartbeats 4000000 in
theorem rops_any (k : Nat) (l : List OC) (M : List OpD) (oa : Option Addr) (oc : Nat) (w : World) (hl : OcRow k All w oa l) (hn : l.length ≤ 1048576) (hM : M = sortO (l.map (·.o))) (hlen : (opsT M).length ≤ 70368744177664) :
    Calls Tryz.prog 7 #[.slice oa l.length oc] w fun e w' => e = .returned (.string (bs (opsT M))) ∧ Below w.heap.size w w' := by
  have HS := Lib.hid (rsort_any k l oa oc w hn hl)
  have HM := Lib.hid hM
  have HLEN := Lib.hid hlen
  clear hl hM hlen
  go_enter Tryz.func7, Tryz.ntmps7
  go_upto_region 3 with (go_at_call 18; (with_reducible refine HS.out.mono ?_); rintro e w1 ⟨a1, c1, L, rfl, hrow, hLO, hb1⟩; have HROW := Lib.hid hrow; have HLO := Lib.hid hLO; have HB1 := Lib.hid hb1; clear hrow hLO hb1)
  have HML : Hid (M = L.map (·.o)) := Lib.hid (HM.out.trans HLO.out.symm)
  go_wp2_with fail
  go_loopg [3, 5] l.length (fun g sv iv wr => ∃ i : Nat, i ≤ l.length ∧ g = l.length - i ∧ iv = .int .i64 i ∧ sv = .string (bs (opsT (M.take i))) ∧ Below w1.heap.size w1 wr)
  case atStart => exact ⟨0, by omega, rfl, rfl, rfl, Below.refl _ _⟩
  case round =>
    obtain ⟨i, hi, rfl, rfl, rfl, hst⟩ := hrel
    obtain ⟨wo, rfl⟩ : ∃ wo : World, wo = wr := ⟨_, rfl⟩
    have HST := Lib.hid hst
    clear hst
    have HLL : Hid (L.length = l.length) := Lib.hid (by
      have h := congrArg List.length HLO.out
      have h2 : ∀ (l acc : List OpD), (l.foldl (fun acc x => Stab.ins (fun x y => StabW.ltW x.fr y.fr) x acc) acc).length = acc.length + l.length := by
        have h3 : ∀ (x : OpD) (l : List OpD), (Stab.ins (fun x y => StabW.ltW x.fr y.fr) x l).length = l.length + 1 := by
          intro x l
          induction l with
          | nil => rfl
          | cons b l ih =>
            simp only [Stab.ins]
            split
            · rfl
            · rw [List.length_cons, ih]; rfl
        intro l
        induction l with
        | nil => intro acc; rfl
        | cons x l ih => intro acc; rw [List.foldl_cons, ih, h3, List.length_cons]; omega
      have h4 := h2 (l.map (·.o)) []
      have h5 : (sortO (l.map (·.o))).length = (l.map (·.o)).length := by simpa [sortO, Stab.isort] using h4
      rw [h5, List.length_map, List.length_map] at h
      exact h)
    by_cases hlt : i < l.length
    · have hlti : (i : Int) < (l.length : Int) := by omega
      have hiL : i < L.length := by rw [HLL.out]; exact hlt
      obtain ⟨g, off, hgo, hg, hrg, hin⟩ := (HROW.out.keep HST.out) i hiL
      subst hgo
      have HTK : Hid (opsT (M.take (i + 1)) = opsT (M.take i) ++ (opL (L[i]'hiL).o ++ [10])) := Lib.hid (by
        have hm : i < M.length := by rw [HML.out, List.length_map]; exact hiL
        rw [opsT_take hm]
        congr 3
        have h : M[i]? = (L.map (·.o))[i]? := by rw [HML.out]
        rw [List.getElem?_eq_getElem hm, List.getElem?_map, List.getElem?_eq_getElem hiL] at h
        exact Option.some.inj h)
      have HSZ : Hid ((opsT (M.take i)).length + ((opL (L[i]'hiL).o).length + 1) ≤ 70368744177664) := Lib.hid (by
        have h1 := opsT_le M (i + 1)
        rw [HTK.out, List.length_append, List.length_append] at h1
        have h2 := HLEN.out
        have h3 : ([10] : List UInt8).length = 1 := rfl
        omega)
      generalize L[i]'hiL = x at *
      have HRG := Lib.hid hrg
      have HIN := Lib.hid hin
      obtain ⟨s0, hs0⟩ : ∃ s0, bs (opsT (M.take i)) = s0 := ⟨_, rfl⟩
      obtain ⟨sx, hsx⟩ : ∃ sx, bs (opL x.o) = sx := ⟨_, rfl⟩
      obtain ⟨s1, hs1⟩ : ∃ s1, s0 ++ sx = s1 := ⟨_, rfl⟩
      obtain ⟨s2, hs2⟩ : ∃ s2 : ByteArray, s1 ++ ⟨#[10]⟩ = s2 := ⟨_, rfl⟩
      have HS2 : Hid (s2 = bs (opsT (M.take (i + 1)))) := Lib.hid (by
        rw [← hs2, ← hs1, ← hs0, ← hsx, HTK.out, show (⟨#[10]⟩ : ByteArray) = bs [10] from rfl, bs_bs, bs_bs, List.append_assoc])
      have q1 : ¬ 9223372036854775807 < s0.size + sx.size := by
        have := HSZ.out
        rw [← hs0, ← hsx, size_bs, size_bs]; omega
      have q2 : ¬ 9223372036854775807 < s1.size + 1 := by
        have := HSZ.out
        rw [← hs1, ← hs0, ← hsx, ByteArray.size_append, size_bs, size_bs]; omega
      have HOP : Hid (Calls Tryz.prog 19 #[.agg x.cells.toArray] wo fun e w' => e = .returned (.string sx) ∧ Below wo.heap.size wo w') := Lib.hid (by
        rw [← hsx]
        exact ropE_any k All x.o x.xa x.da x.ya x.xc x.dm x.dc x.yc wo HIN.out.core)
      rw [hs0]
      clear hrg hin hs0 hsx
      go_wp2_with (first
        | (refine wpList_load_mid rfl 58 _ rfl g (off + i * 19) rfl x.cells _ HRG.out Tryz.underlying58 rfl (by kernel_rfl) ?_)
        | (go_at_call 19; (with_reducible refine HOP.out.mono ?_); rintro e w5 ⟨rfl, hb5⟩; have HB5 := Lib.hid hb5; clear hb5))
      go_roundg (l.length - (i + 1))
      case measure => omega
      case rel =>
        exact ⟨i + 1, by omega, rfl, by go_num, by rw [HS2.out], HST.out.trans (HB5.out.mono HST.out.size)⟩
    · have hni : i = l.length := by omega
      have hlti : ¬ (i : Int) < (l.length : Int) := by omega
      have HE : Hid (bs (opsT (M.take i)) = bs (opsT M)) := Lib.hid (by
        rw [List.take_of_length_le (by rw [HML.out, List.length_map, HLL.out]; omega)])
      rw [HE.out]
      clear hni
      go_wp2_with fail
      go_ret
      exact ⟨rfl, HB1.out.trans (HST.out.mono HB1.out.size)⟩
set_option maxRecDepth 100000 in
set_option maxHeartbeats 4000000 in
theorem rkept_any (K : List (List KeyV)) (a : Option Addr) (n cap : Nat) (w : World) (hK : RowOf (Rd.slice keyRd 2 16) 1 24 All w a n cap K) (hkn : K.length ≤ 1048576) (hkl : ∀ (i : Nat) (ks : List KeyV), K[i]? = some ks → ks.length ≤ 1048576) (hlen : (keptT K).length ≤ 70368744177664) :
    Calls Tryz.prog 9 #[.slice a n cap] w fun e w' => e = .returned (.string (bs (keptT K))) ∧ Below w.heap.size w w' := by
  have hn := hK.len
  subst hn
  have HK := Lib.hid hK
  have HKL := Lib.hid hkl
  have HLEN := Lib.hid hlen
  clear hK hkl hlen
  go_enter Tryz.func9, Tryz.ntmps9
  go_wp2_with fail
  go_loopg [3, 4] K.length (fun g sv iv wr => ∃ i : Nat, i ≤ K.length ∧ g = K.length - i ∧ iv = .int .i64 i ∧ sv = .string (bs (textN i fun i => keptR i (K.getD i []) ++ [10])) ∧ Below w.heap.size w wr)
  case atStart => exact ⟨0, by omega, rfl, rfl, rfl, Below.refl _ _⟩
  case round =>
    obtain ⟨i, hi, rfl, rfl, rfl, hst⟩ := hrel
    obtain ⟨wo, rfl⟩ : ∃ wo : World, wo = wr := ⟨_, rfl⟩
    have HST := Lib.hid hst
    clear hst
    by_cases hlt : i < K.length
    · have hlti : (i : Int) < (K.length : Int) := by omega
      obtain ⟨b, off, ia, im, ic, hka, hbz, ck0, hks⟩ := row_keys HK.out i hlt
      subst hka
      have HCK : Hid (∀ W, Below w.heap.size w W → W.cell? ⟨b, off + i, none⟩ = some (.slice ia im ic)) := Lib.hid fun W hb => (hb.cell (p := ⟨b, off + i, none⟩) hbz).trans ck0
      have HGD : Hid (K.getD i [] = K[i]'hlt) := Lib.hid (by rw [List.getD_eq_getElem?_getD, List.getElem?_eq_getElem hlt]; rfl)
      have hkm := HKL.out i _ (List.getElem?_eq_getElem hlt)
      have HTL : Hid ((textN i fun i => keptR i (K.getD i []) ++ [10]).length + ((keptR i (K[i]'hlt)).length + 1) ≤ 70368744177664) := Lib.hid (by
        have h1 := textN_le (f := fun i => keptR i (K.getD i []) ++ [10]) (i := i + 1) (n := K.length) hlt
        rw [textN_succ, HGD.out, List.length_append, List.length_append] at h1
        have h2 := HLEN.out
        unfold keptT at h2
        have h3 : ([10] : List UInt8).length = 1 := rfl
        omega)
      generalize K[i]'hlt = ks at *
      have him := hks.len
      subst him
      have HKS := Lib.hid hks
      have HI2 : Hid (InI (i : Int)) := Lib.hid ⟨by omega, by omega⟩
      obtain ⟨P, hP⟩ : ∃ P, (textN i fun i => keptR i (K.getD i []) ++ [10]) = P := ⟨_, rfl⟩
      have HPP := Lib.hid hP
      rw [hP] at HTL ⊢
      obtain ⟨s0, hs0⟩ : ∃ s0, bs P = s0 := ⟨_, rfl⟩
      obtain ⟨sa, hsa⟩ : ∃ sa, bs (Lib.itoa i) = sa := ⟨_, rfl⟩
      have HIA : Hid (∀ W, Calls Tryz.prog 8 #[.int .i64 i] W fun e w' => e = .returned (.string sa) ∧ W = w') := Lib.hid fun W => by rw [← hsa]; exact rint_any _ W HI2.out.1 HI2.out.2
      have hz0 : s0.size ≤ 70368744177664 := by have := HTL.out; rw [← hs0, size_bs]; omega
      have hza : sa.size ≤ 20 := by rw [← hsa]; exact itoa_in HI2.out
      have z1 : (s0 ++ ⟨#[107, 101, 112, 116, 32]⟩).size ≤ 70368744177669 := sizeA (n := 5) hz0 (Nat.le_refl 5)
      have z2 := sizeA z1 hza
      have z3 : (s0 ++ ⟨#[107, 101, 112, 116, 32]⟩ ++ sa ++ ⟨#[58]⟩).size ≤ 70368744177690 := sizeA (n := 1) z2 (Nat.le_refl 1)
      have y1 : ¬ 9223372036854775807 < s0.size + 5 := by omega
      have y2 : ¬ 9223372036854775807 < (s0 ++ ⟨#[107, 101, 112, 116, 32]⟩ : ByteArray).size + sa.size := by omega
      have y3 : ¬ 9223372036854775807 < (s0 ++ ⟨#[107, 101, 112, 116, 32]⟩ ++ sa : ByteArray).size + 1 := by omega
      have HH : Hid (s0 ++ ⟨#[107, 101, 112, 116, 32]⟩ ++ sa ++ ⟨#[58]⟩ = bs (P ++ (partsT [.s [107, 101, 112, 116, 32], .i i, .s [58]] ++ keysT (ks.take 0)))) := Lib.hid (by
        rw [← hs0, ← hsa, show (⟨#[107, 101, 112, 116, 32]⟩ : ByteArray) = bs [107, 101, 112, 116, 32] from rfl, show (⟨#[58]⟩ : ByteArray) = bs [58] from rfl, bs_bs, bs_bs, bs_bs]
        simp [partsT, Part.text, keysT])
      rw [hs0]
      clear hs0 hsa hks hP
      have ck := HCK.out wo HST.out
      go_upto_region 6 with (go_at_call 8; (with_reducible refine (HIA.out _).mono ?_); rintro e w' ⟨rfl, rfl⟩)
      rw [HH.out]
      clear z1 z2 z3 y1 y2 y3 hz0 hza ck HIA
      go_wp2_with fail
      go_loopg [3, 5] ks.length (fun g sv jv wr => ∃ j : Nat, j ≤ ks.length ∧ g = ks.length - j ∧ jv = .int .i64 j ∧ sv = .string (bs (P ++ (partsT [.s [107, 101, 112, 116, 32], .i i, .s [58]] ++ keysT (ks.take j)))) ∧ Below w.heap.size w wr)
      case atStart => exact ⟨0, by omega, rfl, rfl, rfl, HST.out⟩
      case round =>
        obtain ⟨j, hj, rfl, rfl, rfl, hst⟩ := hrel
        obtain ⟨wj, rfl⟩ : ∃ wj : World, wj = wr := ⟨_, rfl⟩
        have HSJ := Lib.hid hst
        clear hst
        have ck := HCK.out wj HSJ.out
        have HLJ : Hid ((P ++ (partsT [.s [107, 101, 112, 116, 32], .i i, .s [58]] ++ keysT (ks.take j))).length + 1 ≤ 70368744177664) := Lib.hid (by
          have h := HTL.out
          have h2 : keysT ks = keysT (ks.take j) ++ keysT (ks.drop j) := by unfold keysT; rw [← List.flatMap_append, List.take_append_drop]
          unfold keptR at h
          rw [h2] at h
          simp only [List.length_append] at h ⊢
          omega)
        by_cases hltj : j < ks.length
        · have hltji : (j : Int) < (ks.length : Int) := by omega
          obtain ⟨b2, off2, hia, hb2, k10, k20, hk1, hk2⟩ := row_key HKS.out j hltj
          subst hia
          have k1 := (HSJ.out.cell (p := ⟨b2, off2 + j * 2, none⟩) hb2).trans k10
          have k2 := (HSJ.out.cell (p := ⟨b2, off2 + j * 2 + 1, none⟩) hb2).trans k20
          have HTK := Lib.hid (keysT_take hltj)
          generalize ks[j]'hltj = key at *
          obtain ⟨X, hX⟩ : ∃ X, P ++ (partsT [.s [107, 101, 112, 116, 32], .i i, .s [58]] ++ keysT (ks.take j)) = X := ⟨_, rfl⟩
          rw [hX] at HLJ ⊢
          obtain ⟨s1, hs1⟩ : ∃ s1, bs X = s1 := ⟨_, rfl⟩
          obtain ⟨sa, hsa⟩ : ∃ sa, bs (Lib.itoa key.1) = sa := ⟨_, rfl⟩
          obtain ⟨sb, hsb⟩ : ∃ sb, bs (Lib.itoa key.2) = sb := ⟨_, rfl⟩
          have HIA : Hid (∀ W, Calls Tryz.prog 8 #[.int .i64 key.1] W fun e w' => e = .returned (.string sa) ∧ W = w') := Lib.hid fun W => by rw [← hsa]; exact rint_any _ W hk1.1 hk1.2
          have HIB : Hid (∀ W, Calls Tryz.prog 8 #[.int .i64 key.2] W fun e w' => e = .returned (.string sb) ∧ W = w') := Lib.hid fun W => by rw [← hsb]; exact rint_any _ W hk2.1 hk2.2
          have hz0 : s1.size ≤ 70368744177664 := by have := HLJ.out; rw [← hs1, size_bs]; omega
          have hza : sa.size ≤ 20 := by rw [← hsa]; exact itoa_in hk1
          have hzb : sb.size ≤ 20 := by rw [← hsb]; exact itoa_in hk2
          have z1 : (s1 ++ ⟨#[32]⟩).size ≤ 70368744177665 := sizeA (n := 1) hz0 (Nat.le_refl 1)
          have z2 := sizeA z1 hza
          have z3 : (s1 ++ ⟨#[32]⟩ ++ sa ++ ⟨#[46]⟩).size ≤ 70368744177686 := sizeA (n := 1) z2 (Nat.le_refl 1)
          have z4 := sizeA z3 hzb
          have HH : Hid (s1 ++ ⟨#[32]⟩ ++ sa ++ ⟨#[46]⟩ ++ sb = bs (P ++ (partsT [.s [107, 101, 112, 116, 32], .i i, .s [58]] ++ keysT (ks.take (j + 1))))) := Lib.hid (by
            rw [← hs1, ← hsa, ← hsb, show (⟨#[32]⟩ : ByteArray) = bs [32] from rfl, show (⟨#[46]⟩ : ByteArray) = bs [46] from rfl, bs_bs, bs_bs, bs_bs, bs_bs, HTK.out, ← hX]
            simp [keyT, partsT, Part.text])
          rw [hs1]
          clear hs1 hsa hsb hX k10 k20 hk1 hk2 hb2
          go_upto_region 9 with fail
          go_quiet ((first
            | (go_at_call 8; with_reducible exact qsame (HIA.out _))
            | (go_at_call 8; with_reducible exact qsame (HIB.out _))))
          rw [HH.out]
          clear z1 z2 z3 z4 hz0 hza hzb ck k1 k2
          go_wp2_with fail
          go_roundg (ks.length - (j + 1))
          case measure => omega
          case rel => exact ⟨j + 1, by omega, rfl, by go_num, rfl, by first | exact below_drewN HSJ.out _ | exact HSJ.out.drew | exact HSJ.out⟩
        · have hnj : j = ks.length := by omega
          have hltji : ¬ (j : Int) < (ks.length : Int) := by omega
          obtain ⟨X, hX⟩ : ∃ X, P ++ (partsT [.s [107, 101, 112, 116, 32], .i i, .s [58]] ++ keysT (ks.take j)) = X := ⟨_, rfl⟩
          rw [hX] at HLJ ⊢
          obtain ⟨s1, hs1⟩ : ∃ s1, bs X = s1 := ⟨_, rfl⟩
          have y1 : ¬ 9223372036854775807 < s1.size + 1 := by have := HLJ.out; rw [← hs1, size_bs]; omega
          have HH : Hid (s1 ++ ⟨#[10]⟩ = bs (textN (i + 1) fun i => keptR i (K.getD i []) ++ [10])) := Lib.hid (by
            rw [← hs1, show (⟨#[10]⟩ : ByteArray) = bs [10] from rfl, bs_bs, textN_succ, HGD.out, HPP.out, ← hX, hnj, List.take_length, List.append_assoc]
            rfl)
          rw [hs1]
          clear hs1 hX hnj
          go_wp2_with fail
          rw [HH.out]
          go_roundg (K.length - (i + 1))
          case measure => omega
          case rel => exact ⟨i + 1, by omega, rfl, by go_num, rfl, HSJ.out⟩
    · have hni : i = K.length := by omega
      have hlti : ¬ (i : Int) < (K.length : Int) := by omega
      have HE : Hid (bs (textN i fun i => keptR i (K.getD i []) ++ [10]) = bs (keptT K)) := Lib.hid (by rw [hni]; rfl)
      rw [HE.out]
      clear hni
      go_wp2_with fail
      go_ret
      exact ⟨rfl, HST.out⟩
set_option maxRecDepth 100000 in
set_option maxHeartbeats 4000000 in
theorem rtabs_any (T : List NameV) (U : List Int) (a : Option Addr) (n cap : Nat) (ua : Option Addr) (un uc : Nat) (w : World) (hT : RowOf nameRd 4 32 All w a n cap T) (hU : RowOf (Rd.int .i64) 1 8 All w ua un uc U) (htn : T.length ≤ 1048576) (hlen : (tabT T U).length ≤ 70368744177664) :
    Calls Tryz.prog 10 #[.slice a n cap, .slice ua un uc] w fun e w' => e = .returned (.string (bs (tabT T U))) ∧ Below w.heap.size w w' := by
  have hn := hT.len
  have hn2 := hU.len
  subst hn hn2
  have HT := Lib.hid hT
  have HU := Lib.hid hU
  have HLEN := Lib.hid hlen
  clear hT hU hlen
  go_enter Tryz.func10, Tryz.ntmps10
  go_wp2_with fail
  go_loopg [5, 6] T.length (fun g sv iv wr => ∃ i : Nat, i ≤ T.length ∧ g = T.length - i ∧ iv = .int .i64 i ∧ sv = .string (bs (textN i fun i => tabR (T.getD i (0, 0, 0, 0)) U[i]? ++ [10])) ∧ Below w.heap.size w wr)
  case atStart => exact ⟨0, by omega, rfl, rfl, rfl, Below.refl _ _⟩
  case round =>
    obtain ⟨i, hi, rfl, rfl, rfl, hst⟩ := hrel
    obtain ⟨wo, rfl⟩ : ∃ wo : World, wo = wr := ⟨_, rfl⟩
    have HST := Lib.hid hst
    clear hst
    by_cases hlt : i < T.length
    · have hlti : (i : Int) < (T.length : Int) := by omega
      obtain ⟨b, off, hta, hbz, ⟨q10, q20, q30, q40⟩, hi1, hi2, hi3, hi4⟩ := row_name HT.out i hlt
      subst hta
      have q1 := (HST.out.cell (p := ⟨b, off + i * 4, none⟩) hbz).trans q10
      have q2 := (HST.out.cell (p := ⟨b, off + i * 4 + 1, none⟩) hbz).trans q20
      have q3 := (HST.out.cell (p := ⟨b, off + i * 4 + 2, none⟩) hbz).trans q30
      have q4 := (HST.out.cell (p := ⟨b, off + i * 4 + 3, none⟩) hbz).trans q40
      have HGD : Hid (T.getD i (0, 0, 0, 0) = T[i]'hlt) := Lib.hid (by rw [List.getD_eq_getElem?_getD, List.getElem?_eq_getElem hlt]; rfl)
      have HTL : Hid ((textN i fun i => tabR (T.getD i (0, 0, 0, 0)) U[i]? ++ [10]).length ≤ 70368744177664) := Lib.hid (by
        have h1 := textN_le (f := fun i => tabR (T.getD i (0, 0, 0, 0)) U[i]? ++ [10]) hi
        have h2 := HLEN.out
        unfold tabT at h2
        omega)
      generalize T[i]'hlt = nm at *
      obtain ⟨P, hP⟩ : ∃ P, (textN i fun i => tabR (T.getD i (0, 0, 0, 0)) U[i]? ++ [10]) = P := ⟨_, rfl⟩
      have HPP := Lib.hid hP
      rw [hP] at HTL ⊢
      obtain ⟨s0, hs0⟩ : ∃ s0, bs P = s0 := ⟨_, rfl⟩
      obtain ⟨sa, hsa⟩ : ∃ sa, bs (Lib.itoa nm.1) = sa := ⟨_, rfl⟩
      obtain ⟨sb, hsb⟩ : ∃ sb, bs (Lib.itoa nm.2.1) = sb := ⟨_, rfl⟩
      obtain ⟨sc, hsc⟩ : ∃ sc, bs (Lib.itoa nm.2.2.1) = sc := ⟨_, rfl⟩
      obtain ⟨sd, hsd⟩ : ∃ sd, bs (Lib.itoa nm.2.2.2) = sd := ⟨_, rfl⟩
      have HIA : Hid (∀ W, Calls Tryz.prog 8 #[.int .i64 nm.1] W fun e w' => e = .returned (.string sa) ∧ W = w') := Lib.hid fun W => by rw [← hsa]; exact rint_any _ W hi1.1 hi1.2
      have HIB : Hid (∀ W, Calls Tryz.prog 8 #[.int .i64 nm.2.1] W fun e w' => e = .returned (.string sb) ∧ W = w') := Lib.hid fun W => by rw [← hsb]; exact rint_any _ W hi2.1 hi2.2
      have HIC : Hid (∀ W, Calls Tryz.prog 8 #[.int .i64 nm.2.2.1] W fun e w' => e = .returned (.string sc) ∧ W = w') := Lib.hid fun W => by rw [← hsc]; exact rint_any _ W hi3.1 hi3.2
      have HID : Hid (∀ W, Calls Tryz.prog 8 #[.int .i64 nm.2.2.2] W fun e w' => e = .returned (.string sd) ∧ W = w') := Lib.hid fun W => by rw [← hsd]; exact rint_any _ W hi4.1 hi4.2
      have hz0 : s0.size ≤ 70368744177664 := by have := HTL.out; rw [← hs0, size_bs]; omega
      have hza : sa.size ≤ 20 := by rw [← hsa]; exact itoa_in hi1
      have hzb : sb.size ≤ 20 := by rw [← hsb]; exact itoa_in hi2
      have hzc : sc.size ≤ 20 := by rw [← hsc]; exact itoa_in hi3
      have hzd : sd.size ≤ 20 := by rw [← hsd]; exact itoa_in hi4
      have z1 : (s0 ++ ⟨#[116, 97, 98, 108, 101, 32]⟩).size ≤ 70368744177670 := sizeA (n := 6) hz0 (Nat.le_refl 6)
      have z2 := sizeA z1 hza
      have z3 : (s0 ++ ⟨#[116, 97, 98, 108, 101, 32]⟩ ++ sa ++ ⟨#[32]⟩).size ≤ 70368744177691 := sizeA (n := 1) z2 (Nat.le_refl 1)
      have z4 := sizeA z3 hzb
      have z5 : (s0 ++ ⟨#[116, 97, 98, 108, 101, 32]⟩ ++ sa ++ ⟨#[32]⟩ ++ sb ++ ⟨#[32]⟩).size ≤ 70368744177712 := sizeA (n := 1) z4 (Nat.le_refl 1)
      have z6 := sizeA z5 hzc
      have z7 : (s0 ++ ⟨#[116, 97, 98, 108, 101, 32]⟩ ++ sa ++ ⟨#[32]⟩ ++ sb ++ ⟨#[32]⟩ ++ sc ++ ⟨#[32]⟩).size ≤ 70368744177733 := sizeA (n := 1) z6 (Nat.le_refl 1)
      have z8 := sizeA z7 hzd
      have z9 : (s0 ++ ⟨#[116, 97, 98, 108, 101, 32]⟩ ++ sa ++ ⟨#[32]⟩ ++ sb ++ ⟨#[32]⟩ ++ sc ++ ⟨#[32]⟩ ++ sd ++ ⟨#[32, 117, 115, 101, 115, 32]⟩).size ≤ 70368744177759 := sizeA (n := 6) z8 (Nat.le_refl 6)
      obtain ⟨sp, hsp⟩ : ∃ sp, s0 ++ ⟨#[116, 97, 98, 108, 101, 32]⟩ ++ sa ++ ⟨#[32]⟩ ++ sb ++ ⟨#[32]⟩ ++ sc ++ ⟨#[32]⟩ ++ sd ++ ⟨#[32, 117, 115, 101, 115, 32]⟩ = sp := ⟨_, rfl⟩
      have HSP := Lib.hid hsp
      have hzp : sp.size ≤ 70368744177759 := by rw [← hsp]; exact z9
      have HPE : Hid (∀ u : Option Int, sp ++ bs (usesT u) = bs (P ++ tabR nm u)) := Lib.hid fun u => by
        rw [← hsp, ← hs0, ← hsa, ← hsb, ← hsc, ← hsd, show (⟨#[116, 97, 98, 108, 101, 32]⟩ : ByteArray) = bs [116, 97, 98, 108, 101, 32] from rfl, show (⟨#[32, 117, 115, 101, 115, 32]⟩ : ByteArray) = bs [32, 117, 115, 101, 115, 32] from rfl, show (⟨#[32]⟩ : ByteArray) = bs [32] from rfl]
        simp only [bs_bs]
        simp [tabR, partsT, Part.text]
      rw [hs0]
      clear hs0 hsa hsb hsc hsd q10 q20 q30 q40 hi1 hi2 hi3 hi4 hP hsp
      go_upto_region 5 with fail
      go_quiet ((first
        | (go_at_call 8; with_reducible exact qsame (HIA.out _))
        | (go_at_call 8; with_reducible exact qsame (HIB.out _))
        | (go_at_call 8; with_reducible exact qsame (HIC.out _))
        | (go_at_call 8; with_reducible exact qsame (HID.out _))))
      rw [HSP.out]
      clear z1 z2 z3 z4 z5 z6 z7 z8 z9 q1 q2 q3 q4 hz0 hza hzb hzc hzd
      obtain ⟨w5, hw5⟩ : ∃ w5, w5 = wo.drewN nq := ⟨_, rfl⟩
      have HB5 : Hid (Below w.heap.size w w5) := Lib.hid (by rw [hw5]; exact below_drewN HST.out _)
      rw [← hw5]
      clear hw5
      by_cases hu : i < U.length
      · have hui : (i : Int) < (U.length : Int) := by omega
        obtain ⟨b7, o7, hua, hb7, _, cu0, hwf⟩ := HU.out.int i hu
        subst hua
        have HGU : Hid (U[i]? = some (U[i]'hu)) := Lib.hid (List.getElem?_eq_getElem hu)
        have cu := (HB5.out.cell (p := ⟨b7, o7 + i, none⟩) hb7).trans cu0
        generalize U[i]'hu = uv at *
        obtain ⟨su, hsu⟩ : ∃ su, bs (usesT (some uv)) = su := ⟨_, rfl⟩
        have hwi := wf_i64 hwf
        have HIU : Hid (∀ W, Calls Tryz.prog 8 #[.int .i64 uv] W fun e w' => e = .returned (.string su) ∧ W = w') := Lib.hid fun W => by rw [← hsu]; exact rint_any _ W hwi.1 hwi.2
        have hzu : su.size ≤ 20 := by rw [← hsu]; exact itoa_in hwi
        obtain ⟨s6, hs6⟩ : ∃ s6, sp ++ su = s6 := ⟨_, rfl⟩
        have y1 : ¬ 9223372036854775807 < sp.size + su.size := by omega
        have y2 : ¬ 9223372036854775807 < s6.size + 1 := by rw [← hs6, ByteArray.size_append]; omega
        have HH : Hid (s6 ++ ⟨#[10]⟩ = bs (textN (i + 1) fun i => tabR (T.getD i (0, 0, 0, 0)) U[i]? ++ [10])) := Lib.hid (by
          rw [← hs6, ← hsu, HPE.out, show (⟨#[10]⟩ : ByteArray) = bs [10] from rfl, bs_bs, textN_succ, HGD.out, HPP.out, HGU.out, List.append_assoc])
        clear hsu cu0 hwf hwi hb7 hzu
        go_wp2_with (go_at_call 8; (with_reducible refine (HIU.out _).mono ?_); rintro e w' ⟨rfl, rfl⟩)
        rw [HH.out]
        go_roundg (T.length - (i + 1))
        case measure => omega
        case rel => exact ⟨i + 1, by omega, rfl, by go_num, rfl, HB5.out⟩
      · have hui : ¬ (i : Int) < (U.length : Int) := by omega
        have HGU : Hid (U[i]? = none) := Lib.hid (List.getElem?_eq_none (by omega))
        have y1 : ¬ 9223372036854775807 < sp.size + 2 := by omega
        have HH : Hid (sp ++ ⟨#[63, 10]⟩ = bs (textN (i + 1) fun i => tabR (T.getD i (0, 0, 0, 0)) U[i]? ++ [10])) := Lib.hid (by
          have h := HPE.out none
          rw [show (⟨#[63, 10]⟩ : ByteArray) = bs (usesT none) ++ bs [10] from rfl, ← ByteArray.append_assoc, h, bs_bs, textN_succ, HGD.out, HPP.out, HGU.out, List.append_assoc])
        go_wp2_with fail
        rw [HH.out]
        go_roundg (T.length - (i + 1))
        case measure => omega
        case rel => exact ⟨i + 1, by omega, rfl, by go_num, rfl, HB5.out⟩
    · have hni : i = T.length := by omega
      have hlti : ¬ (i : Int) < (T.length : Int) := by omega
      have HE : Hid (bs (textN i fun i => tabR (T.getD i (0, 0, 0, 0)) U[i]? ++ [10]) = bs (tabT T U)) := Lib.hid (by rw [hni]; rfl)
      rw [HE.out]
      clear hni
      go_wp2_with fail
      go_ret
      exact ⟨rfl, HST.out⟩
end Go.Proofs.YthjcmcgmalnfpaaGreatDoor.Lex
