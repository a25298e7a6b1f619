/- RTake, RTakeC, RCopy, RCopy2, RTakeD, RParse, AlikeA, Errs, Law42, ReadsA: laid into one text. -/
import Derived.Test.YtplhmcmfdcklaaaDoorRRead
import Derived.Test.YtplhmcmfdcklaaaDoorTakeC
import Derived.StillTailTactics
import Derived.Test.YtplhmcmfdcklaaaDoorHeldZ
import Derived.RegionTactic
import Derived.Deep.RegionHeldLaw
import Derived.Test.YtplhmcmfdcklaaaDoorWordR
import Derived.Test.YtplhmcmfdcklaaaDoorBig
import Derived.Deep.RegionHeld3
import Derived.Test.YtplhmcmfdcklaaaDoorPN
import Derived.Test.YtplhmcmfdcklaaaDoorCard
import Derived.Stop.LaidErr
import Derived.Test.YtplhmcmfdcklaaaDoorParse
import Derived.Test.YtplhmcmfdcklaaaDoorOwnA
/- A line taken: the reference's take. -/
namespace Go.Proofs.YtplhmcmfdcklaaaDoor.Lex
open Go.RowKit
set_option linter.unusedSimpArgs false
set_option linter.unusedVariables false
/-- Rows of clients: the outer row is the call's own; each row lies in memory. -/
def RRc (w : World) (base : Nat) (vC : Value) (L : List (List CallV)) : Prop :=
  ∃ cells, w.ownsRow base 55 1 vC L.length cells ∧ ∀ (i : Nat) (h : i < L.length), ∃ a c, cells[i]? = some (.slice a (L[i]'h).length c) ∧ CallT w w.heap.size a (L[i]'h) ∧ (L[i]'h).length ≤ c ∧ (a = none → c = 0)
theorem RRc.below {w w' : World} {base : Nat} {vC : Value} {L : List (List CallV)} (h : RRc w base vC L) (hb : Below w.heap.size w w') : RRc w' base vC L := by
  obtain ⟨cells, h1, h2⟩ := h
  refine ⟨cells, own_below h1 hb, fun i hi => ?_⟩
  obtain ⟨a, c, e1, e2, e3⟩ := h2 i hi
  exact ⟨a, c, e1, (e2.keep (Kept.of_below hb)).mono hb.size, e3⟩
/-- Blocks of other kinds than rows of rows are kept. -/
structure KeptC (w w' : World) : Prop where
  size : w.heap.size ≤ w'.heap.size
  same : ∀ (g : Nat) (cs : Array Value) (T : TypeId) (f : Nat × Nat), w.heap[g]? = some (.cells cs T f) → T ≠ 55 → w'.heap[g]? = w.heap[g]?
theorem KeptC.of_below {w w' : World} (h : Below w.heap.size w w') : KeptC w w' := ⟨h.size, fun g cs T f hg _ => h.block g (Array.getElem?_eq_some_iff.1 hg).1⟩
theorem KeptC.trans {a b c : World} (h : KeptC a b) (k : KeptC b c) : KeptC a c := ⟨Nat.le_trans h.size k.size, fun g cs T f hg hT => (k.same g cs T f ((h.same g cs T f hg hT).trans hg) hT).trans (h.same g cs T f hg hT)⟩
theorem KeptC.kept {w w' : World} (h : KeptC w w') (B : Nat) : Kept B w w' := ⟨fun g cs f hg => h.same g cs _ f hg (by decide), fun g cs f hg => h.same g cs _ f hg (by decide), fun g cs f _ hg => h.same g cs _ f hg (by decide)⟩
/-- A script as the reference holds it. -/
structure RSt (w : World) (base : Nat) (v : Value) (S : ScrV) : Prop where
  get : ∃ aC cC aP cP aT cT, v = .agg #[.int .i64 S.stripes, .int .i64 S.room, .slice aC S.clients.length cC, .slice aP S.picks.length cP, .slice aT S.ticks.length cT] ∧ IntV w (.slice aP S.picks.length cP) S.picks ∧ IntV w (.slice aT S.ticks.length cT) S.ticks ∧ RRc w base (.slice aC S.clients.length cC) S.clients
theorem RSt.mk' {w : World} {base : Nat} {S : ScrV} {vC vP vT : Value} (hP : IntV w vP S.picks) (hT : IntV w vT S.ticks) (hC : RRc w base vC S.clients) : RSt w base (.agg #[.int .i64 S.stripes, .int .i64 S.room, vC, vP, vT]) S := by
  obtain ⟨aP, cP, rfl⟩ : ∃ aP cP, vP = .slice aP S.picks.length cP := by obtain ⟨a, c, h, _⟩ := hP; exact ⟨a, c, h⟩
  obtain ⟨aT, cT, rfl⟩ : ∃ aP cP, vT = .slice aP S.ticks.length cP := by obtain ⟨a, c, h, _⟩ := hT; exact ⟨a, c, h⟩
  obtain ⟨aC, cC, rfl⟩ : ∃ aP cP, vC = .slice aP S.clients.length cP := by obtain ⟨_, ho, _⟩ := hC; exact own_slice ho
  exact ⟨aC, cC, aP, cP, aT, cT, rfl, hP, hT, hC⟩
/-- What the reference's take makes of a line. -/
def RTakePost (W1 w : World) (r : Option ScrV) (e : Ending) (w' : World) : Prop := Below W1.heap.size W1 w' ∧ KeptC w w' ∧ match r with
  | none => ∃ x y aC nC cC aP nP cP aT nT cT, e = .returned (.tuple #[.agg #[.int .i64 x, .int .i64 y, .slice aC nC cC, .slice aP nP cP, .slice aT nT cT], .bool false])
  | some S => ∃ v, e = .returned (.tuple #[v, .bool true]) ∧ RSt w' W1.heap.size v S
theorem rtake_no {W1 w w' : World} {r : Option ScrV} {x y : Int} {aC aP aT : Option Addr} {nC cC nP cP nT cT : Nat} (h : r = none) (hB : Below W1.heap.size W1 w) (hb : Below w.heap.size w w') : RTakePost W1 w r (.returned (.tuple #[.agg #[.int .i64 x, .int .i64 y, .slice aC nC cC, .slice aP nP cP, .slice aT nT cT], .bool false])) w' := by
  subst h
  exact ⟨hB.trans (hb.mono hB.size), KeptC.of_below hb, _, _, _, _, _, _, _, _, _, _, _, rfl⟩
theorem rtake_yes {W1 w w' : World} {r : Option ScrV} {S : ScrV} {v : Value} (h : r = some S) (hB : Below W1.heap.size W1 w) (hb : Below w.heap.size w w') (hS : RSt w' W1.heap.size v S) : RTakePost W1 w r (.returned (.tuple #[v, .bool true])) w' := by
  subst h
  exact ⟨hB.trans (hb.mono hB.size), KeptC.of_below hb, v, rfl, hS⟩
theorem IntV.far {w : World} {base n : Nat} {a : Option Addr} {c : Nat} {l : List Int} (h : w.ownsRow base 3 1 (.slice a n c) n (l.map (Value.int .i64))) (hl : ∀ n ∈ l, -9223372036854775808 ≤ n ∧ n ≤ 9223372036854775807) : ∀ W : World, (∀ g, base ≤ g → W.heap[g]? = w.heap[g]?) → IntV W (.slice a n c) l := fun W hW => by
  obtain ⟨a', c', e, ht, rest⟩ := IntV.of_own' h hl
  have hlt := own_lt h
  cases e
  refine ⟨_, _, rfl, fun i hi => ?_, rest⟩
  obtain ⟨g, off, cs, f, rfl, h2, h3⟩ := ht i hi
  exact ⟨g, off, cs, f, rfl, (hW g (hlt g rfl)).trans h2, h3⟩
abbrev zeroS : Array Value := #[.int .i64 0, .int .i64 0, .slice none 0 0, .slice none 0 0, .slice none 0 0]
abbrev headC : Array Value := #[.string ⟨#[112, 108, 97, 121]⟩, .string ⟨#[112, 105, 99, 107, 115]⟩, .string ⟨#[116, 105, 99, 107, 115]⟩]
set_option maxRecDepth 100000 in
set_option maxHeartbeats 4000000 in
theorem rtake_0 (W1 w : World) (S : ScrV) (h : List UInt8) (rest : List (List UInt8)) (g off cap : Nat) (v : Value) (hB : Below W1.heap.size W1 w) (hS : RSt w W1.heap.size v S) (c0 : w.cell? ⟨g, off, none⟩ = some (.string (bs h))) (hr : Txt w (some ⟨g, off + 1, none⟩) rest) (hsh : Full rest) (hcap : rest.length + 1 ≤ cap) :
    Calls Tryd.prog 35 #[v, .int .i64 0, .slice (some ⟨g, off, none⟩) (rest.length + 1) cap] w (RTakePost W1 w (stepL 0 S (h :: rest))) := by
  obtain ⟨aC, cC, aP, cP, aT, cT, rfl, hP, hT, hC⟩ := hS
  have HP := Lib.hid hP
  have HT := Lib.hid hT
  have HC := Lib.hid hC
  have HB := Lib.hid hB
  obtain ⟨W0, hW0⟩ : ∃ W0, W0 = ((w.alloc (.cells #[.int .i64 S.stripes, .int .i64 S.room, .slice aC S.clients.length cC, .slice aP S.picks.length cP, .slice aT S.ticks.length cT] 44)).alloc (.cells zeroS 44)).alloc (.cells headC 9) := ⟨_, rfl⟩
  have hb0 : Below w.heap.size w W0 := by rw [hW0]; exact (((Below.refl _ _).alloc (Nat.le_refl _) _).alloc (by simp) _).alloc (by simp; omega) _
  have g0 : W0.heap[w.heap.size]? = some (.cells #[.int .i64 S.stripes, .int .i64 S.room, .slice aC S.clients.length cC, .slice aP S.picks.length cP, .slice aT S.ticks.length cT] 44 (0, 0)) := by rw [hW0, Lib.alloc_old _ _ _ (by simp; omega), Lib.alloc_old _ _ _ (by simp)]; exact heap_alloc_new w _
  have g1 : W0.heap[w.heap.size + 1]? = some (.cells zeroS 44 (0, 0)) := by
    rw [hW0, Lib.alloc_old _ _ _ (by simp)]
    have := heap_alloc_new (w.alloc (.cells #[.int .i64 S.stripes, .int .i64 S.room, .slice aC S.clients.length cC, .slice aP S.picks.length cP, .slice aT S.ticks.length cT] 44)) (.cells zeroS 44)
    simpa using this
  have g2 : W0.heap[w.heap.size + 2]? = some (.cells headC 9 (0, 0)) := by
    rw [hW0]
    have := heap_alloc_new ((w.alloc (.cells #[.int .i64 S.stripes, .int .i64 S.room, .slice aC S.clients.length cC, .slice aP S.picks.length cP, .slice aT S.ticks.length cT] 44)).alloc (.cells zeroS 44)) (.cells headC 9)
    simpa using this
  have hz : W0.heap.size = w.heap.size + 3 := by rw [hW0]; simp
  have hgw : g < w.heap.size := World.block_lt_of_cell? w _ c0
  have HB3 := Lib.hid hb0
  have HSH := Lib.hid hsh
  have hrl := hsh.1
  have c0' := (hb0.cell (p := ⟨g, off, none⟩) hgw).trans c0
  obtain ⟨ra, hra⟩ : ∃ ra : Option Addr, ra = (if cap = 1 then some ⟨g, off, none⟩ else some ⟨g, off + 1, none⟩) := ⟨_, rfl⟩
  have HRA : Hid (Txt W0 ra rest) := Lib.hid (by
    rw [hra]
    split
    · intro i hi
      omega
    · exact hr.keep hb0)
  have HRE := Lib.hid hra
  have b0 := cell_at (o := 0) g0 rfl
  have b1 := cell_at (o := 1) g0 rfl
  have b2 := cell_at (o := 2) g0 rfl
  have b3 := cell_at (o := 3) g0 rfl
  have b4 := cell_at (o := 4) g0 rfl
  have bf : ∀ o, W0.frozen? ⟨w.heap.size, o, none⟩ = false := fun o => free_at g0
  have z0 := cell_at (o := 0) g1 rfl
  have z1 := cell_at (o := 1) g1 rfl
  have z2 := cell_at (o := 2) g1 rfl
  have z3 := cell_at (o := 3) g1 rfl
  have z4 := cell_at (o := 4) g1 rfl
  have zf : ∀ o, W0.frozen? ⟨w.heap.size + 1, o, none⟩ = false := fun o => free_at g1
  have y0 := cell_at (o := 0) g2 rfl
  simp only [zeroS, headC, List.getElem_toArray, List.getElem_cons_zero, List.getElem_cons_succ] at b0 b1 b2 b3 b4 z0 z1 z2 z3 z4 y0
  have hg0 : g < W0.heap.size := by omega
  have hz0 : w.heap.size < W0.heap.size := by omega
  have hz1 : w.heap.size + 1 < W0.heap.size := by omega
  have hz2 : w.heap.size + 2 < W0.heap.size := by omega
  have n1 : ¬ w.heap.size = w.heap.size + 1 := by omega
  have n2 : ¬ w.heap.size + 1 = w.heap.size := by omega
  clear hP hT hC hB hb0 g0 g1 g2 hsh hra c0 hr
  go_enter Tryd.func35, Tryd.ntmps35
  go_upto_region 2 with fail
  rw [← hW0]
  clear hW0
  cases hn : numsW rest with
  | none =>
    have HST : Hid (stepL 0 S (h :: rest) = none) := Lib.hid (by simp [stepL, hn, twoW_no hn])
    have HN := Lib.hid hn
    clear hn
    go_wp2_with (go_at_call 50; rw [← HRE.out]; (with_reducible refine (rnumbers_any rest ra _ _ HRA.out HSH.out).mono ?_); rintro e w2 hp; obtain ⟨hb2, rfl⟩ := rowPost_no hp HN.out; clear hp; have HBX : Hid (Below w.heap.size w w2) := Lib.hid (HB3.out.trans (hb2.mono HB3.out.size)); have xc0 := (hb2.cell (p := ⟨g, off, none⟩) hg0).trans c0'; have xy := (hb2.cell (p := ⟨w.heap.size + 2, 0, none⟩) hz2).trans y0; obtain ⟨kc2, kf2⟩ := bcell hb2; have hzz := hb2.size; have HB2 := Lib.hid hb2; clear hb2)
    go_quiet (fail)
    go_wp2_with fail
    refine bodyPost_ret (v := .tuple #[.agg #[.int .i64 S.stripes, .int .i64 S.room, .slice aC S.clients.length cC, .slice aP S.picks.length cP, .slice aT S.ticks.length cT], .bool false]) (by simp [results, Tryd.results35, go_sem, *]) rfl ?_
    exact rtake_no HST.out HB.out (by
        have hbx := HBX.out
        (repeat' (first | with_reducible assumption | with_reducible refine Below.drew ?_ | with_reducible refine below_drewN ?_ _ | (with_reducible refine Below.alloc ?_ (by first | assumption | (simp; done) | (simp; omega)) _) | (with_reducible refine Below.setCell ?_ (by first | (show w.heap.size ≤ w.heap.size; omega) | (show w.heap.size ≤ w.heap.size + 1; omega)) _))))
  | some l =>
    have HN := Lib.hid hn
    have HLB := Lib.hid (allW_map numW_iff hn).2
    have hll := allW_len hn
    by_cases hpl : h = playW
    · have hpt : ((bs h).toList == [112, 108, 97, 121]) = true := text_is hpl
      by_cases hl2 : l.length = 2
      · obtain ⟨x, y, rfl⟩ := nums_pair hn (by omega)
        have HST : Hid (stepL 0 S (h :: rest) = some { S with stripes := x, room := y }) := Lib.hid (by simp [stepL, hpl, twoW_some.2 hn])
        clear hn hpl hll hl2
        go_wp2_with (go_at_call 50; rw [← HRE.out]; (with_reducible refine (rnumbers_any rest ra _ _ HRA.out HSH.out).mono ?_); rintro e w2 hp; obtain ⟨hb2, a2, cp2, rfl, ho⟩ := rowPost_get hp HN.out; have HV := Lib.hid (IntV.far ho HLB.out); obtain ⟨g2, cap2, hv, _⟩ := own_some ho (by simp); cases hv; have d0 := (own_cell (i := 0) ho rfl).1; have d1 := (own_cell (i := 1) ho rfl).1; clear ho; clear hp; have HBX : Hid (Below w.heap.size w w2) := Lib.hid (HB3.out.trans (hb2.mono HB3.out.size)); have xc0 := (hb2.cell (p := ⟨g, off, none⟩) hg0).trans c0'; have xy := (hb2.cell (p := ⟨w.heap.size + 2, 0, none⟩) hz2).trans y0; obtain ⟨kc2, kf2⟩ := bcell hb2; have hzz := hb2.size; have HB2 := Lib.hid hb2; clear hb2)
        go_quiet (fail)
        go_wp2_with fail
        go_region
        all_goals
          go_wp2_with fail
          refine bodyPost_ret (v := .tuple #[.agg #[.int .i64 x, .int .i64 y, .slice aC S.clients.length cC, .slice aP S.picks.length cP, .slice aT S.ticks.length cT], .bool true]) (by simp [results, Tryd.results35, go_sem, *]) rfl ?_
          have hfin : ∀ W', Below w.heap.size w W' → RTakePost W1 w (stepL 0 S (h :: rest)) (.returned (.tuple #[.agg #[.int .i64 x, .int .i64 y, .slice aC S.clients.length cC, .slice aP S.picks.length cP, .slice aT S.ticks.length cT], .bool true])) W' := fun W' hb => rtake_yes HST.out HB.out hb (RSt.mk' (S := { S with stripes := x, room := y }) (HP.out.keep (Kept.of_below (B := 0) hb)) (HT.out.keep (Kept.of_below (B := 0) hb)) (HC.out.below hb))
          exact hfin _ (by
            have hbx := HBX.out
            (repeat' (first | with_reducible assumption | with_reducible refine Below.drew ?_ | with_reducible refine below_drewN ?_ _ | (with_reducible refine Below.alloc ?_ (by first | assumption | (simp; done) | (simp; omega)) _) | (with_reducible refine Below.setCell ?_ (by first | (show w.heap.size ≤ w.heap.size; omega) | (show w.heap.size ≤ w.heap.size + 1; omega)) _))))
      · have HST : Hid (stepL 0 S (h :: rest) = none) := Lib.hid (by simp [stepL, hpl, twoW_len (ws := rest) (by omega)])
        have hl3 : ((l.length : Int) == 2) = false := by simp only [beq_eq_false_iff_ne, ne_eq]; omega
        clear hn hpl hll hl2
        go_wp2_with (go_at_call 50; rw [← HRE.out]; (with_reducible refine (rnumbers_any rest ra _ _ HRA.out HSH.out).mono ?_); rintro e w2 hp; obtain ⟨hb2, a2, cp2, rfl, ho⟩ := rowPost_get hp HN.out; have HV := Lib.hid (IntV.far ho HLB.out); clear ho; clear hp; have HBX : Hid (Below w.heap.size w w2) := Lib.hid (HB3.out.trans (hb2.mono HB3.out.size)); have xc0 := (hb2.cell (p := ⟨g, off, none⟩) hg0).trans c0'; have xy := (hb2.cell (p := ⟨w.heap.size + 2, 0, none⟩) hz2).trans y0; obtain ⟨kc2, kf2⟩ := bcell hb2; have hzz := hb2.size; have HB2 := Lib.hid hb2; clear hb2)
        go_quiet (fail)
        go_wp2_with fail
        refine bodyPost_ret (v := .tuple #[.agg #[.int .i64 S.stripes, .int .i64 S.room, .slice aC S.clients.length cC, .slice aP S.picks.length cP, .slice aT S.ticks.length cT], .bool false]) (by simp [results, Tryd.results35, go_sem, *]) rfl ?_
        exact rtake_no HST.out HB.out (by
            have hbx := HBX.out
            (repeat' (first | with_reducible assumption | with_reducible refine Below.drew ?_ | with_reducible refine below_drewN ?_ _ | (with_reducible refine Below.alloc ?_ (by first | assumption | (simp; done) | (simp; omega)) _) | (with_reducible refine Below.setCell ?_ (by first | (show w.heap.size ≤ w.heap.size; omega) | (show w.heap.size ≤ w.heap.size + 1; omega)) _))))
    · have HST : Hid (stepL 0 S (h :: rest) = none) := Lib.hid (by simp [stepL, hpl])
      have hpt : ((bs h).toList == [112, 108, 97, 121]) = false := text_no hpl
      clear hn hpl hll
      go_wp2_with (go_at_call 50; rw [← HRE.out]; (with_reducible refine (rnumbers_any rest ra _ _ HRA.out HSH.out).mono ?_); rintro e w2 hp; obtain ⟨hb2, a2, cp2, rfl, ho⟩ := rowPost_get hp HN.out; have HV := Lib.hid (IntV.far ho HLB.out); clear ho; clear hp; have HBX : Hid (Below w.heap.size w w2) := Lib.hid (HB3.out.trans (hb2.mono HB3.out.size)); have xc0 := (hb2.cell (p := ⟨g, off, none⟩) hg0).trans c0'; have xy := (hb2.cell (p := ⟨w.heap.size + 2, 0, none⟩) hz2).trans y0; obtain ⟨kc2, kf2⟩ := bcell hb2; have hzz := hb2.size; have HB2 := Lib.hid hb2; clear hb2)
      go_quiet (fail)
      go_wp2_with fail
      refine bodyPost_ret (v := .tuple #[.agg #[.int .i64 S.stripes, .int .i64 S.room, .slice aC S.clients.length cC, .slice aP S.picks.length cP, .slice aT S.ticks.length cT], .bool false]) (by simp [results, Tryd.results35, go_sem, *]) rfl ?_
      exact rtake_no HST.out HB.out (by
          have hbx := HBX.out
          (repeat' (first | with_reducible assumption | with_reducible refine Below.drew ?_ | with_reducible refine below_drewN ?_ _ | (with_reducible refine Below.alloc ?_ (by first | assumption | (simp; done) | (simp; omega)) _) | (with_reducible refine Below.setCell ?_ (by first | (show w.heap.size ≤ w.heap.size; omega) | (show w.heap.size ≤ w.heap.size + 1; omega)) _))))
set_option maxRecDepth 100000 in
set_option maxHeartbeats 4000000 in
theorem rtake_1 (W1 w : World) (S : ScrV) (h : List UInt8) (rest : List (List UInt8)) (g off cap : Nat) (v : Value) (hB : Below W1.heap.size W1 w) (hS : RSt w W1.heap.size v S) (c0 : w.cell? ⟨g, off, none⟩ = some (.string (bs h))) (hr : Txt w (some ⟨g, off + 1, none⟩) rest) (hsh : Full rest) (hcap : rest.length + 1 ≤ cap) :
    Calls Tryd.prog 35 #[v, .int .i64 1, .slice (some ⟨g, off, none⟩) (rest.length + 1) cap] w (RTakePost W1 w (stepL 1 S (h :: rest))) := by
  obtain ⟨aC, cC, aP, cP, aT, cT, rfl, hP, hT, hC⟩ := hS
  have HP := Lib.hid hP
  have HT := Lib.hid hT
  have HC := Lib.hid hC
  have HB := Lib.hid hB
  obtain ⟨W0, hW0⟩ : ∃ W0, W0 = ((w.alloc (.cells #[.int .i64 S.stripes, .int .i64 S.room, .slice aC S.clients.length cC, .slice aP S.picks.length cP, .slice aT S.ticks.length cT] 44)).alloc (.cells zeroS 44)).alloc (.cells headC 9) := ⟨_, rfl⟩
  have hb0 : Below w.heap.size w W0 := by rw [hW0]; exact (((Below.refl _ _).alloc (Nat.le_refl _) _).alloc (by simp) _).alloc (by simp; omega) _
  have g0 : W0.heap[w.heap.size]? = some (.cells #[.int .i64 S.stripes, .int .i64 S.room, .slice aC S.clients.length cC, .slice aP S.picks.length cP, .slice aT S.ticks.length cT] 44 (0, 0)) := by rw [hW0, Lib.alloc_old _ _ _ (by simp; omega), Lib.alloc_old _ _ _ (by simp)]; exact heap_alloc_new w _
  have g1 : W0.heap[w.heap.size + 1]? = some (.cells zeroS 44 (0, 0)) := by
    rw [hW0, Lib.alloc_old _ _ _ (by simp)]
    have := heap_alloc_new (w.alloc (.cells #[.int .i64 S.stripes, .int .i64 S.room, .slice aC S.clients.length cC, .slice aP S.picks.length cP, .slice aT S.ticks.length cT] 44)) (.cells zeroS 44)
    simpa using this
  have g2 : W0.heap[w.heap.size + 2]? = some (.cells headC 9 (0, 0)) := by
    rw [hW0]
    have := heap_alloc_new ((w.alloc (.cells #[.int .i64 S.stripes, .int .i64 S.room, .slice aC S.clients.length cC, .slice aP S.picks.length cP, .slice aT S.ticks.length cT] 44)).alloc (.cells zeroS 44)) (.cells headC 9)
    simpa using this
  have hz : W0.heap.size = w.heap.size + 3 := by rw [hW0]; simp
  have hgw : g < w.heap.size := World.block_lt_of_cell? w _ c0
  have HB3 := Lib.hid hb0
  have HSH := Lib.hid hsh
  have hrl := hsh.1
  have c0' := (hb0.cell (p := ⟨g, off, none⟩) hgw).trans c0
  obtain ⟨ra, hra⟩ : ∃ ra : Option Addr, ra = (if cap = 1 then some ⟨g, off, none⟩ else some ⟨g, off + 1, none⟩) := ⟨_, rfl⟩
  have HRA : Hid (Txt W0 ra rest) := Lib.hid (by
    rw [hra]
    split
    · intro i hi
      omega
    · exact hr.keep hb0)
  have HRE := Lib.hid hra
  have b0 := cell_at (o := 0) g0 rfl
  have b1 := cell_at (o := 1) g0 rfl
  have b2 := cell_at (o := 2) g0 rfl
  have b3 := cell_at (o := 3) g0 rfl
  have b4 := cell_at (o := 4) g0 rfl
  have bf : ∀ o, W0.frozen? ⟨w.heap.size, o, none⟩ = false := fun o => free_at g0
  have z0 := cell_at (o := 0) g1 rfl
  have z1 := cell_at (o := 1) g1 rfl
  have z2 := cell_at (o := 2) g1 rfl
  have z3 := cell_at (o := 3) g1 rfl
  have z4 := cell_at (o := 4) g1 rfl
  have zf : ∀ o, W0.frozen? ⟨w.heap.size + 1, o, none⟩ = false := fun o => free_at g1
  have y1 := cell_at (o := 1) g2 rfl
  simp only [zeroS, headC, List.getElem_toArray, List.getElem_cons_zero, List.getElem_cons_succ] at b0 b1 b2 b3 b4 z0 z1 z2 z3 z4 y1
  have hg0 : g < W0.heap.size := by omega
  have hz0 : w.heap.size < W0.heap.size := by omega
  have hz1 : w.heap.size + 1 < W0.heap.size := by omega
  have hz2 : w.heap.size + 2 < W0.heap.size := by omega
  have n1 : ¬ w.heap.size = w.heap.size + 1 := by omega
  have n2 : ¬ w.heap.size + 1 = w.heap.size := by omega
  clear hP hT hC hB hb0 g0 g1 g2 hsh hra c0 hr
  go_enter Tryd.func35, Tryd.ntmps35
  go_upto_region 2 with fail
  rw [← hW0]
  clear hW0
  cases hn : numsW rest with
  | none =>
    have HST : Hid (stepL 1 S (h :: rest) = none) := Lib.hid (by simp [stepL, hn])
    have HN := Lib.hid hn
    clear hn
    go_wp2_with (go_at_call 50; rw [← HRE.out]; (with_reducible refine (rnumbers_any rest ra _ _ HRA.out HSH.out).mono ?_); rintro e w2 hp; obtain ⟨hb2, rfl⟩ := rowPost_no hp HN.out; clear hp; have HBX : Hid (Below w.heap.size w w2) := Lib.hid (HB3.out.trans (hb2.mono HB3.out.size)); have xc0 := (hb2.cell (p := ⟨g, off, none⟩) hg0).trans c0'; have xy := (hb2.cell (p := ⟨w.heap.size + 2, 1, none⟩) hz2).trans y1; obtain ⟨kc2, kf2⟩ := bcell hb2; have hzz := hb2.size; have HB2 := Lib.hid hb2; clear hb2)
    go_quiet (fail)
    go_wp2_with fail
    refine bodyPost_ret (v := .tuple #[.agg #[.int .i64 S.stripes, .int .i64 S.room, .slice aC S.clients.length cC, .slice aP S.picks.length cP, .slice aT S.ticks.length cT], .bool false]) (by simp [results, Tryd.results35, go_sem, *]) rfl ?_
    exact rtake_no HST.out HB.out (by
        have hbx := HBX.out
        (repeat' (first | with_reducible assumption | with_reducible refine Below.drew ?_ | with_reducible refine below_drewN ?_ _ | (with_reducible refine Below.alloc ?_ (by first | assumption | (simp; done) | (simp; omega)) _) | (with_reducible refine Below.setCell ?_ (by first | (show w.heap.size ≤ w.heap.size; omega) | (show w.heap.size ≤ w.heap.size + 1; omega)) _))))
  | some l =>
    have HN := Lib.hid hn
    have HLB := Lib.hid (allW_map numW_iff hn).2
    have hll := allW_len hn
    by_cases hpl : h = picksW
    · have hpt : ((bs h).toList == [112, 105, 99, 107, 115]) = true := text_is hpl
      have HST : Hid (stepL 1 S (h :: rest) = some { S with picks := l }) := Lib.hid (by simp [stepL, hpl, hn])
      clear hn hpl hll
      go_wp2_with (go_at_call 50; rw [← HRE.out]; (with_reducible refine (rnumbers_any rest ra _ _ HRA.out HSH.out).mono ?_); rintro e w2 hp; obtain ⟨hb2, a2, cp2, rfl, ho⟩ := rowPost_get hp HN.out; have HV := Lib.hid (IntV.far ho HLB.out); clear ho; clear hp; have HBX : Hid (Below w.heap.size w w2) := Lib.hid (HB3.out.trans (hb2.mono HB3.out.size)); have xc0 := (hb2.cell (p := ⟨g, off, none⟩) hg0).trans c0'; have xy := (hb2.cell (p := ⟨w.heap.size + 2, 1, none⟩) hz2).trans y1; obtain ⟨kc2, kf2⟩ := bcell hb2; have hzz := hb2.size; have HB2 := Lib.hid hb2; clear hb2)
      go_quiet (fail)
      go_wp2_with fail
      refine bodyPost_ret (v := .tuple #[.agg #[.int .i64 S.stripes, .int .i64 S.room, .slice aC S.clients.length cC, .slice a2 l.length cp2, .slice aT S.ticks.length cT], .bool true]) (by simp [results, Tryd.results35, go_sem, *]) rfl ?_
      have hfin : ∀ W', Below w.heap.size w W' → (∀ q, W0.heap.size ≤ q → W'.heap[q]? = w2.heap[q]?) → RTakePost W1 w (stepL 1 S (h :: rest)) (.returned (.tuple #[.agg #[.int .i64 S.stripes, .int .i64 S.room, .slice aC S.clients.length cC, .slice a2 l.length cp2, .slice aT S.ticks.length cT], .bool true])) W' := fun W' hb hq => rtake_yes HST.out HB.out hb (RSt.mk' (S := { S with picks := l }) (HV.out _ hq) (HT.out.keep (Kept.of_below (B := 0) hb)) (HC.out.below hb))
      exact hfin _ (by
          have hbx := HBX.out
          (repeat' (first | with_reducible assumption | with_reducible refine Below.drew ?_ | with_reducible refine below_drewN ?_ _ | (with_reducible refine Below.alloc ?_ (by first | assumption | (simp; done) | (simp; omega)) _) | (with_reducible refine Below.setCell ?_ (by first | (show w.heap.size ≤ w.heap.size; omega) | (show w.heap.size ≤ w.heap.size + 1; omega)) _)))) (fun q hq => by
        repeat (with_reducible refine Eq.trans (Below.heap_setCell _ _ _ _ (by first | (show q ≠ w.heap.size; omega) | (show q ≠ w.heap.size + 1; omega))) ?_)
        rfl)
    · have HST : Hid (stepL 1 S (h :: rest) = none) := Lib.hid (by simp [stepL, hpl])
      have hpt : ((bs h).toList == [112, 105, 99, 107, 115]) = false := text_no hpl
      clear hn hpl hll
      go_wp2_with (go_at_call 50; rw [← HRE.out]; (with_reducible refine (rnumbers_any rest ra _ _ HRA.out HSH.out).mono ?_); rintro e w2 hp; obtain ⟨hb2, a2, cp2, rfl, ho⟩ := rowPost_get hp HN.out; have HV := Lib.hid (IntV.far ho HLB.out); clear ho; clear hp; have HBX : Hid (Below w.heap.size w w2) := Lib.hid (HB3.out.trans (hb2.mono HB3.out.size)); have xc0 := (hb2.cell (p := ⟨g, off, none⟩) hg0).trans c0'; have xy := (hb2.cell (p := ⟨w.heap.size + 2, 1, none⟩) hz2).trans y1; obtain ⟨kc2, kf2⟩ := bcell hb2; have hzz := hb2.size; have HB2 := Lib.hid hb2; clear hb2)
      go_quiet (fail)
      go_wp2_with fail
      refine bodyPost_ret (v := .tuple #[.agg #[.int .i64 S.stripes, .int .i64 S.room, .slice aC S.clients.length cC, .slice aP S.picks.length cP, .slice aT S.ticks.length cT], .bool false]) (by simp [results, Tryd.results35, go_sem, *]) rfl ?_
      exact rtake_no HST.out HB.out (by
          have hbx := HBX.out
          (repeat' (first | with_reducible assumption | with_reducible refine Below.drew ?_ | with_reducible refine below_drewN ?_ _ | (with_reducible refine Below.alloc ?_ (by first | assumption | (simp; done) | (simp; omega)) _) | (with_reducible refine Below.setCell ?_ (by first | (show w.heap.size ≤ w.heap.size; omega) | (show w.heap.size ≤ w.heap.size + 1; omega)) _))))
set_option maxRecDepth 100000 in
set_option maxHeartbeats 4000000 in
theorem rtake_2 (W1 w : World) (S : ScrV) (h : List UInt8) (rest : List (List UInt8)) (g off cap : Nat) (v : Value) (hB : Below W1.heap.size W1 w) (hS : RSt w W1.heap.size v S) (c0 : w.cell? ⟨g, off, none⟩ = some (.string (bs h))) (hr : Txt w (some ⟨g, off + 1, none⟩) rest) (hsh : Full rest) (hcap : rest.length + 1 ≤ cap) :
    Calls Tryd.prog 35 #[v, .int .i64 2, .slice (some ⟨g, off, none⟩) (rest.length + 1) cap] w (RTakePost W1 w (stepL 2 S (h :: rest))) := by
  obtain ⟨aC, cC, aP, cP, aT, cT, rfl, hP, hT, hC⟩ := hS
  have HP := Lib.hid hP
  have HT := Lib.hid hT
  have HC := Lib.hid hC
  have HB := Lib.hid hB
  obtain ⟨W0, hW0⟩ : ∃ W0, W0 = ((w.alloc (.cells #[.int .i64 S.stripes, .int .i64 S.room, .slice aC S.clients.length cC, .slice aP S.picks.length cP, .slice aT S.ticks.length cT] 44)).alloc (.cells zeroS 44)).alloc (.cells headC 9) := ⟨_, rfl⟩
  have hb0 : Below w.heap.size w W0 := by rw [hW0]; exact (((Below.refl _ _).alloc (Nat.le_refl _) _).alloc (by simp) _).alloc (by simp; omega) _
  have g0 : W0.heap[w.heap.size]? = some (.cells #[.int .i64 S.stripes, .int .i64 S.room, .slice aC S.clients.length cC, .slice aP S.picks.length cP, .slice aT S.ticks.length cT] 44 (0, 0)) := by rw [hW0, Lib.alloc_old _ _ _ (by simp; omega), Lib.alloc_old _ _ _ (by simp)]; exact heap_alloc_new w _
  have g1 : W0.heap[w.heap.size + 1]? = some (.cells zeroS 44 (0, 0)) := by
    rw [hW0, Lib.alloc_old _ _ _ (by simp)]
    have := heap_alloc_new (w.alloc (.cells #[.int .i64 S.stripes, .int .i64 S.room, .slice aC S.clients.length cC, .slice aP S.picks.length cP, .slice aT S.ticks.length cT] 44)) (.cells zeroS 44)
    simpa using this
  have g2 : W0.heap[w.heap.size + 2]? = some (.cells headC 9 (0, 0)) := by
    rw [hW0]
    have := heap_alloc_new ((w.alloc (.cells #[.int .i64 S.stripes, .int .i64 S.room, .slice aC S.clients.length cC, .slice aP S.picks.length cP, .slice aT S.ticks.length cT] 44)).alloc (.cells zeroS 44)) (.cells headC 9)
    simpa using this
  have hz : W0.heap.size = w.heap.size + 3 := by rw [hW0]; simp
  have hgw : g < w.heap.size := World.block_lt_of_cell? w _ c0
  have HB3 := Lib.hid hb0
  have HSH := Lib.hid hsh
  have hrl := hsh.1
  have c0' := (hb0.cell (p := ⟨g, off, none⟩) hgw).trans c0
  obtain ⟨ra, hra⟩ : ∃ ra : Option Addr, ra = (if cap = 1 then some ⟨g, off, none⟩ else some ⟨g, off + 1, none⟩) := ⟨_, rfl⟩
  have HRA : Hid (Txt W0 ra rest) := Lib.hid (by
    rw [hra]
    split
    · intro i hi
      omega
    · exact hr.keep hb0)
  have HRE := Lib.hid hra
  have b0 := cell_at (o := 0) g0 rfl
  have b1 := cell_at (o := 1) g0 rfl
  have b2 := cell_at (o := 2) g0 rfl
  have b3 := cell_at (o := 3) g0 rfl
  have b4 := cell_at (o := 4) g0 rfl
  have bf : ∀ o, W0.frozen? ⟨w.heap.size, o, none⟩ = false := fun o => free_at g0
  have z0 := cell_at (o := 0) g1 rfl
  have z1 := cell_at (o := 1) g1 rfl
  have z2 := cell_at (o := 2) g1 rfl
  have z3 := cell_at (o := 3) g1 rfl
  have z4 := cell_at (o := 4) g1 rfl
  have zf : ∀ o, W0.frozen? ⟨w.heap.size + 1, o, none⟩ = false := fun o => free_at g1
  have y2 := cell_at (o := 2) g2 rfl
  simp only [zeroS, headC, List.getElem_toArray, List.getElem_cons_zero, List.getElem_cons_succ] at b0 b1 b2 b3 b4 z0 z1 z2 z3 z4 y2
  have hg0 : g < W0.heap.size := by omega
  have hz0 : w.heap.size < W0.heap.size := by omega
  have hz1 : w.heap.size + 1 < W0.heap.size := by omega
  have hz2 : w.heap.size + 2 < W0.heap.size := by omega
  have n1 : ¬ w.heap.size = w.heap.size + 1 := by omega
  have n2 : ¬ w.heap.size + 1 = w.heap.size := by omega
  clear hP hT hC hB hb0 g0 g1 g2 hsh hra c0 hr
  go_enter Tryd.func35, Tryd.ntmps35
  go_upto_region 2 with fail
  rw [← hW0]
  clear hW0
  cases hn : numsW rest with
  | none =>
    have HST : Hid (stepL 2 S (h :: rest) = none) := Lib.hid (by simp [stepL, hn])
    have HN := Lib.hid hn
    clear hn
    go_wp2_with (go_at_call 50; rw [← HRE.out]; (with_reducible refine (rnumbers_any rest ra _ _ HRA.out HSH.out).mono ?_); rintro e w2 hp; obtain ⟨hb2, rfl⟩ := rowPost_no hp HN.out; clear hp; have HBX : Hid (Below w.heap.size w w2) := Lib.hid (HB3.out.trans (hb2.mono HB3.out.size)); have xc0 := (hb2.cell (p := ⟨g, off, none⟩) hg0).trans c0'; have xy := (hb2.cell (p := ⟨w.heap.size + 2, 2, none⟩) hz2).trans y2; obtain ⟨kc2, kf2⟩ := bcell hb2; have hzz := hb2.size; have HB2 := Lib.hid hb2; clear hb2)
    go_quiet (fail)
    go_wp2_with fail
    refine bodyPost_ret (v := .tuple #[.agg #[.int .i64 S.stripes, .int .i64 S.room, .slice aC S.clients.length cC, .slice aP S.picks.length cP, .slice aT S.ticks.length cT], .bool false]) (by simp [results, Tryd.results35, go_sem, *]) rfl ?_
    exact rtake_no HST.out HB.out (by
        have hbx := HBX.out
        (repeat' (first | with_reducible assumption | with_reducible refine Below.drew ?_ | with_reducible refine below_drewN ?_ _ | (with_reducible refine Below.alloc ?_ (by first | assumption | (simp; done) | (simp; omega)) _) | (with_reducible refine Below.setCell ?_ (by first | (show w.heap.size ≤ w.heap.size; omega) | (show w.heap.size ≤ w.heap.size + 1; omega)) _))))
  | some l =>
    have HN := Lib.hid hn
    have HLB := Lib.hid (allW_map numW_iff hn).2
    have hll := allW_len hn
    by_cases hpl : h = ticksW
    · have hpt : ((bs h).toList == [116, 105, 99, 107, 115]) = true := text_is hpl
      have HST : Hid (stepL 2 S (h :: rest) = some { S with ticks := l }) := Lib.hid (by simp [stepL, hpl, hn])
      clear hn hpl hll
      go_wp2_with (go_at_call 50; rw [← HRE.out]; (with_reducible refine (rnumbers_any rest ra _ _ HRA.out HSH.out).mono ?_); rintro e w2 hp; obtain ⟨hb2, a2, cp2, rfl, ho⟩ := rowPost_get hp HN.out; have HV := Lib.hid (IntV.far ho HLB.out); clear ho; clear hp; have HBX : Hid (Below w.heap.size w w2) := Lib.hid (HB3.out.trans (hb2.mono HB3.out.size)); have xc0 := (hb2.cell (p := ⟨g, off, none⟩) hg0).trans c0'; have xy := (hb2.cell (p := ⟨w.heap.size + 2, 2, none⟩) hz2).trans y2; obtain ⟨kc2, kf2⟩ := bcell hb2; have hzz := hb2.size; have HB2 := Lib.hid hb2; clear hb2)
      go_quiet (fail)
      go_wp2_with fail
      refine bodyPost_ret (v := .tuple #[.agg #[.int .i64 S.stripes, .int .i64 S.room, .slice aC S.clients.length cC, .slice aP S.picks.length cP, .slice a2 l.length cp2], .bool true]) (by simp [results, Tryd.results35, go_sem, *]) rfl ?_
      have hfin : ∀ W', Below w.heap.size w W' → (∀ q, W0.heap.size ≤ q → W'.heap[q]? = w2.heap[q]?) → RTakePost W1 w (stepL 2 S (h :: rest)) (.returned (.tuple #[.agg #[.int .i64 S.stripes, .int .i64 S.room, .slice aC S.clients.length cC, .slice aP S.picks.length cP, .slice a2 l.length cp2], .bool true])) W' := fun W' hb hq => rtake_yes HST.out HB.out hb (RSt.mk' (S := { S with ticks := l }) (HP.out.keep (Kept.of_below (B := 0) hb)) (HV.out _ hq) (HC.out.below hb))
      exact hfin _ (by
          have hbx := HBX.out
          (repeat' (first | with_reducible assumption | with_reducible refine Below.drew ?_ | with_reducible refine below_drewN ?_ _ | (with_reducible refine Below.alloc ?_ (by first | assumption | (simp; done) | (simp; omega)) _) | (with_reducible refine Below.setCell ?_ (by first | (show w.heap.size ≤ w.heap.size; omega) | (show w.heap.size ≤ w.heap.size + 1; omega)) _)))) (fun q hq => by
        repeat (with_reducible refine Eq.trans (Below.heap_setCell _ _ _ _ (by first | (show q ≠ w.heap.size; omega) | (show q ≠ w.heap.size + 1; omega))) ?_)
        rfl)
    · have HST : Hid (stepL 2 S (h :: rest) = none) := Lib.hid (by simp [stepL, hpl])
      have hpt : ((bs h).toList == [116, 105, 99, 107, 115]) = false := text_no hpl
      clear hn hpl hll
      go_wp2_with (go_at_call 50; rw [← HRE.out]; (with_reducible refine (rnumbers_any rest ra _ _ HRA.out HSH.out).mono ?_); rintro e w2 hp; obtain ⟨hb2, a2, cp2, rfl, ho⟩ := rowPost_get hp HN.out; have HV := Lib.hid (IntV.far ho HLB.out); clear ho; clear hp; have HBX : Hid (Below w.heap.size w w2) := Lib.hid (HB3.out.trans (hb2.mono HB3.out.size)); have xc0 := (hb2.cell (p := ⟨g, off, none⟩) hg0).trans c0'; have xy := (hb2.cell (p := ⟨w.heap.size + 2, 2, none⟩) hz2).trans y2; obtain ⟨kc2, kf2⟩ := bcell hb2; have hzz := hb2.size; have HB2 := Lib.hid hb2; clear hb2)
      go_quiet (fail)
      go_wp2_with fail
      refine bodyPost_ret (v := .tuple #[.agg #[.int .i64 S.stripes, .int .i64 S.room, .slice aC S.clients.length cC, .slice aP S.picks.length cP, .slice aT S.ticks.length cT], .bool false]) (by simp [results, Tryd.results35, go_sem, *]) rfl ?_
      exact rtake_no HST.out HB.out (by
          have hbx := HBX.out
          (repeat' (first | with_reducible assumption | with_reducible refine Below.drew ?_ | with_reducible refine below_drewN ?_ _ | (with_reducible refine Below.alloc ?_ (by first | assumption | (simp; done) | (simp; omega)) _) | (with_reducible refine Below.setCell ?_ (by first | (show w.heap.size ≤ w.heap.size; omega) | (show w.heap.size ≤ w.heap.size + 1; omega)) _))))
end Go.Proofs.YtplhmcmfdcklaaaDoor.Lex
/- A client's line taken: the reference's take. -/
namespace Go.Proofs.YtplhmcmfdcklaaaDoor.Lex
open Go.RowKit
set_option linter.unusedSimpArgs false
set_option linter.unusedVariables false
theorem src_own {w : World} {base : Nat} {e : TypeId} {n c : Nat} {a : Option Addr} {xs : List Value} (h : w.ownsRow base e 1 (.slice a n c) n xs) (h1 : ∀ u ∈ xs, u.oneCell' = true) : Src w a n c 1 xs := by
  have hl := h.1
  rcases h.2 with ⟨hv, h0⟩ | ⟨g, cap, cur, hv, rest⟩
  · cases hv
    exact ⟨by omega, fun _ => ⟨rfl, rfl⟩, fun x hx => (by cases hx), h1⟩
  · cases hv
    refine ⟨by omega, fun e => (by cases e), fun x hx j u hu => ?_, h1⟩
    cases hx
    exact h.cells (g := g) rfl j u hu
theorem own_base {w : World} {b b' : Nat} {e : TypeId} {size n : Nat} {v : Value} {xs : List Value} (h : w.ownsRow b e size v n xs) (hb : b' ≤ b) : w.ownsRow b' e size v n xs := by
  refine ⟨h.1, ?_⟩
  rcases h.2 with hn | ⟨g, cap, cur, rfl, hbg, rest⟩
  · exact .inl hn
  · exact .inr ⟨g, cap, cur, rfl, Nat.le_trans hb hbg, rest⟩
theorem own_far {w W : World} {b : Nat} {e : TypeId} {size n : Nat} {v : Value} {xs : List Value} (h : w.ownsRow b e size v n xs) (hW : ∀ q, b ≤ q → W.heap[q]? = w.heap[q]?) : W.ownsRow b e size v n xs := by
  refine ⟨h.1, ?_⟩
  rcases h.2 with hn | ⟨g, cap, cur, rfl, hbg, hg, rest⟩
  · exact .inl hn
  · exact .inr ⟨g, cap, cur, rfl, hbg, (hW g hbg).trans hg, rest⟩
theorem own_empty (w : World) (e : TypeId) (size : Nat) : (w.alloc (.cells #[] e)).ownsRow w.heap.size e size (.slice (some ⟨w.heap.size, 0, none⟩) 0 0) 0 [] :=
  ⟨by simp, .inr ⟨w.heap.size, 0, _, rfl, Nat.le_refl _, heap_alloc_new w _, Nat.le_refl _, by simp, by simp, by simp⟩⟩
theorem rrc_one {w : World} {L : List (List CallV)} {cells : List Value} (hl : cells.length = L.length) (h : ∀ (i : Nat) (h : i < L.length), ∃ a c, cells[i]? = some (.slice a (L[i]'h).length c) ∧ CallT w w.heap.size a (L[i]'h) ∧ (L[i]'h).length ≤ c ∧ (a = none → c = 0)) : ∀ u ∈ cells, u.oneCell' = true := fun u hu => by
  obtain ⟨i, hi, rfl⟩ := List.getElem_of_mem hu
  obtain ⟨a, c, e, _⟩ := h i (by omega)
  rw [List.getElem?_eq_getElem hi] at e
  rw [Option.some.inj e]
  rfl
/-- Rows of clients with an empty one more. -/
theorem RRc.snoc {w W : World} {base B : Nat} {v : Value} {L : List (List CallV)} {cells : List Value} (hb : Below w.heap.size w W) (h2 : ∀ (i : Nat) (h : i < L.length), ∃ a c, cells[i]? = some (.slice a (L[i]'h).length c) ∧ CallT w w.heap.size a (L[i]'h) ∧ (L[i]'h).length ≤ c ∧ (a = none → c = 0)) (hcl : cells.length = L.length)
    (ho : W.ownsRow B 55 1 v (L.length + 1) (cells ++ [.slice none 0 0])) (hB : base ≤ B) : RRc W base v (L ++ [[]]) := by
  refine ⟨cells ++ [.slice none 0 0], by rw [List.length_append]; exact own_base ho hB, fun i hi => ?_⟩
  by_cases hlt : i < L.length
  · obtain ⟨a, c, e1, e2, e3⟩ := h2 i hlt
    rw [List.getElem_append_left hlt]
    exact ⟨a, c, by rw [List.getElem?_append_left (by omega)]; exact e1, (e2.keep (Kept.of_below hb)).mono hb.size, e3⟩
  · have he : i = L.length := by simp at hi; omega
    subst he
    rw [show (L ++ [[]])[L.length]'hi = [] by simp]
    exact ⟨none, 0, by rw [List.getElem?_append_right (by omega), hcl, Nat.sub_self]; rfl, fun k hk => by simp at hk, Nat.le_refl _, fun _ => rfl⟩
set_option maxRecDepth 100000 in
set_option maxHeartbeats 4000000 in
theorem rtake_client (W1 w : World) (k : Nat) (S : ScrV) (h : List UInt8) (rest : List (List UInt8)) (g off cap : Nat) (v : Value) (hk3 : 3 ≤ k) (hkm : k ≤ 1099511627776) (hB : Below W1.heap.size W1 w) (hS : RSt w W1.heap.size v S) (c0 : w.cell? ⟨g, off, none⟩ = some (.string (bs h))) (hc : h = clientW) (hsh : Full rest) (hL : S.clients.length ≤ 1099511627776) :
    Calls Tryd.prog 35 #[v, .int .i64 (k : Int), .slice (some ⟨g, off, none⟩) (rest.length + 1) cap] w (RTakePost W1 w (stepL k S (h :: rest))) := by
  obtain ⟨aC, cC, aP, cP, aT, cT, rfl, hP, hT, hC⟩ := hS
  have HP := Lib.hid hP
  have HT := Lib.hid hT
  have HC := Lib.hid hC
  have HB := Lib.hid hB
  obtain ⟨W0, hW0⟩ : ∃ W0, W0 = ((w.alloc (.cells #[.int .i64 S.stripes, .int .i64 S.room, .slice aC S.clients.length cC, .slice aP S.picks.length cP, .slice aT S.ticks.length cT] 44)).alloc (.cells zeroS 44)).alloc (.cells headC 9) := ⟨_, rfl⟩
  have hb0 : Below w.heap.size w W0 := by rw [hW0]; exact (((Below.refl _ _).alloc (Nat.le_refl _) _).alloc (by simp) _).alloc (by simp; omega) _
  have g0 : W0.heap[w.heap.size]? = some (.cells #[.int .i64 S.stripes, .int .i64 S.room, .slice aC S.clients.length cC, .slice aP S.picks.length cP, .slice aT S.ticks.length cT] 44 (0, 0)) := by rw [hW0, Lib.alloc_old _ _ _ (by simp; omega), Lib.alloc_old _ _ _ (by simp)]; exact heap_alloc_new w _
  have g1 : W0.heap[w.heap.size + 1]? = some (.cells zeroS 44 (0, 0)) := by
    rw [hW0, Lib.alloc_old _ _ _ (by simp)]
    have := heap_alloc_new (w.alloc (.cells #[.int .i64 S.stripes, .int .i64 S.room, .slice aC S.clients.length cC, .slice aP S.picks.length cP, .slice aT S.ticks.length cT] 44)) (.cells zeroS 44)
    simpa using this
  have g2 : W0.heap[w.heap.size + 2]? = some (.cells headC 9 (0, 0)) := by
    rw [hW0]
    have := heap_alloc_new ((w.alloc (.cells #[.int .i64 S.stripes, .int .i64 S.room, .slice aC S.clients.length cC, .slice aP S.picks.length cP, .slice aT S.ticks.length cT] 44)).alloc (.cells zeroS 44)) (.cells headC 9)
    simpa using this
  have hz : W0.heap.size = w.heap.size + 3 := by rw [hW0]; simp
  have hgw : g < w.heap.size := World.block_lt_of_cell? w _ c0
  have HB3 := Lib.hid hb0
  have HSH := Lib.hid hsh
  have hrl := hsh.1
  have c0' := (hb0.cell (p := ⟨g, off, none⟩) hgw).trans c0
  have b0 := cell_at (o := 0) g0 rfl
  have b1 := cell_at (o := 1) g0 rfl
  have b2 := cell_at (o := 2) g0 rfl
  have b3 := cell_at (o := 3) g0 rfl
  have b4 := cell_at (o := 4) g0 rfl
  have bf : ∀ o, W0.frozen? ⟨w.heap.size, o, none⟩ = false := fun o => free_at g0
  have z0 := cell_at (o := 0) g1 rfl
  have z1 := cell_at (o := 1) g1 rfl
  have z2 := cell_at (o := 2) g1 rfl
  have z3 := cell_at (o := 3) g1 rfl
  have z4 := cell_at (o := 4) g1 rfl
  have zf : ∀ o, W0.frozen? ⟨w.heap.size + 1, o, none⟩ = false := fun o => free_at g1
  simp only [zeroS, headC, List.getElem_toArray, List.getElem_cons_zero, List.getElem_cons_succ] at b0 b1 b2 b3 b4 z0 z1 z2 z3 z4
  have hg0 : g < W0.heap.size := by omega
  have hz0 : w.heap.size < W0.heap.size := by omega
  have hz1 : w.heap.size + 1 < W0.heap.size := by omega
  have n1 : ¬ w.heap.size = w.heap.size + 1 := by omega
  have n2 : ¬ w.heap.size + 1 = w.heap.size := by omega
  have hkk : ¬ (k : Int) < 3 := by omega
  have hpt : ((bs h).toList == [99, 108, 105, 101, 110, 116]) = true := text_is hc
  obtain ⟨cells, h1, h2⟩ := hC
  have hcl : cells.length = S.clients.length := by have := h1.1; omega
  have HSRC : Hid (Src (W0.alloc (.cells #[] 55)) aC S.clients.length cC 1 cells) := Lib.hid (src_own (own_below h1 (hb0.trans (((Below.refl _ _).alloc (Nat.le_refl _) _).mono hb0.size))) (rrc_one hcl h2))
  have HEM := Lib.hid (own_empty W0 55 1)
  have HZ := Lib.hid hL
  have H2 := Lib.hid h2
  have HCL := Lib.hid hcl
  have HBZ : Hid (Below W0.heap.size W0 (W0.alloc (.cells #[] 55))) := Lib.hid ((Below.refl _ _).alloc (Nat.le_refl _) _)
  have HK := Lib.hid hc
  clear hz hP hT h1 h2 hB hb0 g0 g1 g2 hsh c0 hc hcl
  go_enter Tryd.func35, Tryd.ntmps35
  go_upto_region 2 with fail
  rw [← hW0]
  clear hW0
  go_wp2_with (first
    | (at_builtin; (refine wpl_append rfl _ _ 33 rfl callssElem _ _ _ rfl _ _ _ _ rfl HEM.out HSRC.out (by unfold maxLen; omega) (by omega) (by simp) ?_); intro v3 w3 hown3 hg3 _; have HO3 := Lib.hid hown3; have HB4 := Lib.hid (HBZ.out.grown hg3 (by simp) (fun q hq => by cases hq; exact Nat.le_refl _)); have hz3 := HB4.out.size; clear hown3 hg3)
    | (at_builtin; refine wpl_app1 rfl _ _ 33 rfl callssElem _ _ _ rfl (.slice none 0 0) rfl rfl HO3.out HB4.out (Nat.le_refl _) hz3 (by omega) (by unfold maxLen; omega) ?_; intro v4 w4 hown4 hbw4 hg4; obtain ⟨a', c', ev⟩ := own_slice hown4; have HO4 := Lib.hid hown4; have HB5 := Lib.hid hbw4; rw [ev]; have HEV := Lib.hid ev; obtain ⟨kc2, kf2⟩ := bcell hbw4; have hz4 := hbw4.size; clear hown4 hbw4 hg4 ev))
  have HBW : Hid (Below w.heap.size w w4) := Lib.hid (HB3.out.trans (HB5.out.mono HB3.out.size))
  refine bodyPost_ret (v := .tuple #[.agg #[.int .i64 S.stripes, .int .i64 S.room, .slice a' (S.clients.length + 1) c', .slice aP S.picks.length cP, .slice aT S.ticks.length cT], .bool ((rest.length : Int) + 1 == 1)]) (by simp [results, Tryd.results35, go_sem, *]) rfl ?_
  have hst : stepL k S (h :: rest) = if rest = [] then some { S with clients := S.clients ++ [[]] } else none := by
    simp only [stepL]
    rw [if_neg (by omega), if_neg (by omega), if_neg (by omega), if_pos HK.out]
  have hfin : ∀ W', Below w.heap.size w W' → (∀ q, W0.heap.size ≤ q → W'.heap[q]? = w4.heap[q]?) → RTakePost W1 w (stepL k S (h :: rest)) (.returned (.tuple #[.agg #[.int .i64 S.stripes, .int .i64 S.room, .slice a' (S.clients.length + 1) c', .slice aP S.picks.length cP, .slice aT S.ticks.length cT], .bool ((rest.length : Int) + 1 == 1)])) W' := fun W' hb hq => by
    rw [hst]
    by_cases hr : rest = []
    · rw [if_pos hr]
      have e : ((rest.length : Int) + 1 == 1) = true := by rw [hr]; rfl
      rw [e]
      have ho := own_far HO4.out hq
      rw [HEV.out, show 0 + S.clients.length + 1 = S.clients.length + 1 by omega, List.nil_append] at ho
      exact rtake_yes rfl HB.out hb (RSt.mk' (S := { S with clients := S.clients ++ [[]] }) (HP.out.keep (Kept.of_below (B := 0) hb)) (HT.out.keep (Kept.of_below (B := 0) hb)) (RRc.snoc hb H2.out HCL.out ho (Nat.le_trans HB.out.size HB3.out.size)))
    · rw [if_neg hr]
      have e : ((rest.length : Int) + 1 == 1) = false := by
        have : rest.length ≠ 0 := fun e => hr (List.eq_nil_of_length_eq_zero e)
        simp only [beq_eq_false_iff_ne, ne_eq]
        omega
      rw [e]
      exact rtake_no rfl HB.out hb
  exact hfin _ (by
    have hbw := HBW.out
    (repeat' (first | with_reducible assumption | with_reducible refine Below.drew ?_ | with_reducible refine below_drewN ?_ _ | (with_reducible refine Below.alloc ?_ (by first | assumption | (simp; done) | (simp; omega)) _) | (with_reducible refine Below.setCell ?_ (by first | (show w.heap.size ≤ w.heap.size; omega) | (show w.heap.size ≤ w.heap.size + 1; omega)) _)))) (fun q hq => by
    repeat (with_reducible refine Eq.trans (Below.heap_setCell _ _ _ _ (by first | (show q ≠ w.heap.size; omega) | (show q ≠ w.heap.size + 1; omega))) ?_)
    rfl)
end Go.Proofs.YtplhmcmfdcklaaaDoor.Lex
/- A row of calls copied. -/
namespace Go.Proofs.YtplhmcmfdcklaaaDoor.Lex
open Go.RowKit
set_option linter.unusedSimpArgs false
set_option linter.unusedVariables false
abbrev cellsC (c : CallV) (ax : Option Addr) (cx : Nat) : List Value := [.int .i64 c.kind, .int .i64 c.n, .int .i64 c.dir, .string c.text, .int .i64 c.who, .int .i64 c.at_, .slice ax c.xs.length cx]
/-- The cells of a row of calls, place by place. -/
structure CellsOf (w : World) (l : List CallV) (cs : List Value) : Prop where
  len : cs.length = l.length * 7
  at_ : ∀ (k : Nat) (h : k < l.length), ∃ ax cx, (∀ j u, (cellsC (l[k]'h) ax cx)[j]? = some u → cs[k * 7 + j]? = some u) ∧ U64T w ax (l[k]'h).xs ∧ (l[k]'h).xs.length ≤ cx ∧ (ax = none → cx = 0)
theorem cellsC_one (c : CallV) (ax : Option Addr) (cx : Nat) : ∀ u ∈ cellsC c ax cx, u.oneCell' = true := one7 _ _ _ _ _ _ _ _ _
theorem CellsOf.one {w : World} {l : List CallV} {cs : List Value} (h : CellsOf w l cs) : ∀ u ∈ cs, u.oneCell' = true := fun u hu => by
  obtain ⟨i, hi, rfl⟩ := List.getElem_of_mem hu
  have hl := h.len
  have hk : i / 7 < l.length := by omega
  obtain ⟨ax, cx, h1, _⟩ := h.at_ (i / 7) hk
  have hj : i % 7 < (cellsC (l[i / 7]'hk) ax cx).length := by simp only [List.length_cons, List.length_nil]; omega
  have h2 := h1 (i % 7) _ (List.getElem?_eq_getElem hj)
  rw [show i / 7 * 7 + i % 7 = i by omega, List.getElem?_eq_getElem hi] at h2
  rw [Option.some.inj h2]
  exact cellsC_one _ _ _ _ (List.getElem_mem hj)
theorem CellsOf.snoc {w : World} {l : List CallV} {cs : List Value} {c : CallV} {ax : Option Addr} {cx : Nat} (h : CellsOf w l cs) (hx : U64T w ax c.xs) (hxl : c.xs.length ≤ cx) (hxn : ax = none → cx = 0) : CellsOf w (l ++ [c]) (cs ++ cellsC c ax cx) := by
  have hl := h.len
  refine ⟨by simp [hl]; omega, fun k hk => ?_⟩
  by_cases hlt : k < l.length
  · obtain ⟨ax', cx', h1, h2⟩ := h.at_ k hlt
    rw [List.getElem_append_left hlt]
    refine ⟨ax', cx', fun j u hu => ?_, h2⟩
    have hj := (List.getElem?_eq_some_iff.1 hu).1
    simp only [List.length_cons, List.length_nil] at hj
    rw [List.getElem?_append_left (by omega)]
    exact h1 j u hu
  · have he : k = l.length := by simp at hk; omega
    subst he
    rw [show (l ++ [c])[l.length]'hk = c by simp]
    refine ⟨ax, cx, fun j u hu => ?_, hx, hxl, hxn⟩
    rw [List.getElem?_append_right (by omega), hl, Nat.add_sub_cancel_left]
    exact hu
theorem CellsOf.keep {w w' : World} {l : List CallV} {cs : List Value} (h : CellsOf w l cs) {B : Nat} (hk : Kept B w w') : CellsOf w' l cs := by
  refine ⟨h.len, fun k hkl => ?_⟩
  obtain ⟨ax, cx, h1, h2, h3⟩ := h.at_ k hkl
  exact ⟨ax, cx, h1, h2.kept hk, h3⟩
/-- A row of calls as the source of an append. -/
theorem callT_src {w : World} {B : Nat} {a : Option Addr} {l : List CallV} {cp : Nat} (h : CallT w B a l) (hl : l.length ≤ cp) (hn : a = none → cp = 0) :
    ∃ cs, CellsOf w l cs ∧ ∀ W : World, (∀ (g : Nat) (cs : Array Value) (f : Nat × Nat), w.heap[g]? = some (.cells cs 28 f) → W.heap[g]? = w.heap[g]?) → Src W a l.length cp 7 cs := by
  by_cases h0 : l = []
  · subst h0
    exact ⟨[], ⟨rfl, fun k hk => by simp at hk⟩, fun W _ => ⟨rfl, fun e => ⟨rfl, hn e⟩, fun x hx j u hu => by simp at hu, by simp⟩⟩
  · have hpos : 0 < l.length := List.length_pos_iff.2 h0
    obtain ⟨g, off, cs0, f, _, _, rfl, hb, hg, _⟩ := h 0 hpos
    have all : ∀ (k : Nat) (hk : k < l.length), ∃ ax cx, (∀ j u, (cellsC (l[k]'hk) ax cx)[j]? = some u → cs0[off + (k * 7 + j)]? = some u) ∧ U64T w ax (l[k]'hk).xs ∧ (l[k]'hk).xs.length ≤ cx ∧ (ax = none → cx = 0) := fun k hk => by
      obtain ⟨g', off', cs', f', ax, cx, e, _, hg', c0, c1, c2, c3, c4, c5, c6, hu⟩ := h k hk
      cases e
      rw [hg] at hg'
      cases hg'
      refine ⟨ax, cx, fun j u hju => ?_, hu⟩
      have hj := (List.getElem?_eq_some_iff.1 hju).1
      simp only [List.length_cons, List.length_nil] at hj
      rw [← Nat.add_assoc]
      rcases (by omega : j = 0 ∨ j = 1 ∨ j = 2 ∨ j = 3 ∨ j = 4 ∨ j = 5 ∨ j = 6) with rfl | rfl | rfl | rfl | rfl | rfl | rfl <;> cases hju
      · exact c0
      · exact c1
      · exact c2
      · exact c3
      · exact c4
      · exact c5
      · exact c6
    have hsz : off + l.length * 7 ≤ cs0.size := by
      obtain ⟨ax, cx, h1, _⟩ := all (l.length - 1) (by omega)
      have := h1 6 _ rfl
      have := (Array.getElem?_eq_some_iff.1 this).1
      omega
    have hat : ∀ i, i < l.length * 7 → ((cs0.toList.drop off).take (l.length * 7))[i]? = cs0[off + i]? := fun i hi => by
      rw [List.getElem?_take, if_pos hi, List.getElem?_drop]
      simp
    have hlen : ((cs0.toList.drop off).take (l.length * 7)).length = l.length * 7 := by simp; omega
    have hco : CellsOf w l ((cs0.toList.drop off).take (l.length * 7)) := ⟨hlen, fun k hk => by
      obtain ⟨ax, cx, h1, h2⟩ := all k hk
      refine ⟨ax, cx, fun j u hu => ?_, h2⟩
      have hj := (List.getElem?_eq_some_iff.1 hu).1
      simp only [List.length_cons, List.length_nil] at hj
      rw [hat _ (by omega)]
      exact h1 j u hu⟩
    refine ⟨_, hco, fun W hW => ⟨hlen, fun e => (by cases e), fun x hx j u hu => ?_, hco.one⟩⟩
    cases hx
    have hj := (List.getElem?_eq_some_iff.1 hu).1
    rw [hlen] at hj
    rw [hat _ hj] at hu
    rw [Addr.add_lit]
    exact cell_at ((hW g cs0 f hg).trans hg) hu
/-- A fresh row of such cells is that row of calls. -/
theorem CallT.fresh {w : World} {B : Nat} {a : Option Addr} {n c : Nat} {l : List CallV} {cs : List Value} (ho : w.ownsRow B 28 7 (.slice a n c) n cs) (hc : CellsOf w l cs) : l.length = n ∧ CallT w w.heap.size a l := by
  have hn : l.length = n := by have := ho.1; have := hc.len; omega
  refine ⟨hn, fun k hk => ?_⟩
  obtain ⟨g, cur, ha, _, hlt, hg, hin⟩ := own_in rfl ho (by omega)
  obtain ⟨ax, cx, h1, h2, h3, h4⟩ := hc.at_ k hk
  refine ⟨g, 0, cur, _, ax, cx, ha, hlt, hg, ?_, ?_, ?_, ?_, ?_, ?_, ?_, h2, h3, h4⟩
  · exact by rw [Nat.zero_add]; exact hin _ _ (h1 0 _ rfl)
  · exact by rw [Nat.zero_add]; exact hin _ _ (h1 1 _ rfl)
  · exact by rw [Nat.zero_add]; exact hin _ _ (h1 2 _ rfl)
  · exact by rw [Nat.zero_add]; exact hin _ _ (h1 3 _ rfl)
  · exact by rw [Nat.zero_add]; exact hin _ _ (h1 4 _ rfl)
  · exact by rw [Nat.zero_add]; exact hin _ _ (h1 5 _ rfl)
  · exact by rw [Nat.zero_add]; exact hin _ _ (h1 6 _ rfl)
end Go.Proofs.YtplhmcmfdcklaaaDoor.Lex
/- The state behind a call's line, as the reference holds it. -/
namespace Go.Proofs.YtplhmcmfdcklaaaDoor.Lex
open Go.RowKit
set_option linter.unusedSimpArgs false
set_option linter.unusedVariables false
theorem own_cap_le {w : World} {base : Nat} {e : TypeId} {size n cap : Nat} {a : Option Addr} {xs : List Value} (h : w.ownsRow base e size (.slice a n cap) n xs) : n ≤ cap := by
  rcases h.2 with ⟨hv, h0⟩ | ⟨g, cap', cur, hv, _, _, hn, _⟩
  · cases hv
    omega
  · cases hv
    exact hn
theorem rrc_call {w w5 w7 W' : World} {base gC cC M LL c7 : Nat} {a7 : Option Addr} {L : List (List CallV)} {cells csL : List Value} {c : CallV} {ax : Option Addr} {cx : Nat}
    (hne : L ≠ []) (hM : L.length = M + 1) (hbw : base ≤ w.heap.size)
    (hoC : w.ownsRow base 55 1 (.slice (some ⟨gC, 0, none⟩) L.length cC) L.length cells)
    (hrows : ∀ (i : Nat) (h : i < L.length), ∃ a c, cells[i]? = some (.slice a (L[i]'h).length c) ∧ CallT w w.heap.size a (L[i]'h) ∧ (L[i]'h).length ≤ c ∧ (a = none → c = 0))
    (hLL : LL = (L[M]'(by omega)).length) (hco : CellsOf w (L[M]'(by omega)) csL)
    (h5 : Below w.heap.size w w5) (h7 : Below w5.heap.size w5 w7) (hz5 : w.heap.size + 1 < w5.heap.size)
    (hres : ∃ cr fr, w5.heap[w.heap.size + 1]? = some (.cells cr 44 fr))
    (hx : U64T w5 ax c.xs) (hxl : c.xs.length ≤ cx) (hxn : ax = none → cx = 0)
    (ho7 : w7.ownsRow w5.heap.size 28 7 (.slice a7 (LL + 1) c7) (LL + 1) (csL ++ cellsC c ax cx))
    (hWz : w7.heap.size ≤ W'.heap.size) (hW : ∀ q, q ≠ w.heap.size + 1 → W'.heap[q]? = (w7.setCell ⟨gC, M, none⟩ (.slice a7 (LL + 1) c7)).heap[q]?) :
    KeptC w W' ∧ RRc W' base (.slice (some ⟨gC, 0, none⟩) L.length cC) (L.dropLast ++ [L.getLast hne ++ [c]]) := by
  have hcl : cells.length = L.length := by have := hoC.1; omega
  obtain ⟨g', cur, e, hbg, hgw, hg, _⟩ := own_in rfl hoC (by omega)
  cases e
  have hw7 : Below w.heap.size w w7 := h5.trans (h7.mono h5.size)
  have hgC7 : w7.heap[gC]? = some (.cells cur 55 (0, 0)) := (hw7.block gC hgw).trans hg
  have hWo : ∀ q, q ≠ w.heap.size + 1 → q ≠ gC → W'.heap[q]? = w7.heap[q]? := fun q h1 h2 => (hW q h1).trans (Below.heap_setCell _ _ _ _ h2)
  have kc : KeptC w W' := by
    refine ⟨Nat.le_trans hw7.size hWz, fun q cs T f hq hT => ?_⟩
    have hlt := (Array.getElem?_eq_some_iff.1 hq).1
    have hne2 : q ≠ gC := fun e => by
      subst e
      rw [hg] at hq
      cases hq
      exact hT rfl
    exact (hWo q (by omega) hne2).trans (hw7.block q hlt)
  have hxW : U64T W' ax c.xs := fun i hi => by
    obtain ⟨q, off, cs, f, h1, h2, h3⟩ := hx i hi
    have hlt := (Array.getElem?_eq_some_iff.1 h2).1
    have n1 : q ≠ w.heap.size + 1 := fun e => by
      subst e
      obtain ⟨cr, fr, hr⟩ := hres
      rw [hr] at h2
      injection h2 with h2
      injection h2 with _ h2 _
      exact absurd h2 (by decide)
    have n2 : q ≠ gC := fun e => by
      subst e
      have := (h5.block q hgw).trans hg
      rw [this] at h2
      injection h2 with h2
      injection h2 with _ h2 _
      exact absurd h2 (by decide)
    exact ⟨q, off, cs, f, h1, (hWo q n1 n2).trans ((h7.block q hlt).trans h2), h3⟩
  refine ⟨kc, cells.set M (.slice a7 (LL + 1) c7), ?_, fun i hi => ?_⟩
  · have hlen : (L.dropLast ++ [L.getLast hne ++ [c]]).length = L.length := by simp; omega
    rw [hlen]
    have h1 := own_set (M := M) (own_below hoC hw7) (.slice a7 (LL + 1) c7)
    refine ⟨h1.1, ?_⟩
    rcases h1.2 with ⟨hv, _⟩ | ⟨g2, cap2, cur2, hv, r1, r2, rest⟩
    · cases hv
    · cases hv
      exact .inr ⟨_, _, cur2, rfl, r1, (hW gC (by omega)).trans r2, rest⟩
  · have hiL : i < M + 1 := by simp at hi; omega
    by_cases hiM : i = M
    · subst hiM
      have hel : (L.dropLast ++ [L.getLast hne ++ [c]])[i]'hi = L[i]'(by omega) ++ [c] := by
        have hgl : L.getLast hne = L[L.length - 1]'(by omega) := List.getLast_eq_getElem hne
        rw [List.getElem_append_right (by simp; omega)]
        simp only [List.getElem_singleton, hgl]
        congr 2
        omega
      have ho' : W'.ownsRow w5.heap.size 28 7 (.slice a7 (LL + 1) c7) (LL + 1) (csL ++ cellsC c ax cx) := own_far ho7 fun q hq => hWo q (by omega) (by omega)
      have hc' := (hco.keep (kc.kept 0)).snoc hxW hxl hxn
      obtain ⟨f1, f2⟩ := CallT.fresh ho' hc'
      rw [hel]
      refine ⟨a7, c7, ?_, f2, ?_, own_nil ho'⟩
      · rw [List.getElem?_set_self (by omega), f1]
      · rw [f1]
        exact own_cap_le ho'
    · obtain ⟨a, c', e1, e2, e3⟩ := hrows i (by omega)
      have hel : (L.dropLast ++ [L.getLast hne ++ [c]])[i]'hi = L[i]'(by omega) := by
        rw [List.getElem_append_left (by simp; omega), List.getElem_dropLast]
      rw [hel]
      refine ⟨a, c', by rw [List.getElem?_set_ne (Ne.symm hiM)]; exact e1, ?_, e3⟩
      exact (e2.keep (kc.kept _)).mono kc.size
end Go.Proofs.YtplhmcmfdcklaaaDoor.Lex
/- A call's line taken: the reference's take. -/
namespace Go.Proofs.YtplhmcmfdcklaaaDoor.Lex
open Go.RowKit
set_option linter.unusedSimpArgs false
set_option linter.unusedVariables false
set_option maxRecDepth 100000 in
set_option maxHeartbeats 8000000 in
theorem rtake_call (W1 w : World) (k : Nat) (S : ScrV) (h : List UInt8) (rest : List (List UInt8)) (g off cap : Nat) (v : Value) (hk3 : 3 ≤ k) (hkm : k ≤ 1099511627776) (hB : Below W1.heap.size W1 w) (hS : RSt w W1.heap.size v S) (c0 : w.cell? ⟨g, off, none⟩ = some (.string (bs h))) (hr : Txt w (some ⟨g, off + 1, none⟩) rest) (hcl : ¬ h = clientW) (hsh : Full rest) (hcap : rest.length + 1 ≤ cap) (hL : S.clients.length ≤ 1099511627776) (hlast : ∀ l ∈ S.clients, l.length ≤ 1099511627776) :
    Calls Tryd.prog 35 #[v, .int .i64 (k : Int), .slice (some ⟨g, off, none⟩) (rest.length + 1) cap] w (RTakePost W1 w (stepL k S (h :: rest))) := by
  obtain ⟨aC, cC, aP, cP, aT, cT, rfl, hP, hT, hC⟩ := hS
  have HP := Lib.hid hP
  have HT := Lib.hid hT
  have HC := Lib.hid hC
  have HB := Lib.hid hB
  obtain ⟨W0, hW0⟩ : ∃ W0, W0 = ((w.alloc (.cells #[.int .i64 S.stripes, .int .i64 S.room, .slice aC S.clients.length cC, .slice aP S.picks.length cP, .slice aT S.ticks.length cT] 44)).alloc (.cells zeroS 44)).alloc (.cells headC 9) := ⟨_, rfl⟩
  have hb0 : Below w.heap.size w W0 := by rw [hW0]; exact (((Below.refl _ _).alloc (Nat.le_refl _) _).alloc (by simp) _).alloc (by simp; omega) _
  have g0 : W0.heap[w.heap.size]? = some (.cells #[.int .i64 S.stripes, .int .i64 S.room, .slice aC S.clients.length cC, .slice aP S.picks.length cP, .slice aT S.ticks.length cT] 44 (0, 0)) := by rw [hW0, Lib.alloc_old _ _ _ (by simp; omega), Lib.alloc_old _ _ _ (by simp)]; exact heap_alloc_new w _
  have g1 : W0.heap[w.heap.size + 1]? = some (.cells zeroS 44 (0, 0)) := by
    rw [hW0, Lib.alloc_old _ _ _ (by simp)]
    have := heap_alloc_new (w.alloc (.cells #[.int .i64 S.stripes, .int .i64 S.room, .slice aC S.clients.length cC, .slice aP S.picks.length cP, .slice aT S.ticks.length cT] 44)) (.cells zeroS 44)
    simpa using this
  have g2 : W0.heap[w.heap.size + 2]? = some (.cells headC 9 (0, 0)) := by
    rw [hW0]
    have := heap_alloc_new ((w.alloc (.cells #[.int .i64 S.stripes, .int .i64 S.room, .slice aC S.clients.length cC, .slice aP S.picks.length cP, .slice aT S.ticks.length cT] 44)).alloc (.cells zeroS 44)) (.cells headC 9)
    simpa using this
  have hz : W0.heap.size = w.heap.size + 3 := by rw [hW0]; simp
  have hgw : g < w.heap.size := World.block_lt_of_cell? w _ c0
  have HB3 := Lib.hid hb0
  have HSH := Lib.hid hsh
  have hrl := hsh.1
  have c0' := (hb0.cell (p := ⟨g, off, none⟩) hgw).trans c0
  have b0 := cell_at (o := 0) g0 rfl
  have b1 := cell_at (o := 1) g0 rfl
  have b2 := cell_at (o := 2) g0 rfl
  have b3 := cell_at (o := 3) g0 rfl
  have b4 := cell_at (o := 4) g0 rfl
  have bf : ∀ o, W0.frozen? ⟨w.heap.size, o, none⟩ = false := fun o => free_at g0
  have z0 := cell_at (o := 0) g1 rfl
  have z1 := cell_at (o := 1) g1 rfl
  have z2 := cell_at (o := 2) g1 rfl
  have z3 := cell_at (o := 3) g1 rfl
  have z4 := cell_at (o := 4) g1 rfl
  have zf : ∀ o, W0.frozen? ⟨w.heap.size + 1, o, none⟩ = false := fun o => free_at g1
  simp only [zeroS, headC, List.getElem_toArray, List.getElem_cons_zero, List.getElem_cons_succ] at b0 b1 b2 b3 b4 z0 z1 z2 z3 z4
  have hg0 : g < W0.heap.size := by omega
  have hz0 : w.heap.size < W0.heap.size := by omega
  have hz1 : w.heap.size + 1 < W0.heap.size := by omega
  have n1 : ¬ w.heap.size = w.heap.size + 1 := by omega
  have n2 : ¬ w.heap.size + 1 = w.heap.size := by omega
  have hkk : ¬ (k : Int) < 3 := by omega
  have hpt : ((bs h).toList == [99, 108, 105, 101, 110, 116]) = false := text_no hcl
  have hc0W : W0.cell? ⟨g, off, none⟩ = some (.string (bs h)) := (hb0.cell (p := ⟨g, off, none⟩) hgw).trans c0
  have HRW := Lib.hid (rread_core h rest g off cap W0 hc0W (hr.keep hb0) hsh hcap)
  have HG0 := Lib.hid g0
  have HG1 := Lib.hid g1
  have HCL := Lib.hid hcl
  have HLAST := Lib.hid hlast
  have HST0 : Hid (stepL k S (h :: rest) = match readW (h :: rest) with
      | some c => (addLast S.clients c).map fun L => { S with clients := L }
      | none => none) := Lib.hid (by
    simp only [stepL]
    rw [if_neg (by omega), if_neg (by omega), if_neg (by omega), if_neg hcl]
    rfl)
  clear hz hP hT hC hB hb0 g0 g1 g2 hsh c0 hcl hr hlast
  go_enter Tryd.func35, Tryd.ntmps35
  go_upto_region 2 with fail
  rw [← hW0]
  clear hW0
  cases hrw : readW (h :: rest) with
  | none =>
    have HST : Hid (stepL k S (h :: rest) = none) := Lib.hid (by rw [HST0.out, hrw])
    go_wp2_with (go_at_call 51; (with_reducible refine HRW.out.mono ?_); rintro e w2 hp; obtain ⟨hb2, v1, v2, v3, v4, v5, v6, v7, v8, v9, rfl⟩ := readPost_nget hp hrw; have HBX : Hid (Below w.heap.size w w2) := Lib.hid (HB3.out.trans (hb2.mono HB3.out.size)); obtain ⟨kc2, kf2⟩ := bcell hb2; have hzz := hb2.size; have hz20 := Nat.lt_of_lt_of_le hz0 hzz; have hz21 := Nat.lt_of_lt_of_le hz1 hzz; clear hp hb2)
    refine bodyPost_ret (v := .tuple #[.agg #[.int .i64 S.stripes, .int .i64 S.room, .slice aC S.clients.length cC, .slice aP S.picks.length cP, .slice aT S.ticks.length cT], .bool false]) (by simp [results, Tryd.results35, go_sem, *]) rfl ?_
    exact rtake_no HST.out HB.out (by
      have hbx := HBX.out
      (repeat' (first | with_reducible assumption | with_reducible refine Below.drew ?_ | with_reducible refine below_drewN ?_ _ | (with_reducible refine Below.alloc ?_ (by first | assumption | (simp; done) | (simp; omega)) _) | (with_reducible refine Below.setCell ?_ (by first | (show w.heap.size ≤ w.heap.size; omega) | (show w.heap.size ≤ w.heap.size + 1; omega)) _))))
  | some c =>
    by_cases hn0 : S.clients = []
    · have HST : Hid (stepL k S (h :: rest) = none) := Lib.hid (by rw [HST0.out, hrw, hn0]; rfl)
      have hl0 : S.clients.length = 0 := by rw [hn0]; rfl
      clear hn0
      go_wp2_with (go_at_call 51; (with_reducible refine HRW.out.mono ?_); rintro e w2 hp; obtain ⟨hb2, ax, cx, rfl, hx, hxl, hxn⟩ := readPost_get hp hrw; have HBX : Hid (Below w.heap.size w w2) := Lib.hid (HB3.out.trans (hb2.mono HB3.out.size)); obtain ⟨kc2, kf2⟩ := bcell hb2; have hzz := hb2.size; have hz20 := Nat.lt_of_lt_of_le hz0 hzz; have hz21 := Nat.lt_of_lt_of_le hz1 hzz; clear hp hb2 hx)
      refine bodyPost_ret (v := .tuple #[.agg #[.int .i64 S.stripes, .int .i64 S.room, .slice aC S.clients.length cC, .slice aP S.picks.length cP, .slice aT S.ticks.length cT], .bool false]) (by simp [results, Tryd.results35, go_sem, *]) rfl ?_
      exact rtake_no HST.out HB.out (by
        have hbx := HBX.out
        (repeat' (first | with_reducible assumption | with_reducible refine Below.drew ?_ | with_reducible refine below_drewN ?_ _ | (with_reducible refine Below.alloc ?_ (by first | assumption | (simp; done) | (simp; omega)) _) | (with_reducible refine Below.setCell ?_ (by first | (show w.heap.size ≤ w.heap.size; omega) | (show w.heap.size ≤ w.heap.size + 1; omega)) _))))
    · obtain ⟨M, hM⟩ : ∃ M, S.clients.length = M + 1 := by
        cases hcc : S.clients with
        | nil => exact absurd hcc hn0
        | cons a r => exact ⟨r.length, by simp⟩
      go_upto_region 19 with (go_at_call 51; (with_reducible refine HRW.out.mono ?_); rintro e w2 hp; obtain ⟨hb2, ax, cx, rfl, hx, hxl, hxn⟩ := readPost_get hp hrw; have HBX : Hid (Below w.heap.size w w2) := Lib.hid (HB3.out.trans (hb2.mono HB3.out.size)); have HB2 := Lib.hid hb2; have HX := Lib.hid hx; obtain ⟨kc2, kf2⟩ := bcell hb2; have hzz := hb2.size; have hz20 := Nat.lt_of_lt_of_le hz0 hzz; have hz21 := Nat.lt_of_lt_of_le hz1 hzz; clear hp hb2 hx)
      obtain ⟨w5, hw5⟩ : ∃ w5, w5 = w2.alloc (.cells #[.int .i64 c.kind, .int .i64 c.n, .int .i64 c.dir, .string c.text, .int .i64 c.who, .int .i64 c.at_, .slice ax c.xs.length cx] 28) := ⟨_, rfl⟩
      rw [← hw5]
      have hb5 : Below w2.heap.size w2 w5 := by rw [hw5]; exact (Below.refl _ _).alloc (Nat.le_refl _) _
      have g5 : w5.heap[w2.heap.size]? = some (.cells #[.int .i64 c.kind, .int .i64 c.n, .int .i64 c.dir, .string c.text, .int .i64 c.who, .int .i64 c.at_, .slice ax c.xs.length cx] 28 (0, 0)) := by rw [hw5]; exact heap_alloc_new w2 _
      have hz5 : w2.heap.size < w5.heap.size := by rw [hw5]; simp
      have HBW5 : Hid (Below w.heap.size w w5) := Lib.hid (HBX.out.trans (hb5.mono HBX.out.size))
      have HB05 : Hid (Below W0.heap.size W0 w5) := Lib.hid (HB2.out.trans (hb5.mono HB2.out.size))
      have HX5 := Lib.hid (HX.out.keep hb5)
      clear hw5 kc2 kf2
      -- the outer row and its last row, in w
      obtain ⟨cells, hoC, hrows⟩ := HC.out
      have hcl : cells.length = M + 1 := by have := hoC.1; omega
      have hCM : S.clients.length - 1 < S.clients.length := by omega
      obtain ⟨aL, cL, hqM, hTL, hLc, hLn⟩ := hrows M (by omega)
      obtain ⟨gC, capC, hvC, _⟩ := own_some hoC (by omega)
      cases hvC
      have hbC : W1.heap.size ≤ gC := own_lt hoC gC rfl
      have qC := (own_cell (i := M) hoC hqM).1
      have qF := (own_cell (i := M) hoC hqM).2
      have hgCw : gC < w.heap.size := World.block_lt_of_cell? w _ qC
      obtain ⟨csL, hco, hsrcL⟩ := callT_src hTL hLc hLn
      have hlenL : (S.clients[M]'(by omega)).length ≤ 1099511627776 := HLAST.out _ (List.getElem_mem _)
      have HROWS := Lib.hid hrows
      have HOC := Lib.hid hoC
      have HCO := Lib.hid hco
      have HQM := Lib.hid hqM
      have HCLL := Lib.hid hcl
      obtain ⟨LL, hLL⟩ : ∃ LL, LL = (S.clients[M]'(by omega)).length := ⟨_, rfl⟩
      rw [← hLL] at hlenL
      have HLL := Lib.hid hLL
      have qq5 := (HBW5.out.cell (p := ⟨gC, M, none⟩) hgCw).trans qC
      rw [← hLL] at qq5
      have qf5 := (HBW5.out.frozen (p := ⟨gC, M, none⟩) hgCw).trans qF
      have HSL : Hid (∀ W, Below w5.heap.size w5 W → Src W aL LL cL 7 csL) := Lib.hid fun W hb => by
        rw [hLL]
        exact hsrcL W fun g cs f hg => by
          have hlt := (Array.getElem?_eq_some_iff.1 hg).1
          exact (hb.block g (Nat.lt_of_lt_of_le hlt HBW5.out.size)).trans (HBW5.out.block g hlt)
      have g05 := (HB05.out.block w.heap.size hz0).trans HG0.out
      have bx2 := cell_at (o := 2) g05 rfl
      simp only [List.getElem_toArray, List.getElem_cons_zero, List.getElem_cons_succ] at bx2
      rw [hM] at bx2
      have y0 := cell_at (o := 0) g5 rfl
      have y1 := cell_at (o := 1) g5 rfl
      have y2 := cell_at (o := 2) g5 rfl
      have y3 := cell_at (o := 3) g5 rfl
      have y4 := cell_at (o := 4) g5 rfl
      have y5 := cell_at (o := 5) g5 rfl
      have y6 := cell_at (o := 6) g5 rfl
      simp only [List.getElem_toArray, List.getElem_cons_zero, List.getElem_cons_succ] at y0 y1 y2 y3 y4 y5 y6
      have hz50 : w.heap.size < w5.heap.size := by omega
      have hzC5 : gC < w5.heap.size := by omega
      have HSS : Hid (∀ W, Below w5.heap.size w5 W → W.cell? ⟨gC, M, none⟩ = some (.slice aL LL cL) ∧ W.cell? ⟨w.heap.size, 2, none⟩ = some (.slice (some ⟨gC, 0, none⟩) (M + 1) cC) ∧ W.cell? ⟨w2.heap.size, 0, none⟩ = some (.int .i64 c.kind) ∧ W.cell? ⟨w2.heap.size, 1, none⟩ = some (.int .i64 c.n) ∧ W.cell? ⟨w2.heap.size, 2, none⟩ = some (.int .i64 c.dir) ∧ W.cell? ⟨w2.heap.size, 3, none⟩ = some (.string c.text) ∧ W.cell? ⟨w2.heap.size, 4, none⟩ = some (.int .i64 c.who) ∧ W.cell? ⟨w2.heap.size, 5, none⟩ = some (.int .i64 c.at_) ∧ W.cell? ⟨w2.heap.size, 6, none⟩ = some (.slice ax c.xs.length cx)) := Lib.hid fun W hb => by
        have e : ∀ b o, b < w5.heap.size → W.cell? ⟨b, o, none⟩ = w5.cell? ⟨b, o, none⟩ := fun b o h => hb.cell (p := ⟨b, o, none⟩) h
        exact ⟨(e _ _ hzC5).trans qq5, (e _ _ hz50).trans bx2, (e _ _ hz5).trans y0, (e _ _ hz5).trans y1, (e _ _ hz5).trans y2, (e _ _ hz5).trans y3, (e _ _ hz5).trans y4, (e _ _ hz5).trans y5, (e _ _ hz5).trans y6⟩
      have HE : Hid (∀ (W : World) (b : Nat), w5.heap.size ≤ b → W.heap[b]? = some (.cells #[] 28 (0, 0)) → W.ownsRow w5.heap.size 28 7 (.slice (some ⟨b, 0, none⟩) 0 0) 0 []) := Lib.hid fun W b hb hg => ⟨by simp, .inr ⟨b, 0, _, rfl, hb, hg, Nat.le_refl _, by simp, by simp, by simp⟩⟩
      have HSC : Hid (∀ (W : World) (b : Nat), W.heap[b]? = some (.cells #[.int .i64 c.kind, .int .i64 c.n, .int .i64 c.dir, .string c.text, .int .i64 c.who, .int .i64 c.at_, .slice ax c.xs.length cx] 28 (0, 0)) → Src W (some ⟨b, 0, none⟩) 1 1 7 [.int .i64 c.kind, .int .i64 c.n, .int .i64 c.dir, .string c.text, .int .i64 c.who, .int .i64 c.at_, .slice ax c.xs.length cx]) := Lib.hid fun W b hg => by
        refine ⟨rfl, fun e => (by cases e), fun x hx j u hu => ?_, cellsC_one c ax cx⟩
        cases hx
        rw [Addr.add_lit, Nat.zero_add]
        exact cell_at hg (by simpa using hu)
      have HQ5 : Hid (∀ W, Below w5.heap.size w5 W → W.cell? ⟨gC, M, none⟩ = some (.slice aL LL cL) ∧ W.frozen? ⟨gC, M, none⟩ = false) := Lib.hid fun W hb => ⟨(hb.cell (p := ⟨gC, M, none⟩) hzC5).trans qq5, (hb.frozen (p := ⟨gC, M, none⟩) hzC5).trans qf5⟩
      have hbz5 := Below.refl w5.heap.size w5
      have HGB := Lib.hid g05
      have HGR := Lib.hid ((HB05.out.block _ hz1).trans HG1.out)
      have hz51 : w.heap.size + 1 < w5.heap.size := by have := HB05.out.size; omega
      have hW1 : W1.heap.size ≤ w.heap.size := HB.out.size
      have hgb1 : ¬ gC = w.heap.size := by omega
      have hgb2 : ¬ w.heap.size = gC := by omega
      have hgb3 : ¬ gC = w.heap.size + 1 := by omega
      have hgb4 : ¬ w.heap.size + 1 = gC := by omega
      have HBF : Hid (∀ w7, Below w5.heap.size w5 w7 → Below W1.heap.size W1 w7) := Lib.hid fun w7 hb => HB.out.trans ((HBW5.out.trans (hb.mono HBW5.out.size)).mono HB.out.size)
      have HST : Hid (stepL k S (h :: rest) = some { S with clients := S.clients.dropLast ++ [S.clients.getLast hn0 ++ [c]] }) := Lib.hid (by
        rw [HST0.out, hrw]
        simp only
        rw [addLast_some hn0]
        rfl)
      have HFIN : Hid (∀ (a7 : Option Addr) (c7 : Nat) (w7 W' : World), Below w5.heap.size w5 w7 → w7.ownsRow w5.heap.size 28 7 (.slice a7 (0 + LL + 1) c7) (0 + LL + 1) (([] ++ csL) ++ cellsC c ax cx) → w7.heap.size ≤ W'.heap.size → Below W1.heap.size W1 W' → (∀ q, q ≠ w.heap.size + 1 → W'.heap[q]? = (w7.setCell ⟨gC, M, none⟩ (.slice a7 (0 + LL + 1) c7)).heap[q]?) → RTakePost W1 w (stepL k S (h :: rest)) (.returned (.tuple #[.agg #[.int .i64 S.stripes, .int .i64 S.room, .slice (some ⟨gC, 0, none⟩) (M + 1) cC, .slice aP S.picks.length cP, .slice aT S.ticks.length cT], .bool true])) W') := Lib.hid fun a7 c7 w7 W' h7 ho7 hWz hB' hW' => by
        rw [show 0 + LL + 1 = LL + 1 by omega, List.nil_append] at ho7
        rw [show 0 + LL + 1 = LL + 1 by omega] at hW'
        obtain ⟨k1, k2⟩ := rrc_call hn0 hM HB.out.size HOC.out HROWS.out HLL.out HCO.out HBW5.out h7 hz51 ⟨_, _, HGR.out⟩ HX5.out hxl hxn ho7 hWz hW'
        refine ⟨hB', k1, ?_⟩
        rw [HST.out]
        rw [hM] at k2
        exact ⟨_, rfl, RSt.mk' (S := { S with clients := S.clients.dropLast ++ [S.clients.getLast hn0 ++ [c]] }) (HP.out.keep (k1.kept 0)) (HT.out.keep (k1.kept 0)) k2⟩
      have hw2 : IntKind.i64.wrap ((M : Int) + 1 - 1) = M := by rw [IntKind.wrap_i64]; omega
      have hlt1 : (M : Int) < (M : Int) + 1 := by omega
      have hle1 : (0 : Int) ≤ (M : Int) := by omega
      clear y0 y1 y2 y3 y4 y5 y6 bx2 g5 g05 hb5 qq5 qf5 qC qF hoC hrows hqM hTL hLc hLn hco hsrcL hLL hCM
      refine wp_region_z (fun W => W.cell? ⟨gC, M, none⟩ = some (.slice aL LL cL) ∧ W.cell? ⟨w.heap.size, 2, none⟩ = some (.slice (some ⟨gC, 0, none⟩) (M + 1) cC) ∧ W.cell? ⟨w2.heap.size, 0, none⟩ = some (.int .i64 c.kind) ∧ W.cell? ⟨w2.heap.size, 1, none⟩ = some (.int .i64 c.n) ∧ W.cell? ⟨w2.heap.size, 2, none⟩ = some (.int .i64 c.dir) ∧ W.cell? ⟨w2.heap.size, 3, none⟩ = some (.string c.text) ∧ W.cell? ⟨w2.heap.size, 4, none⟩ = some (.int .i64 c.who) ∧ W.cell? ⟨w2.heap.size, 5, none⟩ = some (.int .i64 c.at_) ∧ W.cell? ⟨w2.heap.size, 6, none⟩ = some (.slice ax c.xs.length cx)) 14 (by kernel_rfl) ?_
      change wpZ _ _ _ _ _ _ 15 #[false, false, false, false, false, false, false, false, false, false, false, false, false, false, false] _ _
      (refine wpZ_take (i := 0) (v := ?_) rfl (by kernel_rfl) (by kernel_rfl) (by kernel_rfl) (by kernel_rfl) (fun _ _ _ h => h) (HSS.out _ (by (repeat' (first | with_reducible assumption | with_reducible refine Below.drew ?_ | (with_reducible refine Below.alloc ?_ (by first | assumption | (simp; done) | (simp; omega)) _) | (with_reducible refine Below.setCell ?_ (by first | assumption | (simp; done) | (simp; omega)) _))))) (Or.inl ⟨by rfl, ?_⟩) ?_; rotate_left 1; (focus (intro w0 hw0; (try dsimp only at hw0); obtain ⟨s0, s1, s3, s4, s5, s6, s7, s8, s9⟩ := hw0; go_simp; try with_reducible rfl)); simp only [Act.put, List.getElem_toArray, List.getElem_cons_zero, List.getElem_cons_succ, List.setIfInBounds_toArray, List.set_cons_zero, List.set_cons_succ])
      (refine wpZ_take (i := 1) (v := ?_) rfl (by kernel_rfl) (by kernel_rfl) (by kernel_rfl) (by kernel_rfl) (fun _ _ _ h => h) (HSS.out _ (by (repeat' (first | with_reducible assumption | with_reducible refine Below.drew ?_ | (with_reducible refine Below.alloc ?_ (by first | assumption | (simp; done) | (simp; omega)) _) | (with_reducible refine Below.setCell ?_ (by first | assumption | (simp; done) | (simp; omega)) _))))) (Or.inl ⟨by rfl, ?_⟩) ?_; rotate_left 1; (focus (intro w0 hw0; (try dsimp only at hw0); obtain ⟨s0, s1, s3, s4, s5, s6, s7, s8, s9⟩ := hw0; go_simp; try with_reducible rfl)); simp only [Act.put, List.getElem_toArray, List.getElem_cons_zero, List.getElem_cons_succ, List.setIfInBounds_toArray, List.set_cons_zero, List.set_cons_succ])
      (refine wpZ_take (i := 2) (v := ?_) rfl (by kernel_rfl) (by kernel_rfl) (by kernel_rfl) (by kernel_rfl) (fun _ _ _ h => h) (HSS.out _ (by (repeat' (first | with_reducible assumption | with_reducible refine Below.drew ?_ | (with_reducible refine Below.alloc ?_ (by first | assumption | (simp; done) | (simp; omega)) _) | (with_reducible refine Below.setCell ?_ (by first | assumption | (simp; done) | (simp; omega)) _))))) (Or.inl ⟨by rfl, ?_⟩) ?_; rotate_left 1; (focus (intro w0 hw0; (try dsimp only at hw0); obtain ⟨s0, s1, s3, s4, s5, s6, s7, s8, s9⟩ := hw0; go_simp; try with_reducible rfl)); simp only [Act.put, List.getElem_toArray, List.getElem_cons_zero, List.getElem_cons_succ, List.setIfInBounds_toArray, List.set_cons_zero, List.set_cons_succ])
      (refine wpZ_take (i := 4) (v := ?_) rfl (by kernel_rfl) (by kernel_rfl) (by kernel_rfl) (by kernel_rfl) (fun _ _ _ h => h) (HSS.out _ (by (repeat' (first | with_reducible assumption | with_reducible refine Below.drew ?_ | (with_reducible refine Below.alloc ?_ (by first | assumption | (simp; done) | (simp; omega)) _) | (with_reducible refine Below.setCell ?_ (by first | assumption | (simp; done) | (simp; omega)) _))))) (Or.inl ⟨by rfl, ?_⟩) ?_; rotate_left 1; (focus (intro w0 hw0; (try dsimp only at hw0); obtain ⟨s0, s1, s3, s4, s5, s6, s7, s8, s9⟩ := hw0; go_simp; try with_reducible rfl)); simp only [Act.put, List.getElem_toArray, List.getElem_cons_zero, List.getElem_cons_succ, List.setIfInBounds_toArray, List.set_cons_zero, List.set_cons_succ])
      (refine wpZ_take (i := 5) (v := ?_) rfl (by kernel_rfl) (by kernel_rfl) (by kernel_rfl) (by kernel_rfl) (fun _ _ _ h => h) (HSS.out _ (by (repeat' (first | with_reducible assumption | with_reducible refine Below.drew ?_ | (with_reducible refine Below.alloc ?_ (by first | assumption | (simp; done) | (simp; omega)) _) | (with_reducible refine Below.setCell ?_ (by first | assumption | (simp; done) | (simp; omega)) _))))) (Or.inl ⟨by rfl, ?_⟩) ?_; rotate_left 1; (focus (intro w0 hw0; (try dsimp only at hw0); obtain ⟨s0, s1, s3, s4, s5, s6, s7, s8, s9⟩ := hw0; go_simp; try with_reducible rfl)); simp only [Act.put, List.getElem_toArray, List.getElem_cons_zero, List.getElem_cons_succ, List.setIfInBounds_toArray, List.set_cons_zero, List.set_cons_succ])
      (refine wpZ_take (i := 6) (v := ?_) rfl (by kernel_rfl) (by kernel_rfl) (by kernel_rfl) (by kernel_rfl) (fun _ _ _ h => h) (HSS.out _ (by (repeat' (first | with_reducible assumption | with_reducible refine Below.drew ?_ | (with_reducible refine Below.alloc ?_ (by first | assumption | (simp; done) | (simp; omega)) _) | (with_reducible refine Below.setCell ?_ (by first | assumption | (simp; done) | (simp; omega)) _))))) (Or.inl ⟨by rfl, ?_⟩) ?_; rotate_left 1; (focus (intro w0 hw0; (try dsimp only at hw0); obtain ⟨s0, s1, s3, s4, s5, s6, s7, s8, s9⟩ := hw0; go_simp; try with_reducible rfl)); simp only [Act.put, List.getElem_toArray, List.getElem_cons_zero, List.getElem_cons_succ, List.setIfInBounds_toArray, List.set_cons_zero, List.set_cons_succ])
      (refine wpZ_take (i := 7) (v := ?_) rfl (by kernel_rfl) (by kernel_rfl) (by kernel_rfl) (by kernel_rfl) (fun _ _ _ h => h) (HSS.out _ (by (repeat' (first | with_reducible assumption | with_reducible refine Below.drew ?_ | (with_reducible refine Below.alloc ?_ (by first | assumption | (simp; done) | (simp; omega)) _) | (with_reducible refine Below.setCell ?_ (by first | assumption | (simp; done) | (simp; omega)) _))))) (Or.inl ⟨by rfl, ?_⟩) ?_; rotate_left 1; (focus (intro w0 hw0; (try dsimp only at hw0); obtain ⟨s0, s1, s3, s4, s5, s6, s7, s8, s9⟩ := hw0; go_simp; try with_reducible rfl)); simp only [Act.put, List.getElem_toArray, List.getElem_cons_zero, List.getElem_cons_succ, List.setIfInBounds_toArray, List.set_cons_zero, List.set_cons_succ])
      (refine wpZ_take (i := 8) (v := ?_) rfl (by kernel_rfl) (by kernel_rfl) (by kernel_rfl) (by kernel_rfl) (fun _ _ _ h => h) (HSS.out _ (by (repeat' (first | with_reducible assumption | with_reducible refine Below.drew ?_ | (with_reducible refine Below.alloc ?_ (by first | assumption | (simp; done) | (simp; omega)) _) | (with_reducible refine Below.setCell ?_ (by first | assumption | (simp; done) | (simp; omega)) _))))) (Or.inl ⟨by rfl, ?_⟩) ?_; rotate_left 1; (focus (intro w0 hw0; (try dsimp only at hw0); obtain ⟨s0, s1, s3, s4, s5, s6, s7, s8, s9⟩ := hw0; go_simp; try with_reducible rfl)); simp only [Act.put, List.getElem_toArray, List.getElem_cons_zero, List.getElem_cons_succ, List.setIfInBounds_toArray, List.set_cons_zero, List.set_cons_succ])
      (refine wpZ_take (i := 10) (v := ?_) rfl (by kernel_rfl) (by kernel_rfl) (by kernel_rfl) (by kernel_rfl) (fun _ _ _ h => h) (HSS.out _ (by (repeat' (first | with_reducible assumption | with_reducible refine Below.drew ?_ | (with_reducible refine Below.alloc ?_ (by first | assumption | (simp; done) | (simp; omega)) _) | (with_reducible refine Below.setCell ?_ (by first | assumption | (simp; done) | (simp; omega)) _))))) (Or.inl ⟨by rfl, ?_⟩) ?_; rotate_left 1; (focus (intro w0 hw0; (try dsimp only at hw0); obtain ⟨s0, s1, s3, s4, s5, s6, s7, s8, s9⟩ := hw0; go_simp; try with_reducible rfl)); simp only [Act.put, List.getElem_toArray, List.getElem_cons_zero, List.getElem_cons_succ, List.setIfInBounds_toArray, List.set_cons_zero, List.set_cons_succ])
      refine wpZ_ready (rs := [3, 11]) (by kernel_rfl) (by simp) ?_
      refine ReadyZ.cons rfl (fun K hK => ?_) (ReadyZ.cons rfl (fun K hK => ?_) ReadyZ.nil)
      · (go_simp; refine hK.out _ _ (.inr (HSS.out _ (by (repeat' (first | with_reducible assumption | with_reducible refine Below.drew ?_ | (with_reducible refine Below.alloc ?_ (by first | assumption | (simp; done) | (simp; omega)) _) | (with_reducible refine Below.setCell ?_ (by first | assumption | (simp; done) | (simp; omega)) _)))))) ?_; clear hK K; try simp only [Act.put, List.getElem_toArray, List.getElem_cons_zero, List.getElem_cons_succ, List.setIfInBounds_toArray, List.set_cons_zero, List.set_cons_succ])
        refine wpZ_ready (rs := [9, 11]) (by kernel_rfl) (by simp) ?_
        refine ReadyZ.cons rfl (fun K hK => ?_) (ReadyZ.cons rfl (fun K hK => ?_) ReadyZ.nil)
        · refine step_appC rfl (.tmp 96) (.tmp 101) 55 rfl callElemL (.slice (some ⟨w5.heap.size, 0, none⟩) 0 0) 0 [] (by simp [Act.eval]) aL LL cL csL (by simp [Act.eval]) (HE.out _ _ (by first | exact Nat.le_refl _ | omega | (simp; done) | (simp; omega)) (heap_alloc_new w5 _)) (HSL.out _ (by (repeat' (first | with_reducible assumption | with_reducible refine Below.drew ?_ | (with_reducible refine Below.alloc ?_ (by first | assumption | (simp; done) | (simp; omega)) _) | (with_reducible refine Below.setCell ?_ (by first | assumption | (simp; done) | (simp; omega)) _))))) (by unfold maxLen; omega) (by omega) (by first | exact Nat.le_refl _ | omega | (simp; done) | (simp; omega)) ?_
          intro v6 w6 ho6 hg6
          obtain ⟨a6, c6, rfl⟩ := own_slice ho6
          have hb6 : Below w5.heap.size w5 w6 := Below.grown (by (repeat' (first | with_reducible assumption | with_reducible refine Below.drew ?_ | (with_reducible refine Below.alloc ?_ (by first | assumption | (simp; done) | (simp; omega)) _) | (with_reducible refine Below.setCell ?_ (by first | assumption | (simp; done) | (simp; omega)) _)))) hg6 (by first | exact Nat.le_refl _ | omega | (simp; done) | (simp; omega)) (fun q hq => by cases hq; first | exact Nat.le_refl _ | omega | (simp; done) | (simp; omega))
          have HO6 := Lib.hid ho6
          have HG6 := Lib.hid hg6
          clear ho6 hg6
          have hz6 := hb6.size
          refine hK.out _ _ (.inr (HSS.out _ (by (repeat' (first | with_reducible assumption | with_reducible refine Below.drew ?_ | (with_reducible refine Below.alloc ?_ (by first | assumption | (simp; done) | (simp; omega)) _) | (with_reducible refine Below.setCell ?_ (by first | assumption | (simp; done) | (simp; omega)) _)))))) ?_
          clear hK K
          try simp only [Act.put, List.getElem_toArray, List.getElem_cons_zero, List.getElem_cons_succ, List.setIfInBounds_toArray, List.set_cons_zero, List.set_cons_succ]
          refine wpZ_ready (rs := [11]) (by kernel_rfl) (by simp) ?_
          refine ReadyZ.cons rfl (fun K hK => ?_) ReadyZ.nil
          (go_simp; refine hK.out _ _ (.inr (HSS.out _ (by (repeat' (first | with_reducible assumption | with_reducible refine Below.drew ?_ | (with_reducible refine Below.alloc ?_ (by first | assumption | (simp; done) | (simp; omega)) _) | (with_reducible refine Below.setCell ?_ (by first | assumption | (simp; done) | (simp; omega)) _)))))) ?_; clear hK K; try simp only [Act.put, List.getElem_toArray, List.getElem_cons_zero, List.getElem_cons_succ, List.setIfInBounds_toArray, List.set_cons_zero, List.set_cons_succ])
          refine wpZ_ready (rs := [12]) (by kernel_rfl) (by simp) ?_
          refine ReadyZ.cons rfl (fun K hK => ?_) ReadyZ.nil
          refine step_appC rfl (.tmp 102) (.tmp 104) 55 rfl callElemL (.slice a6 (0 + LL) c6) (0 + LL) ([] ++ csL) (by simp [Act.eval]) (some ⟨w6.heap.size, 0, none⟩) 1 1 [.int .i64 c.kind, .int .i64 c.n, .int .i64 c.dir, .string c.text, .int .i64 c.who, .int .i64 c.at_, .slice ax c.xs.length cx] (by simp [Act.eval]) (own_below HO6.out ((Below.refl _ _).alloc (Nat.le_refl _) _)) (HSC.out _ _ (heap_alloc_new w6 _)) (by unfold maxLen; omega) (by omega) (by first | exact Nat.le_refl _ | omega | (simp; done) | (simp; omega)) ?_
          intro v7 w7 ho7 hg7
          obtain ⟨a7, c7, rfl⟩ := own_slice ho7
          have hb7 : Below w5.heap.size w5 w7 := Below.grown (by (repeat' (first | with_reducible assumption | with_reducible refine Below.drew ?_ | (with_reducible refine Below.alloc ?_ (by first | assumption | (simp; done) | (simp; omega)) _) | (with_reducible refine Below.setCell ?_ (by first | assumption | (simp; done) | (simp; omega)) _)))) hg7 (by first | exact Nat.le_refl _ | omega | (simp; done) | (simp; omega)) (fun q hq => (own_lt HO6.out q hq))
          have HO7 := Lib.hid ho7
          clear ho7 hg7
          refine hK.out _ _ (.inr (HSS.out _ (by (repeat' (first | with_reducible assumption | with_reducible refine Below.drew ?_ | (with_reducible refine Below.alloc ?_ (by first | assumption | (simp; done) | (simp; omega)) _) | (with_reducible refine Below.setCell ?_ (by first | assumption | (simp; done) | (simp; omega)) _)))))) ?_
          clear hK K
          try simp only [Act.put, List.getElem_toArray, List.getElem_cons_zero, List.getElem_cons_succ, List.setIfInBounds_toArray, List.set_cons_zero, List.set_cons_succ]
          have zf := (HQ5.out _ hb7).2
          have zc := (HQ5.out _ hb7).1
          (refine wpZ_take (i := 13) (v := ?_) rfl (by kernel_rfl) (by kernel_rfl) (by kernel_rfl) (by kernel_rfl) (fun _ _ _ h => h) (HSS.out _ (by (repeat' (first | with_reducible assumption | with_reducible refine Below.drew ?_ | (with_reducible refine Below.alloc ?_ (by first | assumption | (simp; done) | (simp; omega)) _) | (with_reducible refine Below.setCell ?_ (by first | assumption | (simp; done) | (simp; omega)) _))))) (Or.inl ⟨by rfl, ?_⟩) ?_; rotate_left 1; (focus (intro w0 hw0; (try dsimp only at hw0); obtain ⟨s0, s1, s3, s4, s5, s6, s7, s8, s9⟩ := hw0; go_simp; try with_reducible rfl)); simp only [Act.put, List.getElem_toArray, List.getElem_cons_zero, List.getElem_cons_succ, List.setIfInBounds_toArray, List.set_cons_zero, List.set_cons_succ])
          refine wpZ_ready (rs := [14]) (by kernel_rfl) (by simp) ?_
          refine ReadyZ.cons rfl (fun K hK => ?_) ReadyZ.nil
          go_simp
          refine hK.out _ _ (.inl rfl) ?_
          clear hK K
          try simp only [Act.put, List.getElem_toArray, List.getElem_cons_zero, List.getElem_cons_succ, List.setIfInBounds_toArray, List.set_cons_zero, List.set_cons_succ]
          refine wpZ_done (by kernel_rfl) ?_ _
          (have x7 := (hb7.block _ hz50).trans HGB.out; have r7 := (hb7.block _ hz51).trans HGR.out; have m0 : w7.cell? ⟨w.heap.size, 0, none⟩ = some (.int .i64 S.stripes) := cell_at x7 rfl; have m1 : w7.cell? ⟨w.heap.size, 1, none⟩ = some (.int .i64 S.room) := cell_at x7 rfl; have m2 : w7.cell? ⟨w.heap.size, 2, none⟩ = some (.slice (some ⟨gC, 0, none⟩) (M + 1) cC) := cell_at x7 (by rw [← hM]; rfl); have m3 : w7.cell? ⟨w.heap.size, 3, none⟩ = some (.slice aP S.picks.length cP) := cell_at x7 rfl; have m4 : w7.cell? ⟨w.heap.size, 4, none⟩ = some (.slice aT S.ticks.length cT) := cell_at x7 rfl; have l0 : w7.cell? ⟨w.heap.size + 1, 0, none⟩ = some (.int .i64 0) := cell_at r7 rfl; have l1 : w7.cell? ⟨w.heap.size + 1, 1, none⟩ = some (.int .i64 0) := cell_at r7 rfl; have l2 : w7.cell? ⟨w.heap.size + 1, 2, none⟩ = some (.slice none 0 0) := cell_at r7 rfl; have l3 : w7.cell? ⟨w.heap.size + 1, 3, none⟩ = some (.slice none 0 0) := cell_at r7 rfl; have l4 : w7.cell? ⟨w.heap.size + 1, 4, none⟩ = some (.slice none 0 0) := cell_at r7 rfl; have lf : ∀ o, w7.frozen? ⟨w.heap.size + 1, o, none⟩ = false := fun o => free_at r7; clear x7 r7; go_wp2_with fail; refine bodyPost_ret (v := .tuple #[.agg #[.int .i64 S.stripes, .int .i64 S.room, .slice (some ⟨gC, 0, none⟩) (M + 1) cC, .slice aP S.picks.length cP, .slice aT S.ticks.length cT], .bool true]) (by simp [results, Tryd.results35, go_sem, *]) rfl ?_; exact HFIN.out a7 c7 w7 _ hb7 HO7.out (by simp) (by (repeat (with_reducible refine Below.setCell ?_ (by first | (show W1.heap.size ≤ gC; omega) | (show W1.heap.size ≤ w.heap.size + 1; omega)) _)); exact HBF.out w7 hb7) (fun q hq => by (repeat (with_reducible refine Eq.trans (Below.heap_setCell _ _ _ _ (by first | (show q ≠ w.heap.size + 1; omega))) ?_)); simp))
        · (go_simp; refine hK.out _ _ (.inr (HSS.out _ (by (repeat' (first | with_reducible assumption | with_reducible refine Below.drew ?_ | (with_reducible refine Below.alloc ?_ (by first | assumption | (simp; done) | (simp; omega)) _) | (with_reducible refine Below.setCell ?_ (by first | assumption | (simp; done) | (simp; omega)) _)))))) ?_; clear hK K; try simp only [Act.put, List.getElem_toArray, List.getElem_cons_zero, List.getElem_cons_succ, List.setIfInBounds_toArray, List.set_cons_zero, List.set_cons_succ])
          refine wpZ_ready (rs := [9]) (by kernel_rfl) (by simp) ?_
          refine ReadyZ.cons rfl (fun K hK => ?_) ReadyZ.nil
          refine step_appC rfl (.tmp 96) (.tmp 101) 55 rfl callElemL (.slice (some ⟨w5.heap.size, 0, none⟩) 0 0) 0 [] (by simp [Act.eval]) aL LL cL csL (by simp [Act.eval]) (HE.out _ _ (by first | exact Nat.le_refl _ | omega | (simp; done) | (simp; omega)) ((Lib.alloc_old _ _ _ (by simp)).trans (heap_alloc_new w5 _))) (HSL.out _ (by (repeat' (first | with_reducible assumption | with_reducible refine Below.drew ?_ | (with_reducible refine Below.alloc ?_ (by first | assumption | (simp; done) | (simp; omega)) _) | (with_reducible refine Below.setCell ?_ (by first | assumption | (simp; done) | (simp; omega)) _))))) (by unfold maxLen; omega) (by omega) (by first | exact Nat.le_refl _ | omega | (simp; done) | (simp; omega)) ?_
          intro v6 w6 ho6 hg6
          obtain ⟨a6, c6, rfl⟩ := own_slice ho6
          have hb6 : Below w5.heap.size w5 w6 := Below.grown (by (repeat' (first | with_reducible assumption | with_reducible refine Below.drew ?_ | (with_reducible refine Below.alloc ?_ (by first | assumption | (simp; done) | (simp; omega)) _) | (with_reducible refine Below.setCell ?_ (by first | assumption | (simp; done) | (simp; omega)) _)))) hg6 (by first | exact Nat.le_refl _ | omega | (simp; done) | (simp; omega)) (fun q hq => by cases hq; first | exact Nat.le_refl _ | omega | (simp; done) | (simp; omega))
          have HO6 := Lib.hid ho6
          have HG6 := Lib.hid hg6
          clear ho6 hg6
          have hz6 := hb6.size
          refine hK.out _ _ (.inr (HSS.out _ (by (repeat' (first | with_reducible assumption | with_reducible refine Below.drew ?_ | (with_reducible refine Below.alloc ?_ (by first | assumption | (simp; done) | (simp; omega)) _) | (with_reducible refine Below.setCell ?_ (by first | assumption | (simp; done) | (simp; omega)) _)))))) ?_
          clear hK K
          try simp only [Act.put, List.getElem_toArray, List.getElem_cons_zero, List.getElem_cons_succ, List.setIfInBounds_toArray, List.set_cons_zero, List.set_cons_succ]
          refine wpZ_ready (rs := [12]) (by kernel_rfl) (by simp) ?_
          refine ReadyZ.cons rfl (fun K hK => ?_) ReadyZ.nil
          refine step_appC rfl (.tmp 102) (.tmp 104) 55 rfl callElemL (.slice a6 (0 + LL) c6) (0 + LL) ([] ++ csL) (by simp [Act.eval]) (some ⟨w5.heap.size + 1, 0, none⟩) 1 1 [.int .i64 c.kind, .int .i64 c.n, .int .i64 c.dir, .string c.text, .int .i64 c.who, .int .i64 c.at_, .slice ax c.xs.length cx] (by simp [Act.eval]) (HO6.out) (HSC.out _ _ ((HG6.out.block _ (by first | exact Nat.le_refl _ | omega | (simp; done) | (simp; omega)) (fun e => absurd (Option.some.inj e : (w5.heap.size + 1 : Nat) = w5.heap.size) (by omega))).trans (by have := heap_alloc_new (w5.alloc (.cells #[] 28)) (.cells #[.int .i64 c.kind, .int .i64 c.n, .int .i64 c.dir, .string c.text, .int .i64 c.who, .int .i64 c.at_, .slice ax c.xs.length cx] 28); rw [show (w5.alloc (.cells #[] 28)).heap.size = w5.heap.size + 1 by simp] at this; exact this))) (by unfold maxLen; omega) (by omega) (by first | exact Nat.le_refl _ | omega | (simp; done) | (simp; omega)) ?_
          intro v7 w7 ho7 hg7
          obtain ⟨a7, c7, rfl⟩ := own_slice ho7
          have hb7 : Below w5.heap.size w5 w7 := Below.grown (by (repeat' (first | with_reducible assumption | with_reducible refine Below.drew ?_ | (with_reducible refine Below.alloc ?_ (by first | assumption | (simp; done) | (simp; omega)) _) | (with_reducible refine Below.setCell ?_ (by first | assumption | (simp; done) | (simp; omega)) _)))) hg7 (by first | exact Nat.le_refl _ | omega | (simp; done) | (simp; omega)) (fun q hq => (own_lt HO6.out q hq))
          have HO7 := Lib.hid ho7
          clear ho7 hg7
          refine hK.out _ _ (.inr (HSS.out _ (by (repeat' (first | with_reducible assumption | with_reducible refine Below.drew ?_ | (with_reducible refine Below.alloc ?_ (by first | assumption | (simp; done) | (simp; omega)) _) | (with_reducible refine Below.setCell ?_ (by first | assumption | (simp; done) | (simp; omega)) _)))))) ?_
          clear hK K
          try simp only [Act.put, List.getElem_toArray, List.getElem_cons_zero, List.getElem_cons_succ, List.setIfInBounds_toArray, List.set_cons_zero, List.set_cons_succ]
          have zf := (HQ5.out _ hb7).2
          have zc := (HQ5.out _ hb7).1
          (refine wpZ_take (i := 13) (v := ?_) rfl (by kernel_rfl) (by kernel_rfl) (by kernel_rfl) (by kernel_rfl) (fun _ _ _ h => h) (HSS.out _ (by (repeat' (first | with_reducible assumption | with_reducible refine Below.drew ?_ | (with_reducible refine Below.alloc ?_ (by first | assumption | (simp; done) | (simp; omega)) _) | (with_reducible refine Below.setCell ?_ (by first | assumption | (simp; done) | (simp; omega)) _))))) (Or.inl ⟨by rfl, ?_⟩) ?_; rotate_left 1; (focus (intro w0 hw0; (try dsimp only at hw0); obtain ⟨s0, s1, s3, s4, s5, s6, s7, s8, s9⟩ := hw0; go_simp; try with_reducible rfl)); simp only [Act.put, List.getElem_toArray, List.getElem_cons_zero, List.getElem_cons_succ, List.setIfInBounds_toArray, List.set_cons_zero, List.set_cons_succ])
          refine wpZ_ready (rs := [14]) (by kernel_rfl) (by simp) ?_
          refine ReadyZ.cons rfl (fun K hK => ?_) ReadyZ.nil
          go_simp
          refine hK.out _ _ (.inl rfl) ?_
          clear hK K
          try simp only [Act.put, List.getElem_toArray, List.getElem_cons_zero, List.getElem_cons_succ, List.setIfInBounds_toArray, List.set_cons_zero, List.set_cons_succ]
          refine wpZ_done (by kernel_rfl) ?_ _
          (have x7 := (hb7.block _ hz50).trans HGB.out; have r7 := (hb7.block _ hz51).trans HGR.out; have m0 : w7.cell? ⟨w.heap.size, 0, none⟩ = some (.int .i64 S.stripes) := cell_at x7 rfl; have m1 : w7.cell? ⟨w.heap.size, 1, none⟩ = some (.int .i64 S.room) := cell_at x7 rfl; have m2 : w7.cell? ⟨w.heap.size, 2, none⟩ = some (.slice (some ⟨gC, 0, none⟩) (M + 1) cC) := cell_at x7 (by rw [← hM]; rfl); have m3 : w7.cell? ⟨w.heap.size, 3, none⟩ = some (.slice aP S.picks.length cP) := cell_at x7 rfl; have m4 : w7.cell? ⟨w.heap.size, 4, none⟩ = some (.slice aT S.ticks.length cT) := cell_at x7 rfl; have l0 : w7.cell? ⟨w.heap.size + 1, 0, none⟩ = some (.int .i64 0) := cell_at r7 rfl; have l1 : w7.cell? ⟨w.heap.size + 1, 1, none⟩ = some (.int .i64 0) := cell_at r7 rfl; have l2 : w7.cell? ⟨w.heap.size + 1, 2, none⟩ = some (.slice none 0 0) := cell_at r7 rfl; have l3 : w7.cell? ⟨w.heap.size + 1, 3, none⟩ = some (.slice none 0 0) := cell_at r7 rfl; have l4 : w7.cell? ⟨w.heap.size + 1, 4, none⟩ = some (.slice none 0 0) := cell_at r7 rfl; have lf : ∀ o, w7.frozen? ⟨w.heap.size + 1, o, none⟩ = false := fun o => free_at r7; clear x7 r7; go_wp2_with fail; refine bodyPost_ret (v := .tuple #[.agg #[.int .i64 S.stripes, .int .i64 S.room, .slice (some ⟨gC, 0, none⟩) (M + 1) cC, .slice aP S.picks.length cP, .slice aT S.ticks.length cT], .bool true]) (by simp [results, Tryd.results35, go_sem, *]) rfl ?_; exact HFIN.out a7 c7 w7 _ hb7 HO7.out (by simp) (by (repeat (with_reducible refine Below.setCell ?_ (by first | (show W1.heap.size ≤ gC; omega) | (show W1.heap.size ≤ w.heap.size + 1; omega)) _)); exact HBF.out w7 hb7) (fun q hq => by (repeat (with_reducible refine Eq.trans (Below.heap_setCell _ _ _ _ (by first | (show q ≠ w.heap.size + 1; omega))) ?_)); simp))
      · (go_simp; refine hK.out _ _ (.inr (HSS.out _ (by (repeat' (first | with_reducible assumption | with_reducible refine Below.drew ?_ | (with_reducible refine Below.alloc ?_ (by first | assumption | (simp; done) | (simp; omega)) _) | (with_reducible refine Below.setCell ?_ (by first | assumption | (simp; done) | (simp; omega)) _)))))) ?_; clear hK K; try simp only [Act.put, List.getElem_toArray, List.getElem_cons_zero, List.getElem_cons_succ, List.setIfInBounds_toArray, List.set_cons_zero, List.set_cons_succ])
        refine wpZ_ready (rs := [3]) (by kernel_rfl) (by simp) ?_
        refine ReadyZ.cons rfl (fun K hK => ?_) ReadyZ.nil
        (go_simp; refine hK.out _ _ (.inr (HSS.out _ (by (repeat' (first | with_reducible assumption | with_reducible refine Below.drew ?_ | (with_reducible refine Below.alloc ?_ (by first | assumption | (simp; done) | (simp; omega)) _) | (with_reducible refine Below.setCell ?_ (by first | assumption | (simp; done) | (simp; omega)) _)))))) ?_; clear hK K; try simp only [Act.put, List.getElem_toArray, List.getElem_cons_zero, List.getElem_cons_succ, List.setIfInBounds_toArray, List.set_cons_zero, List.set_cons_succ])
        refine wpZ_ready (rs := [9]) (by kernel_rfl) (by simp) ?_
        refine ReadyZ.cons rfl (fun K hK => ?_) ReadyZ.nil
        refine step_appC rfl (.tmp 96) (.tmp 101) 55 rfl callElemL (.slice (some ⟨w5.heap.size + 1, 0, none⟩) 0 0) 0 [] (by simp [Act.eval]) aL LL cL csL (by simp [Act.eval]) (HE.out _ _ (by first | exact Nat.le_refl _ | omega | (simp; done) | (simp; omega)) (by have := heap_alloc_new (w5.alloc (.cells #[.int .i64 c.kind, .int .i64 c.n, .int .i64 c.dir, .string c.text, .int .i64 c.who, .int .i64 c.at_, .slice ax c.xs.length cx] 28)) (.cells #[] 28); rw [show (w5.alloc (.cells #[.int .i64 c.kind, .int .i64 c.n, .int .i64 c.dir, .string c.text, .int .i64 c.who, .int .i64 c.at_, .slice ax c.xs.length cx] 28)).heap.size = w5.heap.size + 1 by simp] at this; exact this)) (HSL.out _ (by (repeat' (first | with_reducible assumption | with_reducible refine Below.drew ?_ | (with_reducible refine Below.alloc ?_ (by first | assumption | (simp; done) | (simp; omega)) _) | (with_reducible refine Below.setCell ?_ (by first | assumption | (simp; done) | (simp; omega)) _))))) (by unfold maxLen; omega) (by omega) (by first | exact Nat.le_refl _ | omega | (simp; done) | (simp; omega)) ?_
        intro v6 w6 ho6 hg6
        obtain ⟨a6, c6, rfl⟩ := own_slice ho6
        have hb6 : Below w5.heap.size w5 w6 := Below.grown (by (repeat' (first | with_reducible assumption | with_reducible refine Below.drew ?_ | (with_reducible refine Below.alloc ?_ (by first | assumption | (simp; done) | (simp; omega)) _) | (with_reducible refine Below.setCell ?_ (by first | assumption | (simp; done) | (simp; omega)) _)))) hg6 (by first | exact Nat.le_refl _ | omega | (simp; done) | (simp; omega)) (fun q hq => by cases hq; first | exact Nat.le_refl _ | omega | (simp; done) | (simp; omega))
        have HO6 := Lib.hid ho6
        have HG6 := Lib.hid hg6
        clear ho6 hg6
        have hz6 := hb6.size
        refine hK.out _ _ (.inr (HSS.out _ (by (repeat' (first | with_reducible assumption | with_reducible refine Below.drew ?_ | (with_reducible refine Below.alloc ?_ (by first | assumption | (simp; done) | (simp; omega)) _) | (with_reducible refine Below.setCell ?_ (by first | assumption | (simp; done) | (simp; omega)) _)))))) ?_
        clear hK K
        try simp only [Act.put, List.getElem_toArray, List.getElem_cons_zero, List.getElem_cons_succ, List.setIfInBounds_toArray, List.set_cons_zero, List.set_cons_succ]
        refine wpZ_ready (rs := [12]) (by kernel_rfl) (by simp) ?_
        refine ReadyZ.cons rfl (fun K hK => ?_) ReadyZ.nil
        refine step_appC rfl (.tmp 102) (.tmp 104) 55 rfl callElemL (.slice a6 (0 + LL) c6) (0 + LL) ([] ++ csL) (by simp [Act.eval]) (some ⟨w5.heap.size, 0, none⟩) 1 1 [.int .i64 c.kind, .int .i64 c.n, .int .i64 c.dir, .string c.text, .int .i64 c.who, .int .i64 c.at_, .slice ax c.xs.length cx] (by simp [Act.eval]) (HO6.out) (HSC.out _ _ ((HG6.out.block _ (by first | exact Nat.le_refl _ | omega | (simp; done) | (simp; omega)) (fun e => absurd (Option.some.inj e : (w5.heap.size : Nat) = w5.heap.size + 1) (by omega))).trans ((Lib.alloc_old _ _ _ (by simp)).trans (heap_alloc_new w5 _)))) (by unfold maxLen; omega) (by omega) (by first | exact Nat.le_refl _ | omega | (simp; done) | (simp; omega)) ?_
        intro v7 w7 ho7 hg7
        obtain ⟨a7, c7, rfl⟩ := own_slice ho7
        have hb7 : Below w5.heap.size w5 w7 := Below.grown (by (repeat' (first | with_reducible assumption | with_reducible refine Below.drew ?_ | (with_reducible refine Below.alloc ?_ (by first | assumption | (simp; done) | (simp; omega)) _) | (with_reducible refine Below.setCell ?_ (by first | assumption | (simp; done) | (simp; omega)) _)))) hg7 (by first | exact Nat.le_refl _ | omega | (simp; done) | (simp; omega)) (fun q hq => (own_lt HO6.out q hq))
        have HO7 := Lib.hid ho7
        clear ho7 hg7
        refine hK.out _ _ (.inr (HSS.out _ (by (repeat' (first | with_reducible assumption | with_reducible refine Below.drew ?_ | (with_reducible refine Below.alloc ?_ (by first | assumption | (simp; done) | (simp; omega)) _) | (with_reducible refine Below.setCell ?_ (by first | assumption | (simp; done) | (simp; omega)) _)))))) ?_
        clear hK K
        try simp only [Act.put, List.getElem_toArray, List.getElem_cons_zero, List.getElem_cons_succ, List.setIfInBounds_toArray, List.set_cons_zero, List.set_cons_succ]
        have zf := (HQ5.out _ hb7).2
        have zc := (HQ5.out _ hb7).1
        (refine wpZ_take (i := 13) (v := ?_) rfl (by kernel_rfl) (by kernel_rfl) (by kernel_rfl) (by kernel_rfl) (fun _ _ _ h => h) (HSS.out _ (by (repeat' (first | with_reducible assumption | with_reducible refine Below.drew ?_ | (with_reducible refine Below.alloc ?_ (by first | assumption | (simp; done) | (simp; omega)) _) | (with_reducible refine Below.setCell ?_ (by first | assumption | (simp; done) | (simp; omega)) _))))) (Or.inl ⟨by rfl, ?_⟩) ?_; rotate_left 1; (focus (intro w0 hw0; (try dsimp only at hw0); obtain ⟨s0, s1, s3, s4, s5, s6, s7, s8, s9⟩ := hw0; go_simp; try with_reducible rfl)); simp only [Act.put, List.getElem_toArray, List.getElem_cons_zero, List.getElem_cons_succ, List.setIfInBounds_toArray, List.set_cons_zero, List.set_cons_succ])
        refine wpZ_ready (rs := [14]) (by kernel_rfl) (by simp) ?_
        refine ReadyZ.cons rfl (fun K hK => ?_) ReadyZ.nil
        go_simp
        refine hK.out _ _ (.inl rfl) ?_
        clear hK K
        try simp only [Act.put, List.getElem_toArray, List.getElem_cons_zero, List.getElem_cons_succ, List.setIfInBounds_toArray, List.set_cons_zero, List.set_cons_succ]
        refine wpZ_done (by kernel_rfl) ?_ _
        (have x7 := (hb7.block _ hz50).trans HGB.out; have r7 := (hb7.block _ hz51).trans HGR.out; have m0 : w7.cell? ⟨w.heap.size, 0, none⟩ = some (.int .i64 S.stripes) := cell_at x7 rfl; have m1 : w7.cell? ⟨w.heap.size, 1, none⟩ = some (.int .i64 S.room) := cell_at x7 rfl; have m2 : w7.cell? ⟨w.heap.size, 2, none⟩ = some (.slice (some ⟨gC, 0, none⟩) (M + 1) cC) := cell_at x7 (by rw [← hM]; rfl); have m3 : w7.cell? ⟨w.heap.size, 3, none⟩ = some (.slice aP S.picks.length cP) := cell_at x7 rfl; have m4 : w7.cell? ⟨w.heap.size, 4, none⟩ = some (.slice aT S.ticks.length cT) := cell_at x7 rfl; have l0 : w7.cell? ⟨w.heap.size + 1, 0, none⟩ = some (.int .i64 0) := cell_at r7 rfl; have l1 : w7.cell? ⟨w.heap.size + 1, 1, none⟩ = some (.int .i64 0) := cell_at r7 rfl; have l2 : w7.cell? ⟨w.heap.size + 1, 2, none⟩ = some (.slice none 0 0) := cell_at r7 rfl; have l3 : w7.cell? ⟨w.heap.size + 1, 3, none⟩ = some (.slice none 0 0) := cell_at r7 rfl; have l4 : w7.cell? ⟨w.heap.size + 1, 4, none⟩ = some (.slice none 0 0) := cell_at r7 rfl; have lf : ∀ o, w7.frozen? ⟨w.heap.size + 1, o, none⟩ = false := fun o => free_at r7; clear x7 r7; go_wp2_with fail; refine bodyPost_ret (v := .tuple #[.agg #[.int .i64 S.stripes, .int .i64 S.room, .slice (some ⟨gC, 0, none⟩) (M + 1) cC, .slice aP S.picks.length cP, .slice aT S.ticks.length cT], .bool true]) (by simp [results, Tryd.results35, go_sem, *]) rfl ?_; exact HFIN.out a7 c7 w7 _ hb7 HO7.out (by simp) (by (repeat (with_reducible refine Below.setCell ?_ (by first | (show W1.heap.size ≤ gC; omega) | (show W1.heap.size ≤ w.heap.size + 1; omega)) _)); exact HBF.out w7 hb7) (fun q hq => by (repeat (with_reducible refine Eq.trans (Below.heap_setCell _ _ _ _ (by first | (show q ≠ w.heap.size + 1; omega))) ?_)); simp))
end Go.Proofs.YtplhmcmfdcklaaaDoor.Lex
/- The reference's Parse. -/
namespace Go.Proofs.YtplhmcmfdcklaaaDoor.Lex
open Go.RowKit
set_option linter.unusedSimpArgs false
set_option linter.unusedVariables false
/-- Any line of a word or more. -/
theorem rtake_any (W1 w : World) (k : Nat) (S : ScrV) (h : List UInt8) (rest : List (List UInt8)) (g off cap : Nat) (v : Value) (hkm : k ≤ 1099511627776) (hB : Below W1.heap.size W1 w) (hS : RSt w W1.heap.size v S) (c0 : w.cell? ⟨g, off, none⟩ = some (.string (bs h))) (hr : Txt w (some ⟨g, off + 1, none⟩) rest) (hsh : Full rest) (hcap : rest.length + 1 ≤ cap) (hL : S.clients.length ≤ 1099511627776) (hlast : ∀ l ∈ S.clients, l.length ≤ 1099511627776) :
    Calls Tryd.prog 35 #[v, .int .i64 (k : Int), .slice (some ⟨g, off, none⟩) (rest.length + 1) cap] w (RTakePost W1 w (stepL k S (h :: rest))) := by
  by_cases k0 : k = 0
  · subst k0
    exact rtake_0 W1 w S h rest g off cap v hB hS c0 hr hsh hcap
  · by_cases k1 : k = 1
    · subst k1
      exact rtake_1 W1 w S h rest g off cap v hB hS c0 hr hsh hcap
    · by_cases k2 : k = 2
      · subst k2
        exact rtake_2 W1 w S h rest g off cap v hB hS c0 hr hsh hcap
      · by_cases hc : h = clientW
        · exact rtake_client W1 w k S h rest g off cap v (by omega) hkm hB hS c0 hc hsh hL
        · exact rtake_call W1 w k S h rest g off cap v (by omega) hkm hB hS c0 hr hc hsh hcap hL hlast
theorem rwp_get {l : List UInt8} {w w' : World} {e : Ending} {ws : List (List UInt8)} (hp : RWordPost l w e w') (h : wordsOf l = some ws) :
    ∃ a c, e = .returned (.tuple #[.slice a ws.length c, .bool true]) ∧ w'.ownsRow w.heap.size 9 1 (.slice a ws.length c) ws.length (ws.map fun l => .string (bs l)) ∧ Below w.heap.size w w' := by
  obtain ⟨hb, h2⟩ := hp
  rw [h] at h2
  obtain ⟨v, h3, h4⟩ := h2
  obtain ⟨a, c, rfl⟩ := own_slice h4
  exact ⟨a, c, h3, h4, hb⟩
theorem rwp_no {l : List UInt8} {w w' : World} {e : Ending} (hp : RWordPost l w e w') (h : wordsOf l = none) : e = .returned (.tuple #[.slice none 0 0, .bool false]) ∧ Below w.heap.size w w' := by
  obtain ⟨hb, h2⟩ := hp
  rw [h] at h2
  exact ⟨h2, hb⟩
theorem rtp_get {W1 w w' : World} {r : Option ScrV} {e : Ending} {S : ScrV} (h : RTakePost W1 w r e w') (hr : r = some S) : Below W1.heap.size W1 w' ∧ KeptC w w' ∧ ∃ v, e = .returned (.tuple #[v, .bool true]) ∧ RSt w' W1.heap.size v S := by
  subst hr; exact h
theorem rtp_no {W1 w w' : World} {r : Option ScrV} {e : Ending} (h : RTakePost W1 w r e w') (hr : r = none) : Below W1.heap.size W1 w' ∧ KeptC w w' ∧ ∃ x y aC nC cC aP nP cP aT nT cT, e = .returned (.tuple #[.agg #[.int .i64 x, .int .i64 y, .slice aC nC cC, .slice aP nP cP, .slice aT nT cT], .bool false]) := by
  subst hr; exact h
/-- Blocks of other kinds than scripts are kept. -/
structure KeptS (w w' : World) : Prop where
  size : w.heap.size ≤ w'.heap.size
  same : ∀ (g : Nat) (cs : Array Value) (T : TypeId) (f : Nat × Nat), w.heap[g]? = some (.cells cs T f) → T ≠ 44 → w'.heap[g]? = w.heap[g]?
theorem KeptS.refl (w : World) : KeptS w w := ⟨Nat.le_refl _, fun _ _ _ _ _ _ => rfl⟩
theorem KeptS.trans {a b c : World} (h : KeptS a b) (k : KeptS b c) : KeptS a c := ⟨Nat.le_trans h.size k.size, fun g cs T f hg hT => (k.same g cs T f ((h.same g cs T f hg hT).trans hg) hT).trans (h.same g cs T f hg hT)⟩
theorem KeptS.of_below {w w' : World} (h : Below w.heap.size w w') : KeptS w w' := ⟨h.size, fun g cs T f hg _ => h.block g (Array.getElem?_eq_some_iff.1 hg).1⟩
theorem KeptS.setCell {w0 w : World} {b o : Nat} {v : Value} {cs : Array Value} {f : Nat × Nat} (h0 : KeptS w0 w) (h : w.heap[b]? = some (.cells cs 44 f)) : KeptS w0 (w.setCell ⟨b, o, none⟩ v) :=
  h0.trans ⟨by simp, fun g cs' T f' hg hT => Below.heap_setCell _ _ _ _ (by
    show g ≠ b
    intro e
    subst e
    rw [hg] at h
    cases h
    exact hT rfl)⟩
theorem KeptS.kept {w w' : World} (h : KeptS w w') (B : Nat) : Kept B w w' := ⟨fun g cs f hg => h.same g cs _ f hg (by decide), fun g cs f hg => h.same g cs _ f hg (by decide), fun g cs f _ hg => h.same g cs _ f hg (by decide)⟩
theorem RSt.keepS {w w' : World} {base : Nat} {v : Value} {X : ScrV} (h : RSt w base v X) (hk : KeptS w w') : RSt w' base v X := by
  obtain ⟨aC, cC, aP, cP, aT, cT, rfl, hP, hT, cells, ho, hr⟩ := h
  refine ⟨aC, cC, aP, cP, aT, cT, rfl, hP.keep (hk.kept 0), hT.keep (hk.kept 0), cells, ⟨ho.1, ?_⟩, fun i hi => ?_⟩
  · rcases ho.2 with hn | ⟨g, cap, cur, e, hbg, hg, rest⟩
    · exact .inl hn
    · exact .inr ⟨g, cap, cur, e, hbg, (hk.same g cur _ _ hg (by decide)).trans hg, rest⟩
  · obtain ⟨a, c, e1, e2, e3⟩ := hr i hi
    exact ⟨a, c, e1, (e2.keep (hk.kept _)).mono hk.size, e3⟩
/-- Five cells of a block of a script set. -/
theorem set5 {w0 w : World} {b : Nat} {cs : Array Value} (hk : KeptS w0 w) (h : w.heap[b]? = some (.cells cs 44 (0, 0))) (h5 : cs.size = 5) (v0 v1 v2 v3 v4 : Value) :
    KeptS w0 (((((w.setCell ⟨b, 0, none⟩ v0).setCell ⟨b, 1, none⟩ v1).setCell ⟨b, 2, none⟩ v2).setCell ⟨b, 3, none⟩ v3).setCell ⟨b, 4, none⟩ v4) ∧
    (((((w.setCell ⟨b, 0, none⟩ v0).setCell ⟨b, 1, none⟩ v1).setCell ⟨b, 2, none⟩ v2).setCell ⟨b, 3, none⟩ v3).setCell ⟨b, 4, none⟩ v4).heap[b]? = some (.cells #[v0, v1, v2, v3, v4] 44 (0, 0)) ∧
    (∀ q, q ≠ b → (((((w.setCell ⟨b, 0, none⟩ v0).setCell ⟨b, 1, none⟩ v1).setCell ⟨b, 2, none⟩ v2).setCell ⟨b, 3, none⟩ v3).setCell ⟨b, 4, none⟩ v4).heap[q]? = w.heap[q]?) := by
  have e0 := heap_set_at (o := 0) v0 h
  have e1 := heap_set_at (o := 1) v1 e0
  have e2 := heap_set_at (o := 2) v2 e1
  have e3 := heap_set_at (o := 3) v3 e2
  have e4 := heap_set_at (o := 4) v4 e3
  refine ⟨((((hk.setCell h).setCell e0).setCell e1).setCell e2).setCell e3, ?_, fun q hq => ?_⟩
  · have hc : (((((cs.setIfInBounds 0 v0).setIfInBounds 1 v1).setIfInBounds 2 v2).setIfInBounds 3 v3).setIfInBounds 4 v4) = #[v0, v1, v2, v3, v4] := by
      clear e0 e1 e2 e3 e4 h hk
      match cs, h5 with
      | ⟨[_, _, _, _, _]⟩, _ => rfl
    rw [hc] at e4
    exact e4
  · rw [Below.heap_setCell _ _ _ _ hq, Below.heap_setCell _ _ _ _ hq, Below.heap_setCell _ _ _ _ hq, Below.heap_setCell _ _ _ _ hq, Below.heap_setCell _ _ _ _ hq]
/-- What the reference's Parse answers. -/
def RParsePost (s : ByteArray) (w : World) (e : Ending) (w' : World) : Prop := Below w.heap.size w w' ∧ match parseL 0 S0 s.data.toList with
  | .error n => e = .returned (.tuple #[zeroScr, .int .i64 (n : Int)])
  | .ok p => if p.1 < 3 then e = .returned (.tuple #[zeroScr, .int .i64 ((p.1 : Int) + 1)]) else
    ∃ v, e = .returned (.tuple #[v, .int .i64 0]) ∧ RSt w' w.heap.size v p.2
theorem full_of {l h : List UInt8} {rest : List (List UInt8)} (hw : wordsOf l = some (h :: rest)) (hl : l.length ≤ 1048570) : Full rest := by
  obtain ⟨h1, h2⟩ := glue_short (h :: rest)
  rw [glue_of hw] at h1 h2
  refine ⟨by simp at h2; omega, fun x hx => ⟨fun e => ?_, ?_⟩⟩
  · subst e
    unfold wordsOf at hw
    split at hw
    · cases hw
    · split at hw
      · cases hw
      · split at hw
        · cases hw
        · next hn =>
          have := Option.some.inj hw
          exact hn (by rw [this]; exact List.mem_cons_of_mem _ hx)
  · have := h1 x (List.mem_cons_of_mem _ hx)
    omega
theorem txt_own {w : World} {base n g c : Nat} {ws : List (List UInt8)} (h : w.ownsRow base 9 1 (.slice (some ⟨g, 0, none⟩) n c) n (ws.map fun l => .string (bs l))) : Txt w (some ⟨g, 0, none⟩) ws := fun i hi => by
  have hc := (own_cell (i := i) (u := .string (bs (ws[i]'hi))) h (by simp [hi])).1
  exact ⟨g, 0, rfl, World.block_lt_of_cell? w _ hc, by rw [Nat.zero_add]; exact hc⟩
/-- The loop of lines: at a, k lines behind. -/
structure RLoop (s : ByteArray) (w : World) (g : Nat) (nv av : Value) (wr : World) (a k : Nat) (S : ScrV) : Prop where
  hnv : nv = .int .i64 (k : Int)
  hav : av = .int .i64 (a : Int)
  ha : a ≤ s.size
  hg : g = s.size - a
  below : Below w.heap.size w wr
  size : w.heap.size + 2 ≤ wr.heap.size
  res : wr.heap[w.heap.size]? = some (.cells zeroS 44 (0, 0))
  st : ∃ aC cC aP cP aT cT, wr.heap[w.heap.size + 1]? = some (.cells #[.int .i64 S.stripes, .int .i64 S.room, .slice aC S.clients.length cC, .slice aP S.picks.length cP, .slice aT S.ticks.length cT] 44 (0, 0)) ∧ RSt wr w.heap.size (.agg #[.int .i64 S.stripes, .int .i64 S.room, .slice aC S.clients.length cC, .slice aP S.picks.length cP, .slice aT S.ticks.length cT]) S
  hk : k ≤ a
  hc : S.clients.length ≤ a
  hl : ∀ l ∈ S.clients, l.length ≤ a
  left : parseL k S (s.data.toList.drop a) = parseL 0 S0 s.data.toList
set_option maxRecDepth 100000 in
set_option maxHeartbeats 4000000 in
theorem rparse_any (s : ByteArray) (w : World) (hs : s.size ≤ 1048570) : Calls Tryd.prog 18 #[.string s] w (RParsePost s w) := by
  obtain ⟨W0, hW0⟩ : ∃ W0, W0 = (w.alloc (.cells zeroS 44)).alloc (.cells zeroS 44) := ⟨_, rfl⟩
  have hb0 : Below w.heap.size w W0 := by rw [hW0]; exact ((Below.refl _ _).alloc (Nat.le_refl _) _).alloc (by simp) _
  have g0 : W0.heap[w.heap.size]? = some (.cells zeroS 44 (0, 0)) := by rw [hW0, Lib.alloc_old _ _ _ (by simp)]; exact heap_alloc_new w _
  have g1 : W0.heap[w.heap.size + 1]? = some (.cells zeroS 44 (0, 0)) := by
    rw [hW0]
    have := heap_alloc_new (w.alloc (.cells zeroS 44)) (.cells zeroS 44)
    simpa using this
  have hz : W0.heap.size = w.heap.size + 2 := by rw [hW0]; simp
  have HL0 : Hid (RLoop s w s.size (.int .i64 0) (.int .i64 0) W0 0 0 S0) := Lib.hid
    { hnv := rfl, hav := rfl, ha := Nat.zero_le _, hg := rfl, below := hb0, size := by omega, res := g0,
      st := ⟨none, 0, none, 0, none, 0, g1, RSt.mk' (S := S0) (IntV.nil _) (IntV.nil _) ⟨[], World.ownsRow_nil _ _ _ _, fun i h => by simp [S0] at h⟩⟩,
      hk := Nat.le_refl _, hc := by simp [S0], hl := by simp [S0], left := rfl }
  clear hb0 g0 g1 hz
  go_enter Tryd.func18, Tryd.ntmps18
  go_wp2_with fail
  rw [← hW0]
  clear hW0
  go_loopg [5, 6] s.size (fun g nv av wr => ∃ a k S, RLoop s w g nv av wr a k S)
  case atStart => exact ⟨0, 0, S0, HL0.out⟩
  case round =>
    obtain ⟨a, k, S, rfl, rfl, ha, rfl, hbw, hsz, hres, hst, hk, hc, hl, hleft⟩ := hrel
    obtain ⟨wo, rfl⟩ : ∃ wo : World, wo = wr := ⟨_, rfl⟩
    obtain ⟨aC, cC, aP, cP, aT, cT, hg1, hrs⟩ := hst
    have HBW := Lib.hid hbw
    have HRES := Lib.hid hres
    have HST := Lib.hid hg1
    have HRS := Lib.hid hrs
    have HLF := Lib.hid hleft
    have HHL := Lib.hid hl
    by_cases hlt : a < s.size
    · have hne : s.data.toList.drop a ≠ [] := fun e => by
        have := congrArg List.length e
        simp at this
        have e2 : s.data.size = s.size := rfl
        omega
      have hN0 : w.heap.size < wo.heap.size := by omega
      have hN1 : w.heap.size + 1 < wo.heap.size := by omega
      rcases firstLF_or s a with ⟨i, hi⟩ | hno
      · have HI := Lib.hid hi
        have hil := hi.le
        have hit := hi.lt
        have hll := lineL_first hi
        have hsx : (s.extract a i).size = i - a := by rw [ByteArray.size_extract]; omega
        have HSX : Hid ((s.extract a i).size ≤ 1048576) := Lib.hid (by omega)
        cases hw : wordsOf (s.extract a i).data.toList with
        | none =>
          have HPL : Hid (parseL 0 S0 s.data.toList = .error (k + 1)) := Lib.hid (by rw [← hleft, parseL_bad hne hll (by rw [lineStep, hw]; rfl)])
          have HW := Lib.hid hw
          clear hbw hres hg1 hrs hleft hl hne hi hll hsx hw
          go_wp2_with (first
            | (go_at_call 33; (with_reducible refine (rline_yes s a i _ (by omega) HI.out).mono ?_); rintro e w2 ⟨rfl, rfl⟩)
            | (go_at_call 34; (with_reducible refine (rwords _ _ HSX.out).mono ?_); rintro e w2 hp; obtain ⟨rfl, hb2⟩ := rwp_no hp HW.out; clear hp; have zz := (hb2.block _ hN0).trans HRES.out; have y0 : w2.cell? ⟨w.heap.size, 0, none⟩ = some (.int .i64 0) := cell_at zz rfl; have y1 : w2.cell? ⟨w.heap.size, 1, none⟩ = some (.int .i64 0) := cell_at zz rfl; have y2 : w2.cell? ⟨w.heap.size, 2, none⟩ = some (.slice none 0 0) := cell_at zz rfl; have y3 : w2.cell? ⟨w.heap.size, 3, none⟩ = some (.slice none 0 0) := cell_at zz rfl; have y4 : w2.cell? ⟨w.heap.size, 4, none⟩ = some (.slice none 0 0) := cell_at zz rfl; have yf : ∀ o, w2.frozen? ⟨w.heap.size, o, none⟩ = false := fun o => free_at zz; have HB2 : Hid (Below w.heap.size w w2) := Lib.hid (HBW.out.trans (hb2.mono HBW.out.size)); clear zz hb2))
          refine bodyPost_ret (v := .tuple #[zeroScr, .int .i64 ((k : Int) + 1)]) (by simp [results, Tryd.results18, go_sem, *]) rfl ?_
          exact ⟨by
            have hbx := HB2.out
            (repeat' (first | with_reducible assumption | with_reducible refine Below.drew ?_ | (with_reducible refine Below.alloc ?_ (by first | assumption | (simp; done) | (simp; omega)) _) | (with_reducible refine Below.setCell ?_ (by first | (show w.heap.size ≤ w.heap.size; omega) | (show w.heap.size ≤ w.heap.size + 1; omega) | (show w.heap.size ≤ w2.heap.size; omega)) _))), by rw [HPL.out]; rfl⟩
        | some ws =>
          cases ws with
          | nil =>
            have HPL : Hid (parseL 0 S0 s.data.toList = .error (k + 1)) := Lib.hid (by rw [← hleft, parseL_bad hne hll (by rw [lineStep, hw]; rfl)])
            have HW := Lib.hid hw
            clear hbw hres hg1 hrs hleft hl hne hi hll hsx hw
            go_wp2_with (first
              | (go_at_call 33; (with_reducible refine (rline_yes s a i _ (by omega) HI.out).mono ?_); rintro e w2 ⟨rfl, rfl⟩)
              | (go_at_call 34; (with_reducible refine (rwords _ _ HSX.out).mono ?_); rintro e w2 hp; obtain ⟨a2, c2, rfl, ho2, hb2⟩ := rwp_get hp HW.out; clear hp ho2; have zz := (hb2.block _ hN0).trans HRES.out; have y0 : w2.cell? ⟨w.heap.size, 0, none⟩ = some (.int .i64 0) := cell_at zz rfl; have y1 : w2.cell? ⟨w.heap.size, 1, none⟩ = some (.int .i64 0) := cell_at zz rfl; have y2 : w2.cell? ⟨w.heap.size, 2, none⟩ = some (.slice none 0 0) := cell_at zz rfl; have y3 : w2.cell? ⟨w.heap.size, 3, none⟩ = some (.slice none 0 0) := cell_at zz rfl; have y4 : w2.cell? ⟨w.heap.size, 4, none⟩ = some (.slice none 0 0) := cell_at zz rfl; have yf : ∀ o, w2.frozen? ⟨w.heap.size, o, none⟩ = false := fun o => free_at zz; have HB2 : Hid (Below w.heap.size w w2) := Lib.hid (HBW.out.trans (hb2.mono HBW.out.size)); clear zz hb2))
            refine bodyPost_ret (v := .tuple #[zeroScr, .int .i64 ((k : Int) + 1)]) (by simp [results, Tryd.results18, go_sem, *]) rfl ?_
            exact ⟨by
              have hbx := HB2.out
              (repeat' (first | with_reducible assumption | with_reducible refine Below.drew ?_ | (with_reducible refine Below.alloc ?_ (by first | assumption | (simp; done) | (simp; omega)) _) | (with_reducible refine Below.setCell ?_ (by first | (show w.heap.size ≤ w.heap.size; omega) | (show w.heap.size ≤ w.heap.size + 1; omega) | (show w.heap.size ≤ w2.heap.size; omega)) _))), by rw [HPL.out]; rfl⟩
          | cons h rest =>
            have HF := Lib.hid (full_of hw (by
              have : (s.extract a i).data.toList.length = (s.extract a i).size := by rw [Array.length_toList]; rfl
              omega))
            have HLE : Hid (∀ S', stepL k S (h :: rest) = some S' → (S'.clients.length ≤ a + 1 ∧ ∀ l ∈ S'.clients, l.length ≤ a + 1)) := Lib.hid fun S' hs => stepL_le hs hc hl
            cases hst : stepL k S (h :: rest) with
            | none =>
              have HPL : Hid (parseL 0 S0 s.data.toList = .error (k + 1)) := Lib.hid (by rw [← hleft, parseL_bad hne hll (by rw [lineStep, hw]; exact hst)])
              have HW := Lib.hid hw
              have HS := Lib.hid hst
              clear hbw hres hg1 hrs hleft hl hne hi hll hsx hw hst
              go_wp2_with (first
                | (go_at_call 33; (with_reducible refine (rline_yes s a i _ (by omega) HI.out).mono ?_); rintro e w2 ⟨rfl, rfl⟩)
                | (go_at_call 34; (with_reducible refine (rwords _ _ HSX.out).mono ?_); rintro e w2 hp; obtain ⟨a2, c2, rfl, ho2, hb2⟩ := rwp_get hp HW.out; obtain ⟨g2, c2', hv, _⟩ := own_some ho2 (by simp); cases hv; have d0 := (own_cell (i := 0) ho2 rfl).1; have HC2 : Hid (rest.length + 1 ≤ c2) := Lib.hid (own_cap_le ho2); have HTX : Hid (Txt w2 (some ⟨g2, 0 + 1, none⟩) rest) := Lib.hid (Txt.drop (ws := h :: rest) (txt_own ho2) 1); have HKS := Lib.hid (KeptS.of_below hb2); have zz := (hb2.block _ hN0).trans HRES.out; have uu := (hb2.block _ hN1).trans HST.out; have HZZ := Lib.hid zz; have HUU := Lib.hid uu; have x0 : w2.cell? ⟨w.heap.size + 1, 0, none⟩ = some (.int .i64 S.stripes) := cell_at uu rfl; have x1 : w2.cell? ⟨w.heap.size + 1, 1, none⟩ = some (.int .i64 S.room) := cell_at uu rfl; have x2 : w2.cell? ⟨w.heap.size + 1, 2, none⟩ = some (.slice aC S.clients.length cC) := cell_at uu rfl; have x3 : w2.cell? ⟨w.heap.size + 1, 3, none⟩ = some (.slice aP S.picks.length cP) := cell_at uu rfl; have x4 : w2.cell? ⟨w.heap.size + 1, 4, none⟩ = some (.slice aT S.ticks.length cT) := cell_at uu rfl; have HB2 : Hid (Below w.heap.size w w2) := Lib.hid (HBW.out.trans (hb2.mono HBW.out.size)); have hz2 := hb2.size; clear zz uu hb2 ho2 hp)
                | (go_at_call 35; (with_reducible refine (rtake_any w w2 k S h rest g2 0 c2 _ (by omega) HB2.out (HRS.out.keepS HKS.out) d0 HTX.out HF.out HC2.out (by omega) (fun l hl => by have := HHL.out l hl; omega)).mono ?_); rintro e w3 hp; obtain ⟨hb3, hk3, e1, e2, e3, e4, e5, e6, e7, e8, e9, e10, e11, rfl⟩ := rtp_no hp HS.out; have zz := (hk3.same _ _ _ _ HZZ.out (by decide)).trans HZZ.out; have uu := (hk3.same _ _ _ _ HUU.out (by decide)).trans HUU.out; have hz3 := hk3.size; have hM0 : w.heap.size < w3.heap.size := (by omega); have hM1 : w.heap.size + 1 < w3.heap.size := (by omega); have HB3 := Lib.hid hb3; have y0 : w3.cell? ⟨w.heap.size, 0, none⟩ = some (.int .i64 0) := cell_at zz rfl; have y1 : w3.cell? ⟨w.heap.size, 1, none⟩ = some (.int .i64 0) := cell_at zz rfl; have y2 : w3.cell? ⟨w.heap.size, 2, none⟩ = some (.slice none 0 0) := cell_at zz rfl; have y3 : w3.cell? ⟨w.heap.size, 3, none⟩ = some (.slice none 0 0) := cell_at zz rfl; have y4 : w3.cell? ⟨w.heap.size, 4, none⟩ = some (.slice none 0 0) := cell_at zz rfl; have yf : ∀ o, w3.frozen? ⟨w.heap.size, o, none⟩ = false := fun o => free_at zz; have t0 : w3.cell? ⟨w.heap.size + 1, 0, none⟩ = some (.int .i64 S.stripes) := cell_at uu rfl; have t1 : w3.cell? ⟨w.heap.size + 1, 1, none⟩ = some (.int .i64 S.room) := cell_at uu rfl; have t2 : w3.cell? ⟨w.heap.size + 1, 2, none⟩ = some (.slice aC S.clients.length cC) := cell_at uu rfl; have t3 : w3.cell? ⟨w.heap.size + 1, 3, none⟩ = some (.slice aP S.picks.length cP) := cell_at uu rfl; have t4 : w3.cell? ⟨w.heap.size + 1, 4, none⟩ = some (.slice aT S.ticks.length cT) := cell_at uu rfl; have tf : ∀ o, w3.frozen? ⟨w.heap.size + 1, o, none⟩ = false := fun o => free_at uu; have HZ3 := Lib.hid zz; have HU3 := Lib.hid uu; have HK3 := Lib.hid hk3; clear zz uu hb3 hk3 hp))
              refine bodyPost_ret (v := .tuple #[zeroScr, .int .i64 ((k : Int) + 1)]) (by simp [results, Tryd.results18, go_sem, *]) rfl ?_
              exact ⟨by
                have hbx := HB3.out
                (repeat' (first | with_reducible assumption | with_reducible refine Below.drew ?_ | (with_reducible refine Below.alloc ?_ (by first | assumption | (simp; done) | (simp; omega)) _) | (with_reducible refine Below.setCell ?_ (by first | (show w.heap.size ≤ w.heap.size; omega) | (show w.heap.size ≤ w.heap.size + 1; omega) | (show w.heap.size ≤ w2.heap.size; omega)) _))), by rw [HPL.out]; rfl⟩
            | some S' =>
              have HNX : Hid (parseL (k + 1) S' (s.data.toList.drop (i + 1)) = parseL 0 S0 s.data.toList) := Lib.hid (by rw [← hleft, parseL_go hne hll (by rw [lineStep, hw]; exact hst)])
              have HW := Lib.hid hw
              have HS := Lib.hid hst
              clear hbw hres hg1 hrs hleft hl hne hi hll hsx hw hst
              go_wp2_with (first
                | (go_at_call 33; (with_reducible refine (rline_yes s a i _ (by omega) HI.out).mono ?_); rintro e w2 ⟨rfl, rfl⟩)
                | (go_at_call 34; (with_reducible refine (rwords _ _ HSX.out).mono ?_); rintro e w2 hp; obtain ⟨a2, c2, rfl, ho2, hb2⟩ := rwp_get hp HW.out; obtain ⟨g2, c2', hv, _⟩ := own_some ho2 (by simp); cases hv; have d0 := (own_cell (i := 0) ho2 rfl).1; have HC2 : Hid (rest.length + 1 ≤ c2) := Lib.hid (own_cap_le ho2); have HTX : Hid (Txt w2 (some ⟨g2, 0 + 1, none⟩) rest) := Lib.hid (Txt.drop (ws := h :: rest) (txt_own ho2) 1); have HKS := Lib.hid (KeptS.of_below hb2); have zz := (hb2.block _ hN0).trans HRES.out; have uu := (hb2.block _ hN1).trans HST.out; have HZZ := Lib.hid zz; have HUU := Lib.hid uu; have x0 : w2.cell? ⟨w.heap.size + 1, 0, none⟩ = some (.int .i64 S.stripes) := cell_at uu rfl; have x1 : w2.cell? ⟨w.heap.size + 1, 1, none⟩ = some (.int .i64 S.room) := cell_at uu rfl; have x2 : w2.cell? ⟨w.heap.size + 1, 2, none⟩ = some (.slice aC S.clients.length cC) := cell_at uu rfl; have x3 : w2.cell? ⟨w.heap.size + 1, 3, none⟩ = some (.slice aP S.picks.length cP) := cell_at uu rfl; have x4 : w2.cell? ⟨w.heap.size + 1, 4, none⟩ = some (.slice aT S.ticks.length cT) := cell_at uu rfl; have HB2 : Hid (Below w.heap.size w w2) := Lib.hid (HBW.out.trans (hb2.mono HBW.out.size)); have hz2 := hb2.size; clear zz uu hb2 ho2 hp)
                | (go_at_call 35; (with_reducible refine (rtake_any w w2 k S h rest g2 0 c2 _ (by omega) HB2.out (HRS.out.keepS HKS.out) d0 HTX.out HF.out HC2.out (by omega) (fun l hl => by have := HHL.out l hl; omega)).mono ?_); rintro e w3 hp; obtain ⟨hb3, hk3, v3, rfl, hrs3⟩ := rtp_get hp HS.out; obtain ⟨bC, dC, bP, dP, bT, dT, rfl, hrs4⟩ := hrs3.get; have HR3 := Lib.hid hrs3; clear hrs3 hrs4; have zz := (hk3.same _ _ _ _ HZZ.out (by decide)).trans HZZ.out; have uu := (hk3.same _ _ _ _ HUU.out (by decide)).trans HUU.out; have hz3 := hk3.size; have hM0 : w.heap.size < w3.heap.size := (by omega); have hM1 : w.heap.size + 1 < w3.heap.size := (by omega); have HB3 := Lib.hid hb3; have y0 : w3.cell? ⟨w.heap.size, 0, none⟩ = some (.int .i64 0) := cell_at zz rfl; have y1 : w3.cell? ⟨w.heap.size, 1, none⟩ = some (.int .i64 0) := cell_at zz rfl; have y2 : w3.cell? ⟨w.heap.size, 2, none⟩ = some (.slice none 0 0) := cell_at zz rfl; have y3 : w3.cell? ⟨w.heap.size, 3, none⟩ = some (.slice none 0 0) := cell_at zz rfl; have y4 : w3.cell? ⟨w.heap.size, 4, none⟩ = some (.slice none 0 0) := cell_at zz rfl; have yf : ∀ o, w3.frozen? ⟨w.heap.size, o, none⟩ = false := fun o => free_at zz; have t0 : w3.cell? ⟨w.heap.size + 1, 0, none⟩ = some (.int .i64 S.stripes) := cell_at uu rfl; have t1 : w3.cell? ⟨w.heap.size + 1, 1, none⟩ = some (.int .i64 S.room) := cell_at uu rfl; have t2 : w3.cell? ⟨w.heap.size + 1, 2, none⟩ = some (.slice aC S.clients.length cC) := cell_at uu rfl; have t3 : w3.cell? ⟨w.heap.size + 1, 3, none⟩ = some (.slice aP S.picks.length cP) := cell_at uu rfl; have t4 : w3.cell? ⟨w.heap.size + 1, 4, none⟩ = some (.slice aT S.ticks.length cT) := cell_at uu rfl; have tf : ∀ o, w3.frozen? ⟨w.heap.size + 1, o, none⟩ = false := fun o => free_at uu; have HZ3 := Lib.hid zz; have HU3 := Lib.hid uu; have HK3 := Lib.hid hk3; clear zz uu hb3 hk3 hp))
              obtain ⟨h51, h52, h53⟩ := set5 (KeptS.refl w3) HU3.out rfl (.int .i64 S'.stripes) (.int .i64 S'.room) (.slice bC S'.clients.length dC) (.slice bP S'.picks.length dP) (.slice bT S'.ticks.length dT)
              obtain ⟨w5, hw5⟩ : ∃ w5, w5 = ((((w3.setCell ⟨w.heap.size + 1, 0, none⟩ (.int .i64 S'.stripes)).setCell ⟨w.heap.size + 1, 1, none⟩ (.int .i64 S'.room)).setCell ⟨w.heap.size + 1, 2, none⟩ (.slice bC S'.clients.length dC)).setCell ⟨w.heap.size + 1, 3, none⟩ (.slice bP S'.picks.length dP)).setCell ⟨w.heap.size + 1, 4, none⟩ (.slice bT S'.ticks.length dT) := ⟨_, rfl⟩
              have hz5 : w5.heap.size = w3.heap.size := by rw [hw5]; simp
              have hb5 : Below w.heap.size w w5 := by
                rw [hw5]
                have hbx := HB3.out
                (repeat' (first | with_reducible assumption | with_reducible refine Below.drew ?_ | (with_reducible refine Below.alloc ?_ (by first | assumption | (simp; done) | (simp; omega)) _) | (with_reducible refine Below.setCell ?_ (by first | (show w.heap.size ≤ w.heap.size; omega) | (show w.heap.size ≤ w.heap.size + 1; omega) | (show w.heap.size ≤ w2.heap.size; omega)) _)))
              rw [← hw5] at h51 h52 h53 ⊢
              have HB5 := Lib.hid hb5
              clear hw5 hb5
              have H51 := Lib.hid h51
              have H52 := Lib.hid h52
              have H53 := Lib.hid h53
              clear h51 h52 h53
              go_roundg (s.size - (i + 1))
              case measure => omega
              case rel =>
                obtain ⟨c1, c3⟩ := HLE.out S' HS.out
                exact ⟨i + 1, k + 1, S',
                  { hnv := by go_num, hav := by go_num, ha := by omega, hg := rfl,
                    below := HB5.out.alloc HB5.out.size _,
                    size := by simp; omega,
                    res := (Lib.alloc_old _ _ _ (by omega)).trans ((H53.out _ (by omega)).trans HZ3.out),
                    st := ⟨bC, dC, bP, dP, bT, dT, (Lib.alloc_old _ _ _ (by omega)).trans H52.out, HR3.out.keepS (H51.out.trans (KeptS.of_below ((Below.refl _ _).alloc (Nat.le_refl _) _)))⟩,
                    hk := by omega, hc := by omega, hl := fun l hl => by have := c3 l hl; omega, left := HNX.out }⟩
      · have HNO := Lib.hid hno
        have HPL : Hid (parseL 0 S0 s.data.toList = .error (k + 1)) := Lib.hid (by rw [← hleft, parseL_no hne (lineL_no hno)])
        clear hbw hres hg1 hrs hleft hl hno hne
        go_wp2_with (first
          | (go_at_call 33; (with_reducible refine (rline_no s a _ (by omega) (.inr (fun j h1 h2 => HNO.out j (by omega) h2))).mono ?_); rintro e w2 ⟨rfl, rfl⟩)
          | (go_at_call 34; (with_reducible refine (rwords ⟨#[]⟩ _ (by decide)).mono ?_); rintro e w2 hp; obtain ⟨a2, c2, rfl, ho2, hb2⟩ := rwp_get (ws := []) hp rfl; clear hp ho2; have zz := (hb2.block _ hN0).trans HRES.out; have y0 : w2.cell? ⟨w.heap.size, 0, none⟩ = some (.int .i64 0) := cell_at zz rfl; have y1 : w2.cell? ⟨w.heap.size, 1, none⟩ = some (.int .i64 0) := cell_at zz rfl; have y2 : w2.cell? ⟨w.heap.size, 2, none⟩ = some (.slice none 0 0) := cell_at zz rfl; have y3 : w2.cell? ⟨w.heap.size, 3, none⟩ = some (.slice none 0 0) := cell_at zz rfl; have y4 : w2.cell? ⟨w.heap.size, 4, none⟩ = some (.slice none 0 0) := cell_at zz rfl; have yf : ∀ o, w2.frozen? ⟨w.heap.size, o, none⟩ = false := fun o => free_at zz; have HB2 : Hid (Below w.heap.size w w2) := Lib.hid (HBW.out.trans (hb2.mono HBW.out.size)); clear zz hb2))
        refine bodyPost_ret (v := .tuple #[zeroScr, .int .i64 ((k : Int) + 1)]) (by simp [results, Tryd.results18, go_sem, *]) rfl ?_
        exact ⟨by
          have hbx := HB2.out
          (repeat' (first | with_reducible assumption | with_reducible refine Below.drew ?_ | (with_reducible refine Below.alloc ?_ (by first | assumption | (simp; done) | (simp; omega)) _) | (with_reducible refine Below.setCell ?_ (by first | (show w.heap.size ≤ w.heap.size; omega) | (show w.heap.size ≤ w.heap.size + 1; omega) | (show w.heap.size ≤ w2.heap.size; omega)) _))), by rw [HPL.out]; rfl⟩
    · have he : a = s.size := by omega
      have hPL : parseL 0 S0 s.data.toList = .ok (k, S) := by
        rw [← hleft, List.drop_eq_nil_of_le (by rw [Array.length_toList]; show s.size ≤ a; omega), parseL_nil]
      have HPL := Lib.hid hPL
      have y0 : wo.cell? ⟨w.heap.size, 0, none⟩ = some (.int .i64 0) := cell_at hres rfl
      have y1 : wo.cell? ⟨w.heap.size, 1, none⟩ = some (.int .i64 0) := cell_at hres rfl
      have y2 : wo.cell? ⟨w.heap.size, 2, none⟩ = some (.slice none 0 0) := cell_at hres rfl
      have y3 : wo.cell? ⟨w.heap.size, 3, none⟩ = some (.slice none 0 0) := cell_at hres rfl
      have y4 : wo.cell? ⟨w.heap.size, 4, none⟩ = some (.slice none 0 0) := cell_at hres rfl
      have yf : ∀ o, wo.frozen? ⟨w.heap.size, o, none⟩ = false := fun o => free_at hres
      have x0 : wo.cell? ⟨w.heap.size + 1, 0, none⟩ = some (.int .i64 S.stripes) := cell_at hg1 rfl
      have x1 : wo.cell? ⟨w.heap.size + 1, 1, none⟩ = some (.int .i64 S.room) := cell_at hg1 rfl
      have x2 : wo.cell? ⟨w.heap.size + 1, 2, none⟩ = some (.slice aC S.clients.length cC) := cell_at hg1 rfl
      have x3 : wo.cell? ⟨w.heap.size + 1, 3, none⟩ = some (.slice aP S.picks.length cP) := cell_at hg1 rfl
      have x4 : wo.cell? ⟨w.heap.size + 1, 4, none⟩ = some (.slice aT S.ticks.length cT) := cell_at hg1 rfl
      have n1 : ¬ w.heap.size = w.heap.size + 1 := by omega
      have n2 : ¬ w.heap.size + 1 = w.heap.size := by omega
      clear hbw hres hg1 hrs hleft hl hPL
      by_cases hk3 : k < 3
      · go_wp2_with fail
        refine bodyPost_ret (v := .tuple #[zeroScr, .int .i64 ((k : Int) + 1)]) (by simp [results, Tryd.results18, go_sem, *]) rfl ?_
        exact ⟨by
          have hbx := HBW.out
          (repeat' (first | with_reducible assumption | with_reducible refine Below.drew ?_ | (with_reducible refine Below.alloc ?_ (by first | assumption | (simp; done) | (simp; omega)) _) | (with_reducible refine Below.setCell ?_ (by first | (show w.heap.size ≤ w.heap.size; omega) | (show w.heap.size ≤ w.heap.size + 1; omega) | (show w.heap.size ≤ w2.heap.size; omega)) _))), by
          rw [HPL.out]
          simp only
          rw [if_pos hk3]
          trivial⟩
      · have hk3' : ¬ (k : Int) < 3 := by omega
        go_wp2_with fail
        refine bodyPost_ret (v := .tuple #[.agg #[.int .i64 S.stripes, .int .i64 S.room, .slice aC S.clients.length cC, .slice aP S.picks.length cP, .slice aT S.ticks.length cT], .int .i64 0]) (by simp [results, Tryd.results18, go_sem, *]) rfl ?_
        exact ⟨by
          have hbx := HBW.out
          (repeat' (first | with_reducible assumption | with_reducible refine Below.drew ?_ | (with_reducible refine Below.alloc ?_ (by first | assumption | (simp; done) | (simp; omega)) _) | (with_reducible refine Below.setCell ?_ (by first | (show w.heap.size ≤ w.heap.size; omega) | (show w.heap.size ≤ w.heap.size + 1; omega) | (show w.heap.size ≤ w2.heap.size; omega)) _))), by
          rw [HPL.out]
          simp only
          rw [if_neg hk3]
          exact ⟨_, rfl, HRS.out.keepS (set5 (KeptS.refl _) HRES.out rfl _ _ _ _ _).1⟩⟩
end Go.Proofs.YtplhmcmfdcklaaaDoor.Lex
/- Two scripts that are alike: the law's own test says so. -/
namespace Go.Proofs.YtplhmcmfdcklaaaDoor.Lex
open Go.RowKit
set_option linter.unusedSimpArgs false
set_option linter.unusedVariables false
set_option maxRecDepth 100000 in
set_option maxHeartbeats 1000000 in
theorem isame_yes (xs : List Int) (a1 a2 : Option Addr) (c1 c2 : Nat) (w : World) (hn : xs.length ≤ 9223372036854775807) (h1 : Ints w a1 xs) (h2 : Ints w a2 xs) :
    Calls Tryd.prog 32 #[.slice a1 xs.length c1, .slice a2 xs.length c2] w fun e w' => e = .returned (.bool true) ∧ ∃ d, w' = w.drewN d := by
  have H1 := Lib.hid h1
  have H2 := Lib.hid h2
  clear h1 h2
  go_enter Tryd.func32, Tryd.ntmps32
  go_wp2_with fail
  go_loopg [5] xs.length (fun g iv wr => ∃ k d : Nat, k ≤ xs.length ∧ g = xs.length - k ∧ iv = .int .i64 k ∧ wr = w.drewN d)
  case atStart => exact ⟨0, 0, Nat.zero_le _, rfl, rfl, rfl⟩
  case round =>
    obtain ⟨k, d, hk, rfl, rfl, rfl⟩ := hrel
    by_cases hlt : k < xs.length
    · obtain ⟨g1, o1, rfl, _, d1, _⟩ := H1.out k hlt
      obtain ⟨g2, o2, rfl, _, d2, _⟩ := H2.out k hlt
      generalize xs[k]'hlt = z at *
      go_wp2_with fail
      go_quiet (fail)
      go_wp2_with fail
      go_roundg (xs.length - (k + 1))
      case measure => omega
      case rel => exact ⟨k + 1, _, by omega, rfl, by go_num, rfl⟩
    · go_wp2_with fail
      go_ret
      exact ⟨rfl, d, rfl⟩
/-- A row of calls, cell by cell. -/
def CallP (w : World) (a : Option Addr) (l : List CallV) : Prop := ∀ k (h : k < l.length), ∃ g off ax cx, a = some ⟨g, off, none⟩ ∧ g < w.heap.size ∧
  w.cell? ⟨g, off + k * 7, none⟩ = some (.int .i64 (l[k]'h).kind) ∧ w.cell? ⟨g, off + k * 7 + 1, none⟩ = some (.int .i64 (l[k]'h).n) ∧ w.cell? ⟨g, off + k * 7 + 2, none⟩ = some (.int .i64 (l[k]'h).dir) ∧
  w.cell? ⟨g, off + k * 7 + 3, none⟩ = some (.string (l[k]'h).text) ∧ w.cell? ⟨g, off + k * 7 + 4, none⟩ = some (.int .i64 (l[k]'h).who) ∧ w.cell? ⟨g, off + k * 7 + 5, none⟩ = some (.int .i64 (l[k]'h).at_) ∧
  w.cell? ⟨g, off + k * 7 + 6, none⟩ = some (.slice ax (l[k]'h).xs.length cx) ∧ U64s w ax (l[k]'h).xs ∧ (l[k]'h).xs.length ≤ cx ∧ (ax = none → cx = 0)
theorem CallP.keep {w w' : World} {a : Option Addr} {l : List CallV} (h : CallP w a l) (hb : Below w.heap.size w w') : CallP w' a l := fun k hk => by
  obtain ⟨g, off, ax, cx, h1, h2, c0, c1, c2, c3, c4, c5, c6, hu, hr⟩ := h k hk
  have e : ∀ i, w'.cell? ⟨g, i, none⟩ = w.cell? ⟨g, i, none⟩ := fun i => hb.cell (p := ⟨g, i, none⟩) h2
  exact ⟨g, off, ax, cx, h1, Nat.lt_of_lt_of_le h2 hb.size, (e _).trans c0, (e _).trans c1, (e _).trans c2, (e _).trans c3, (e _).trans c4, (e _).trans c5, (e _).trans c6, hu.keep hb, hr⟩
/-- Rows of rows of calls. -/
def RowsP (w : World) (a : Option Addr) (L : List (List CallV)) : Prop := ∀ i (h : i < L.length), ∃ g off ax cx, a = some ⟨g, off, none⟩ ∧ g < w.heap.size ∧ w.cell? ⟨g, off + i, none⟩ = some (.slice ax (L[i]'h).length cx) ∧ CallP w ax (L[i]'h)
theorem RowsP.keep {w w' : World} {a : Option Addr} {L : List (List CallV)} (h : RowsP w a L) (hb : Below w.heap.size w w') : RowsP w' a L := fun i hi => by
  obtain ⟨g, off, ax, cx, h1, h2, c0, hr⟩ := h i hi
  exact ⟨g, off, ax, cx, h1, Nat.lt_of_lt_of_le h2 hb.size, (hb.cell (p := ⟨g, off + i, none⟩) h2).trans c0, hr.keep hb⟩
theorem CallT.plain {w : World} {B : Nat} {a : Option Addr} {l : List CallV} (h : CallT w B a l) : CallP w a l := fun k hk => by
  obtain ⟨g, off, cs, f, ax, cx, h1, _, h2, c0, c1, c2, c3, c4, c5, c6, hu, hr⟩ := h k hk
  exact ⟨g, off, ax, cx, h1, (Array.getElem?_eq_some_iff.1 h2).1, cell_at h2 c0, cell_at h2 c1, cell_at h2 c2, cell_at h2 c3, cell_at h2 c4, cell_at h2 c5, cell_at h2 c6, hu.plain, hr⟩
theorem IntV.plain {w : World} {a : Option Addr} {n c : Nat} {xs : List Int} (h : IntV w (.slice a n c) xs) : n = xs.length ∧ Ints w a xs := by
  obtain ⟨a', c', e, ht, _⟩ := h
  cases e
  refine ⟨rfl, fun i hi => ?_⟩
  obtain ⟨g, off, cs, f, h1, h2, h3, h4⟩ := ht i hi
  exact ⟨g, off, h1, (Array.getElem?_eq_some_iff.1 h2).1, cell_at h2 h3, h4⟩
theorem RRc.plain {w : World} {base : Nat} {a : Option Addr} {n c : Nat} {L : List (List CallV)} (h : RRc w base (.slice a n c) L) : n = L.length ∧ RowsP w a L := by
  obtain ⟨cells, ho, hr⟩ := h
  obtain ⟨a', c', e⟩ := own_slice ho
  cases e
  refine ⟨rfl, fun i hi => ?_⟩
  obtain ⟨ax, cx, e1, e2, _⟩ := hr i hi
  obtain ⟨g, cap, hv, _⟩ := own_some ho (by omega)
  cases hv
  have hc := (own_cell (i := i) ho e1).1
  exact ⟨g, 0, ax, cx, rfl, World.block_lt_of_cell? w _ hc, by rw [Nat.zero_add]; exact hc, e2.plain⟩
set_option maxRecDepth 100000 in
set_option maxHeartbeats 8000000 in
/-- The law's own test of a script and the document's script. -/
theorem alike_yes (st rm : Int) (P T : List Int) (X : List (List CallV)) (aC bC aP bP aT bT : Option Addr) (cC dC cP dP cT dT : Nat) (w : World)
    (hP1 : Ints w aP P) (hP2 : Ints w bP P) (hT1 : Ints w aT T) (hT2 : Ints w bT T) (hC1 : RowsP w aC (X.map fun l => l.map ownV)) (hC2 : RowsP w bC X) (hPl : P.length ≤ 9223372036854775807) (hTl : T.length ≤ 9223372036854775807) (hX : X.length ≤ 9223372036854775800) (hXl : ∀ l ∈ X, l.length ≤ 9223372036854775800 ∧ ∀ c ∈ l, c.xs.length ≤ 9223372036854775807) :
    Calls Tryd.prog 17 #[.agg #[.int .i64 st, .int .i64 rm, .slice aC X.length cC, .slice aP P.length cP, .slice aT T.length cT], .agg #[.int .i64 st, .int .i64 rm, .slice bC X.length dC, .slice bP P.length dP, .slice bT T.length dT]] w
      fun e w' => e = .returned (.bool true) ∧ Below w.heap.size w w' := by
  obtain ⟨W0, hW0⟩ : ∃ W0, W0 = (w.alloc (.cells #[.int .i64 st, .int .i64 rm, .slice aC X.length cC, .slice aP P.length cP, .slice aT T.length cT] 36)).alloc (.cells #[.int .i64 st, .int .i64 rm, .slice bC X.length dC, .slice bP P.length dP, .slice bT T.length dT] 44) := ⟨_, rfl⟩
  have hb0 : Below w.heap.size w W0 := by rw [hW0]; exact ((Below.refl _ _).alloc (Nat.le_refl _) _).alloc (by simp) _
  have g0 : W0.heap[w.heap.size]? = some (.cells #[.int .i64 st, .int .i64 rm, .slice aC X.length cC, .slice aP P.length cP, .slice aT T.length cT] 36 (0, 0)) := by rw [hW0, Lib.alloc_old _ _ _ (by simp)]; exact heap_alloc_new w _
  have g1 : W0.heap[w.heap.size + 1]? = some (.cells #[.int .i64 st, .int .i64 rm, .slice bC X.length dC, .slice bP P.length dP, .slice bT T.length dT] 44 (0, 0)) := by
    rw [hW0]
    have := heap_alloc_new (w.alloc (.cells #[.int .i64 st, .int .i64 rm, .slice aC X.length cC, .slice aP P.length cP, .slice aT T.length cT] 36)) (.cells #[.int .i64 st, .int .i64 rm, .slice bC X.length dC, .slice bP P.length dP, .slice bT T.length dT] 44)
    simpa using this
  have hz : W0.heap.size = w.heap.size + 2 := by rw [hW0]; simp
  have HP1 := Lib.hid (hP1.keep hb0)
  have HP2 := Lib.hid (hP2.keep hb0)
  have HT1 := Lib.hid (hT1.keep hb0)
  have HT2 := Lib.hid (hT2.keep hb0)
  have HC1 := Lib.hid (hC1.keep hb0)
  have HC2 := Lib.hid (hC2.keep hb0)
  have HB0 := Lib.hid hb0
  have HXL := Lib.hid hXl
  have b0 : W0.cell? ⟨w.heap.size, 0, none⟩ = some (.int .i64 st) := cell_at g0 rfl
  have b1 : W0.cell? ⟨w.heap.size, 1, none⟩ = some (.int .i64 rm) := cell_at g0 rfl
  have b2 : W0.cell? ⟨w.heap.size, 2, none⟩ = some (.slice aC X.length cC) := cell_at g0 rfl
  have b3 : W0.cell? ⟨w.heap.size, 3, none⟩ = some (.slice aP P.length cP) := cell_at g0 rfl
  have b4 : W0.cell? ⟨w.heap.size, 4, none⟩ = some (.slice aT T.length cT) := cell_at g0 rfl
  have z0 : W0.cell? ⟨w.heap.size + 1, 0, none⟩ = some (.int .i64 st) := cell_at g1 rfl
  have z1 : W0.cell? ⟨w.heap.size + 1, 1, none⟩ = some (.int .i64 rm) := cell_at g1 rfl
  have z2 : W0.cell? ⟨w.heap.size + 1, 2, none⟩ = some (.slice bC X.length dC) := cell_at g1 rfl
  have z3 : W0.cell? ⟨w.heap.size + 1, 3, none⟩ = some (.slice bP P.length dP) := cell_at g1 rfl
  have z4 : W0.cell? ⟨w.heap.size + 1, 4, none⟩ = some (.slice bT T.length dT) := cell_at g1 rfl
  have hz0 : w.heap.size < W0.heap.size := by omega
  have hz1 : w.heap.size + 1 < W0.heap.size := by omega
  clear hP1 hP2 hT1 hT2 hC1 hC2 hb0 g0 g1 hz hXl
  go_enter Tryd.func17, Tryd.ntmps17
  go_upto_region 1 with fail
  rw [← hW0]
  clear hW0
  go_wp2_with (first
    | (go_at_call 32; (with_reducible refine (isame_yes P aP bP cP dP _ hPl HP1.out HP2.out).mono ?_); rintro e w1 ⟨rfl, d1, rfl⟩)
    | (go_at_call 32; (with_reducible refine (isame_yes T aT bT cT dT _ hTl (HT1.out.keep (below_drewN (Below.refl _ _) _)) (HT2.out.keep (below_drewN (Below.refl _ _) _))).mono ?_); rintro e w1 ⟨rfl, d2, rfl⟩))
  go_loopg [5] X.length (fun g iv wr => ∃ i, i ≤ X.length ∧ g = X.length - i ∧ iv = .int .i64 (i : Int) ∧ Below W0.heap.size W0 wr)
  case atStart => exact ⟨0, Nat.zero_le _, rfl, rfl, by repeat (first | exact Below.refl _ _ | refine below_drewN ?_ _)⟩
  case round =>
    obtain ⟨i, hi, rfl, rfl, hbw⟩ := hrel
    obtain ⟨wo, rfl⟩ : ∃ wo : World, wo = wr := ⟨_, rfl⟩
    have y2 := (hbw.cell (p := ⟨w.heap.size, 2, none⟩) hz0).trans b2
    have x2 := (hbw.cell (p := ⟨w.heap.size + 1, 2, none⟩) hz1).trans z2
    by_cases hlt : i < X.length
    · obtain ⟨g1, o1, r1, k1, rfl, hg1, q1, hr1⟩ := HC1.out i (by simpa using hlt)
      obtain ⟨g2, o2, r2, k2, rfl, hg2, q2, hr2⟩ := HC2.out i hlt
      simp only [List.getElem_map, List.length_map] at q1 hr1
      have p1 := (hbw.cell (p := ⟨g1, o1 + i, none⟩) hg1).trans q1
      have p2 := (hbw.cell (p := ⟨g2, o2 + i, none⟩) hg2).trans q2
      have hlx := HXL.out _ (List.getElem_mem hlt)
      have HQ1 := Lib.hid q1
      have HQ2 := Lib.hid q2
      generalize X[i]'hlt = l at *
      have HR1 := Lib.hid hr1
      have HR2 := Lib.hid hr2
      have HBW := Lib.hid hbw
      have hll := hlx.1
      have HLX := Lib.hid hlx.2
      clear hr1 hr2 hlx hbw q1 q2
      go_wp2_with fail
      go_quiet (fail)
      go_wp2_with fail
      go_loopg [6] l.length (fun g kv wr => ∃ k, k ≤ l.length ∧ g = l.length - k ∧ kv = .int .i64 (k : Int) ∧ Below W0.heap.size W0 wr)
      case atStart => exact ⟨0, Nat.zero_le _, rfl, rfl, below_drewN HBW.out _⟩
      case round =>
        obtain ⟨k, hk, rfl, rfl, hbi⟩ := hrel
        obtain ⟨wi, rfl⟩ : ∃ wi : World, wi = wr := ⟨_, rfl⟩
        have u2 := (hbi.cell (p := ⟨w.heap.size, 2, none⟩) hz0).trans b2
        have v2 := (hbi.cell (p := ⟨w.heap.size + 1, 2, none⟩) hz1).trans z2
        have m1 := (hbi.cell (p := ⟨g1, o1 + i, none⟩) hg1).trans (HQ1.out)
        have m2 := (hbi.cell (p := ⟨g2, o2 + i, none⟩) hg2).trans (HQ2.out)
        by_cases hkl : k < l.length
        · obtain ⟨h1, f1, a1, d1, rfl, hh1, e0, e1, e2, e3, e4, e5, e6, hu1, hc1, hn1⟩ := HR1.out.keep hbi k (by simpa using hkl)
          obtain ⟨h2, f2, a2, d2, rfl, hh2, s0, s1, s2, s3, s4, s5, s6, hu2, hc2, hn2⟩ := HR2.out.keep hbi k hkl
          simp only [List.getElem_map] at e0 e1 e2 e3 e4 e5 e6 hu1 hc1
          have hlen := HLX.out _ (List.getElem_mem hkl)
          generalize l[k]'hkl = c at *
          have HRO : Hid (∀ W, U64s W a2 c.xs → Calls Tryd.prog 10 #[c.val a2 d2] W (OwnPost c W)) := Lib.hid fun W hu => rown_any c a2 d2 W hu hc2 hn2
          have hol : (ownV c).xs.length ≤ 9223372036854775807 := by have := ownV_len c; omega
          unfold OwnPost at HRO
          generalize ownV c = o at *
          obtain ⟨ko, no, diro, texto, whoo, ato, xso⟩ := o
          obtain ⟨kc, nc, dirc, textc, whoc, atc, xsc⟩ := c
          simp only [CallV.val] at *
          have HU1 := Lib.hid hu1
          have HU2 := Lib.hid hu2
          have hzi := hbi.size
          have HSS : Hid (∀ W, Below wi.heap.size wi W → W.cell? ⟨w.heap.size, 2, none⟩ = some (.slice (some ⟨g1, o1, none⟩) X.length cC) ∧ W.cell? ⟨w.heap.size + 1, 2, none⟩ = some (.slice (some ⟨g2, o2, none⟩) X.length dC) ∧ W.cell? ⟨g1, o1 + i, none⟩ = some (.slice (some ⟨h1, f1, none⟩) l.length k1) ∧ W.cell? ⟨g2, o2 + i, none⟩ = some (.slice (some ⟨h2, f2, none⟩) l.length k2) ∧ W.cell? ⟨h1, f1 + k * 7, none⟩ = some (.int .i64 ko) ∧ W.cell? ⟨h1, f1 + k * 7 + 1, none⟩ = some (.int .i64 no) ∧ W.cell? ⟨h1, f1 + k * 7 + 2, none⟩ = some (.int .i64 diro) ∧ W.cell? ⟨h1, f1 + k * 7 + 3, none⟩ = some (.string texto) ∧ W.cell? ⟨h1, f1 + k * 7 + 4, none⟩ = some (.int .i64 whoo) ∧ W.cell? ⟨h1, f1 + k * 7 + 5, none⟩ = some (.int .i64 ato) ∧ W.cell? ⟨h1, f1 + k * 7 + 6, none⟩ = some (.slice a1 xso.length d1) ∧ W.cell? ⟨h2, f2 + k * 7, none⟩ = some (.int .i64 kc) ∧ W.cell? ⟨h2, f2 + k * 7 + 1, none⟩ = some (.int .i64 nc) ∧ W.cell? ⟨h2, f2 + k * 7 + 2, none⟩ = some (.int .i64 dirc) ∧ W.cell? ⟨h2, f2 + k * 7 + 3, none⟩ = some (.string textc) ∧ W.cell? ⟨h2, f2 + k * 7 + 4, none⟩ = some (.int .i64 whoc) ∧ W.cell? ⟨h2, f2 + k * 7 + 5, none⟩ = some (.int .i64 atc) ∧ W.cell? ⟨h2, f2 + k * 7 + 6, none⟩ = some (.slice a2 xsc.length d2)) := Lib.hid fun W hb => by
            have e : ∀ b o, b < wi.heap.size → W.cell? ⟨b, o, none⟩ = wi.cell? ⟨b, o, none⟩ := fun b o h => hb.cell (p := ⟨b, o, none⟩) h
            exact ⟨(e _ _ (by omega)).trans u2, (e _ _ (by omega)).trans v2, (e _ _ (by omega)).trans m1, (e _ _ (by omega)).trans m2, (e _ _ hh1).trans e0, (e _ _ hh1).trans e1, (e _ _ hh1).trans e2, (e _ _ hh1).trans e3, (e _ _ hh1).trans e4, (e _ _ hh1).trans e5, (e _ _ hh1).trans e6, (e _ _ hh2).trans s0, (e _ _ hh2).trans s1, (e _ _ hh2).trans s2, (e _ _ hh2).trans s3, (e _ _ hh2).trans s4, (e _ _ hh2).trans s5, (e _ _ hh2).trans s6⟩
          have hbzi := Below.refl wi.heap.size wi
          have HBI := Lib.hid hbi
          clear hu1 hu2 hbi hc1 hn1 hc2 hn2
          go_wp2_with fail
          go_region_held3 (fun W => W.cell? ⟨w.heap.size, 2, none⟩ = some (.slice (some ⟨g1, o1, none⟩) X.length cC) ∧ W.cell? ⟨w.heap.size + 1, 2, none⟩ = some (.slice (some ⟨g2, o2, none⟩) X.length dC) ∧ W.cell? ⟨g1, o1 + i, none⟩ = some (.slice (some ⟨h1, f1, none⟩) l.length k1) ∧ W.cell? ⟨g2, o2 + i, none⟩ = some (.slice (some ⟨h2, f2, none⟩) l.length k2) ∧ W.cell? ⟨h1, f1 + k * 7, none⟩ = some (.int .i64 ko) ∧ W.cell? ⟨h1, f1 + k * 7 + 1, none⟩ = some (.int .i64 no) ∧ W.cell? ⟨h1, f1 + k * 7 + 2, none⟩ = some (.int .i64 diro) ∧ W.cell? ⟨h1, f1 + k * 7 + 3, none⟩ = some (.string texto) ∧ W.cell? ⟨h1, f1 + k * 7 + 4, none⟩ = some (.int .i64 whoo) ∧ W.cell? ⟨h1, f1 + k * 7 + 5, none⟩ = some (.int .i64 ato) ∧ W.cell? ⟨h1, f1 + k * 7 + 6, none⟩ = some (.slice a1 xso.length d1) ∧ W.cell? ⟨h2, f2 + k * 7, none⟩ = some (.int .i64 kc) ∧ W.cell? ⟨h2, f2 + k * 7 + 1, none⟩ = some (.int .i64 nc) ∧ W.cell? ⟨h2, f2 + k * 7 + 2, none⟩ = some (.int .i64 dirc) ∧ W.cell? ⟨h2, f2 + k * 7 + 3, none⟩ = some (.string textc) ∧ W.cell? ⟨h2, f2 + k * 7 + 4, none⟩ = some (.int .i64 whoc) ∧ W.cell? ⟨h2, f2 + k * 7 + 5, none⟩ = some (.int .i64 atc) ∧ W.cell? ⟨h2, f2 + k * 7 + 6, none⟩ = some (.slice a2 xsc.length d2)) (first | exact HSS.out _ (by (repeat' (first | with_reducible assumption | with_reducible refine Below.drew ?_ | (with_reducible refine Below.alloc ?_ (by first | assumption | (simp; done) | (simp; omega)) _)))))
            (first
            | (go_at_call 10; (with_reducible refine (HRO.out _ (HU2.out.keep (by (repeat' (first | with_reducible assumption | with_reducible refine Below.drew ?_ | (with_reducible refine Below.alloc ?_ (by first | assumption | (simp; done) | (simp; omega)) _)))))).mono ?_); rintro e w3 ⟨a3, c3, rfl, hu3, _, _, hb3⟩; have HU3 := Lib.hid hu3; have hb3w : Below wi.heap.size wi w3 := Below.trans (by (repeat' (first | with_reducible assumption | with_reducible refine Below.drew ?_ | (with_reducible refine Below.alloc ?_ (by first | assumption | (simp; done) | (simp; omega)) _)))) hb3; clear hu3 hb3)
            | (go_at_call 9; (with_reducible refine (same_eq ko no diro whoo ato texto xso _ _ _ _ _ hol (HU1.out.keep (by (repeat' (first | with_reducible assumption | with_reducible refine Below.drew ?_ | (with_reducible refine Below.alloc ?_ (by first | assumption | (simp; done) | (simp; omega)) _))))) HU3.out).mono ?_); rintro e w4 ⟨rfl, hb4⟩; have hb4w : Below wi.heap.size wi w4 := Below.trans hb3w (hb4.mono hb3w.size); clear hb4))
          go_wp2_with fail
          go_roundg (l.length - (k + 1))
          case measure => omega
          case rel => exact ⟨k + 1, by omega, rfl, by go_num, HBI.out.trans (hb4w.mono HBI.out.size)⟩
        · have HBI := Lib.hid hbi
          clear hbi
          go_wp2_with fail
          go_roundg (X.length - (i + 1))
          case measure => omega
          case rel => exact ⟨i + 1, by omega, rfl, by go_num, HBI.out⟩
    · go_wp2_with fail
      go_ret
      exact ⟨rfl, HB0.out.trans (hbw.mono HB0.out.size)⟩
end Go.Proofs.YtplhmcmfdcklaaaDoor.Lex
/- The two errors of strconv's, off what a row lists. -/
namespace Go.Proofs.YtplhmcmfdcklaaaDoor.Lex
open Go.RowKit
theorem star_err : "*" ++ "errors.errorString" = "*errors.errorString" := by decide
theorem row_err (u : TypeId) (h : Tryd.prog.typeName? 3 u = some "*errors.errorString") : u = 156 :=
  typeName_ptr_named (nm := "errors.errorString") (by rw [star_err]; kernel_rfl) (by kernel_rfl) (by decide) u (by rw [star_err]; exact h)
theorem hasErrs_of_laid {H0 H1 : List UInt8} {x1 x2 x3 x4 : String × DataW Unit} {r : List (String × DataW Unit)} {W : World}
    (h : laidMet Tryd.prog (x1 :: x2 :: x3 :: x4 :: ("strconv.ErrRange", .iface "*errors.errorString" (.ptr (.agg [.lit (.string H0)]))) :: ("strconv.ErrSyntax", .iface "*errors.errorString" (.ptr (.agg [.lit (.string H1)]))) :: r) W) : HasErrs W := by
  have h5 := h.tail.tail.tail.tail
  obtain ⟨a0, s0, hv0, _⟩ := laid_sentinel h5 (g := 3) (by kernel_rfl) (ti := 63) (by kernel_rfl) Tryd.underlying63 row_err Tryd.underlying156 Tryd.underlying158 rfl rfl Tryd.underlying9 (by kernel_rfl) (by kernel_rfl)
  obtain ⟨a1, s1, hv1, _⟩ := laid_sentinel h5.tail (g := 2) (by kernel_rfl) (ti := 63) (by kernel_rfl) Tryd.underlying63 row_err Tryd.underlying156 Tryd.underlying158 rfl rfl Tryd.underlying9 (by kernel_rfl) (by kernel_rfl)
  exact ⟨⟨_, _, World.var?_cell (by kernel_rfl) hv1 0⟩, _, _, World.var?_cell (by kernel_rfl) hv0 0⟩
end Go.Proofs.YtplhmcmfdcklaaaDoor.Lex
/- What a script's text says, in plain words: printing and reading are each other's converse. -/
namespace Go.Proofs.YtplhmcmfdcklaaaDoor.Lex
open Go.RowKit
set_option linter.unusedSimpArgs false
set_option linter.unusedVariables false
/-- A script's text. -/
def printL (S : ScrV) : List UInt8 := headT S.stripes S.room S.picks S.ticks ++ clientsT S.clients
/-- The text of the first k lines. -/
def printK (k : Nat) (S : ScrV) : List UInt8 :=
  if k = 0 then [] else if k = 1 then intsL playW [S.stripes, S.room] else if k = 2 then intsL playW [S.stripes, S.room] ++ intsL picksW S.picks else printL S
/-- A call that has a text and only what it uses. -/
structure GoodC (c : CallV) : Prop where
  own : ownV c = c
  some : callW c ≠ none
  n : InI c.n
  dir : InI c.dir
  who : InI c.who
  at_ : InI c.at_
  xs : ∀ x ∈ c.xs, x < 18446744073709551616
theorem nums_two {ws : List (List UInt8)} {p : Int × Int} (h : twoW ws = some p) : [Lib.itoa p.1, Lib.itoa p.2] = ws ∧ InI p.1 ∧ InI p.2 := by
  obtain ⟨x, y⟩ := p
  obtain ⟨h1, h2⟩ := allW_map numW_iff (twoW_some.1 h)
  exact ⟨h1, h2 x (by simp), h2 y (by simp)⟩
theorem in0 : InI 0 := ⟨by omega, by omega⟩
theorem readW_some {ws : List (List UInt8)} {c : CallV} (h : readW ws = some c) : callW c = some ws ∧ GoodC c := by
  cases ws with
  | nil => cases h
  | cons w rest =>
    rw [readW] at h
    rcases kindW_cases w with ⟨hk, hw⟩ | ⟨hk, hw⟩ | ⟨hk, hw⟩ | ⟨hk, hw⟩ | ⟨hk, hw⟩ | ⟨hk, hw⟩ | ⟨hk, hw⟩ | ⟨hk, hw⟩
    · rw [if_pos (.inl hk), hk] at h
      obtain ⟨p, hp, rfl⟩ := Option.map_eq_some_iff.1 h
      obtain ⟨h1, h2, h3⟩ := nums_two hp
      have e : callW ⟨1, p.1, p.2, ⟨#[]⟩, 0, 0, []⟩ = some (w :: rest) := by rw [hw, ← h1]; rfl
      exact ⟨e, ⟨rfl, by rw [e]; simp, h2, h3, in0, in0, by simp⟩⟩
    · rw [if_pos (.inr (.inl hk)), hk] at h
      obtain ⟨p, hp, rfl⟩ := Option.map_eq_some_iff.1 h
      obtain ⟨h1, h2, h3⟩ := nums_two hp
      have e : callW ⟨2, p.1, p.2, ⟨#[]⟩, 0, 0, []⟩ = some (w :: rest) := by rw [hw, ← h1]; rfl
      exact ⟨e, ⟨rfl, by rw [e]; simp, h2, h3, in0, in0, by simp⟩⟩
    · rw [if_pos (.inr (.inr hk)), hk] at h
      obtain ⟨p, hp, rfl⟩ := Option.map_eq_some_iff.1 h
      obtain ⟨h1, h2, h3⟩ := nums_two hp
      have e : callW ⟨3, p.1, p.2, ⟨#[]⟩, 0, 0, []⟩ = some (w :: rest) := by rw [hw, ← h1]; rfl
      exact ⟨e, ⟨rfl, by rw [e]; simp, h2, h3, in0, in0, by simp⟩⟩
    · rw [if_neg (by omega), if_pos hk] at h
      obtain ⟨l, hl, rfl⟩ := Option.map_eq_some_iff.1 h
      have h1 := textW_iff.1 hl
      have e : callW ⟨4, 0, 0, bs l, 0, 0, []⟩ = some (w :: rest) := by
        rw [hw, ← h1]
        show some ([105, 109, 112, 111, 114, 116] :: hexW (bs l).data.toList) = _
        rw [bs_list]
      exact ⟨e, ⟨rfl, by rw [e]; simp, in0, in0, in0, in0, by simp⟩⟩
    · rw [if_neg (by omega), if_neg (by omega), if_pos hk] at h
      by_cases hr : rest = []
      · rw [if_pos hr] at h
        cases h
        have e : callW ⟨5, 0, 0, ⟨#[]⟩, 0, 0, []⟩ = some (w :: rest) := by rw [hw, hr]; rfl
        exact ⟨e, ⟨rfl, by rw [e]; simp, in0, in0, in0, in0, by simp⟩⟩
      · rw [if_neg hr] at h
        cases h
    · rw [if_neg (by omega), if_neg (by omega), if_neg (by omega), if_neg (by omega), if_pos hk] at h
      by_cases hr : rest.length < 2
      · rw [if_pos hr] at h
        cases h
      · rw [if_neg hr] at h
        cases h1 : twoW (rest.take 2) with
        | none => rw [h1] at h; cases h
        | some p =>
          cases h2 : usW (rest.drop 2) with
          | none => rw [h1, h2] at h; cases h
          | some xs =>
            rw [h1, h2] at h
            cases h
            obtain ⟨g1, g2, g3⟩ := nums_two h1
            obtain ⟨g4, g5⟩ := allW_map uW_iff h2
            have e : callW ⟨6, 0, 0, ⟨#[]⟩, p.1, p.2, xs⟩ = some (w :: rest) := by
              rw [hw, ← List.take_append_drop 2 rest, ← g1, ← g4]
              rfl
            exact ⟨e, ⟨rfl, by rw [e]; simp, in0, in0, g2, g3, g5⟩⟩
    · rw [if_neg (by omega), if_neg (by omega), if_neg (by omega), if_pos hk] at h
      obtain ⟨p, hp, rfl⟩ := Option.map_eq_some_iff.1 h
      obtain ⟨h1, h2, h3⟩ := nums_two hp
      have e : callW ⟨7, 0, 0, ⟨#[]⟩, p.1, p.2, []⟩ = some (w :: rest) := by rw [hw, ← h1]; rfl
      exact ⟨e, ⟨rfl, by rw [e]; simp, in0, in0, h2, h3, by simp⟩⟩
    · rw [if_neg (by omega), if_neg (by omega), if_neg (by omega), if_neg (by omega), if_neg (by omega)] at h
      cases h
/-- A script of good calls and of numbers that ints hold. -/
structure GoodS (S : ScrV) : Prop where
  stripes : InI S.stripes
  room : InI S.room
  picks : ∀ n ∈ S.picks, InI n
  ticks : ∀ n ∈ S.ticks, InI n
  calls : ∀ l ∈ S.clients, ∀ c ∈ l, GoodC c
theorem clientsT_snoc (L : List (List CallV)) (l : List CallV) : clientsT (L ++ [l]) = clientsT L ++ clientT l := by
  simp [clientsT]
theorem callsT_snoc (l : List CallV) (c : CallV) : callsT (l ++ [c]) = callsT l ++ callT c := by
  simp [callsT]
/-- A line taken is a line told. -/
theorem step_print {k : Nat} {S S' : ScrV} {ws : List (List UInt8)} (h : stepL k S ws = some S') (hg : GoodS S) (hc : k < 3 → S.clients = []) :
    printK (k + 1) S' = printK k S ++ glue ws ++ [10] ∧ GoodS S' ∧ (k + 1 < 3 → S'.clients = []) := by
  cases ws with
  | nil => cases h
  | cons w rest =>
    simp only [stepL] at h
    by_cases k0 : k = 0
    · subst k0
      rw [if_pos rfl] at h
      split at h
      · next hw =>
        obtain ⟨p, hp, rfl⟩ := Option.map_eq_some_iff.1 h
        obtain ⟨h1, h2, h3⟩ := nums_two hp
        refine ⟨?_, ⟨h2, h3, hg.picks, hg.ticks, hg.calls⟩, fun _ => hc (by omega)⟩
        rw [hw, ← h1]
        rfl
      · cases h
    · rw [if_neg k0] at h
      by_cases k1 : k = 1
      · subst k1
        rw [if_pos rfl] at h
        split at h
        · next hw =>
          obtain ⟨l, hl, rfl⟩ := Option.map_eq_some_iff.1 h
          obtain ⟨h1, h2⟩ := allW_map numW_iff hl
          refine ⟨?_, ⟨hg.stripes, hg.room, fun n hn => h2 n hn, hg.ticks, hg.calls⟩, fun _ => hc (by omega)⟩
          rw [hw, ← h1]
          simp [printK, intsL]
        · cases h
      · rw [if_neg k1] at h
        by_cases k2 : k = 2
        · subst k2
          rw [if_pos rfl] at h
          split at h
          · next hw =>
            obtain ⟨l, hl, rfl⟩ := Option.map_eq_some_iff.1 h
            obtain ⟨h1, h2⟩ := allW_map numW_iff hl
            refine ⟨?_, ⟨hg.stripes, hg.room, hg.picks, fun n hn => h2 n hn, hg.calls⟩, fun h => by omega⟩
            rw [hw, ← h1]
            simp [printK, intsL, printL, headT, hc (by omega), clientsT]
          · cases h
        · rw [if_neg k2] at h
          have e1 : ∀ X : ScrV, printK (k + 1) X = printL X := fun X => by rw [printK, if_neg (by omega), if_neg (by omega), if_neg (by omega)]
          have e2 : ∀ X : ScrV, printK k X = printL X := fun X => by rw [printK, if_neg k0, if_neg k1, if_neg k2]
          rw [e1, e2]
          split at h
          · next hw =>
            split at h
            · next hr =>
              cases h
              refine ⟨?_, ⟨hg.stripes, hg.room, hg.picks, hg.ticks, fun l hl c hcl => ?_⟩, fun h => by omega⟩
              · rw [hw, hr]
                simp only [printL]
                rw [clientsT_snoc]
                simp [clientT, callsT]
              · rcases List.mem_append.1 hl with hl | hl
                · exact hg.calls l hl c hcl
                · rw [List.mem_singleton.1 hl] at hcl
                  cases hcl
            · cases h
          · split at h
            · next c hcr =>
              obtain ⟨h1, h2⟩ := readW_some hcr
              obtain ⟨L, hL, rfl⟩ := Option.map_eq_some_iff.1 h
              have hne : S.clients ≠ [] := fun e => by rw [e] at hL; cases hL
              rw [addLast_some hne] at hL
              cases hL
              refine ⟨?_, ⟨hg.stripes, hg.room, hg.picks, hg.ticks, fun l hl c' hcl => ?_⟩, fun h => by omega⟩
              · simp only [printL]
                rw [clientsT_snoc]
                conv => rhs; rw [← List.dropLast_concat_getLast hne]
                rw [clientsT_snoc]
                simp only [clientT]
                rw [callsT_snoc, callT, h1]
                simp
              · rcases List.mem_append.1 hl with hl | hl
                · exact hg.calls l (List.dropLast_subset _ hl) c' hcl
                · rw [List.mem_singleton.1 hl] at hcl
                  rcases List.mem_append.1 hcl with hcl | hcl
                  · exact hg.calls _ (List.getLast_mem hne) c' hcl
                  · rw [List.mem_singleton.1 hcl]
                    exact h2
            · cases h
/-- What is read is the text of what it is read as. -/
theorem parse_print : ∀ (n : Nat) (k : Nat) (S : ScrV) (l : List UInt8) (k' : Nat) (S' : ScrV), l.length ≤ n → parseL k S l = .ok (k', S') → GoodS S → (k < 3 → S.clients = []) → printK k' S' = printK k S ++ l ∧ GoodS S' ∧ (k' < 3 → S'.clients = [])
  | n, k, S, l, k', S', hn, h, hg, hc => by
    by_cases h0 : l = []
    · subst h0
      rw [parseL_nil] at h
      cases h
      exact ⟨by simp, hg, hc⟩
    · cases hl : lineL l with
      | none => rw [parseL_no h0 hl] at h; cases h
      | some p =>
        obtain ⟨a, b⟩ := p
        cases hs : lineStep k S a with
        | none => rw [parseL_bad h0 hl hs] at h; cases h
        | some S1 =>
          rw [parseL_go h0 hl hs] at h
          obtain ⟨ws, hw, hst⟩ := Option.bind_eq_some_iff.1 hs
          obtain ⟨e1, e2, e3⟩ := step_print hst hg hc
          have hlen := lineL_len hl
          match n, hn with
          | 0, hn => omega
          | n + 1, hn =>
            obtain ⟨g1, g2, g3⟩ := parse_print n (k + 1) S1 b k' S' (by omega) h e2 e3
            refine ⟨?_, g2, g3⟩
            rw [g1, e1, glue_of hw, lineL_eq hl]
            simp
theorem goodS0 : GoodS S0 := ⟨in0, in0, by simp [S0], by simp [S0], by simp [S0]⟩
theorem parse_ok {l : List UInt8} {k : Nat} {S : ScrV} (h : parseL 0 S0 l = .ok (k, S)) (hk : ¬ k < 3) : printL S = l ∧ GoodS S := by
  obtain ⟨h1, h2, _⟩ := parse_print l.length 0 S0 l k S (Nat.le_refl _) h goodS0 (fun _ => rfl)
  refine ⟨?_, h2⟩
  rw [printK, if_neg (by omega), if_neg (by omega), if_neg (by omega)] at h1
  rw [h1]
  simp [printK]
/-! ### The converse: what is printed is read. -/
/-- A word of a line. -/
structure WordB (x : List UInt8) : Prop where
  ne : x ≠ []
  ok : ∀ c ∈ x, okb c = true ∧ c ≠ 32
theorem pieces_word : ∀ {x : List UInt8}, (∀ c ∈ x, c ≠ 32) → pieces x = [x]
  | [], _ => rfl
  | c :: l, h => by
    have ih := pieces_word (x := l) (fun d hd => h d (List.mem_cons_of_mem _ hd))
    rw [pieces, if_neg (h c List.mem_cons_self), ih]
    rfl
theorem pieces_appW : ∀ {x : List UInt8} (l : List UInt8), (∀ c ∈ x, c ≠ 32) → pieces (x ++ 32 :: l) = x :: pieces l
  | [], l, _ => by rw [List.nil_append, pieces, if_pos rfl]
  | c :: x, l, h => by
    have ih := pieces_appW (x := x) l (fun d hd => h d (List.mem_cons_of_mem _ hd))
    rw [List.cons_append, pieces, if_neg (h c List.mem_cons_self), ih]
    rfl
theorem pieces_glue : ∀ {ws : List (List UInt8)}, ws ≠ [] → (∀ x ∈ ws, WordB x) → pieces (glue ws) = ws
  | [], h, _ => absurd rfl h
  | [a], _, h => pieces_word fun c hc => ((h a (by simp)).ok c hc).2
  | a :: b :: r, _, h => by
    have ih := pieces_glue (ws := b :: r) (by simp) (fun x hx => h x (List.mem_cons_of_mem _ hx))
    rw [show glue (a :: b :: r) = a ++ 32 :: glue (b :: r) from rfl, pieces_appW _ (fun c hc => ((h a (by simp)).ok c hc).2), ih]
theorem glue_mem : ∀ {ws : List (List UInt8)} {c : UInt8}, c ∈ glue ws → c = 32 ∨ ∃ x ∈ ws, c ∈ x
  | [], c, h => by cases h
  | [a], c, h => .inr ⟨a, by simp, h⟩
  | a :: b :: r, c, h => by
    rw [show glue (a :: b :: r) = a ++ 32 :: glue (b :: r) from rfl] at h
    rcases List.mem_append.1 h with h | h
    · exact .inr ⟨a, by simp, h⟩
    · rcases List.mem_cons.1 h with h | h
      · exact .inl h
      · rcases glue_mem h with h | ⟨x, hx, hc⟩
        · exact .inl h
        · exact .inr ⟨x, List.mem_cons_of_mem _ hx, hc⟩
theorem glue_okb {ws : List (List UInt8)} (h : ∀ x ∈ ws, WordB x) : ∀ c ∈ glue ws, okb c = true := fun c hc => by
  rcases glue_mem hc with rfl | ⟨x, hx, hc⟩
  · decide
  · exact ((h x hx).ok c hc).1
theorem glue_ne {ws : List (List UInt8)} (h0 : ws ≠ []) (h : ∀ x ∈ ws, WordB x) : glue ws ≠ [] := by
  match ws, h0, h with
  | [a], _, h => exact (h a (by simp)).ne
  | a :: b :: r, _, h =>
    rw [show glue (a :: b :: r) = a ++ 32 :: glue (b :: r) from rfl]
    simp
theorem wordsOf_glueW {ws : List (List UInt8)} (h0 : ws ≠ []) (h : ∀ x ∈ ws, WordB x) : wordsOf (glue ws) = some ws := by
  rw [wordsOf_ok (glue_okb h) (glue_ne h0 h), pieces_glue h0 h, if_neg fun hm => (h _ hm).ne rfl]
theorem dec_okw (u : Nat) : WordB (Lib.decDigits u) := ⟨dec_ne u, fun c hc => by
  obtain ⟨h1, h2⟩ := dec_digit u c hc
  constructor
  · unfold okb
    have a1 : ¬ c < 32 := by rw [UInt8.lt_iff_toNat_lt]; show ¬ c.toNat < 32; omega
    have a2 : ¬ c > 126 := by show ¬ (126 : UInt8) < c; rw [UInt8.lt_iff_toNat_lt]; show ¬ 126 < c.toNat; omega
    simp [a1, a2]
  · rintro rfl
    have : (32 : UInt8).toNat = 32 := rfl
    omega⟩
theorem itoa_okw (n : Int) : WordB (Lib.itoa n) := by
  unfold Lib.itoa
  split
  · refine ⟨by simp, fun c hc => ?_⟩
    rcases List.mem_cons.1 hc with rfl | hc
    · decide
    · exact (dec_okw _).ok c hc
  · exact dec_okw _
theorem hexd_okw {d : Nat} (h : d < 16) : okb (hexd d) = true ∧ hexd d ≠ 32 := by
  have : ∀ d : Fin 16, okb (hexd d.1) = true ∧ hexd d.1 ≠ 32 := by decide +kernel
  exact this ⟨d, h⟩
theorem hexW_okw (l : List UInt8) : ∀ x ∈ hexW l, WordB x := fun x hx => by
  unfold hexW at hx
  split at hx
  · cases hx
  · next h =>
    rw [List.mem_singleton.1 hx]
    refine ⟨?_, fun c hc => ?_⟩
    · cases l with
      | nil => exact absurd rfl h
      | cons a r => simp [hexOf]
    · unfold hexOf at hc
      obtain ⟨a, _, hc⟩ := List.mem_flatMap.1 hc
      have ha := a.toNat_lt
      simp only [List.mem_cons, List.not_mem_nil, or_false] at hc
      rcases hc with rfl | rfl
      · exact hexd_okw (by omega)
      · exact hexd_okw (by omega)
theorem name_okw : ∀ x ∈ nameL ++ [playW, picksW, ticksW, clientW], WordB x := fun x hx => by
  have h : ∀ x ∈ nameL ++ [playW, picksW, ticksW, clientW], x ≠ [] ∧ ∀ c ∈ x, okb c = true ∧ c ≠ 32 := by decide +kernel
  exact ⟨(h x hx).1, (h x hx).2⟩
/-- A call that has a text. -/
structure FineC (c : CallV) : Prop where
  some : callW c ≠ none
  n : InI c.n
  dir : InI c.dir
  who : InI c.who
  at_ : InI c.at_
  xs : ∀ x ∈ c.xs, x < 18446744073709551616
theorem twoW_of {x y : Int} (hx : InI x) (hy : InI y) : twoW [Lib.itoa x, Lib.itoa y] = some (x, y) :=
  twoW_some.2 (allW_of (f := numW) (g := Lib.itoa) (p := InI) numW_iff (l := [x, y]) (by simp [hx, hy]))
theorem readW_of {c : CallV} (h : FineC c) : ∃ w ws, callW c = some (w :: ws) ∧ readW (w :: ws) = some (ownV c) ∧ w ≠ clientW ∧ ∀ x ∈ w :: ws, WordB x := by
  obtain ⟨k, n, dir, text, who, at', xs⟩ := c
  have nm : ∀ x ∈ nameL, WordB x := fun x hx => name_okw x (List.mem_append_left _ hx)
  have two : ∀ (w : List UInt8) (a b : Int), w ∈ nameL → ∀ x ∈ w :: [Lib.itoa a, Lib.itoa b], WordB x := fun w a b hw x hx => by
    simp only [List.mem_cons, List.not_mem_nil, or_false] at hx
    rcases hx with rfl | rfl | rfl
    · exact nm _ hw
    · exact itoa_okw _
    · exact itoa_okw _
  by_cases h1 : k = 1
  · subst h1
    refine ⟨_, _, rfl, ?_, by decide, two _ _ _ (by decide)⟩
    rw [readW, show kindW [103, 101, 116] = 1 from rfl, if_pos (.inl rfl), twoW_of h.n h.dir]
    rfl
  by_cases h2 : k = 2
  · subst h2
    refine ⟨_, _, rfl, ?_, by decide, two _ _ _ (by decide)⟩
    rw [readW, show kindW [108, 111, 111, 107, 117, 112] = 2 from rfl, if_pos (.inr (.inl rfl)), twoW_of h.n h.dir]
    rfl
  by_cases h3 : k = 3
  · subst h3
    refine ⟨_, _, rfl, ?_, by decide, two _ _ _ (by decide)⟩
    rw [readW, show kindW [101, 118, 105, 99, 116] = 3 from rfl, if_pos (.inr (.inr rfl)), twoW_of h.n h.dir]
    rfl
  by_cases h4 : k = 4
  · subst h4
    refine ⟨_, _, rfl, ?_, by decide, fun x hx => ?_⟩
    · rw [readW, show kindW [105, 109, 112, 111, 114, 116] = 4 from rfl, if_neg (by decide), if_pos rfl, textW_iff.2 rfl]
      rfl
    · rcases List.mem_cons.1 hx with rfl | hx
      · exact nm _ (by decide)
      · exact hexW_okw _ x hx
  by_cases h5 : k = 5
  · subst h5
    refine ⟨_, _, rfl, ?_, by decide, fun x hx => ?_⟩
    · rw [readW, show kindW [101, 120, 112, 111, 114, 116] = 5 from rfl, if_neg (by decide), if_neg (by decide), if_pos rfl, if_pos rfl]
      rfl
    · rw [List.mem_singleton.1 hx]
      exact nm _ (by decide)
  by_cases h6 : k = 6
  · subst h6
    refine ⟨_, _, rfl, ?_, by decide, fun x hx => ?_⟩
    · rw [readW, show kindW [101, 120, 101, 99, 117, 116, 101] = 6 from rfl, if_neg (by decide), if_neg (by decide), if_neg (by decide), if_neg (by decide), if_pos rfl, if_neg (by simp)]
      rw [show ([Lib.itoa who, Lib.itoa at'] ++ xs.map Lib.decDigits).take 2 = [Lib.itoa who, Lib.itoa at'] from rfl, show ([Lib.itoa who, Lib.itoa at'] ++ xs.map Lib.decDigits).drop 2 = xs.map Lib.decDigits from rfl]
      rw [twoW_of h.who h.at_, show usW (xs.map Lib.decDigits) = some xs from allW_of (f := uW) (g := Lib.decDigits) (p := fun n => n < 18446744073709551616) uW_iff h.xs]
      rfl
    · rcases List.mem_cons.1 hx with rfl | hx
      · exact nm _ (by decide)
      · rcases List.mem_append.1 hx with hx | hx
        · simp only [List.mem_cons, List.not_mem_nil, or_false] at hx
          rcases hx with rfl | rfl
          · exact itoa_okw _
          · exact itoa_okw _
        · obtain ⟨u, _, rfl⟩ := List.mem_map.1 hx
          exact dec_okw _
  by_cases h7 : k = 7
  · subst h7
    refine ⟨_, _, rfl, ?_, by decide, two _ _ _ (by decide)⟩
    rw [readW, show kindW [114, 101, 108, 101, 97, 115, 101] = 7 from rfl, if_neg (by decide), if_neg (by decide), if_neg (by decide), if_pos rfl, twoW_of h.who h.at_]
    rfl
  · exact absurd (by simp [callW, h1, h2, h3, h4, h5, h6, h7]) h.some
theorem parse_line {k : Nat} {S S' : ScrV} {ws : List (List UInt8)} (h0 : ws ≠ []) (hw : ∀ x ∈ ws, WordB x) (h : stepL k S ws = some S') (rest : List UInt8) :
    parseL k S (glue ws ++ 10 :: rest) = parseL (k + 1) S' rest :=
  parseL_go (by simp) (lineL_of fun hm => by have := glue_okb hw _ hm; revert this; decide) (by rw [lineStep, wordsOf_glueW h0 hw]; exact h)
theorem ints_okw {w : List UInt8} (hw : w ∈ [playW, picksW, ticksW, clientW]) (l : List Int) : ∀ x ∈ w :: l.map Lib.itoa, WordB x := fun x hx => by
  rcases List.mem_cons.1 hx with rfl | hx
  · exact name_okw _ (List.mem_append_right _ hw)
  · obtain ⟨n, _, rfl⟩ := List.mem_map.1 hx
    exact itoa_okw n
theorem parse_calls : ∀ (l : List CallV) (k : Nat) (S : ScrV) (L : List (List CallV)) (l0 : List CallV) (rest : List UInt8), 3 ≤ k → S.clients = L ++ [l0] → (∀ c ∈ l, FineC c) →
    parseL k S (callsT l ++ rest) = parseL (k + l.length) { S with clients := L ++ [l0 ++ l.map ownV] } rest
  | [], k, S, L, l0, rest, hk, hS, _ => by
    simp only [List.map_nil, List.append_nil, List.length_nil, Nat.add_zero, callsT, List.flatMap_nil, List.nil_append]
    rw [← hS]
  | c :: l, k, S, L, l0, rest, hk, hS, h => by
    obtain ⟨w, ws, h1, h2, h3, h4⟩ := readW_of (h c (by simp))
    have e : callsT (c :: l) ++ rest = glue (w :: ws) ++ 10 :: (callsT l ++ rest) := by
      rw [callsT, List.flatMap_cons, callT, h1]
      simp [callsT]
    have hst : stepL k S (w :: ws) = some { S with clients := L ++ [l0 ++ [ownV c]] } := by
      simp only [stepL]
      rw [if_neg (by omega), if_neg (by omega), if_neg (by omega), if_neg h3, h2]
      simp only
      rw [addLast_some (by rw [hS]; simp)]
      simp [hS]
    rw [e, parse_line (by simp) h4 hst, parse_calls l (k + 1) _ L (l0 ++ [ownV c]) rest (by omega) rfl (fun x hx => h x (List.mem_cons_of_mem _ hx))]
    simp only [List.length_cons, List.map_cons, List.append_assoc, List.singleton_append]
    rw [show k + 1 + l.length = k + (l.length + 1) by omega]
/-- The lines of clients. -/
def linesC (L : List (List CallV)) : Nat := (L.map fun l => l.length + 1).sum
theorem parse_clients : ∀ (M : List (List CallV)) (k : Nat) (S : ScrV) (rest : List UInt8), 3 ≤ k → (∀ l ∈ M, ∀ c ∈ l, FineC c) →
    parseL k S (clientsT M ++ rest) = parseL (k + linesC M) { S with clients := S.clients ++ M.map fun l => l.map ownV } rest
  | [], k, S, rest, hk, _ => by
    simp [clientsT, linesC]
  | l :: M, k, S, rest, hk, h => by
    have e : clientsT (l :: M) ++ rest = glue [clientW] ++ 10 :: (callsT l ++ (clientsT M ++ rest)) := by
      simp [clientsT, clientT]
    have hst : stepL k S [clientW] = some { S with clients := S.clients ++ [[]] } := by
      simp only [stepL]
      rw [if_neg (by omega), if_neg (by omega), if_neg (by omega), if_pos trivial, if_pos trivial]
    rw [e, parse_line (ws := [clientW]) (by simp) (ints_okw (by decide) []) hst, parse_calls l (k + 1) _ S.clients [] _ (by omega) rfl (h l (by simp)), parse_clients M _ _ rest (by omega) (fun x hx => h x (List.mem_cons_of_mem _ hx))]
    simp only [List.nil_append, List.map_cons, List.append_assoc, List.singleton_append, linesC, List.map_cons, List.sum_cons]
    rw [show k + 1 + l.length + (M.map fun l => l.length + 1).sum = k + (l.length + 1 + (M.map fun l => l.length + 1).sum) by omega]
/-- A script of calls that have a text. -/
structure FineS (S : ScrV) : Prop where
  stripes : InI S.stripes
  room : InI S.room
  picks : ∀ n ∈ S.picks, InI n
  ticks : ∀ n ∈ S.ticks, InI n
  calls : ∀ l ∈ S.clients, ∀ c ∈ l, FineC c
def ownS (S : ScrV) : ScrV := { S with clients := S.clients.map fun l => l.map ownV }
/-- What is printed is read as its own form. -/
theorem print_parse {S : ScrV} (h : FineS S) : parseL 0 S0 (printL S) = .ok (3 + linesC S.clients, ownS S) := by
  have e : printL S = glue (playW :: [S.stripes, S.room].map Lib.itoa) ++ 10 :: (glue (picksW :: S.picks.map Lib.itoa) ++ 10 :: (glue (ticksW :: S.ticks.map Lib.itoa) ++ 10 :: (clientsT S.clients ++ []))) := by
    simp [printL, headT, intsL]
  have s0 : stepL 0 S0 (playW :: [S.stripes, S.room].map Lib.itoa) = some { S0 with stripes := S.stripes, room := S.room } := by
    simp only [stepL]
    rw [if_pos trivial, if_pos trivial]
    rw [show [S.stripes, S.room].map Lib.itoa = [Lib.itoa S.stripes, Lib.itoa S.room] from rfl, twoW_of h.stripes h.room]
    rfl
  have nums : ∀ {l : List Int}, (∀ n ∈ l, InI n) → numsW (l.map Lib.itoa) = some l := fun hl => allW_of (f := numW) (g := Lib.itoa) (p := InI) numW_iff hl
  have s1 : stepL 1 { S0 with stripes := S.stripes, room := S.room } (picksW :: S.picks.map Lib.itoa) = some { S0 with stripes := S.stripes, room := S.room, picks := S.picks } := by
    simp only [stepL]
    rw [if_neg (by omega), if_pos trivial, if_pos trivial, nums h.picks]
    rfl
  have s2 : stepL 2 { S0 with stripes := S.stripes, room := S.room, picks := S.picks } (ticksW :: S.ticks.map Lib.itoa) = some { S0 with stripes := S.stripes, room := S.room, picks := S.picks, ticks := S.ticks } := by
    simp only [stepL]
    rw [if_neg (by omega), if_neg (by omega), if_pos trivial, if_pos trivial, nums h.ticks]
    rfl
  rw [e, parse_line (by simp) (ints_okw (by decide) _) s0, parse_line (by simp) (ints_okw (by decide) _) s1, parse_line (by simp) (ints_okw (by decide) _) s2, parse_clients _ _ _ _ (by omega) h.calls, parseL_nil]
  rfl
end Go.Proofs.YtplhmcmfdcklaaaDoor.Lex
/- The statement on texts as scripts. -/
namespace Go.Proofs.YtplhmcmfdcklaaaDoor.Lex
open Go.RowKit
set_option linter.unusedSimpArgs false
set_option linter.unusedVariables false
theorem parseL_pos : ∀ (n k : Nat) (S : ScrV) (l : List UInt8) (m : Nat), l.length ≤ n → parseL k S l = .error m → 0 < m
  | n, k, S, l, m, hn, h => by
    by_cases h0 : l = []
    · subst h0
      rw [parseL_nil] at h
      cases h
    · cases hl : lineL l with
      | none => rw [parseL_no h0 hl] at h; cases h; omega
      | some p =>
        obtain ⟨a, b⟩ := p
        cases hs : lineStep k S a with
        | none => rw [parseL_bad h0 hl hs] at h; cases h; omega
        | some S1 =>
          rw [parseL_go h0 hl hs] at h
          have hlen := lineL_len hl
          match n, hn with
          | 0, hn => omega
          | n + 1, hn => exact parseL_pos n (k + 1) S1 b m (by omega) h
theorem parseL_le : ∀ (n k : Nat) (S : ScrV) (l : List UInt8) (m : Nat), l.length ≤ n → parseL k S l = .error m → m ≤ k + l.length
  | n, k, S, l, m, hn, h => by
    by_cases h0 : l = []
    · subst h0
      rw [parseL_nil] at h
      cases h
    · have hpos : 0 < l.length := List.length_pos_iff.2 h0
      cases hl : lineL l with
      | none => rw [parseL_no h0 hl] at h; cases h; omega
      | some p =>
        obtain ⟨a, b⟩ := p
        cases hs : lineStep k S a with
        | none => rw [parseL_bad h0 hl hs] at h; cases h; omega
        | some S1 =>
          rw [parseL_go h0 hl hs] at h
          have hlen := lineL_len hl
          match n, hn with
          | 0, hn => omega
          | n + 1, hn =>
            have := parseL_le n (k + 1) S1 b m (by omega) h
            omega
theorem callT_len {c : CallV} (h : GoodC c) : c.text.size ≤ (callT c).length ∧ c.xs.length ≤ (callT c).length ∧ 1 ≤ (callT c).length ∧ InI c.kind := by
  have hso := h.some
  have how := h.own
  obtain ⟨k, n, dir, text, who, at', xs⟩ := c
  have tl : ∀ (ws : List (List UInt8)), callT ⟨k, n, dir, text, who, at', xs⟩ = glue ws ++ [10] → ws.length ≤ (callT ⟨k, n, dir, text, who, at', xs⟩).length ∧ ∀ x ∈ ws, x.length ≤ (callT ⟨k, n, dir, text, who, at', xs⟩).length := fun ws e => by
    obtain ⟨g1, g2⟩ := glue_short ws
    rw [e, List.length_append]
    exact ⟨by simpa using g2, fun x hx => by have := g1 x hx; omega⟩
  by_cases h4 : k = 4
  · subst h4
    have e : callT ⟨4, n, dir, text, who, at', xs⟩ = glue ([105, 109, 112, 111, 114, 116] :: hexW text.data.toList) ++ [10] := rfl
    obtain ⟨t1, t2⟩ := tl _ e
    have hx : xs = [] := by
      have := congrArg CallV.xs how
      exact this.symm
    refine ⟨?_, by simp [hx], by simp at t1; omega, by show InI 4; exact ⟨by omega, by omega⟩⟩
    by_cases h0 : text.data.toList = []
    · have : text.size = 0 := by
        have := congrArg List.length h0
        rw [Array.length_toList] at this
        exact this
      show text.size ≤ _
      omega
    · have hm := t2 (hexOf text.data.toList) (by rw [hexW, if_neg h0]; simp)
      rw [hexOf_len, Array.length_toList] at hm
      have e2 : text.data.size = text.size := rfl
      show text.size ≤ _
      omega
  · have ht : text = ⟨#[]⟩ := by
      have := congrArg CallV.text how
      simp only [ownV, if_neg h4] at this
      rw [← this]
      split <;> (try split) <;> (try split) <;> rfl
    have hts : text.size = 0 := by rw [ht]; rfl
    by_cases h6 : k = 6
    · subst h6
      have e : callT ⟨6, n, dir, text, who, at', xs⟩ = glue ([101, 120, 101, 99, 117, 116, 101] :: ([Lib.itoa who, Lib.itoa at'] ++ xs.map Lib.decDigits)) ++ [10] := rfl
      obtain ⟨t1, t2⟩ := tl _ e
      simp only [List.length_cons, List.length_append, List.length_map, List.length_nil] at t1
      exact ⟨by show text.size ≤ _; omega, by show xs.length ≤ _; omega, by omega, by show InI 6; exact ⟨by omega, by omega⟩⟩
    · have hx : xs = [] := by
        have := congrArg CallV.xs how
        simp only [ownV, if_neg h4, if_neg h6] at this
        rw [← this]
        split <;> (try split) <;> rfl
      have hne : callT ⟨k, n, dir, text, who, at', xs⟩ ≠ [] := callT_some hso
      have hl : 1 ≤ (callT ⟨k, n, dir, text, who, at', xs⟩).length := List.length_pos_iff.2 hne
      refine ⟨by show text.size ≤ _; omega, by simp [hx], hl, ?_⟩
      have : 1 ≤ k ∧ k ≤ 7 := by
        by_cases hk : 1 ≤ k ∧ k ≤ 7
        · exact hk
        · exfalso
          refine hso ?_
          simp only [callW]
          rw [if_neg (by omega), if_neg (by omega), if_neg (by omega), if_neg (by omega), if_neg (by omega), if_neg (by omega), if_neg (by omega)]
      show InI k
      exact ⟨by omega, by omega⟩
theorem callsT_len : ∀ {l : List CallV}, (∀ c ∈ l, GoodC c) → l.length ≤ (callsT l).length ∧ ∀ c ∈ l, (callT c).length ≤ (callsT l).length
  | [], _ => ⟨by simp, fun c hc => by cases hc⟩
  | c :: l, h => by
    obtain ⟨h1, h2⟩ := callsT_len (l := l) fun x hx => h x (List.mem_cons_of_mem _ hx)
    have e : callsT (c :: l) = callT c ++ callsT l := rfl
    have hc := (callT_len (h c (by simp))).2.2.1
    rw [e, List.length_append]
    refine ⟨by rw [List.length_cons]; omega, fun x hx => ?_⟩
    rcases List.mem_cons.1 hx with rfl | hx
    · omega
    · have := h2 x hx; omega
theorem clientsT_len : ∀ {L : List (List CallV)}, (∀ l ∈ L, ∀ c ∈ l, GoodC c) → L.length ≤ (clientsT L).length ∧ ∀ l ∈ L, (callsT l).length ≤ (clientsT L).length
  | [], _ => ⟨by simp, fun l hl => by cases hl⟩
  | l :: L, h => by
    obtain ⟨h1, h2⟩ := clientsT_len (L := L) fun x hx => h x (List.mem_cons_of_mem _ hx)
    have e : clientsT (l :: L) = clientT l ++ clientsT L := rfl
    have hl : (clientT l).length = 7 + (callsT l).length := by simp [clientT, glue, clientW]; omega
    rw [e, List.length_append, hl]
    refine ⟨by rw [List.length_cons]; omega, fun x hx => ?_⟩
    rcases List.mem_cons.1 hx with rfl | hx
    · omega
    · have := h2 x hx; omega
/-- A script of a text that is not long is not great. -/
theorem good_small {S : ScrV} (h : GoodS S) : S.clients.length ≤ (printL S).length ∧ S.picks.length ≤ (printL S).length ∧ S.ticks.length ≤ (printL S).length ∧ (∀ l ∈ S.clients, l.length ≤ (printL S).length) ∧ ∀ l ∈ S.clients, ∀ c ∈ l, c.text.size ≤ (printL S).length ∧ c.xs.length ≤ (printL S).length := by
  obtain ⟨c1, c2⟩ := clientsT_len h.calls
  have e : (printL S).length = (intsL playW [S.stripes, S.room]).length + (intsL picksW S.picks).length + (intsL ticksW S.ticks).length + (clientsT S.clients).length := by
    simp only [printL, headT, List.length_append]
  have il : ∀ (w : List UInt8) (l : List Int), l.length ≤ (intsL w l).length := fun w l => by
    have := (glue_short (w :: l.map Lib.itoa)).2
    simp only [intsL, List.length_append, List.length_cons, List.length_map, List.length_nil] at *
    omega
  have i1 := il picksW S.picks
  have i2 := il ticksW S.ticks
  refine ⟨by omega, by omega, by omega, fun l hl => ?_, fun l hl c hc => ?_⟩
  · have := c2 l hl
    have := (callsT_len (h.calls l hl)).1
    omega
  · have := c2 l hl
    have := (callsT_len (h.calls l hl)).2 c hc
    have := callT_len (h.calls l hl c hc)
    omega
theorem RC.plain {w : World} {R : Nat} {a : Option Addr} {n c : Nat} {L : List (List CallV)} (h : RC w R (.slice a n c) L) : n = L.length ∧ RowsP w a L := by
  obtain ⟨cells, B, h1, h2, ho, hr, hl⟩ := h
  obtain ⟨a', c', e⟩ := own_slice ho
  cases e
  refine ⟨rfl, fun i hi => ?_⟩
  obtain ⟨ax, cx, e1, e2⟩ : ∃ ax cx, cells[i]? = some (.slice ax (L[i]'hi).length cx) ∧ CallP w ax (L[i]'hi) := by
    by_cases hlast : i + 1 < L.length
    · obtain ⟨ax, cx, e1, e2⟩ := hr i hi hlast
      exact ⟨ax, cx, e1, e2.plain⟩
    · have hie : i = L.length - 1 := by omega
      subst hie
      obtain ⟨ax, cx, cs, e1, _, e2⟩ := hl (by omega)
      exact ⟨ax, cx, e1, e2.plain⟩
  obtain ⟨g, cap, hv, _⟩ := own_some ho (by omega)
  cases hv
  have hc := (own_cell (i := i) ho e1).1
  exact ⟨g, 0, ax, cx, rfl, World.block_lt_of_cell? w _ hc, by rw [Nat.zero_add]; exact hc, e2⟩
theorem RowsP.rows {w : World} {a : Option Addr} {L : List (List CallV)} (h : RowsP w a L) : CallRows w a L := fun i hi => by
  obtain ⟨g, off, ax, cx, h1, h2, h3, h4⟩ := h i hi
  refine ⟨g, off, ax, cx, h1, h2, h3, fun k hk => ?_⟩
  obtain ⟨g', off', bx, dx, e1, e2, c0, c1, c2, c3, c4, c5, c6, hu, _⟩ := h4 k hk
  exact ⟨g', off', bx, dx, e1, e2, c0, c1, c2, c3, c4, c5, c6, hu⟩
theorem own_map {L : List (List CallV)} (h : ∀ l ∈ L, ∀ c ∈ l, GoodC c) : (L.map fun l => l.map ownV) = L := by
  have e : (L.map fun l => l.map ownV) = L.map id := List.map_congr_left fun l hl => by
    have : l.map ownV = l.map id := List.map_congr_left fun c hc => (h l hl c hc).own
    rw [this, List.map_id]
    rfl
  rw [e, List.map_id]
set_option maxRecDepth 100000 in
set_option maxHeartbeats 4000000 in
theorem reads_bad (s : ByteArray) (w : World) (N : Nat) (hN : 0 < N) (hNm : N ≤ 9223372036854775807) (hs : s.size ≤ 4000) (hm : HasMax w) (ht : HasTab w) (he : HasErrs w)
    (hp : ∀ w, HasMax w → HasTab w → HasErrs w → Calls Tryd.prog 15 #[.string s] w fun e w' => e = .returned (.tuple #[zeroScr, .int .i64 (N : Int), .int .i64 10]) ∧ Below w.heap.size w w')
    (hr : ∀ w, Calls Tryd.prog 18 #[.string s] w fun e w' => e = .returned (.tuple #[zeroScr, .int .i64 (N : Int)]) ∧ Below w.heap.size w w') :
    Calls Tryd.prog 5 #[.string s] w fun e w' => e = .returned (.bool true) ∧ Below w.heap.size w w' := by
  have HM := Lib.hid hm
  have HT := Lib.hid ht
  have HE := Lib.hid he
  have HP := Lib.hid hp
  have HR := Lib.hid hr
  have hN0 : ((N : Int) == 0) = false := by simp only [beq_eq_false_iff_ne, ne_eq]; omega
  clear hm ht he hp hr
  go_enter Tryd.func5, Tryd.ntmps5
  go_wp2_with (first
    | (go_at_call 15; (with_reducible refine (HP.out _ HM.out HT.out HE.out).mono ?_); rintro e w1 ⟨rfl, hb1⟩; have HB1 := Lib.hid hb1; clear hb1)
    | (go_at_call 18; (with_reducible refine (HR.out _).mono ?_); rintro e w2 ⟨rfl, hb2⟩; have HB2 := Lib.hid (below_next (HB1.out.alloc HB1.out.size _) hb2 (Nat.le_refl _)); have qq := (hb2.block w1.heap.size (by simp)).trans (heap_alloc_new w1 _); have hz12 : w1.heap.size < w2.heap.size := (Array.getElem?_eq_some_iff.1 qq).1; have q0 : w2.cell? ⟨w1.heap.size, 0, none⟩ = some (.int .i64 0) := cell_at qq rfl; have q1 : w2.cell? ⟨w1.heap.size, 1, none⟩ = some (.int .i64 0) := cell_at qq rfl; have q2 : w2.cell? ⟨w1.heap.size, 2, none⟩ = some (.slice none 0 0) := cell_at qq rfl; have q3 : w2.cell? ⟨w1.heap.size, 3, none⟩ = some (.slice none 0 0) := cell_at qq rfl; have q4 : w2.cell? ⟨w1.heap.size, 4, none⟩ = some (.slice none 0 0) := cell_at qq rfl; clear qq hb2)
    | (go_at_call 17; (with_reducible refine (alike_zero _).mono ?_); rintro e w3 ⟨rfl, hb3⟩; have HB3 := Lib.hid (below_next (HB2.out.alloc HB2.out.size _) hb3 (Nat.le_refl _)); clear hb3)
    | (go_at_call 7; (with_reducible refine (live_scr _ (HM.out.below HB3.out) (HT.out.below HB3.out)).mono ?_); rintro e w4 ⟨rfl, hb4⟩; have HB4 := Lib.hid (below_next HB3.out hb4 (Nat.le_refl _)); clear hb4))
  go_ret
  exact ⟨rfl, HB4.out⟩
set_option maxRecDepth 100000 in
set_option maxHeartbeats 4000000 in
theorem reads_good (s : ByteArray) (w : World) (S : ScrV) (k : Nat) (hk : ¬ k < 3) (hpl : parseL 0 S0 s.data.toList = .ok (k, S)) (hs : s.size ≤ 4000) (hm : HasMax w) (ht : HasTab w) (he : HasErrs w) :
    Calls Tryd.prog 5 #[.string s] w fun e w' => e = .returned (.bool true) ∧ Below w.heap.size w w' := by
  obtain ⟨hpr, hg⟩ := parse_ok hpl hk
  have hlen : (printL S).length = s.size := by rw [hpr, Array.length_toList]; rfl
  obtain ⟨g1, g2, g3, g4, g5⟩ := good_small hg
  have HP := Lib.hid (fun w hm ht he => parse_any s w hm ht he (by omega))
  have HR := Lib.hid (fun w => rparse_any s w (by omega))
  unfold ParsePost at HP
  unfold RParsePost at HR
  rw [hpl] at HP HR
  simp only [if_neg hk] at HP HR
  have hown := own_map hg.calls
  have HAL : Hid (∀ (aC bC aP bP aT bT : Option Addr) (cC dC cP dP cT dT : Nat) (w : World), Ints w aP S.picks → Ints w bP S.picks → Ints w aT S.ticks → Ints w bT S.ticks → RowsP w aC S.clients → RowsP w bC S.clients → Calls Tryd.prog 17 #[.agg #[.int .i64 S.stripes, .int .i64 S.room, .slice aC S.clients.length cC, .slice aP S.picks.length cP, .slice aT S.ticks.length cT], .agg #[.int .i64 S.stripes, .int .i64 S.room, .slice bC S.clients.length dC, .slice bP S.picks.length dP, .slice bT S.ticks.length dT]] w
      fun e w' => e = .returned (.bool true) ∧ Below w.heap.size w w') := Lib.hid fun aC bC aP bP aT bT cC dC cP dP cT dT w h1 h2 h3 h4 h5 h6 =>
    alike_yes S.stripes S.room S.picks S.ticks S.clients aC bC aP bP aT bT cC dC cP dP cT dT w h1 h2 h3 h4 (by rw [hown]; exact h5) h6 (by omega) (by omega) (by omega) (fun l hl => ⟨by have := g4 l hl; omega, fun c hc => by have := (g5 l hl c hc).2; omega⟩)
  have HPR : Hid (∀ (aC aP aT : Option Addr) (cC cP cT : Nat) (w : World), HasMax w → HasTab w → Ints w aP S.picks → Ints w aT S.ticks → RowsP w aC S.clients → Calls Tryd.prog 12 #[.agg #[.int .i64 S.stripes, .int .i64 S.room, .slice aC S.clients.length cC, .slice aP S.picks.length cP, .slice aT S.ticks.length cT]] w fun e w' => e = .returned (.tuple #[.string s, .int .i64 0]) ∧ Below w.heap.size w w') := Lib.hid fun aC aP aT cC cP cT w hm ht h1 h2 h3 => by
    have e1 : headT S.stripes S.room S.picks S.ticks ++ clientsT S.clients = s.data.toList := hpr
    refine (print_walk S.stripes S.room S.picks S.ticks S.clients aC aP aT cC cP cT w hm ht hg.stripes hg.room h1 h2 h3.rows (fun l hl c hc => ?_) (by omega) (by omega) (by omega) (fun l hl => by have := g4 l hl; omega) (by rw [e1, Array.length_toList]; show s.size ≤ _; omega)).mono ?_
    · have hc1 := hg.calls l hl c hc
      have hc2 := callT_len hc1
      have hc3 := g5 l hl c hc
      exact ⟨hc2.2.2.2, hc1.n, hc1.dir, hc1.who, hc1.at_, by omega, by omega⟩
    · rintro e w' ⟨hb, h⟩
      rw [e1] at h
      have hl : s.data.toList.length = s.size := by rw [Array.length_toList]; rfl
      rcases h with ⟨⟨l, hl, c, hc, hn⟩, _⟩ | ⟨_, ⟨h1, _⟩ | ⟨_, h2⟩⟩
      · exact absurd hn (hg.calls l hl c hc).some
      · omega
      · exact ⟨h2, hb⟩
  have HM := Lib.hid hm
  have HT := Lib.hid ht
  have HE := Lib.hid he
  clear hm ht he hpr hg hlen g1 g2 g3 g4 g5 hown hpl hk
  go_enter Tryd.func5, Tryd.ntmps5
  go_wp2_with (first
    | (go_at_call 15; (with_reducible refine (HP.out _ HM.out HT.out HE.out).mono ?_); rintro e w1 ⟨hb1, vC, vP, vT, hiP, hiT, hrC, rfl⟩; obtain ⟨aP, cP, rfl⟩ : ∃ aP cP, vP = .slice aP S.picks.length cP := (by obtain ⟨a, c, h, _⟩ := hiP; exact ⟨a, c, h⟩); obtain ⟨aT, cT, rfl⟩ : ∃ aT cT, vT = .slice aT S.ticks.length cT := (by obtain ⟨a, c, h, _⟩ := hiT; exact ⟨a, c, h⟩); obtain ⟨aC, cC, rfl⟩ : ∃ aC cC, vC = .slice aC S.clients.length cC := (by obtain ⟨_, _, _, _, ho, _⟩ := hrC; exact own_slice ho); have HB1 := Lib.hid hb1; have HP1 := Lib.hid hiP.plain.2; have HT1 := Lib.hid hiT.plain.2; have HC1 := Lib.hid hrC.plain.2; clear hb1 hiP hiT hrC)
    | (go_at_call 18; (with_reducible refine (HR.out _).mono ?_); rintro e w2 ⟨hb2, v, rfl, aC2, cC2, aP2, cP2, aT2, cT2, rfl, hiP, hiT, hrC⟩; have HB2 := Lib.hid (below_next (HB1.out.alloc HB1.out.size _) hb2 (Nat.le_refl _)); have HP2 := Lib.hid hiP.plain.2; have HT2 := Lib.hid hiT.plain.2; have HC2 := Lib.hid hrC.plain.2; have qq := (hb2.block w1.heap.size (by simp)).trans (heap_alloc_new w1 _); have hz12 : w1.heap.size < w2.heap.size := (Array.getElem?_eq_some_iff.1 qq).1; have HQQ := Lib.hid qq; have q0 : w2.cell? ⟨w1.heap.size, 0, none⟩ = some (.int .i64 S.stripes) := cell_at qq rfl; have q1 : w2.cell? ⟨w1.heap.size, 1, none⟩ = some (.int .i64 S.room) := cell_at qq rfl; have q2 : w2.cell? ⟨w1.heap.size, 2, none⟩ = some (.slice aC S.clients.length cC) := cell_at qq rfl; have q3 : w2.cell? ⟨w1.heap.size, 3, none⟩ = some (.slice aP S.picks.length cP) := cell_at qq rfl; have q4 : w2.cell? ⟨w1.heap.size, 4, none⟩ = some (.slice aT S.ticks.length cT) := cell_at qq rfl; have HB12 : Hid (Below w1.heap.size w1 w2) := Lib.hid (((Below.refl _ _).alloc (Nat.le_refl _) _).trans (hb2.mono (by simp))); clear qq hb2 hiP hiT hrC)
    | (go_at_call 17; (with_reducible refine (HAL.out _ _ _ _ _ _ _ _ _ _ _ _ _ (HP1.out.keep (HB12.out.alloc HB12.out.size _)) (HP2.out.keep ((Below.refl _ _).alloc (Nat.le_refl _) _)) (HT1.out.keep (HB12.out.alloc HB12.out.size _)) (HT2.out.keep ((Below.refl _ _).alloc (Nat.le_refl _) _)) (HC1.out.keep (HB12.out.alloc HB12.out.size _)) (HC2.out.keep ((Below.refl _ _).alloc (Nat.le_refl _) _))).mono ?_); rintro e w3 ⟨rfl, hb3⟩; have HB13 : Hid (Below w1.heap.size w1 w3) := Lib.hid (below_next (HB12.out.alloc HB12.out.size _) hb3 (Nat.le_refl _)); have qq := (hb3.block w1.heap.size (by simp; omega)).trans ((Lib.alloc_old w2 _ _ hz12).trans HQQ.out); have r0 : w3.cell? ⟨w1.heap.size, 0, none⟩ = some (.int .i64 S.stripes) := cell_at qq rfl; have r1 : w3.cell? ⟨w1.heap.size, 1, none⟩ = some (.int .i64 S.room) := cell_at qq rfl; have r2 : w3.cell? ⟨w1.heap.size, 2, none⟩ = some (.slice aC S.clients.length cC) := cell_at qq rfl; have r3 : w3.cell? ⟨w1.heap.size, 3, none⟩ = some (.slice aP S.picks.length cP) := cell_at qq rfl; have r4 : w3.cell? ⟨w1.heap.size, 4, none⟩ = some (.slice aT S.ticks.length cT) := cell_at qq rfl; have HB3 : Hid (Below w.heap.size w w3) := Lib.hid (HB1.out.trans (HB13.out.mono HB1.out.size)); clear qq hb3)
    | (go_at_call 12; (with_reducible refine (HPR.out _ _ _ _ _ _ _ (HM.out.below HB3.out) (HT.out.below HB3.out) (HP1.out.keep HB13.out) (HT1.out.keep HB13.out) (HC1.out.keep HB13.out)).mono ?_); rintro e w4 ⟨rfl, hb4⟩; have HB4 := Lib.hid (below_next HB3.out hb4 (Nat.le_refl _)); clear hb4)
    | (go_at_call 7; (with_reducible refine (live_scr _ (HM.out.below HB4.out) (HT.out.below HB4.out)).mono ?_); rintro e w5 ⟨rfl, hb5⟩; have HB5 := Lib.hid (below_next HB4.out hb5 (Nat.le_refl _)); clear hb5))
  go_ret
  exact ⟨rfl, HB5.out⟩
set_option maxRecDepth 100000 in
theorem reads_law (s : ByteArray) (w : World) (hm : HasMax w) (ht : HasTab w) (he : HasErrs w) : Calls Tryd.prog 5 #[.string s] w fun e w' => e = .returned (.bool true) ∧ Below w.heap.size w w' := by
  by_cases hs : s.size ≤ 4000
  · have hl : s.data.toList.length = s.size := by rw [Array.length_toList]; rfl
    cases hpl : parseL 0 S0 s.data.toList with
    | error n =>
      have hn := parseL_pos _ 0 S0 _ n (Nat.le_refl _) hpl
      have hn2 := parseL_le _ 0 S0 _ n (Nat.le_refl _) hpl
      refine reads_bad s w n hn (by omega) hs hm ht he (fun w hm ht he => (parse_any s w hm ht he (by omega)).mono ?_) (fun w => (rparse_any s w (by omega)).mono ?_)
      · rintro e w' ⟨hb, h⟩
        rw [hpl] at h
        exact ⟨h, hb⟩
      · rintro e w' ⟨hb, h⟩
        rw [hpl] at h
        exact ⟨h, hb⟩
    | ok p =>
      obtain ⟨k, S⟩ := p
      by_cases hk : k < 3
      · refine reads_bad s w (k + 1) (by omega) (by omega) hs hm ht he (fun w hm ht he => (parse_any s w hm ht he (by omega)).mono ?_) (fun w => (rparse_any s w (by omega)).mono ?_)
        · rintro e w' ⟨hb, h⟩
          rw [hpl] at h
          simp only [if_pos hk] at h
          exact ⟨h, hb⟩
        · rintro e w' ⟨hb, h⟩
          rw [hpl] at h
          simp only [if_pos hk] at h
          exact ⟨h, hb⟩
      · exact reads_good s w S k hk hpl hs hm ht he
  · have hs' : (4000 : Int) < s.size := by omega
    have HM := Lib.hid hm
    have HT := Lib.hid ht
    clear hm ht he
    go_enter Tryd.func5, Tryd.ntmps5
    go_wp2_with (go_at_call 7; (with_reducible refine (live_scr _ HM.out HT.out).mono ?_); rintro e w4 ⟨rfl, hb4⟩; have HB4 := Lib.hid hb4; clear hb4)
    go_ret
    exact ⟨rfl, HB4.out⟩
end Go.Proofs.YtplhmcmfdcklaaaDoor.Lex
