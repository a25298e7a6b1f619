/- Clone36, GrowR, Learn36, Any36: laid into one text. -/
import Derived.Test.YtibabpahpiijgaaGreatDoorGNil
import Derived.Test.YtibabpahpiijgaaGreatDoorGSrt
import Derived.Test.YtibabpahpiijgaaGreatDoorGrow
import Derived.Test.YtibabpahpiijgaaGreatDoorEnt
import Derived.Test.YtibabpahpiijgaaGreatDoorGKey
/- A copy of the state of a model that knows nothing. -/
namespace Go.Proofs.YtibabpahpiijgaaGreatDoor.Lex
open Go.RowKit Stab
set_option linter.unusedSimpArgs false
set_option linter.unusedVariables false
theorem mk_keyss (w : World) : (Instr.makeSlice 34 (.int .i64 2) (.int .i64 2)).run Tryz.prog w = .ok (.slice (some ⟨w.heap.size, 0, none⟩) 2 2) (w.alloc (.cells #[.slice none 0 0, .slice none 0 0] 79)) := by
  obtain ⟨i, hi, hz0, hz1, hz2⟩ := info_parts (show (Tryz.prog.info? 79).map (fun i => (i.zero, i.size, i.bytes)) = some (some (.slice none 0 0), 1, 24) by kernel_rfl)
  have hr := run_make (P := Tryz.prog) w 34 79 i _ Tryz.underlying34 hi hz0 .i64 .i64 2 2 (by omega) (by omega) (by rw [hz2]; omega) (by omega)
  simp only [hz1] at hr
  have e : madeCells (Value.slice none 0 0).cells (Int.toNat 2 * 1) = #[.slice none 0 0, .slice none 0 0] := by kernel_rfl
  rw [e] at hr
  exact hr
/-- A model that knows nothing, with two empty stripes. -/
def Fresh (room : Int) (n : Nat) (w : World) (e : Value) (w' : World) : Prop :=
  ∃ a B, e = .agg #[.int .i64 room, .slice a 0 0, .slice (some ⟨B, 0, none⟩) 2 2, .slice none 0 0] ∧ n ≤ B ∧ w'.heap[B]? = some (.cells #[.slice none 0 0, .slice none 0 0] 79 (0, 0)) ∧ Below n w w'
structure ClJ (room : Int) (w : World) (a : Option Addr) (B pc B2 : Nat) (W : World) : Prop where
  box : W.heap[w.heap.size]? = some (.cells #[.int .i64 room, .slice a 0 0, .slice (some ⟨B, 0, none⟩) 2 pc, .slice none 0 0] 37 (0, 0))
  res : W.heap[w.heap.size + 1]? = some (.cells #[.int .i64 0, .slice none 0 0, .slice none 0 0, .slice none 0 0] 37 (0, 0))
  row : W.heap[B2]? = some (.cells #[.slice none 0 0, .slice none 0 0] 79 (0, 0))
  bel : Below w.heap.size w W
set_option maxRecDepth 100000 in
set_option maxHeartbeats 4000000 in
theorem cloneS_any (room : Int) (B pc : Nat) (x0 : Option Addr) (c0 : Nat) (w : World) (T : TypeId) (hl : RowOf (entryRd 1) 5 56 All w x0 0 c0 []) (hB : w.heap[B]? = some (.cells #[.slice none 0 0, .slice none 0 0] T (0, 0))) :
    Calls Tryz.prog 31 #[.agg #[.int .i64 room, .slice x0 0 c0, .slice (some ⟨B, 0, none⟩) 2 pc, .slice none 0 0]] w fun e w' => ∃ v, e = .returned v ∧ Fresh room w.heap.size w v w' := by
  obtain ⟨W1, hW1⟩ : ∃ W1, W1 = (w.alloc (.cells #[.int .i64 room, .slice x0 0 c0, .slice (some ⟨B, 0, none⟩) 2 pc, .slice none 0 0] 37)).alloc (.cells #[.int .i64 0, .slice none 0 0, .slice none 0 0, .slice none 0 0] 37) := ⟨_, rfl⟩
  have hb1 : Below w.heap.size w W1 := by rw [hW1]; exact ((Below.refl _ _).alloc (Nat.le_refl _) _).alloc (by simp) _
  have gs : W1.heap[w.heap.size]? = some (.cells #[.int .i64 room, .slice x0 0 c0, .slice (some ⟨B, 0, none⟩) 2 pc, .slice none 0 0] 37 (0, 0)) ∧ W1.heap[w.heap.size + 1]? = some (.cells #[.int .i64 0, .slice none 0 0, .slice none 0 0, .slice none 0 0] 37 (0, 0)) := by
    rw [hW1]
    simp only [heap_alloc_iff, World.size_alloc]
    refine ⟨?_, ?_⟩ <;> simp
  obtain ⟨g0, g1⟩ := gs
  have hz1 : W1.heap.size = w.heap.size + 2 := by rw [hW1]; simp
  have lB : B < w.heap.size := (Array.getElem?_eq_some_iff.1 hB).1
  have HSO : Hid (Calls Tryz.prog 50 #[.slice x0 0 c0] W1 fun e w' => ∃ a, e = .returned (.slice a 0 0) ∧ Below W1.heap.size W1 w') := Lib.hid ((sort_anyC 1 All [] x0 0 c0 W1 (by omega) (hl.keep (entryRd_ok _) (Fix.of_below hb1))).mono fun e w' ⟨a, h1, _, h3⟩ => ⟨a, h1, h3⟩)
  have c1 : W1.cell? ⟨w.heap.size, 1, none⟩ = some (.slice x0 0 c0) := cell_at g0 rfl
  have HG : Hid (∀ W, Below W1.heap.size W1 W → W.heap[w.heap.size]? = some (.cells #[.int .i64 room, .slice x0 0 c0, .slice (some ⟨B, 0, none⟩) 2 pc, .slice none 0 0] 37 (0, 0)) ∧ W.heap[w.heap.size + 1]? = some (.cells #[.int .i64 0, .slice none 0 0, .slice none 0 0, .slice none 0 0] 37 (0, 0)) ∧ W.heap[B]? = some (.cells #[.slice none 0 0, .slice none 0 0] T (0, 0))) := Lib.hid fun W hW =>
    ⟨(hW.block _ (by omega)).trans g0, (hW.block _ (by omega)).trans g1, (hW.block _ (by omega)).trans ((hb1.block _ lB).trans hB)⟩
  have HB1 := Lib.hid hb1
  have HZ1 := Lib.hid hz1
  have HLB := Lib.hid lB
  have HBB := Lib.hid hB
  clear g0 g1 hb1 hz1 lB hB hl
  go_enter Tryz.func31, Tryz.ntmps31
  go_upto_region 1 with fail
  rw [← hW1]
  clear hW1
  go_upto_region 2 with (go_at_call 50; (with_reducible refine HSO.out.mono ?_); rintro e w2 ⟨a, rfl, hb2⟩; obtain ⟨g0, g1, g2⟩ := HG.out w2 hb2; have HB2 := Lib.hid hb2; have b1 : w2.cell? ⟨w.heap.size, 1, none⟩ = some (.slice x0 0 c0) := cell_at g0 rfl; have f1 : w2.frozen? ⟨w.heap.size, 1, none⟩ = false := free_at g0; have HG0 := Lib.hid g0; have HG1 := Lib.hid g1; have HG2 := Lib.hid g2; clear g0 g1 g2 hb2 c1)
  obtain ⟨W3, hW3⟩ : ∃ W3, W3 = w2.setCell ⟨w.heap.size, 1, none⟩ (.slice a 0 0) := ⟨_, rfl⟩
  have hn2 : w.heap.size + 2 ≤ w2.heap.size := by have := HB2.out.size; have := HZ1.out; omega
  have g30 : W3.heap[w.heap.size]? = some (.cells #[.int .i64 room, .slice a 0 0, .slice (some ⟨B, 0, none⟩) 2 pc, .slice none 0 0] 37 (0, 0)) := by rw [hW3]; exact heap_set_at (o := 1) _ HG0.out
  have hz3 : W3.heap.size = w2.heap.size := by rw [hW3]; exact World.size_setCell _ _ _
  have g31 : W3.heap[w.heap.size + 1]? = some (.cells #[.int .i64 0, .slice none 0 0, .slice none 0 0, .slice none 0 0] 37 (0, 0)) := by rw [hW3, Below.heap_setCell _ _ _ _ (by simp)]; exact HG1.out
  have hb3 : Below w.heap.size w W3 := by rw [hW3]; exact (HB1.out.trans (HB2.out.mono HB1.out.size)).setCell (p := ⟨w.heap.size, 1, none⟩) (Nat.le_refl _) _
  obtain ⟨W4, hW4⟩ : ∃ W4, W4 = W3.alloc (.cells #[.slice none 0 0, .slice none 0 0] 79) := ⟨_, rfl⟩
  have c2 : W3.cell? ⟨w.heap.size, 2, none⟩ = some (.slice (some ⟨B, 0, none⟩) 2 pc) := cell_at g30 rfl
  have HJ0 : Hid (ClJ room w a B pc w2.heap.size W4) := Lib.hid (by
    rw [hW4]
    refine ⟨(Lib.alloc_old _ _ _ (by omega)).trans g30, (Lib.alloc_old _ _ _ (by omega)).trans g31, ?_, hb3.alloc (by omega) _⟩
    rw [← hz3]; exact heap_alloc_new W3 _)
  have hmk := mk_keyss
  obtain ⟨B2, hB2⟩ : ∃ B2, B2 = w2.heap.size := ⟨_, rfl⟩
  have HN2 : Hid (w.heap.size + 2 ≤ B2) := Lib.hid (by omega)
  rw [← hB2] at HJ0
  rw [← hW3]
  clear g30 g31 hb3 hn2 f1 b1 hW3
  go_upto_region 3 with fail
  rw [← hW4, ← hB2]
  have c2' : W4.cell? ⟨w.heap.size, 2, none⟩ = some (.slice (some ⟨B, 0, none⟩) 2 pc) := cell_at HJ0.out.box rfl
  clear hmk hW4 c2 hz3 hB2 HG0 HG1 HG2 HB2 HG HSO
  go_upto_region 4 with fail
  go_loopg [17] 2 (fun g iv wr => ∃ i : Nat, i ≤ 2 ∧ g = 2 - i ∧ iv = .int .i64 i ∧ ClJ room w a B pc B2 wr)
  case atStart => exact ⟨0, by omega, rfl, rfl, HJ0.out⟩
  case round =>
    obtain ⟨i, hi, rfl, rfl, hst⟩ := hrel
    obtain ⟨wo, rfl⟩ : ∃ wo : World, wo = wr := ⟨_, rfl⟩
    have HST := Lib.hid hst
    have p0 : wo.cell? ⟨B, 0, none⟩ = some (.slice none 0 0) := cell_at ((hst.bel.block _ HLB.out).trans HBB.out) rfl
    have p1 : wo.cell? ⟨B, 1, none⟩ = some (.slice none 0 0) := cell_at ((hst.bel.block _ HLB.out).trans HBB.out) rfl
    have q0 : wo.cell? ⟨B2, 0, none⟩ = some (.slice none 0 0) := cell_at hst.row rfl
    have q1 : wo.cell? ⟨B2, 1, none⟩ = some (.slice none 0 0) := cell_at hst.row rfl
    have f0 : ∀ o, wo.frozen? ⟨B2, o, none⟩ = false := fun o => free_at hst.row
    have HNX : Hid (∀ o : Nat, o < 2 → ClJ room w a B pc B2 (wo.setCell ⟨B2, o, none⟩ (.slice none 0 0))) := Lib.hid fun o ho => by
      have := HN2.out
      refine ⟨?_, ?_, ?_, HST.out.bel.setCell (p := ⟨B2, o, none⟩) (by show w.heap.size ≤ B2; omega) _⟩
      · rw [Below.heap_setCell _ _ _ _ (by show w.heap.size ≠ B2; omega)]; exact HST.out.box
      · rw [Below.heap_setCell _ _ _ _ (by show w.heap.size + 1 ≠ B2; omega)]; exact HST.out.res
      · rcases o with _ | _ | o
        · exact heap_set_at (o := 0) _ HST.out.row
        · exact heap_set_at (o := 1) _ HST.out.row
        · omega
    clear hst
    rcases i with _ | _ | _ | i
    · go_wp2_with (go_at_call 61; (with_reducible refine (cloK_none _).mono ?_); rintro e w5 ⟨rfl, rfl⟩)
      go_roundg 1
      case measure => omega
      case rel => exact ⟨1, by omega, rfl, rfl, HNX.out 0 (by omega)⟩
    · go_wp2_with (go_at_call 61; (with_reducible refine (cloK_none _).mono ?_); rintro e w5 ⟨rfl, rfl⟩)
      go_roundg 0
      case measure => omega
      case rel => exact ⟨2, by omega, rfl, rfl, HNX.out 1 (by omega)⟩
    · clear p0 p1 q0 q1 f0
      have b2 : wo.cell? ⟨w.heap.size, 2, none⟩ = some (.slice (some ⟨B, 0, none⟩) 2 pc) := cell_at HST.out.box rfl
      have f2 : wo.frozen? ⟨w.heap.size, 2, none⟩ = false := free_at HST.out.box
      obtain ⟨W5, hW5⟩ : ∃ W5, W5 = wo.setCell ⟨w.heap.size, 2, none⟩ (.slice (some ⟨B2, 0, none⟩) 2 2) := ⟨_, rfl⟩
      have g50 : W5.heap[w.heap.size]? = some (.cells #[.int .i64 room, .slice a 0 0, .slice (some ⟨B2, 0, none⟩) 2 2, .slice none 0 0] 37 (0, 0)) := by rw [hW5]; exact heap_set_at (o := 2) _ HST.out.box
      have h5 : ∀ c, c ≠ w.heap.size → W5.heap[c]? = wo.heap[c]? := fun c hc => by rw [hW5, Below.heap_setCell _ _ _ _ hc]
      have hb5 : Below w.heap.size w W5 := by rw [hW5]; exact HST.out.bel.setCell (p := ⟨w.heap.size, 2, none⟩) (Nat.le_refl _) _
      have hNE : B2 ≠ w.heap.size := by have := HN2.out; omega
      have hNE1 : B2 ≠ w.heap.size + 1 := by have := HN2.out; omega
      have HG50 := Lib.hid g50
      have HG51 := Lib.hid ((h5 (w.heap.size + 1) (by omega)).trans HST.out.res)
      have HG52 := Lib.hid ((h5 B2 hNE).trans HST.out.row)
      have HB5 := Lib.hid hb5
      have HNE1 := Lib.hid hNE1
      clear g50 h5 hb5 hNE hNE1
      go_upto_region 9 with fail
      rw [← hW5]
      clear hW5 b2 f2
      have b3 : W5.cell? ⟨w.heap.size, 3, none⟩ = some (.slice none 0 0) := cell_at HG50.out rfl
      have f3 : W5.frozen? ⟨w.heap.size, 3, none⟩ = false := free_at HG50.out
      obtain ⟨W6, hW6⟩ : ∃ W6, W6 = W5.setCell ⟨w.heap.size, 3, none⟩ (.slice none 0 0) := ⟨_, rfl⟩
      have g60 : W6.heap[w.heap.size]? = some (.cells #[.int .i64 room, .slice a 0 0, .slice (some ⟨B2, 0, none⟩) 2 2, .slice none 0 0] 37 (0, 0)) := by rw [hW6]; exact heap_set_at (o := 3) _ HG50.out
      have h6 : ∀ c, c ≠ w.heap.size → W6.heap[c]? = W5.heap[c]? := fun c hc => by rw [hW6, Below.heap_setCell _ _ _ _ hc]
      have HG61 := Lib.hid ((h6 (w.heap.size + 1) (by omega)).trans HG51.out)
      have HG62 := Lib.hid ((h6 B2 (by have := HN2.out; omega)).trans HG52.out)
      have hb6 : Below w.heap.size w W6 := by rw [hW6]; exact HB5.out.setCell (p := ⟨w.heap.size, 3, none⟩) (Nat.le_refl _) _
      have HB6 := Lib.hid hb6
      have HG60 := Lib.hid g60
      clear g60 h6 hb6
      go_upto_region 10 with (go_at_call 62; (with_reducible refine (cloO_none _).mono ?_); rintro e w5 ⟨rfl, rfl⟩)
      rw [← hW6]
      clear hW6 b3 f3
      have b0 : W6.cell? ⟨w.heap.size, 0, none⟩ = some (.int .i64 room) := cell_at HG60.out rfl
      have b1 : W6.cell? ⟨w.heap.size, 1, none⟩ = some (.slice a 0 0) := cell_at HG60.out rfl
      have b2 : W6.cell? ⟨w.heap.size, 2, none⟩ = some (.slice (some ⟨B2, 0, none⟩) 2 2) := cell_at HG60.out rfl
      have b3 : W6.cell? ⟨w.heap.size, 3, none⟩ = some (.slice none 0 0) := cell_at HG60.out rfl
      have r0 : W6.cell? ⟨w.heap.size + 1, 0, none⟩ = some (.int .i64 0) := cell_at HG61.out rfl
      have r1 : W6.cell? ⟨w.heap.size + 1, 1, none⟩ = some (.slice none 0 0) := cell_at HG61.out rfl
      have r2 : W6.cell? ⟨w.heap.size + 1, 2, none⟩ = some (.slice none 0 0) := cell_at HG61.out rfl
      have r3 : W6.cell? ⟨w.heap.size + 1, 3, none⟩ = some (.slice none 0 0) := cell_at HG61.out rfl
      have f0 : ∀ o, W6.frozen? ⟨w.heap.size + 1, o, none⟩ = false := fun o => free_at HG61.out
      go_wp2_with fail
      have hs : ((((W6.setCell ⟨w.heap.size + 1, 0, none⟩ (.int .i64 room)).setCell ⟨w.heap.size + 1, 1, none⟩ (.slice a 0 0)).setCell ⟨w.heap.size + 1, 2, none⟩ (.slice (some ⟨B2, 0, none⟩) 2 2)).setCell ⟨w.heap.size + 1, 3, none⟩ (.slice none 0 0)).heap[w.heap.size + 1]? = some (.cells #[.int .i64 room, .slice a 0 0, .slice (some ⟨B2, 0, none⟩) 2 2, .slice none 0 0] 37 (0, 0)) := heap_set_at (o := 3) _ (heap_set_at (o := 2) _ (heap_set_at (o := 1) _ (heap_set_at (o := 0) _ HG61.out)))
      have hsb : Below w.heap.size w ((((W6.setCell ⟨w.heap.size + 1, 0, none⟩ (.int .i64 room)).setCell ⟨w.heap.size + 1, 1, none⟩ (.slice a 0 0)).setCell ⟨w.heap.size + 1, 2, none⟩ (.slice (some ⟨B2, 0, none⟩) 2 2)).setCell ⟨w.heap.size + 1, 3, none⟩ (.slice none 0 0)) := (((HB6.out.setCell (p := ⟨w.heap.size + 1, 0, none⟩) (Nat.le_succ _) _).setCell (p := ⟨w.heap.size + 1, 1, none⟩) (Nat.le_succ _) _).setCell (p := ⟨w.heap.size + 1, 2, none⟩) (Nat.le_succ _) _).setCell (p := ⟨w.heap.size + 1, 3, none⟩) (Nat.le_succ _) _
      have hso : ((((W6.setCell ⟨w.heap.size + 1, 0, none⟩ (.int .i64 room)).setCell ⟨w.heap.size + 1, 1, none⟩ (.slice a 0 0)).setCell ⟨w.heap.size + 1, 2, none⟩ (.slice (some ⟨B2, 0, none⟩) 2 2)).setCell ⟨w.heap.size + 1, 3, none⟩ (.slice none 0 0)).heap[B2]? = some (.cells #[.slice none 0 0, .slice none 0 0] 79 (0, 0)) := by
        rw [Below.heap_setCell _ _ _ _ HNE1.out, Below.heap_setCell _ _ _ _ HNE1.out, Below.heap_setCell _ _ _ _ HNE1.out, Below.heap_setCell _ _ _ _ HNE1.out]; exact HG62.out
      clear r0 r1 r2 r3 f0 b0 b1 b2 b3
      generalize ((((W6.setCell ⟨w.heap.size + 1, 0, none⟩ (.int .i64 room)).setCell ⟨w.heap.size + 1, 1, none⟩ (.slice a 0 0)).setCell ⟨w.heap.size + 1, 2, none⟩ (.slice (some ⟨B2, 0, none⟩) 2 2)).setCell ⟨w.heap.size + 1, 3, none⟩ (.slice none 0 0)) = W7 at *
      have z0 : W7.cell? ⟨w.heap.size + 1, 0, none⟩ = some (.int .i64 room) := cell_at hs rfl
      have z1 : W7.cell? ⟨w.heap.size + 1, 1, none⟩ = some (.slice a 0 0) := cell_at hs rfl
      have z2 : W7.cell? ⟨w.heap.size + 1, 2, none⟩ = some (.slice (some ⟨B2, 0, none⟩) 2 2) := cell_at hs rfl
      have z3 : W7.cell? ⟨w.heap.size + 1, 3, none⟩ = some (.slice none 0 0) := cell_at hs rfl
      refine bodyPost_ret (v := .agg #[.int .i64 room, .slice a 0 0, .slice (some ⟨B2, 0, none⟩) 2 2, .slice none 0 0]) (by simp [results, Tryz.results31, go_sem, z0, z1, z2, z3]) rfl ?_
      exact ⟨_, rfl, a, B2, rfl, by have := HN2.out; omega, hso, hsb⟩
    · omega
end Go.Proofs.YtibabpahpiijgaaGreatDoor.Lex
/- A row of the call's own that grows, of whatever reading; of entries. -/
namespace Go.Proofs.YtibabpahpiijgaaGreatDoor
open Go.RowKit
set_option linter.unusedVariables false
/-- A row of the call's own, from block B on, that shows what the reading says: it leans on blocks from B on, and on none of the row's own. -/
structure Gro {α : Type} (r : Rd α) (size : Nat) (e : TypeId) (B : Nat) (w : World) (v : Value) (l : List α) (xs : List Value) : Prop where
  row : w.ownsRow B e size v l.length xs
  at_ : ∀ i d, l[i]? = some d → r (fun b => B ≤ b ∧ some b ≠ v.ownBlock) w ((xs.drop (i * size)).take size) d
section
variable {α : Type} {r : Rd α} {size : Nat} {e : TypeId} {B : Nat}
theorem Gro.nil (w : World) : Gro r size e B w (.slice none 0 0) [] [] := ⟨World.ownsRow_nil w _ _ _, fun i d h => by simp at h⟩
theorem Gro.below {w w' : World} {v : Value} {l : List α} {xs : List Value} (hr : r.Ok size) (h : Gro r size e B w v l xs) (hb : Below w.heap.size w w') : Gro r size e B w' v l xs :=
  ⟨own_below h.row hb, fun i d hi => hr.keep (h.at_ i d hi) (Fix.of_below hb)⟩
theorem Gro.setCell {w : World} {v : Value} {l : List α} {xs : List Value} (hr : r.Ok size) (h : Gro r size e B w v l xs) {a : Addr} (ha : a.block < B) (u : Value) : Gro r size e B (w.setCell a u) v l xs :=
  ⟨ownsRow_setCell_below h.row ha u, fun i d hi => hr.keep (h.at_ i d hi) (Fix.setCell w a u fun hf => by have := hf.1; omega)⟩
/-- What changes no block from B on keeps it. -/
theorem Gro.fix {w w' : World} {v : Value} {l : List α} {xs : List Value} (hr : r.Ok size) (h : Gro r size e B w v l xs) (hs : w.heap.size ≤ w'.heap.size) (hb : ∀ b, B ≤ b → b < w.heap.size → w'.heap[b]? = w.heap[b]?) : Gro r size e B w' v l xs := by
  refine ⟨⟨h.row.1, ?_⟩, fun i d hi => hr.keep (h.at_ i d hi) ⟨hs, fun b hlt hf => hb b hf.1 hlt⟩⟩
  rcases h.row.2 with hn | ⟨g, cap, cur, rfl, hbg, hg, rest⟩
  · exact .inl hn
  · exact .inr ⟨g, cap, cur, rfl, hbg, by rw [hb g hbg (Array.getElem?_eq_some_iff.1 hg).1]; exact hg, rest⟩
theorem Gro.add {wm w3 : World} {v v' : Value} {l : List α} {xs cs : List Value} {d : α} (hr : r.Ok size) (h : Gro r size e B wm v l xs) (hd : r (fun b => B ≤ b ∧ some b ≠ v.ownBlock) wm cs d)
    (ho : w3.ownsRow B e size v' (l.length + 1) (xs ++ cs)) (hg : wm.grownBy w3 v.ownBlock) (hat : v'.ownBlock = v.ownBlock ∨ v'.ownBlock = some wm.heap.size) : Gro r size e B w3 v' (l ++ [d]) (xs ++ cs) := by
  have hl := h.row.1
  have hc := hr.len hd
  have fx : Fix (fun b => some b ≠ v.ownBlock) wm w3 := .of_grown hg fun b _ hf => hf
  have nv : ∀ b, b < wm.heap.size → some b ≠ v.ownBlock → some b ≠ v'.ownBlock := fun b hb hn e => by
    rcases hat with h | h
    · exact hn (e.trans h)
    · rw [h] at e; cases e; omega
  refine ⟨by rw [List.length_append]; exact ho, fun i x hi => ?_⟩
  have put : ∀ {ys : List Value} {y : α}, r (fun b => B ≤ b ∧ some b ≠ v.ownBlock) wm ys y → r (fun b => B ≤ b ∧ some b ≠ v'.ownBlock) w3 ys y := fun {ys y} hy => by
    have g := hr.mono (G := fun b => (B ≤ b ∧ some b ≠ v.ownBlock) ∧ b < wm.heap.size) hy fun b hb hf => ⟨hf, hb⟩
    have g2 := hr.keep g (fx.mono fun b _ hf => hf.1.2)
    exact hr.mono g2 fun b _ hf => ⟨hf.1.1, nv b hf.2 hf.1.2⟩
  by_cases hlt : i < l.length
  · rw [List.getElem?_append_left hlt] at hi
    have g3 := put (h.at_ i x hi)
    have hm : (i + 1) * size ≤ l.length * size := Nat.mul_le_mul_right _ hlt
    rw [Nat.succ_mul] at hm
    have e : ((xs ++ cs).drop (i * size)).take size = (xs.drop (i * size)).take size := by
      rw [List.drop_append_of_le_length (by omega), List.take_append_of_le_length (by rw [List.length_drop]; omega)]
    rw [e]
    exact g3
  · rw [List.getElem?_append_right (by omega)] at hi
    have hi0 : i - l.length = 0 := by have := (List.getElem?_eq_some_iff.1 hi).1; simp at this; omega
    rw [hi0] at hi
    obtain rfl : d = x := by simpa using hi
    obtain rfl : i = l.length := by omega
    have g3 := put hd
    have e : ((xs ++ cs).drop (l.length * size)).take size = cs := by
      rw [List.drop_append, List.drop_of_length_le (by omega), List.nil_append, hl, Nat.sub_self, List.drop_zero, List.take_of_length_le (by omega)]
    rw [e]
    exact g3
theorem Gro.slice {w : World} {v : Value} {l : List α} {xs : List Value} (h : Gro r size e B w v l xs) : ∃ a c, v = .slice a l.length c := by
  rcases h.row.2 with ⟨q1, q2⟩ | ⟨g, cap, cur, q1, _⟩
  · rw [q2]; exact ⟨_, _, q1⟩
  · exact ⟨_, _, q1⟩
theorem Gro.rowOf {w : World} {v : Value} {l : List α} {xs : List Value} {bytes : Nat} (hr : r.Ok size) (hs0 : 0 < size) (h : Gro r size e B w v l xs) (hroom : l.length * bytes ≤ 140737488351232) : ∃ a cap, v = .slice a l.length cap ∧ RowOf r size bytes (From B) w a l.length cap l :=
  RowOf.of_owns h.row hs0 rfl hroom (fun b hb => own_lt h.row b hb) fun i x hx => by
    have g := h.at_ i x hx
    exact ⟨hr.len g, hr.mono g fun b _ hf => hf.1⟩
end
theorem entElemG : Elem Tryz.prog 33 70 5 56 := ⟨Tryz.underlying33, ⟨.agg #[.int .i64 0, .int .i64 0, .int .i64 0, .int .i64 0, .slice none 0 0], by kernel_rfl, rfl⟩, by omega⟩
/-- A row of entries that grows. -/
abbrev GroE (k B : Nat) (w : World) (v : Value) (l : List EntryV) (xs : List Value) : Prop := Gro (entryRd k) 5 70 B w v l xs
theorem one5 {p q k n : Int} {a : Option Addr} {m c : Nat} : ∀ u ∈ [Value.int .i64 p, .int .i64 q, .int .i64 k, .int .i64 n, .slice a m c], u.oneCell' = true := by
  intro u hu
  simp only [List.mem_cons, List.not_mem_nil, or_false] at hu
  rcases hu with rfl | rfl | rfl | rfl | rfl <;> rfl
end Go.Proofs.YtibabpahpiijgaaGreatDoor
/- A model that knows nothing learns of one entry. -/
namespace Go.Proofs.YtibabpahpiijgaaGreatDoor.Lex
open Go.RowKit Stab
set_option linter.unusedSimpArgs false
set_option linter.unusedVariables false
theorem rowOf_zero {α : Type} {r : Rd α} {size bytes : Nat} {F : Foot} {w : World} {a : Option Addr} : RowOf r size bytes F w a 0 0 [] :=
  ⟨rfl, Nat.le_refl _, by decide, by omega, fun _ => rfl, fun i x h => by simp at h⟩
theorem rowOf_any {α : Type} {r : Rd α} {size bytes : Nat} {F G : Foot} {w W : World} {a : Option Addr} {c : Nat} (h : RowOf r size bytes F w a 0 c []) : RowOf r size bytes G W a 0 c [] :=
  ⟨rfl, h.le, h.max, h.room, h.nil, fun i x h => by simp at h⟩
/-- An append onto a row without room. -/
theorem wpl_append_zero {P : Program} {w : World} {ops : Array Oper} {rest : List Oper} {o : Oper} {a : Act} {Q : Exit → Act → World → Prop} (hgd : o.guard = none) (s x : Operand) (t : TypeId)
    (ho : o.op = .call { callee := .builtin .append, args := #[s, x], argTypes := #[t, t] })
    {e : TypeId} {size bytes : Nat} (E : Elem P t e size bytes) (ao : Option Addr) (hs : a.eval s = .slice ao 0 0) (ad : Addr) (m c : Nat) (news : List Value) (hx : a.eval x = .slice (some ad) m c)
    (hsrc : Src w (some ad) m c size news) (hm : 0 < m) (h63 : m ≤ maxLen) (hbytes : m * bytes ≤ 140737488355328)
    (h : ∀ v' w', w'.ownsRow w.heap.size e size v' m news → w.grownBy w' none → wpList P ops Q rest (a.put o.dst v') w') : wpList P ops Q (o :: rest) a w := by
  obtain ⟨z, hi, hzs⟩ := E.row
  obtain ⟨i, hi, hz0, hz1, hz2⟩ := info_parts hi
  exact wpList_append_grows w hgd s x t ho e i z size bytes E.ht hi hz0 hz1 hz2 hzs E.pos ao 0 0 [] hs (fun _ => ⟨rfl, rfl⟩) (by simp) (fun b _ j u hu => by simp at hu) ad m c news hx hsrc.len (hsrc.at_ ad rfl) hsrc.one (by omega) (by omega) (by simpa using hbytes) (fun v' w' h1 h2 => h v' w' (by simpa using h1) h2)
/-- The entry of the page's example. -/
abbrev entry8 : EntryV := ((8, 0), .mk 3 8 [])
theorem entry8_rd {F : Foot} {w w2 : World} {a : Option Addr} {c : Nat} (h : RowOf (descRd 0) 3 40 All w2 a 0 c []) : entryRd 1 F w [.int .i64 8, .int .i64 0, .int .i64 3, .int .i64 8, .slice a 0 c] entry8 :=
  ⟨[.int .i64 8, .int .i64 0], [.int .i64 3, .int .i64 8, .slice a 0 c], rfl, ⟨_, _, rfl, ⟨rfl, by decide⟩, rfl, by decide⟩, a, 0, c, rfl, by decide, by decide, rowOf_any h⟩
theorem entry8_row {w w2 : World} {B : Nat} {v : Value} {a : Option Addr} {c : Nat} (h : w.ownsRow B 70 5 v 1 [.int .i64 8, .int .i64 0, .int .i64 3, .int .i64 8, .slice a 0 c]) (hr : RowOf (descRd 0) 3 40 All w2 a 0 c []) :
    ∃ x y, v = .slice x 1 y ∧ RowOf (entryRd 1) 5 56 All w x 1 y [entry8] :=
  RowOf.of_owns h (by omega) rfl (by omega) (fun b hb => trivial) fun i x hx => by
    cases i with
    | zero =>
      obtain rfl : entry8 = x := by simpa using hx
      exact ⟨rfl, entry8_rd hr⟩
    | succ i => simp at hx
def Learned (room : Int) (kp op : Value) (w : World) (e : Ending) (w' : World) : Prop :=
  ∃ a, e = .returned (.agg #[.int .i64 room, .slice a 1 1, kp, op]) ∧ RowOf (entryRd 1) 5 56 (From w.heap.size) w' a 1 1 [entry8] ∧ Below w.heap.size w w'
set_option maxRecDepth 100000 in
set_option maxHeartbeats 4000000 in
theorem learn_any (room : Int) (a : Option Addr) (pa : Option Addr) (pn pc : Nat) (oa : Option Addr) (on oc : Nat) (X : Nat) (ka : Option Addr) (kc : Nat) (w : World)
    (hX : w.heap[X]? = some (.cells #[.int .i64 8, .int .i64 0, .int .i64 3, .int .i64 8, .slice ka 0 kc] 70 (0, 0))) (hk : RowOf (descRd 0) 3 40 All w ka 0 kc []) :
    Calls Tryz.prog 32 #[.agg #[.int .i64 room, .slice a 0 0, .slice pa pn pc, .slice oa on oc], .slice (some ⟨X, 0, none⟩) 1 1] w (Learned room (.slice pa pn pc) (.slice oa on oc) w) := by
  obtain ⟨W1, hW1⟩ : ∃ W1, W1 = (w.alloc (.cells #[.int .i64 room, .slice a 0 0, .slice pa pn pc, .slice oa on oc] 37)).alloc (.cells #[.int .i64 0, .slice none 0 0, .slice none 0 0, .slice none 0 0] 37) := ⟨_, rfl⟩
  have hb1 : Below w.heap.size w W1 := by rw [hW1]; exact ((Below.refl _ _).alloc (Nat.le_refl _) _).alloc (by simp) _
  have gs : W1.heap[w.heap.size]? = some (.cells #[.int .i64 room, .slice a 0 0, .slice pa pn pc, .slice oa on oc] 37 (0, 0)) ∧ W1.heap[w.heap.size + 1]? = some (.cells #[.int .i64 0, .slice none 0 0, .slice none 0 0, .slice none 0 0] 37 (0, 0)) := by
    rw [hW1]
    simp only [heap_alloc_iff, World.size_alloc]
    refine ⟨?_, ?_⟩ <;> simp
  obtain ⟨g0, g1⟩ := gs
  have hz1 : W1.heap.size = w.heap.size + 2 := by rw [hW1]; simp
  have lX : X < w.heap.size := (Array.getElem?_eq_some_iff.1 hX).1
  have gX := (hb1.block _ lX).trans hX
  have x0 : W1.cell? ⟨X, 0, none⟩ = some (.int .i64 8) := cell_at gX rfl
  have x1 : W1.cell? ⟨X, 1, none⟩ = some (.int .i64 0) := cell_at gX rfl
  have x2 : W1.cell? ⟨X, 2, none⟩ = some (.int .i64 3) := cell_at gX rfl
  have x3 : W1.cell? ⟨X, 3, none⟩ = some (.int .i64 8) := cell_at gX rfl
  have x4 : W1.cell? ⟨X, 4, none⟩ = some (.slice ka 0 kc) := cell_at gX rfl
  obtain ⟨W2, hW2⟩ : ∃ W2, W2 = W1.alloc (.cells #[.int .i64 8, .int .i64 0, .int .i64 3, .int .i64 8, .slice ka 0 kc] 70) := ⟨_, rfl⟩
  obtain ⟨E, hE⟩ : ∃ E, E = W1.heap.size := ⟨_, rfl⟩
  have hb2 : Below W1.heap.size W1 W2 := by rw [hW2]; exact (Below.refl _ _).alloc (Nat.le_refl _) _
  have g2 : W2.heap[E]? = some (.cells #[.int .i64 8, .int .i64 0, .int .i64 3, .int .i64 8, .slice ka 0 kc] 70 (0, 0)) := by rw [hW2, hE]; exact heap_alloc_new W1 _
  have hz2 : W2.heap.size = E + 1 := by rw [hW2, hE]; simp
  have HG : Hid (∀ W, Below W2.heap.size W2 W → W.heap[w.heap.size]? = some (.cells #[.int .i64 room, .slice a 0 0, .slice pa pn pc, .slice oa on oc] 37 (0, 0)) ∧ W.heap[w.heap.size + 1]? = some (.cells #[.int .i64 0, .slice none 0 0, .slice none 0 0, .slice none 0 0] 37 (0, 0)) ∧ W.heap[E]? = some (.cells #[.int .i64 8, .int .i64 0, .int .i64 3, .int .i64 8, .slice ka 0 kc] 70 (0, 0))) := Lib.hid fun W hW => by
    have h := hb2.trans (hW.mono hb2.size)
    exact ⟨(h.block _ (by omega)).trans g0, (h.block _ (by omega)).trans g1, (hW.block _ (by omega)).trans g2⟩
  have HB2 : Hid (Below w.heap.size w W2) := Lib.hid (hb1.trans (hb2.mono hb1.size))
  have HKN : Hid (Calls Tryz.prog 23 #[.agg #[.int .i64 room, .slice a 0 0, .slice pa pn pc, .slice oa on oc], .agg #[.int .i64 8, .int .i64 0]] W2 fun e w' => e = .returned (.tuple #[.agg #[.int .i64 0, .int .i64 0, .slice none 0 0], .bool false]) ∧ Below W2.heap.size W2 w') := Lib.hid
    ((known_any 0 All [] room a 0 0 _ _ 8 0 W2 rowOf_zero ⟨_, _, _, rfl⟩ ⟨_, _, _, rfl⟩).mono fun e w' h => by
      obtain ⟨hb, h | ⟨i, hi, _⟩⟩ := h
      · exact ⟨h.2, hb⟩
      · simp at hi)
  have HZ2 := Lib.hid hz2
  have HZ1 := Lib.hid hz1
  have HE := Lib.hid hE
  have HK := Lib.hid hk
  clear g0 g1 gX hb1 hb2 g2 hz2 hz1 hX hk lX
  go_enter Tryz.func32, Tryz.ntmps32
  go_upto_region 2 with fail
  rw [← hW1]
  clear hW1
  go_loopg [11] 1 (fun g iv wr => (g = 1 ∧ iv = .int .i64 0 ∧ wr = W1) ∨ (g = 0 ∧ iv = .int .i64 1 ∧ ∃ b, wr.heap[w.heap.size]? = some (.cells #[.int .i64 room, .slice b 1 1, .slice pa pn pc, .slice oa on oc] 37 (0, 0)) ∧ wr.heap[w.heap.size + 1]? = some (.cells #[.int .i64 0, .slice none 0 0, .slice none 0 0, .slice none 0 0] 37 (0, 0)) ∧ RowOf (entryRd 1) 5 56 (From (w.heap.size + 2)) wr b 1 1 [entry8] ∧ Below w.heap.size w wr))
  case atStart => exact .inl ⟨rfl, rfl, rfl⟩
  case round =>
    rcases hrel with ⟨rfl, rfl, rfl⟩ | ⟨rfl, rfl, b, hs, hr, hro, hbw⟩
    · go_upto_region 4 with fail
      rw [← hW2, ← hE]
      clear hW2 hE x0 x1 x2 x3 x4
      obtain ⟨g0, g1, g2⟩ := HG.out W2 (Below.refl _ _)
      have b0 : W2.cell? ⟨w.heap.size, 0, none⟩ = some (.int .i64 room) := cell_at g0 rfl
      have b1 : W2.cell? ⟨w.heap.size, 1, none⟩ = some (.slice a 0 0) := cell_at g0 rfl
      have b2 : W2.cell? ⟨w.heap.size, 2, none⟩ = some (.slice pa pn pc) := cell_at g0 rfl
      have b3 : W2.cell? ⟨w.heap.size, 3, none⟩ = some (.slice oa on oc) := cell_at g0 rfl
      have e0 : W2.cell? ⟨E, 0, none⟩ = some (.int .i64 8) := cell_at g2 rfl
      have e1 : W2.cell? ⟨E, 1, none⟩ = some (.int .i64 0) := cell_at g2 rfl
      clear g0 g1 g2
      go_upto_region 5 with (go_at_call 23; (with_reducible refine HKN.out.mono ?_); rintro e w3 ⟨rfl, hb3⟩; have HB3 := Lib.hid hb3; clear hb3 b0 b1 b2 b3 e0 e1)
      obtain ⟨W4, hW4⟩ : ∃ W4, W4 = w3.alloc (.cells #[.int .i64 0, .int .i64 0, .slice none 0 0] 25) := ⟨_, rfl⟩
      have hb4 : Below W2.heap.size W2 W4 := by rw [hW4]; exact HB3.out.alloc HB3.out.size _
      rw [← hW4]
      clear hW4
      obtain ⟨g0, g1, g2⟩ := HG.out W4 hb4
      have HB4 := Lib.hid hb4
      have b1 : W4.cell? ⟨w.heap.size, 1, none⟩ = some (.slice a 0 0) := cell_at g0 rfl
      have e0 : W4.cell? ⟨E, 0, none⟩ = some (.int .i64 8) := cell_at g2 rfl
      have e1 : W4.cell? ⟨E, 1, none⟩ = some (.int .i64 0) := cell_at g2 rfl
      have e2 : W4.cell? ⟨E, 2, none⟩ = some (.int .i64 3) := cell_at g2 rfl
      have e3 : W4.cell? ⟨E, 3, none⟩ = some (.int .i64 8) := cell_at g2 rfl
      have e4 : W4.cell? ⟨E, 4, none⟩ = some (.slice ka 0 kc) := cell_at g2 rfl
      clear g0 g1 g2 hb4
      obtain ⟨W5, hW5⟩ : ∃ W5, W5 = W4.alloc (.cells #[.int .i64 8, .int .i64 0, .int .i64 3, .int .i64 8, .slice ka 0 kc] 70) := ⟨_, rfl⟩
      have hb5 : Below W2.heap.size W2 W5 := by rw [hW5]; exact HB4.out.alloc HB4.out.size _
      have HSRC : Hid (Src W5 (some ⟨W4.heap.size, 0, none⟩) 1 1 5 [.int .i64 8, .int .i64 0, .int .i64 3, .int .i64 8, .slice ka 0 kc]) := Lib.hid (by rw [hW5]; exact src_new3 [.int .i64 8, .int .i64 0, .int .i64 3, .int .i64 8, .slice ka 0 kc] 70 5 rfl (one5 (p := 8) (q := 0) (k := 3) (n := 8) (a := ka) (m := 0) (c := kc)))
      have HB5 := Lib.hid hb5
      clear hb5
      go_upto_region 6 with fail
      go_upto_region 7 with (first | (at_builtin; rw [← hW5]; refine wpl_append_zero rfl _ _ 33 rfl entElemG a rfl _ _ _ _ rfl HSRC.out (by omega) (by unfold maxLen; omega) (by omega) ?_; intro v' w6 ho6 hg6; have HO6 := Lib.hid ho6; have HB6 := Lib.hid (HB5.out.grown hg6 HB5.out.size (fun q hq => by cases hq)); obtain ⟨y, yc, rfl, hrow⟩ := entry8_row ho6 HK.out; have HSO := Lib.hid (sort_anyC 1 All [entry8] y 1 yc w6 (by omega) hrow); clear ho6 hg6 hrow hW5 b1 e0 e1 e2 e3 e4) | (go_at_call 50; (with_reducible refine HSO.out.mono ?_); rintro e w7 ⟨a7, rfl, hr7, hb7⟩; have HR7 := Lib.hid hr7; have hb27 := HB6.out.trans (hb7.mono HB6.out.size); have HB7 := Lib.hid hb27; obtain ⟨g0, g1, g2⟩ := HG.out w7 hb27; have b1 : w7.cell? ⟨w.heap.size, 1, none⟩ = some (.slice a 0 0) := cell_at g0 rfl; have f1 : w7.frozen? ⟨w.heap.size, 1, none⟩ = false := free_at g0; have HG0 := Lib.hid g0; have HG1 := Lib.hid g1; have HL6 := Lib.hid HB6.out.size; clear hr7 hb7 hb27 g0 g1 g2))
      have HSET : Hid (w7.setCell ⟨w.heap.size, 1, none⟩ (.slice a7 1 1) |>.heap[w.heap.size]? = some (.cells #[.int .i64 room, .slice a7 1 1, .slice pa pn pc, .slice oa on oc] 37 (0, 0))) := Lib.hid (heap_set_at (o := 1) _ HG0.out)
      clear b1 f1
      go_wp2_with fail
      go_roundg 0
      case measure => omega
      case rel =>
        refine .inr ⟨rfl, rfl, a7, HSET.out, ?_, ?_, ?_⟩
        · rw [Below.heap_setCell _ _ _ _ (by simp)]; exact HG1.out
        · exact (HR7.out.mono (entryRd_ok _) (G := From (w.heap.size + 2)) (fun q _ hq => by have h1 : w6.heap.size ≤ q := hq; have h2 := HL6.out; have h3 := HZ2.out; have h4 := HE.out; have h5 := HZ1.out; show w.heap.size + 2 ≤ q; omega)).keep (entryRd_ok _) (Fix.setCell _ _ _ fun hf => by have h1 : w.heap.size + 2 ≤ w.heap.size := hf; omega)
        · exact (HB2.out.trans (HB7.out.mono HB2.out.size)).setCell (p := ⟨w.heap.size, 1, none⟩) (Nat.le_refl _) _
    · obtain ⟨WR, rfl⟩ : ∃ W : World, W = wr := ⟨_, rfl⟩
      have HS := Lib.hid hs
      have HR := Lib.hid hr
      have HRO := Lib.hid hro
      have HBW := Lib.hid hbw
      clear hs hr hro hbw x0 x1 x2 x3 x4 hW2 hE
      have b0 : WR.cell? ⟨w.heap.size, 0, none⟩ = some (.int .i64 room) := cell_at HS.out rfl
      have b1 : WR.cell? ⟨w.heap.size, 1, none⟩ = some (.slice b 1 1) := cell_at HS.out rfl
      have b2 : WR.cell? ⟨w.heap.size, 2, none⟩ = some (.slice pa pn pc) := cell_at HS.out rfl
      have b3 : WR.cell? ⟨w.heap.size, 3, none⟩ = some (.slice oa on oc) := cell_at HS.out rfl
      have r0 : WR.cell? ⟨w.heap.size + 1, 0, none⟩ = some (.int .i64 0) := cell_at HR.out rfl
      have r1 : WR.cell? ⟨w.heap.size + 1, 1, none⟩ = some (.slice none 0 0) := cell_at HR.out rfl
      have r2 : WR.cell? ⟨w.heap.size + 1, 2, none⟩ = some (.slice none 0 0) := cell_at HR.out rfl
      have r3 : WR.cell? ⟨w.heap.size + 1, 3, none⟩ = some (.slice none 0 0) := cell_at HR.out rfl
      have f0 : ∀ o, WR.frozen? ⟨w.heap.size + 1, o, none⟩ = false := fun o => free_at HR.out
      go_wp2_with fail
      have hs : ((((WR.setCell ⟨w.heap.size + 1, 0, none⟩ (.int .i64 room)).setCell ⟨w.heap.size + 1, 1, none⟩ (.slice b 1 1)).setCell ⟨w.heap.size + 1, 2, none⟩ (.slice pa pn pc)).setCell ⟨w.heap.size + 1, 3, none⟩ (.slice oa on oc)).heap[w.heap.size + 1]? = some (.cells #[.int .i64 room, .slice b 1 1, .slice pa pn pc, .slice oa on oc] 37 (0, 0)) := heap_set_at (o := 3) _ (heap_set_at (o := 2) _ (heap_set_at (o := 1) _ (heap_set_at (o := 0) _ HR.out)))
      have hsb : Below w.heap.size w ((((WR.setCell ⟨w.heap.size + 1, 0, none⟩ (.int .i64 room)).setCell ⟨w.heap.size + 1, 1, none⟩ (.slice b 1 1)).setCell ⟨w.heap.size + 1, 2, none⟩ (.slice pa pn pc)).setCell ⟨w.heap.size + 1, 3, none⟩ (.slice oa on oc)) := (((HBW.out.setCell (p := ⟨w.heap.size + 1, 0, none⟩) (Nat.le_succ _) _).setCell (p := ⟨w.heap.size + 1, 1, none⟩) (Nat.le_succ _) _).setCell (p := ⟨w.heap.size + 1, 2, none⟩) (Nat.le_succ _) _).setCell (p := ⟨w.heap.size + 1, 3, none⟩) (Nat.le_succ _) _
      have hro : RowOf (entryRd 1) 5 56 (From w.heap.size) ((((WR.setCell ⟨w.heap.size + 1, 0, none⟩ (.int .i64 room)).setCell ⟨w.heap.size + 1, 1, none⟩ (.slice b 1 1)).setCell ⟨w.heap.size + 1, 2, none⟩ (.slice pa pn pc)).setCell ⟨w.heap.size + 1, 3, none⟩ (.slice oa on oc)) b 1 1 [entry8] := by
        have hf : ¬ From (w.heap.size + 2) (w.heap.size + 1) := fun hf => by have h1 : w.heap.size + 2 ≤ w.heap.size + 1 := hf; omega
        exact ((((HRO.out.keep (entryRd_ok _) (Fix.setCell _ ⟨w.heap.size + 1, 0, none⟩ _ hf)).keep (entryRd_ok _) (Fix.setCell _ ⟨w.heap.size + 1, 1, none⟩ _ hf)).keep (entryRd_ok _) (Fix.setCell _ ⟨w.heap.size + 1, 2, none⟩ _ hf)).keep (entryRd_ok _) (Fix.setCell _ ⟨w.heap.size + 1, 3, none⟩ _ hf)).mono (entryRd_ok _) fun q _ hq => by have h1 : w.heap.size + 2 ≤ q := hq; show w.heap.size ≤ q; omega
      clear r0 r1 r2 r3 f0 b0 b1 b2 b3
      generalize ((((WR.setCell ⟨w.heap.size + 1, 0, none⟩ (.int .i64 room)).setCell ⟨w.heap.size + 1, 1, none⟩ (.slice b 1 1)).setCell ⟨w.heap.size + 1, 2, none⟩ (.slice pa pn pc)).setCell ⟨w.heap.size + 1, 3, none⟩ (.slice oa on oc)) = W7 at *
      have z0 : W7.cell? ⟨w.heap.size + 1, 0, none⟩ = some (.int .i64 room) := cell_at hs rfl
      have z1 : W7.cell? ⟨w.heap.size + 1, 1, none⟩ = some (.slice b 1 1) := cell_at hs rfl
      have z2 : W7.cell? ⟨w.heap.size + 1, 2, none⟩ = some (.slice pa pn pc) := cell_at hs rfl
      have z3 : W7.cell? ⟨w.heap.size + 1, 3, none⟩ = some (.slice oa on oc) := cell_at hs rfl
      refine bodyPost_ret (v := .agg #[.int .i64 room, .slice b 1 1, .slice pa pn pc, .slice oa on oc]) (by simp [results, Tryz.results32, go_sem, z0, z1, z2, z3]) rfl ?_
      exact ⟨b, rfl, hro, hsb⟩
end Go.Proofs.YtibabpahpiijgaaGreatDoor.Lex
/- A model that knows nothing, behind a Get. -/
namespace Go.Proofs.YtibabpahpiijgaaGreatDoor.Lex
open Go.RowKit Stab
set_option linter.unusedSimpArgs false
set_option linter.unusedVariables false
theorem openElem : Elem Tryz.prog 35 72 8 80 := ⟨Tryz.underlying35, ⟨.agg #[.int .i64 0, .int .i64 0, .int .i64 0, .int .i64 0, .int .i64 0, .int .i64 0, .slice none 0 0, .bool false], by kernel_rfl, rfl⟩, by omega⟩
theorem set4 {W : World} {b : Nat} {x0 x1 x2 x3 : Value} {T : TypeId} (h : W.heap[b]? = some (.cells #[x0, x1, x2, x3] T (0, 0))) (u0 u1 u2 u3 : Value) {B : Nat} {w : World} (hw : Below B w W) (hB : B ≤ b) :
    ((((W.setCell ⟨b, 0, none⟩ u0).setCell ⟨b, 1, none⟩ u1).setCell ⟨b, 2, none⟩ u2).setCell ⟨b, 3, none⟩ u3).heap[b]? = some (.cells #[u0, u1, u2, u3] T (0, 0)) ∧ Below B w ((((W.setCell ⟨b, 0, none⟩ u0).setCell ⟨b, 1, none⟩ u1).setCell ⟨b, 2, none⟩ u2).setCell ⟨b, 3, none⟩ u3) ∧ ∀ c, c ≠ b → ((((W.setCell ⟨b, 0, none⟩ u0).setCell ⟨b, 1, none⟩ u1).setCell ⟨b, 2, none⟩ u2).setCell ⟨b, 3, none⟩ u3).heap[c]? = W.heap[c]? := by
  refine ⟨heap_set_at (o := 3) _ (heap_set_at (o := 2) _ (heap_set_at (o := 1) _ (heap_set_at (o := 0) _ h))), (((hw.setCell (p := ⟨b, 0, none⟩) hB _).setCell (p := ⟨b, 1, none⟩) hB _).setCell (p := ⟨b, 2, none⟩) hB _).setCell (p := ⟨b, 3, none⟩) hB _, fun c hc => ?_⟩
  rw [Below.heap_setCell _ _ _ _ hc, Below.heap_setCell _ _ _ _ hc, Below.heap_setCell _ _ _ _ hc, Below.heap_setCell _ _ _ _ hc]
/-- Any's boxes: the state, the call's name, the call, the plan, the state that it gives. -/
structure An (N : Nat) (st : Array Value) (W : World) : Prop where
  s : W.heap[N]? = some (.cells st 37 (0, 0))
  r : W.heap[N + 1]? = some (.cells #[.int .i64 0, .int .i64 0] 45 (0, 0))
  c : W.heap[N + 1 + 1]? = some (.cells #[.int .i64 1, .int .i64 8, .int .i64 0, .string ⟨#[]⟩, .int .i64 0, .int .i64 0, .slice none 0 0] 47 (0, 0))
  d : W.heap[N + 1 + 1 + 1]? = some (.cells #[.int .i64 3, .int .i64 8, .slice none 0 0] 25 (0, 0))
  o : W.heap[N + 1 + 1 + 1 + 1]? = some (.cells #[.int .i64 0, .slice none 0 0, .slice none 0 0, .slice none 0 0] 37 (0, 0))
theorem An.below {N M : Nat} {st : Array Value} {W W' : World} (h : An N st W) (hb : Below M W W') (hM : N + 5 ≤ M) : An N st W' :=
  ⟨(hb.block _ (by omega)).trans h.s, (hb.block _ (by omega)).trans h.r, (hb.block _ (by omega)).trans h.c, (hb.block _ (by omega)).trans h.d, (hb.block _ (by omega)).trans h.o⟩
theorem An.set {N : Nat} {st st' : Array Value} {W W' : World} (h : An N st W) (hs : W'.heap[N]? = some (.cells st' 37 (0, 0))) (ho : ∀ c, c ≠ N → W'.heap[c]? = W.heap[c]?) : An N st' W' :=
  ⟨hs, (ho _ (by omega)).trans h.r, (ho _ (by omega)).trans h.c, (ho _ (by omega)).trans h.d, (ho _ (by omega)).trans h.o⟩
theorem boxesA (w : World) (A0 : Array Value) : ∃ W1, W1 = ((((w.alloc (.cells A0 37)).alloc (.cells #[.int .i64 0, .int .i64 0] 45)).alloc (.cells #[.int .i64 1, .int .i64 8, .int .i64 0, .string ⟨#[]⟩, .int .i64 0, .int .i64 0, .slice none 0 0] 47)).alloc (.cells #[.int .i64 3, .int .i64 8, .slice none 0 0] 25)).alloc (.cells #[.int .i64 0, .slice none 0 0, .slice none 0 0, .slice none 0 0] 37) ∧ Below w.heap.size w W1 ∧ W1.heap.size = w.heap.size + 5 ∧ An w.heap.size A0 W1 := by
  refine ⟨_, rfl, ((((((Below.refl _ _).alloc (Nat.le_refl _) _).alloc (by simp) _).alloc (by simp; omega) _).alloc (by simp; omega) _).alloc (by simp; omega) _), by simp, ⟨?_, ?_, ?_, ?_, ?_⟩⟩ <;> simp only [heap_alloc_iff, World.size_alloc] <;> (repeat (first | rw [if_neg (by omega)])) <;> exact if_pos trivial
/-- A model that knows the one key (8, 0), and keeps it. -/
def Has8 (n : Nat) (v : Value) (w' : World) : Prop :=
  ∃ a B f fc oa oc, v = .agg #[.int .i64 2, .slice a 1 1, .slice (some ⟨B, 0, none⟩) 2 2, .slice oa 1 oc] ∧ RowOf (entryRd 1) 5 56 (From n) w' a 1 1 [entry8] ∧ n ≤ B ∧ w'.cell? ⟨B, 0, none⟩ = some (.slice f 1 fc) ∧ RowOf keyRd 2 16 (From n) w' f 1 fc [(8, 0)]
set_option maxRecDepth 100000 in
set_option maxHeartbeats 8000000 in
theorem anyG (B pc : Nat) (w : World) (hB : w.heap[B]? = some (.cells #[.slice none 0 0, .slice none 0 0] 79 (0, 0))) :
    Calls Tryz.prog 19 #[.agg #[.int .i64 2, .slice none 0 0, .slice (some ⟨B, 0, none⟩) 2 pc, .slice none 0 0], .agg #[.int .i64 0, .int .i64 0], .agg #[.int .i64 1, .int .i64 8, .int .i64 0, .string ⟨#[]⟩, .int .i64 0, .int .i64 0, .slice none 0 0], .agg #[.int .i64 3, .int .i64 8, .slice none 0 0]] w fun e w' => ∃ v, e = .returned (.tuple #[v, .bool true]) ∧ Has8 w.heap.size v w' ∧ Below w.heap.size w w' := by
  obtain ⟨W1, hW1, hb1, hz1, hA1⟩ := boxesA w #[.int .i64 2, .slice none 0 0, .slice (some ⟨B, 0, none⟩) 2 pc, .slice none 0 0]
  have lB : B < w.heap.size := (Array.getElem?_eq_some_iff.1 hB).1
  have HANS : Hid (Calls Tryz.prog 10 #[.agg #[.int .i64 2, .slice none 0 0, .slice (some ⟨B, 0, none⟩) 2 pc, .slice none 0 0], .agg #[.int .i64 0, .int .i64 0], .agg #[.int .i64 1, .int .i64 8, .int .i64 0, .string ⟨#[]⟩, .int .i64 0, .int .i64 0, .slice none 0 0], .agg #[.int .i64 3, .int .i64 8, .slice none 0 0]] W1 (TellsK 3 8 0 W1)) := Lib.hid (answer_key 1 (.inl rfl) 2 0 0 3 8 3 8 0 none 0 0 B pc none 0 0 W1 fun W hW => by
    have gB := (hW.block _ (by omega)).trans ((hb1.block _ lB).trans hB)
    exact (keyedG 2 0 0 B pc none 0 W (cell_at gB rfl) rowOf_none).mono fun e w' h => h)
  unfold TellsK at HANS
  have s0 : W1.cell? ⟨w.heap.size, 0, none⟩ = some (.int .i64 2) := cell_at hA1.s rfl
  have s1 : W1.cell? ⟨w.heap.size, 1, none⟩ = some (.slice none 0 0) := cell_at hA1.s rfl
  have s2 : W1.cell? ⟨w.heap.size, 2, none⟩ = some (.slice (some ⟨B, 0, none⟩) 2 pc) := cell_at hA1.s rfl
  have s3 : W1.cell? ⟨w.heap.size, 3, none⟩ = some (.slice none 0 0) := cell_at hA1.s rfl
  have r0 : W1.cell? ⟨w.heap.size + 1, 0, none⟩ = some (.int .i64 0) := cell_at hA1.r rfl
  have r1 : W1.cell? ⟨w.heap.size + 1, 1, none⟩ = some (.int .i64 0) := cell_at hA1.r rfl
  have c0 : W1.cell? ⟨w.heap.size + 1 + 1, 0, none⟩ = some (.int .i64 1) := cell_at hA1.c rfl
  have c1 : W1.cell? ⟨w.heap.size + 1 + 1, 1, none⟩ = some (.int .i64 8) := cell_at hA1.c rfl
  have c2 : W1.cell? ⟨w.heap.size + 1 + 1, 2, none⟩ = some (.int .i64 0) := cell_at hA1.c rfl
  have c3 : W1.cell? ⟨w.heap.size + 1 + 1, 3, none⟩ = some (.string ⟨#[]⟩) := cell_at hA1.c rfl
  have c4 : W1.cell? ⟨w.heap.size + 1 + 1, 4, none⟩ = some (.int .i64 0) := cell_at hA1.c rfl
  have c5 : W1.cell? ⟨w.heap.size + 1 + 1, 5, none⟩ = some (.int .i64 0) := cell_at hA1.c rfl
  have c6 : W1.cell? ⟨w.heap.size + 1 + 1, 6, none⟩ = some (.slice none 0 0) := cell_at hA1.c rfl
  have d0 : W1.cell? ⟨w.heap.size + 1 + 1 + 1, 0, none⟩ = some (.int .i64 3) := cell_at hA1.d rfl
  have d1 : W1.cell? ⟨w.heap.size + 1 + 1 + 1, 1, none⟩ = some (.int .i64 8) := cell_at hA1.d rfl
  have d2 : W1.cell? ⟨w.heap.size + 1 + 1 + 1, 2, none⟩ = some (.slice none 0 0) := cell_at hA1.d rfl
  have HA1 := Lib.hid hA1
  have HB1 := Lib.hid hb1
  have HZ1 := Lib.hid hz1
  have HLB := Lib.hid lB
  have HBB := Lib.hid hB
  clear hA1 hb1 hz1 lB hB
  go_enter Tryz.func19, Tryz.ntmps19
  go_upto_region 1 with fail
  rw [← hW1]
  clear hW1
  go_upto_region 2 with (go_at_call 10; (with_reducible refine HANS.out.mono ?_); rintro e w2 ⟨y, c, rfl, hr2, hb2⟩; have HR2 := Lib.hid hr2; have HB2 := Lib.hid hb2; clear hr2 hb2 s0 s1 s2 s3 r0 r1 c0 c1 c2 c3 c4 c5 c6 d0 d1 d2)
  obtain ⟨D, hD⟩ : ∃ D, D = w2.heap.size := ⟨_, rfl⟩
  obtain ⟨W3, hW3⟩ : ∃ W3, W3 = w2.alloc (.cells #[.int .i64 0, .int .i64 3, .int .i64 8, .slice y 0 c, .int .i64 0, .int .i64 0, .string ⟨#[]⟩, .slice none 0 0] 28) := ⟨_, rfl⟩
  have hD1 : w.heap.size + 5 ≤ D := by have := HB2.out.size; have := HZ1.out; omega
  have hb3 : Below D w2 W3 := by rw [hW3, hD]; exact (Below.refl _ _).alloc (Nat.le_refl _) _
  have g3 : W3.heap[D]? = some (.cells #[.int .i64 0, .int .i64 3, .int .i64 8, .slice y 0 c, .int .i64 0, .int .i64 0, .string ⟨#[]⟩, .slice none 0 0] 28 (0, 0)) := by rw [hW3, hD]; exact heap_alloc_new w2 _
  have hz3 : W3.heap.size = D + 1 := by rw [hW3, hD]; simp
  have hA3 : An w.heap.size #[.int .i64 2, .slice none 0 0, .slice (some ⟨B, 0, none⟩) 2 pc, .slice none 0 0] W3 := (HA1.out.below HB2.out (by have := HZ1.out; omega)).below hb3 hD1
  have HB3 : Hid (Below w.heap.size w W3) := Lib.hid ((HB1.out.trans (HB2.out.mono HB1.out.size)).trans (hb3.mono (by omega)))
  rw [← hD, ← hW3]
  clear hW3 hD
  have s0 : W3.cell? ⟨w.heap.size, 0, none⟩ = some (.int .i64 2) := cell_at hA3.s rfl
  have s1 : W3.cell? ⟨w.heap.size, 1, none⟩ = some (.slice none 0 0) := cell_at hA3.s rfl
  have s2 : W3.cell? ⟨w.heap.size, 2, none⟩ = some (.slice (some ⟨B, 0, none⟩) 2 pc) := cell_at hA3.s rfl
  have s3 : W3.cell? ⟨w.heap.size, 3, none⟩ = some (.slice none 0 0) := cell_at hA3.s rfl
  have HCL : Hid (Calls Tryz.prog 31 #[.agg #[.int .i64 2, .slice none 0 0, .slice (some ⟨B, 0, none⟩) 2 pc, .slice none 0 0]] W3 fun e w' => ∃ v, e = .returned v ∧ Fresh 2 W3.heap.size W3 v w') := Lib.hid (cloneS_any 2 B pc none 0 W3 79 rowOf_none ((HB3.out.block _ HLB.out).trans HBB.out))
  unfold Fresh at HCL
  have HD1 := Lib.hid hD1
  have HG3 := Lib.hid g3
  have HZ3 := Lib.hid hz3
  have HA3 := Lib.hid hA3
  clear hD1 g3 hz3 hA3 hb3
  go_upto_region 5 with (go_at_call 31; (with_reducible refine HCL.out.mono ?_); rintro e w4 ⟨v, rfl, a, B2, rfl, hn4, g4, hb4⟩; have hA4 := HA3.out.below hb4 (by have := HZ3.out; have := HD1.out; omega); have HN4 := Lib.hid hn4; have HG4 := Lib.hid g4; have HB4 := Lib.hid hb4; clear s0 s1 s2 s3; have s0 : w4.cell? ⟨w.heap.size, 0, none⟩ = some (.int .i64 2) := cell_at hA4.s rfl; have s1 : w4.cell? ⟨w.heap.size, 1, none⟩ = some (.slice none 0 0) := cell_at hA4.s rfl; have s2 : w4.cell? ⟨w.heap.size, 2, none⟩ = some (.slice (some ⟨B, 0, none⟩) 2 pc) := cell_at hA4.s rfl; have s3 : w4.cell? ⟨w.heap.size, 3, none⟩ = some (.slice none 0 0) := cell_at hA4.s rfl; have f0 : ∀ o, w4.frozen? ⟨w.heap.size, o, none⟩ = false := (fun o => free_at hA4.s); have HA4 := Lib.hid hA4; clear hA4 hn4 g4 hb4)
  have hDN : D ≠ w.heap.size := by have := HD1.out; omega
  obtain ⟨hs5, hsb5, hso5⟩ := set4 HA4.out.s (.int .i64 2) (.slice a 0 0) (.slice (some ⟨B2, 0, none⟩) 2 2) (.slice none 0 0) (HB3.out.trans (HB4.out.mono HB3.out.size)) (Nat.le_refl _)
  have hA5 := HA4.out.set hs5 hso5
  have hn2 : w.heap.size + 6 ≤ B2 := by have := HN4.out; have := HZ3.out; have := HD1.out; omega
  have hgD := (hso5 D hDN).trans ((HB4.out.block D (by have := HZ3.out; omega)).trans HG3.out)
  have hg2 := (hso5 B2 (by omega)).trans HG4.out
  obtain ⟨W5, hW5⟩ : ∃ W5, W5 = ((((w4.setCell ⟨w.heap.size, 0, none⟩ (.int .i64 2)).setCell ⟨w.heap.size, 1, none⟩ (.slice a 0 0)).setCell ⟨w.heap.size, 2, none⟩ (.slice (some ⟨B2, 0, none⟩) 2 2)).setCell ⟨w.heap.size, 3, none⟩ (.slice none 0 0)) := ⟨_, rfl⟩
  rw [← hW5] at hs5 hsb5 hso5 hA5 hgD hg2
  rw [← hW5]
  clear hW5 s0 s1 s2 s3 f0
  have HA5 := Lib.hid hA5
  have HN2 := Lib.hid hn2
  have HGD := Lib.hid hgD
  have HG2 := Lib.hid hg2
  have HB5 := Lib.hid hsb5
  clear hs5 hsb5 hso5 hDN hn2
  have t0 : W5.cell? ⟨D, 0, none⟩ = some (.int .i64 0) := cell_at hgD rfl
  have t1 : W5.cell? ⟨D, 1, none⟩ = some (.int .i64 3) := cell_at hgD rfl
  have t2 : W5.cell? ⟨D, 2, none⟩ = some (.int .i64 8) := cell_at hgD rfl
  have t3 : W5.cell? ⟨D, 3, none⟩ = some (.slice y 0 c) := cell_at hgD rfl
  have c0 : W5.cell? ⟨w.heap.size + 1 + 1, 0, none⟩ = some (.int .i64 1) := cell_at hA5.c rfl
  have c1 : W5.cell? ⟨w.heap.size + 1 + 1, 1, none⟩ = some (.int .i64 8) := cell_at hA5.c rfl
  have c2 : W5.cell? ⟨w.heap.size + 1 + 1, 2, none⟩ = some (.int .i64 0) := cell_at hA5.c rfl
  clear hgD hg2 hA5
  obtain ⟨X, hX⟩ : ∃ X, X = W5.heap.size := ⟨_, rfl⟩
  obtain ⟨W6, hW6⟩ : ∃ W6, W6 = W5.alloc (.cells #[.int .i64 8, .int .i64 0, .int .i64 3, .int .i64 8, .slice y 0 c] 70) := ⟨_, rfl⟩
  have hX1 : D < X := by rw [hX]; exact (Array.getElem?_eq_some_iff.1 HGD.out).1
  have hX2 : B2 < X := by rw [hX]; exact (Array.getElem?_eq_some_iff.1 HG2.out).1
  have hb6 : Below X W5 W6 := by rw [hW6, hX]; exact (Below.refl _ _).alloc (Nat.le_refl _) _
  have g6 : W6.heap[X]? = some (.cells #[.int .i64 8, .int .i64 0, .int .i64 3, .int .i64 8, .slice y 0 c] 70 (0, 0)) := by rw [hW6, hX]; exact heap_alloc_new W5 _
  have hz6 : W6.heap.size = X + 1 := by rw [hW6, hX]; simp
  have HX1 := Lib.hid hX1
  have HX2 := Lib.hid hX2
  have HZ6 := Lib.hid hz6
  have HG6 := Lib.hid g6
  have hA6 : An w.heap.size #[.int .i64 2, .slice a 0 0, .slice (some ⟨B2, 0, none⟩) 2 2, .slice none 0 0] W6 := HA5.out.below hb6 (by have := HD1.out; omega)
  have HA6 := Lib.hid hA6
  have hX3 : w.heap.size ≤ X := by have := HD1.out; omega
  have HB6 := Lib.hid (HB5.out.trans (hb6.mono hX3))
  have HG62 := Lib.hid ((hb6.block _ hX2).trans HG2.out)
  clear hX1 hX2 hb6 hz6 hX3
  go_upto_region 8 with fail
  rw [← hX, ← hW6]
  clear hX hW6 t0 t1 t2 t3 c0 c1 c2
  have s0 : W6.cell? ⟨w.heap.size, 0, none⟩ = some (.int .i64 2) := cell_at hA6.s rfl
  have s1 : W6.cell? ⟨w.heap.size, 1, none⟩ = some (.slice a 0 0) := cell_at hA6.s rfl
  have s2 : W6.cell? ⟨w.heap.size, 2, none⟩ = some (.slice (some ⟨B2, 0, none⟩) 2 2) := cell_at hA6.s rfl
  have s3 : W6.cell? ⟨w.heap.size, 3, none⟩ = some (.slice none 0 0) := cell_at hA6.s rfl
  have c0 : W6.cell? ⟨w.heap.size + 1 + 1, 0, none⟩ = some (.int .i64 1) := cell_at hA6.c rfl
  have c1 : W6.cell? ⟨w.heap.size + 1 + 1, 1, none⟩ = some (.int .i64 8) := cell_at hA6.c rfl
  have c2 : W6.cell? ⟨w.heap.size + 1 + 1, 2, none⟩ = some (.int .i64 0) := cell_at hA6.c rfl
  have e0 : W6.cell? ⟨X, 0, none⟩ = some (.int .i64 8) := cell_at g6 rfl
  have e1 : W6.cell? ⟨X, 1, none⟩ = some (.int .i64 0) := cell_at g6 rfl
  have e2 : W6.cell? ⟨X, 2, none⟩ = some (.int .i64 3) := cell_at g6 rfl
  have e3 : W6.cell? ⟨X, 3, none⟩ = some (.int .i64 8) := cell_at g6 rfl
  have e4 : W6.cell? ⟨X, 4, none⟩ = some (.slice y 0 c) := cell_at g6 rfl
  obtain ⟨W7, hW7⟩ : ∃ W7, W7 = W6.alloc (.cells #[.int .i64 8, .int .i64 0, .int .i64 3, .int .i64 8, .slice y 0 c] 70) := ⟨_, rfl⟩
  have hb7 : Below W6.heap.size W6 W7 := by rw [hW7]; exact (Below.refl _ _).alloc (Nat.le_refl _) _
  have g7 : W7.heap[X + 1]? = some (.cells #[.int .i64 8, .int .i64 0, .int .i64 3, .int .i64 8, .slice y 0 c] 70 (0, 0)) := by rw [hW7, ← HZ6.out]; exact heap_alloc_new W6 _
  have hz7 : W7.heap.size = X + 2 := by rw [hW7]; simp; have := HZ6.out; omega
  have HLE : Hid (Calls Tryz.prog 32 #[.agg #[.int .i64 2, .slice a 0 0, .slice (some ⟨B2, 0, none⟩) 2 2, .slice none 0 0], .slice (some ⟨X + 1, 0, none⟩) 1 1] W7 (Learned 2 (.slice (some ⟨B2, 0, none⟩) 2 2) (.slice none 0 0) W7)) := Lib.hid (learn_any 2 a _ 2 2 none 0 0 (X + 1) y c W7 g7 (rowOf_any HR2.out))
  unfold Learned at HLE
  have hA7 : An w.heap.size #[.int .i64 2, .slice a 0 0, .slice (some ⟨B2, 0, none⟩) 2 2, .slice none 0 0] W7 := HA6.out.below hb7 (by have := HD1.out; have := HX1.out; have := HZ6.out; omega)
  have HA7 := Lib.hid hA7
  have HG7 := Lib.hid ((hb7.block X (by have := HZ6.out; omega)).trans g6)
  have HG72 := Lib.hid ((hb7.block B2 (by have := HZ6.out; have := HX2.out; omega)).trans HG62.out)
  have HB7 := Lib.hid (HB6.out.trans (hb7.mono HB6.out.size))
  have HZ7 := Lib.hid hz7
  have HSZ6 : Hid (W6.heap.size = X + 1) := HZ6
  clear hA6 g6 hb7 g7 hA7 hz7
  go_upto_region 14 with fail
  have hzz := HZ6.out
  go_upto_region 15 with (go_at_call 32; rw [← hW7]; clear hW7; (with_reducible refine HLE.out.mono ?_); rintro e w8 ⟨a2, rfl, hr8, hb8⟩; have hA8 := HA7.out.below hb8 (by have := HZ7.out; have := HD1.out; have := HX1.out; omega); have HR8 := Lib.hid hr8; have HB8 := Lib.hid hb8; clear s0 s1 s2 s3 c0 c1 c2 e0 e1 e2 e3 e4; have s0 : w8.cell? ⟨w.heap.size, 0, none⟩ = some (.int .i64 2) := cell_at hA8.s rfl; have s1 : w8.cell? ⟨w.heap.size, 1, none⟩ = some (.slice a 0 0) := cell_at hA8.s rfl; have s2 : w8.cell? ⟨w.heap.size, 2, none⟩ = some (.slice (some ⟨B2, 0, none⟩) 2 2) := cell_at hA8.s rfl; have s3 : w8.cell? ⟨w.heap.size, 3, none⟩ = some (.slice none 0 0) := cell_at hA8.s rfl; have f0 : ∀ o, w8.frozen? ⟨w.heap.size, o, none⟩ = false := (fun o => free_at hA8.s); have HA8 := Lib.hid hA8; clear hA8 hr8 hb8)
  obtain ⟨hs9, hsb9, hso9⟩ := set4 HA8.out.s (.int .i64 2) (.slice a2 1 1) (.slice (some ⟨B2, 0, none⟩) 2 2) (.slice none 0 0) (HB7.out.trans (HB8.out.mono HB7.out.size)) (Nat.le_refl _)
  have hA9 := HA8.out.set hs9 hso9
  obtain ⟨W9, hW9⟩ : ∃ W9, W9 = ((((w8.setCell ⟨w.heap.size, 0, none⟩ (.int .i64 2)).setCell ⟨w.heap.size, 1, none⟩ (.slice a2 1 1)).setCell ⟨w.heap.size, 2, none⟩ (.slice (some ⟨B2, 0, none⟩) 2 2)).setCell ⟨w.heap.size, 3, none⟩ (.slice none 0 0)) := ⟨_, rfl⟩
  have hF9 : Fix (From W7.heap.size) w8 W9 := by
    have hf : ¬ From W7.heap.size w.heap.size := fun hf => by have h1 : W7.heap.size ≤ w.heap.size := hf; have := HZ7.out; have := HD1.out; have := HX1.out; omega
    rw [hW9]
    exact (((Fix.setCell _ ⟨w.heap.size, 0, none⟩ _ hf).trans (Fix.setCell _ ⟨w.heap.size, 1, none⟩ _ hf)).trans (Fix.setCell _ ⟨w.heap.size, 2, none⟩ _ hf)).trans (Fix.setCell _ ⟨w.heap.size, 3, none⟩ _ hf)
  rw [← hW9] at hs9 hsb9 hso9 hA9
  rw [← hW9]
  have h7 := HZ7.out
  have hd1 := HD1.out
  have hx1 := HX1.out
  have hx2 := HX2.out
  have hn2 := HN2.out
  have h78 := HB8.out.size
  have h89 := hF9.size
  have hg92 := (hso9 B2 (by omega)).trans ((HB8.out.block _ (by omega)).trans HG72.out)
  have hg9X := (hso9 X (by omega)).trans ((HB8.out.block _ (by omega)).trans HG7.out)
  have HFR : Hid (Calls Tryz.prog 33 #[.agg #[.int .i64 2, .slice a2 1 1, .slice (some ⟨B2, 0, none⟩) 2 2, .slice none 0 0], .agg #[.int .i64 8, .int .i64 0]] W9 (Fronted B2 W9)) := Lib.hid (front_any B2 2 a2 1 1 none 0 0 W9 79 _ hg92)
  unfold Fronted at HFR
  have HR9 := Lib.hid ((HR8.out.keep (entryRd_ok _) hF9).mono (entryRd_ok _) (G := From X) fun q _ hq => by have h1 : W7.heap.size ≤ q := hq; show X ≤ q; omega)
  have HA9 := Lib.hid hA9
  have HB9 := Lib.hid hsb9
  have HG9 := Lib.hid hg92
  have HG9X := Lib.hid hg9X
  have HX9 : Hid (X + 2 ≤ W9.heap.size) := Lib.hid (by omega)
  clear s0 s1 s2 s3 f0 hW9 hF9 hs9 hsb9 hso9 hg92 hg9X h7 hd1 hx1 hx2 hn2 h78 h89
  have s0 : W9.cell? ⟨w.heap.size, 0, none⟩ = some (.int .i64 2) := cell_at hA9.s rfl
  have s1 : W9.cell? ⟨w.heap.size, 1, none⟩ = some (.slice a2 1 1) := cell_at hA9.s rfl
  have s2 : W9.cell? ⟨w.heap.size, 2, none⟩ = some (.slice (some ⟨B2, 0, none⟩) 2 2) := cell_at hA9.s rfl
  have s3 : W9.cell? ⟨w.heap.size, 3, none⟩ = some (.slice none 0 0) := cell_at hA9.s rfl
  have c0 : W9.cell? ⟨w.heap.size + 1 + 1, 0, none⟩ = some (.int .i64 1) := cell_at hA9.c rfl
  have c1 : W9.cell? ⟨w.heap.size + 1 + 1, 1, none⟩ = some (.int .i64 8) := cell_at hA9.c rfl
  have c2 : W9.cell? ⟨w.heap.size + 1 + 1, 2, none⟩ = some (.int .i64 0) := cell_at hA9.c rfl
  clear hA9
  go_upto_region 16 with (go_at_call 33; (with_reducible refine HFR.out.mono ?_); rintro e w11 ⟨f, fc, W10, rfl, hb10, hr10, rfl⟩; have HB10 := Lib.hid hb10; have HR10 := Lib.hid hr10; clear hb10 hr10 s0 s1 s2 s3 c0 c1 c2)
  have hd1 := HD1.out
  have hx1 := HX1.out
  have hx2 := HX2.out
  have hn2 := HN2.out
  have hx9 := HX9.out
  have hbs : Below B2 W10 (W10.setCell ⟨B2, 0, none⟩ (.slice f 1 fc)) := (Below.refl B2 W10).setCell (p := ⟨B2, 0, none⟩) (Nat.le_refl _) _
  obtain ⟨W11, hW11⟩ : ∃ W11, W11 = W10.setCell ⟨B2, 0, none⟩ (.slice f 1 fc) := ⟨_, rfl⟩
  have hA11 : An w.heap.size #[.int .i64 2, .slice a2 1 1, .slice (some ⟨B2, 0, none⟩) 2 2, .slice none 0 0] W11 := by rw [hW11]; exact (HA9.out.below HB10.out (by omega)).below hbs (by omega)
  have hg11X : W11.heap[X]? = some (.cells #[.int .i64 8, .int .i64 0, .int .i64 3, .int .i64 8, .slice y 0 c] 70 (0, 0)) := by rw [hW11, Below.heap_setCell _ _ _ _ (by show X ≠ B2; omega)]; exact (HB10.out.block _ (by omega)).trans HG9X.out
  have hg112 : W11.heap[B2]? = some (.cells #[.slice f 1 fc, .slice none 0 0] 79 (0, 0)) := by rw [hW11]; exact heap_set_at (o := 0) _ ((HB10.out.block _ (by omega)).trans HG9.out)
  have hF11 : Fix (From X) W10 W11 := by rw [hW11]; exact Fix.setCell _ ⟨B2, 0, none⟩ _ fun hf => by have h1 : X ≤ B2 := hf; omega
  have HR11 := Lib.hid ((HR9.out.keep (entryRd_ok _) (Fix.of_below HB10.out)).keep (entryRd_ok _) hF11)
  have HK11 := Lib.hid ((HR10.out.mono keyRd_ok (G := From X) fun q _ hq => by have h1 : W9.heap.size ≤ q := hq; show X ≤ q; omega).keep keyRd_ok hF11)
  have HB11 : Hid (Below w.heap.size w W11) := Lib.hid (by rw [hW11]; exact (HB9.out.trans (HB10.out.mono HB9.out.size)).setCell (p := ⟨B2, 0, none⟩) (by show w.heap.size ≤ B2; omega) _)
  rw [← hW11]
  have HA11 := Lib.hid hA11
  have HG112 := Lib.hid hg112
  clear hW11 hbs hF11 hg112
  have s0 : W11.cell? ⟨w.heap.size, 0, none⟩ = some (.int .i64 2) := cell_at hA11.s rfl
  have s1 : W11.cell? ⟨w.heap.size, 1, none⟩ = some (.slice a2 1 1) := cell_at hA11.s rfl
  have s2 : W11.cell? ⟨w.heap.size, 2, none⟩ = some (.slice (some ⟨B2, 0, none⟩) 2 2) := cell_at hA11.s rfl
  have s3 : W11.cell? ⟨w.heap.size, 3, none⟩ = some (.slice none 0 0) := cell_at hA11.s rfl
  have r0 : W11.cell? ⟨w.heap.size + 1, 0, none⟩ = some (.int .i64 0) := cell_at hA11.r rfl
  have r1 : W11.cell? ⟨w.heap.size + 1, 1, none⟩ = some (.int .i64 0) := cell_at hA11.r rfl
  have e0 : W11.cell? ⟨X, 0, none⟩ = some (.int .i64 8) := cell_at hg11X rfl
  have e1 : W11.cell? ⟨X, 1, none⟩ = some (.int .i64 0) := cell_at hg11X rfl
  have e2 : W11.cell? ⟨X, 2, none⟩ = some (.int .i64 3) := cell_at hg11X rfl
  have e3 : W11.cell? ⟨X, 3, none⟩ = some (.int .i64 8) := cell_at hg11X rfl
  have e4 : W11.cell? ⟨X, 4, none⟩ = some (.slice y 0 c) := cell_at hg11X rfl
  obtain ⟨W12, hW12⟩ : ∃ W12, W12 = W11.alloc (.cells #[.int .i64 0, .int .i64 0, .int .i64 8, .int .i64 0, .int .i64 3, .int .i64 8, .slice y 0 c, .bool false] 72) := ⟨_, rfl⟩
  have hb12 : Below W11.heap.size W11 W12 := by rw [hW12]; exact (Below.refl _ _).alloc (Nat.le_refl _) _
  have hl2 : B2 < W11.heap.size := (Array.getElem?_eq_some_iff.1 HG112.out).1
  have hlX : X < W11.heap.size := (Array.getElem?_eq_some_iff.1 hg11X).1
  have HSRC : Hid (Src W12 (some ⟨W11.heap.size, 0, none⟩) 1 1 8 [.int .i64 0, .int .i64 0, .int .i64 8, .int .i64 0, .int .i64 3, .int .i64 8, .slice y 0 c, .bool false]) := Lib.hid (by rw [hW12]; exact src_new3 [.int .i64 0, .int .i64 0, .int .i64 8, .int .i64 0, .int .i64 3, .int .i64 8, .slice y 0 c, .bool false] 72 8 rfl (by simp [Value.oneCell']))
  have HA12 := Lib.hid (HA11.out.below hb12 (by omega))
  have HB12 := Lib.hid (HB11.out.trans (hb12.mono HB11.out.size))
  have HG12 := Lib.hid ((hb12.block _ hl2).trans HG112.out)
  have HR12 := Lib.hid (HR11.out.keep (entryRd_ok _) (Fix.of_below hb12))
  have HK12 := Lib.hid (HK11.out.keep keyRd_ok (Fix.of_below hb12))
  have HS12 : Hid (X + 2 ≤ W12.heap.size) := Lib.hid (by have := hb12.size; have := HB10.out.size; have : W12.heap.size = W11.heap.size + 1 := by rw [hW12]; simp
                                                         omega)
  clear hA11 hg11X hb12 hl2 hlX hd1 hx1 hx2 hn2 hx9
  go_upto_region 21 with (at_builtin; rw [← hW12]; refine wpl_append_zero rfl _ _ 35 rfl openElem none rfl _ _ _ _ rfl HSRC.out (by omega) (by unfold maxLen; omega) (by omega) ?_; intro v' w13 ho hg; obtain ⟨oa, oc, rfl⟩ := own_val ho; have hb13 : Below W12.heap.size W12 w13 := (Below.refl _ _).grown hg (Nat.le_refl _) (fun q hq => by cases hq); have hA13 := HA12.out.below hb13 (by have := HS12.out; have := HX1.out; have := HD1.out; omega); have HB13 := Lib.hid hb13; have b3 : w13.cell? ⟨w.heap.size, 3, none⟩ = some (.slice none 0 0) := cell_at hA13.s rfl; have f3 : w13.frozen? ⟨w.heap.size, 3, none⟩ = false := free_at hA13.s; have HA13 := Lib.hid hA13; clear ho hg hb13 hA13 hW12 s0 s1 s2 s3 r0 r1 e0 e1 e2 e3 e4)
  have hd1 := HD1.out
  have hx1 := HX1.out
  have hx2 := HX2.out
  have hn2 := HN2.out
  have hs12 := HS12.out
  obtain ⟨W14, hW14⟩ : ∃ W14, W14 = w13.setCell ⟨w.heap.size, 3, none⟩ (.slice oa 1 oc) := ⟨_, rfl⟩
  have hs14 : W14.heap[w.heap.size]? = some (.cells #[.int .i64 2, .slice a2 1 1, .slice (some ⟨B2, 0, none⟩) 2 2, .slice oa 1 oc] 37 (0, 0)) := by rw [hW14]; exact heap_set_at (o := 3) _ HA13.out.s
  have ho14 : ∀ q, q ≠ w.heap.size → W14.heap[q]? = w13.heap[q]? := fun q hq => by rw [hW14, Below.heap_setCell _ _ _ _ hq]
  have hA14 := HA13.out.set hs14 ho14
  have hb14 : Below w.heap.size w W14 := by rw [hW14]; exact (HB12.out.trans (HB13.out.mono HB12.out.size)).setCell (p := ⟨w.heap.size, 3, none⟩) (Nat.le_refl _) _
  have hF14 : Fix (From X) W12 W14 := (Fix.of_below HB13.out).trans (by rw [hW14]; exact Fix.setCell _ ⟨w.heap.size, 3, none⟩ _ fun hf => by have h1 : X ≤ w.heap.size := hf; omega)
  have HG14 := Lib.hid ((ho14 B2 (by omega)).trans ((HB13.out.block _ (by omega)).trans HG12.out))
  have HR14 := Lib.hid (HR12.out.keep (entryRd_ok _) hF14)
  have HK14 := Lib.hid (HK12.out.keep keyRd_ok hF14)
  have HB14 := Lib.hid hb14
  rw [← hW14]
  have HA14 := Lib.hid hA14
  have hxn : ¬ From X (w.heap.size + 1 + 1 + 1 + 1) := fun hf => by have h1 : X ≤ w.heap.size + 1 + 1 + 1 + 1 := hf; omega
  have HXN := Lib.hid hxn
  clear hW14 hs14 ho14 hb14 hF14 b3 f3 hd1 hx1 hx2 hn2 hs12 hxn
  have s0 : W14.cell? ⟨w.heap.size, 0, none⟩ = some (.int .i64 2) := cell_at hA14.s rfl
  have s1 : W14.cell? ⟨w.heap.size, 1, none⟩ = some (.slice a2 1 1) := cell_at hA14.s rfl
  have s2 : W14.cell? ⟨w.heap.size, 2, none⟩ = some (.slice (some ⟨B2, 0, none⟩) 2 2) := cell_at hA14.s rfl
  have s3 : W14.cell? ⟨w.heap.size, 3, none⟩ = some (.slice oa 1 oc) := cell_at hA14.s rfl
  have o0 : W14.cell? ⟨w.heap.size + 1 + 1 + 1 + 1, 0, none⟩ = some (.int .i64 0) := cell_at hA14.o rfl
  have o1 : W14.cell? ⟨w.heap.size + 1 + 1 + 1 + 1, 1, none⟩ = some (.slice none 0 0) := cell_at hA14.o rfl
  have o2 : W14.cell? ⟨w.heap.size + 1 + 1 + 1 + 1, 2, none⟩ = some (.slice none 0 0) := cell_at hA14.o rfl
  have o3 : W14.cell? ⟨w.heap.size + 1 + 1 + 1 + 1, 3, none⟩ = some (.slice none 0 0) := cell_at hA14.o rfl
  have f0 : ∀ o, W14.frozen? ⟨w.heap.size + 1 + 1 + 1 + 1, o, none⟩ = false := fun o => free_at hA14.o
  clear hA14
  go_wp2_with fail
  obtain ⟨hs, hsb, hso⟩ := set4 HA14.out.o (.int .i64 2) (.slice a2 1 1) (.slice (some ⟨B2, 0, none⟩) 2 2) (.slice oa 1 oc) HB14.out (by omega)
  have hF15 : Fix (From X) W14 ((((W14.setCell ⟨w.heap.size + 1 + 1 + 1 + 1, 0, none⟩ (.int .i64 2)).setCell ⟨w.heap.size + 1 + 1 + 1 + 1, 1, none⟩ (.slice a2 1 1)).setCell ⟨w.heap.size + 1 + 1 + 1 + 1, 2, none⟩ (.slice (some ⟨B2, 0, none⟩) 2 2)).setCell ⟨w.heap.size + 1 + 1 + 1 + 1, 3, none⟩ (.slice oa 1 oc)) := (((Fix.setCell _ ⟨w.heap.size + 1 + 1 + 1 + 1, 0, none⟩ _ HXN.out).trans (Fix.setCell _ ⟨w.heap.size + 1 + 1 + 1 + 1, 1, none⟩ _ HXN.out)).trans (Fix.setCell _ ⟨w.heap.size + 1 + 1 + 1 + 1, 2, none⟩ _ HXN.out)).trans (Fix.setCell _ ⟨w.heap.size + 1 + 1 + 1 + 1, 3, none⟩ _ HXN.out)
  have hg2 := (hso B2 (by have := HN2.out; omega)).trans HG14.out
  have hrr := HR14.out.keep (entryRd_ok _) hF15
  have hkk := HK14.out.keep keyRd_ok hF15
  clear hso hF15 s0 s1 s2 s3 o0 o1 o2 o3 f0
  generalize ((((W14.setCell ⟨w.heap.size + 1 + 1 + 1 + 1, 0, none⟩ (.int .i64 2)).setCell ⟨w.heap.size + 1 + 1 + 1 + 1, 1, none⟩ (.slice a2 1 1)).setCell ⟨w.heap.size + 1 + 1 + 1 + 1, 2, none⟩ (.slice (some ⟨B2, 0, none⟩) 2 2)).setCell ⟨w.heap.size + 1 + 1 + 1 + 1, 3, none⟩ (.slice oa 1 oc)) = W15 at *
  have z0 : W15.cell? ⟨w.heap.size + 1 + 1 + 1 + 1, 0, none⟩ = some (.int .i64 2) := cell_at hs rfl
  have z1 : W15.cell? ⟨w.heap.size + 1 + 1 + 1 + 1, 1, none⟩ = some (.slice a2 1 1) := cell_at hs rfl
  have z2 : W15.cell? ⟨w.heap.size + 1 + 1 + 1 + 1, 2, none⟩ = some (.slice (some ⟨B2, 0, none⟩) 2 2) := cell_at hs rfl
  have z3 : W15.cell? ⟨w.heap.size + 1 + 1 + 1 + 1, 3, none⟩ = some (.slice oa 1 oc) := cell_at hs rfl
  refine bodyPost_ret (v := .tuple #[.agg #[.int .i64 2, .slice a2 1 1, .slice (some ⟨B2, 0, none⟩) 2 2, .slice oa 1 oc], .bool true]) (by simp [results, Tryz.results19, go_sem, z0, z1, z2, z3]) rfl ?_
  have hX : w.heap.size ≤ X := by have := HD1.out; have := HX1.out; omega
  exact ⟨_, rfl, ⟨a2, B2, f, fc, oa, oc, rfl, hrr.mono (entryRd_ok _) (fun q _ hq => Nat.le_trans hX hq), by have := HN2.out; omega, cell_at hg2 rfl, hkk.mono keyRd_ok (fun q _ hq => Nat.le_trans hX hq)⟩, hsb⟩
end Go.Proofs.YtibabpahpiijgaaGreatDoor.Lex
