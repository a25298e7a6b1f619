/- TwiceW, Has25: laid into one text. -/
import Derived.Test.YtephllgddhncgaaGreatDoorGEnt
import Derived.BigQuiet
import Derived.Deep.QuietTactic
import Derived.Deep.LoopGhost
import Derived.IntWalk
/- wisdom.twice: does a key come twice in a row? -/
namespace Go.Proofs.YtephllgddhncgaaGreatDoor.Lex
open Go.RowKit Stab
set_option linter.unusedSimpArgs false
set_option linter.unusedVariables false
def TwicePost (l : List EntryV) (w : World) (e : Ending) (w' : World) : Prop := ∃ t : Bool, e = .returned (.bool t) ∧ (t = true ↔ ∃ i, ∃ h : i + 1 < l.length, (l[i + 1]'h).1 = (l[i]'(by omega)).1) ∧ Below w.heap.size w w'
theorem below_drewN2 {n : Nat} {w w' : World} (h : Below n w w') : ∀ k, Below n w (w'.drewN k)
  | 0 => h
  | k + 1 => (below_drewN2 h k).drew
set_option maxRecDepth 100000 in
set_option maxHeartbeats 4000000 in
theorem twice_any (k : Nat) (F : Foot) (l : List EntryV) (a : Option Addr) (n cap : Nat) (w : World) (hl : RowOf (entryRd k) 5 56 F w a n cap l) :
    Calls Tryz.prog 19 #[.slice a n cap] w (TwicePost l w) := by
  have HLN := Lib.hid hl.len
  have HL := Lib.hid hl
  have hn : n ≤ 3518437208880 := by have := hl.room; omega
  clear hl
  by_cases h0 : n = 0
  · have hli : ¬ (1 : Int) < (n : Int) := by omega
    have HNO : Hid (¬ ∃ i, ∃ h : i + 1 < l.length, (l[i + 1]'h).1 = (l[i]'(by omega)).1) := Lib.hid fun ⟨i, h, _⟩ => by have := HLN.out; omega
    subst h0
    go_enter Tryz.func19, Tryz.ntmps19
    go_upto_region 2 with fail
    go_wp2_with fail
    go_loopg [3] 0 (fun g iv wr => g = 0 ∧ iv = .int .i64 1 ∧ Below w.heap.size w wr)
    case atStart => exact ⟨rfl, rfl, Below.refl _ _⟩
    case round =>
      obtain ⟨rfl, rfl, hB⟩ := hrel
      have HB := Lib.hid hB
      clear hB
      go_wp2_with fail
      go_ret
      exact ⟨_, rfl, ⟨fun h => by simp at h, fun h => absurd h HNO.out⟩, HB.out⟩
  · go_enter Tryz.func19, Tryz.ntmps19
    go_upto_region 2 with fail
    go_loopg [3] (n - 1) (fun g iv wr => ∃ i : Nat, 1 ≤ i ∧ i ≤ n ∧ g = n - i ∧ iv = .int .i64 i ∧ (∀ j, ∀ h : j + 1 < l.length, j + 1 < i → (l[j + 1]'h).1 ≠ (l[j]'(by omega)).1) ∧ Below w.heap.size w wr)
    case atStart => exact ⟨1, by omega, by omega, rfl, rfl, fun j h h1 => absurd h1 (by omega), Below.refl _ _⟩
    case round =>
      obtain ⟨i, hi1, hi, rfl, rfl, hall, hB⟩ := hrel
      obtain ⟨wo, rfl⟩ : ∃ wo : World, wo = wr := ⟨_, rfl⟩
      have HB := Lib.hid hB
      have HALL := Lib.hid hall
      clear hB hall
      by_cases hlt : i < n
      · obtain ⟨jm, hjm, hjm'⟩ : ∃ jm, i ≤ jm + 1 ∧ jm + 1 ≤ i := ⟨i - 1, by omega, by omega⟩
        have hll := HLN.out
        obtain ⟨b, o, hb, xn, xr, xk, xd, xl, xa, xm, xc, rfl, hx, ⟨p0, p1, _, _, _⟩, _, _, _⟩ := (HL.out.keep (entryRd_ok _) (Fix.of_below HB.out)).entry i (by omega)
        obtain ⟨b2, o2, hb2, yn, yr, yk, yd, yl, ya, ym, yc, he, hy, ⟨q0, q1, _, _, _⟩, _, _, _⟩ := (HL.out.keep (entryRd_ok _) (Fix.of_below HB.out)).entry jm (by omega)
        cases he
        have HX := Lib.hid hx
        have HY := Lib.hid hy
        have HJM : Hid (i = jm + 1) := Lib.hid (by omega)
        have e1 : IntKind.i64.wrap ((i : Int) - 1) = (jm : Int) := by rw [show (i : Int) - 1 = (jm : Int) by omega]; exact IntWalk.i64_in _ (by omega)
        have iN : (i : Int) < (n : Int) := by omega
        have jN : (jm : Int) < (n : Int) := by omega
        have i0 : (0 : Int) ≤ (i : Int) := by omega
        have j0 : (0 : Int) ≤ (jm : Int) := by omega
        have NEE : Hid (¬ (xn = yn ∧ xr = yr) → ∀ j, ∀ h : j + 1 < l.length, j + 1 = i → (l[j + 1]'h).1 ≠ (l[j]'(by omega)).1) := Lib.hid fun hne j h hj e => by
          obtain rfl : j = jm := by have := HJM.out; omega
          subst hj
          have h1 := HX.out
          have h2 := HY.out
          rw [h1, h2] at e
          exact hne (Prod.mk.inj e)
        clear hx hy
        by_cases h1 : xn = yn
        · by_cases h2 : xr = yr
          · have HEQ : Hid (∃ q, ∃ h : q + 1 < l.length, (l[q + 1]'h).1 = (l[q]'(by omega)).1) := Lib.hid (by
              obtain ⟨rfl⟩ : i = jm + 1 := HJM.out
              refine ⟨jm, by omega, ?_⟩
              rw [HX.out, HY.out, h1, h2])
            subst h1
            subst h2
            go_upto_region 4 with fail
            go_quiet (fail)
            have HBq := Lib.hid (below_drewN2 HB.out nq)
            generalize wo.drewN nq = wq at *
            go_wp2_with fail
            go_ret
            refine ⟨_, rfl, ⟨fun _ => HEQ.out, fun _ => ?_⟩, HBq.out⟩
            first | rfl | simp
          · have NE := Lib.hid (NEE.out fun h => h2 h.2)
            have hb2 : (xr == yr) = false := by simpa using h2
            subst h1
            go_upto_region 4 with fail
            go_quiet (fail)
            have HBq := Lib.hid (below_drewN2 HB.out nq)
            generalize wo.drewN nq = wq at *
            go_wp2_with fail
            go_roundg (n - (i + 1))
            case measure => omega
            case rel =>
              refine ⟨i + 1, by omega, by omega, rfl, by go_num, fun j h hj => ?_, HBq.out⟩
              by_cases hji : j + 1 = i
              · exact NE.out j h hji
              · exact HALL.out j h (by omega)
        · have NE := Lib.hid (NEE.out fun h => h1 h.1)
          have hb1 : (xn == yn) = false := by simpa using h1
          go_upto_region 4 with fail
          go_quiet (fail)
          have HBq := Lib.hid (below_drewN2 HB.out nq)
          generalize wo.drewN nq = wq at *
          go_wp2_with fail
          go_roundg (n - (i + 1))
          case measure => omega
          case rel =>
            refine ⟨i + 1, by omega, by omega, rfl, by go_num, fun j h hj => ?_, HBq.out⟩
            by_cases hji : j + 1 = i
            · exact NE.out j h hji
            · exact HALL.out j h (by omega)
      · obtain rfl : i = n := by omega
        go_wp2_with fail
        go_ret
        refine ⟨_, rfl, ⟨fun h => by simp at h, fun ⟨j, h, e⟩ => ?_⟩, HB.out⟩
        exact absurd e (HALL.out j h (by have := HLN.out; omega))
end Go.Proofs.YtephllgddhncgaaGreatDoor.Lex
/- The reference's Has: is a key among entries? -/
namespace Go.Proofs.YtephllgddhncgaaGreatDoor.Lex
open Go.RowKit Stab
set_option linter.unusedSimpArgs false
set_option linter.unusedVariables false
set_option maxRecDepth 100000 in
set_option maxHeartbeats 4000000 in
theorem has_any (k : Nat) (F : Foot) (l : List EntryV) (a : Option Addr) (n cap : Nat) (kn kr : Int) (w : World) (hl : RowOf (entryRd k) 5 56 F w a n cap l) :
    Calls Tryz.prog 25 #[.slice a n cap, .agg #[.int .i64 kn, .int .i64 kr]] w fun e w' => e = .returned (.bool (decide ((kn, kr) ∈ l.map Prod.fst))) ∧ Below w.heap.size w w' := by
  have HLN := Lib.hid hl.len
  have HL := Lib.hid hl
  have hn : n ≤ 3518437208880 := by have := hl.room; omega
  clear hl
  obtain ⟨W1, hW1⟩ : ∃ W1, W1 = w.alloc (.cells #[.int .i64 kn, .int .i64 kr] 39) := ⟨_, rfl⟩
  have hb1 : Below w.heap.size w W1 := by rw [hW1]; exact (Below.refl _ _).alloc (Nat.le_refl _) _
  have hg1 : W1.heap[w.heap.size]? = some (.cells #[.int .i64 kn, .int .i64 kr] 39 (0, 0)) := by rw [hW1]; exact heap_alloc_new w _
  have HB1 := Lib.hid hb1
  have HG1 := Lib.hid hg1
  clear hb1 hg1
  go_enter Tryz.func25, Tryz.ntmps25
  go_upto_region 2 with fail
  rw [← hW1]
  clear hW1
  go_loopg [5] n (fun g iv wr => ∃ i : Nat, i ≤ n ∧ g = n - i ∧ iv = .int .i64 i ∧ (∀ j, ∀ h : j < l.length, j < i → (l[j]'h).1 ≠ (kn, kr)) ∧ Below W1.heap.size W1 wr)
  case atStart => exact ⟨0, by omega, by omega, rfl, fun j h h1 => absurd h1 (by omega), Below.refl _ _⟩
  case round =>
    obtain ⟨i, hi, rfl, rfl, hall, hB⟩ := hrel
    obtain ⟨wo, rfl⟩ : ∃ wo : World, wo = wr := ⟨_, rfl⟩
    have hz1 := (Array.getElem?_eq_some_iff.1 HG1.out).1
    have hgo := (hB.block _ hz1).trans HG1.out
    have HB := Lib.hid (HB1.out.trans (hB.mono HB1.out.size))
    have HBB := Lib.hid hB
    have HALL := Lib.hid hall
    clear hB hall
    by_cases hlt : i < n
    · have hil : i < l.length := by have := HLN.out; omega
      obtain ⟨b, o, hb, xn, xr, xk, xd, xl, xa, xm, xc, rfl, hx, ⟨p0, p1, _, _, _⟩, _, _, _⟩ := (HL.out.keep (entryRd_ok _) (Fix.of_below HB.out)).entry i hil
      have c0 : wo.cell? ⟨w.heap.size, 0, none⟩ = some (.int .i64 kn) := cell_at hgo rfl
      have c1 : wo.cell? ⟨w.heap.size, 1, none⟩ = some (.int .i64 kr) := cell_at hgo rfl
      have HX := Lib.hid hx
      have iN : (i : Int) < (n : Int) := by omega
      have i0 : (0 : Int) ≤ (i : Int) := by omega
      have NEE : Hid (¬ (xn = kn ∧ xr = kr) → (l[i]'hil).1 ≠ (kn, kr)) := Lib.hid fun hne e => by
        rw [HX.out] at e
        exact hne (Prod.mk.inj e)
      have HIL := Lib.hid hil
      clear hx hgo hz1
      by_cases h1 : xn = kn
      · by_cases h2 : xr = kr
        · have HEQ : Hid (decide ((kn, kr) ∈ l.map Prod.fst) = true) := Lib.hid (by
            rw [decide_eq_true_iff, List.mem_map]
            exact ⟨l[i]'HIL.out, List.getElem_mem _, by rw [HX.out, h1, h2]⟩)
          subst h1
          subst h2
          go_upto_region 4 with fail
          go_quiet (fail)
          have HBq := Lib.hid (below_drewN2 HB.out nq)
          generalize wo.drewN nq = wq at *
          go_wp2_with fail
          go_ret
          refine ⟨?_, HBq.out⟩
          rw [HEQ.out]
          first | rfl | simp
        · have NE := Lib.hid (NEE.out fun h => h2 h.2)
          have hb2 : (xr == kr) = false := by simpa using h2
          subst h1
          go_upto_region 4 with fail
          go_quiet (fail)
          have HBq := Lib.hid (below_drewN2 HBB.out nq)
          generalize wo.drewN nq = wq at *
          go_wp2_with fail
          go_roundg (n - (i + 1))
          case measure => omega
          case rel =>
            refine ⟨i + 1, by omega, rfl, by go_num, fun j h hj => ?_, HBq.out⟩
            by_cases hji : j = i
            · subst hji; exact NE.out
            · exact HALL.out j h (by omega)
      · have NE := Lib.hid (NEE.out fun h => h1 h.1)
        have hb1 : (xn == kn) = false := by simpa using h1
        go_upto_region 4 with fail
        go_quiet (fail)
        have HBq := Lib.hid (below_drewN2 HBB.out nq)
        generalize wo.drewN nq = wq at *
        go_wp2_with fail
        go_roundg (n - (i + 1))
        case measure => omega
        case rel =>
          refine ⟨i + 1, by omega, rfl, by go_num, fun j h hj => ?_, HBq.out⟩
          by_cases hji : j = i
          · subst hji; exact NE.out
          · exact HALL.out j h (by omega)
    · obtain rfl : i = n := by omega
      have HNO : Hid (decide ((kn, kr) ∈ l.map Prod.fst) = false) := Lib.hid (by
        rw [decide_eq_false_iff_not, List.mem_map]
        rintro ⟨x, hx, e⟩
        obtain ⟨j, hj, rfl⟩ := List.mem_iff_getElem.1 hx
        exact HALL.out j hj (by have := HLN.out; omega) e)
      go_wp2_with fail
      go_ret
      exact ⟨by rw [HNO.out]; rfl, HB.out⟩
end Go.Proofs.YtephllgddhncgaaGreatDoor.Lex
