/- An insertion sort of a section of a row of entries. -/
import Derived.Test.YtibabpahpiijgaaGreatDoorGRow
namespace Go.Proofs.YtibabpahpiijgaaGreatDoor.Stab
open Go Go.RowKit
set_option linter.unusedSimpArgs false
set_option linter.unusedVariables false
/-- What entries are held against each other by: a closure over a cell at pa, that gives cf. -/
structure CmpAt (B b : Nat) (W0 : World) (pa : Addr) (cf : EC → EC → Int) : Prop where
  ord : Ord fun x y => decide (cf x y < 0)
  calls : ∀ (L : List EC) (W : World) (x y : EC), St B b W0 L W → Calls Tryz.prog 92 #[x.val, y.val, .pointer (some pa)] W fun e w' => e = .returned (.int .i64 (cf x y)) ∧ Below W.heap.size W w'
theorem srt_one {α : Type} {lt : α → α → Bool} {l : List α} {a : Nat} : Srt lt (sec l a (a + 1)) := by
  rw [sec, show a + 1 - a = 1 by omega]
  rcases l.drop a with _ | ⟨x, _⟩
  · simp [Srt]
  · simp [Srt]
set_option maxRecDepth 100000 in
set_option maxHeartbeats 4000000 in
theorem ins_any (B b : Nat) (W0 : World) (hB : B ≤ b) (pa : Addr) (cf : EC → EC → Int) (hcmp : CmpAt B b W0 pa cf) (L : List EC) (cap a c : Nat) (hac : a ≤ c) (hcn : c ≤ L.length) (hl : L.length ≤ 1099511627776) (W : World) (hst : St B b W0 L W) :
    Calls Tryz.prog 137 #[.slice (some ⟨b, 0, none⟩) L.length cap, .int .i64 a, .int .i64 c, .func (.func 92) #[] #[.pointer (some pa)]] W fun e w' => e = .returned (.tuple #[]) ∧ ∃ L', On (fun x y => decide (cf x y < 0)) a c L L' ∧ St B b W0 L' w' := by
  have HST := Lib.hid hst
  have HCMP := Lib.hid hcmp
  obtain ⟨N, hN⟩ : ∃ N, N = L.length := ⟨_, rfl⟩
  rw [← hN] at hcn hl ⊢
  have HN := Lib.hid hN
  obtain ⟨a1, ha1, ha1'⟩ : ∃ a1, a1 ≤ a + 1 ∧ a + 1 ≤ a1 := ⟨a + 1, by omega, by omega⟩
  have wa : IntKind.i64.wrap ((a : Int) + 1) = (a1 : Int) := wrapN (n := a) (m := 1) (i := a1) (by omega) (by omega)
  clear hst hN hcmp
  go_enter Tryz.func137, Tryz.ntmps137
  go_wp2_with fail
  clear wa
  go_loopg [8] (N + 1 - a1) (fun g iv wr => ∃ i : Nat, ∃ L' : List EC, a + 1 ≤ i ∧ i ≤ N + 1 ∧ g = N + 1 - i ∧ iv = .int .i64 (i : Int) ∧ (i ≤ c ∨ (i = a + 1 ∧ L' = L)) ∧ On (fun x y => decide (cf x y < 0)) a i L L' ∧ St B b W0 L' wr)
  case atStart =>
    refine ⟨a1, L, by omega, by omega, rfl, rfl, .inr ⟨by omega, rfl⟩, ?_, HST.out⟩
    rw [show a1 = a + 1 by omega]
    exact On.refl srt_one
  case round =>
    obtain ⟨i, L', hai, hiN, rfl, rfl, hor, hon, hs⟩ := hrel
    obtain ⟨wo, rfl⟩ : ∃ wo : World, wo = wr := ⟨_, rfl⟩
    have HON := Lib.hid hon
    have HS := Lib.hid hs
    have HOR := Lib.hid hor
    clear hon hs hor
    by_cases hic : i < c
    · have hici : (i : Int) < (c : Int) := by omega
      have hlen : L'.length = N := by rw [HON.out.len, HN.out]
      have HLEN := Lib.hid hlen
      obtain ⟨x, hx⟩ : ∃ x, L'[i]? = some x := ⟨_, List.getElem?_eq_getElem (by omega)⟩
      have HX := Lib.hid hx
      clear hlen hx
      go_wp2_with fail
      go_loopg [9] i (fun g jv wr => ∃ j : Nat, ∃ L1 : List EC, a ≤ j ∧ j ≤ i ∧ j = g ∧ jv = .int .i64 (j : Int) ∧ Turned (rho j i (i + 1)) L' L1 ∧ (j < i → ∀ y, L'[j]? = some y → cf x y < 0) ∧ St B b W0 L1 wr)
      case atStart => exact ⟨i, L', by omega, Nat.le_refl _, rfl, rfl, ⟨rfl, fun t => by rw [rho_none]⟩, fun h => by omega, HS.out⟩
      case round =>
        obtain ⟨j, L1, haj, hji, rfl, rfl, ht, hlow, hs1⟩ := hrel
        obtain ⟨w1, rfl⟩ : ∃ w1 : World, w1 = wr := ⟨_, rfl⟩
        have HT := Lib.hid ht
        have HLOW := Lib.hid hlow
        have HS1 := Lib.hid hs1
        have HSRT : Hid (Srt (fun x y => decide (cf x y < 0)) (sec L' a i)) := Lib.hid HON.out.srt
        clear ht hlow hs1
        have fin : Hid ((a < j → ∀ y, L'[j - 1]? = some y → decide (cf x y < 0) = false) → On (fun x y => decide (cf x y < 0)) a (i + 1) L L1) := Lib.hid fun h => HON.out.trans (by omega) (by omega) (one_right HCMP.out.ord HX.out haj hji HSRT.out h (fun h y hy => by simpa using HLOW.out h y hy) HT.out)
        by_cases hja : j = a
        · have hjai : ¬ (a : Int) < (j : Int) := by omega
          have FIN := Lib.hid (fin.out fun h => by omega)
          clear hja fin
          go_upto_region 4 with fail
          go_quiet (fail)
          go_wp2_with fail
          go_roundg (N + 1 - (i + 1))
          case measure => omega
          case rel => exact ⟨i + 1, L1, by omega, by omega, rfl, by go_num, .inl (by omega), FIN.out, HS1.out.step hB (by first | exact Below.refl _ _ | exact below_drewN (Below.refl _ _) _)⟩
        · have hjai : (a : Int) < (j : Int) := by omega
          obtain ⟨jm, hjm, hjm'⟩ : ∃ jm, j ≤ jm + 1 ∧ jm + 1 ≤ j := ⟨j - 1, by omega, by omega⟩
          have wj : IntKind.i64.wrap ((j : Int) - 1) = (jm : Int) := wrapS (n := j) (m := 1) (i := jm) (by omega) (by omega)
          have hl1 : L1.length = N := by rw [HT.out.len, HLEN.out]
          obtain ⟨y, hy⟩ : ∃ y, L1[jm]? = some y := ⟨_, List.getElem?_eq_getElem (by omega)⟩
          have hxj : L1[j]? = some x := by
            rw [HT.out.at_, ← HX.out]
            congr 1
            unfold rho
            rw [if_neg (by omega), if_pos (by omega)]
            omega
          have hyj : L'[jm]? = some y := by
            rw [← hy, HT.out.at_]
            congr 1
            unfold rho
            rw [if_pos (by omega)]
          have HY := Lib.hid hy
          have HXJ := Lib.hid hxj
          have HYJ := Lib.hid hyj
          have HL1 := Lib.hid hl1
          have HCL : Hid (∀ W', Below w1.heap.size w1 W' → Calls Tryz.prog 92 #[x.val, y.val, .pointer (some pa)] W' fun e w' => e = .returned (.int .i64 (cf x y)) ∧ Below W'.heap.size W' w') := Lib.hid fun W' hb => HCMP.out.calls L1 W' x y (HS1.out.step hB hb)
          unfold EC.val at HCL
          have HCC : Hid (∀ W', Below w1.heap.size w1 W' → W'.cell? ⟨b, j * 5, none⟩ = some (.int .i64 x.kn) ∧ W'.cell? ⟨b, j * 5 + 1, none⟩ = some (.int .i64 x.kd) ∧ W'.cell? ⟨b, j * 5 + 2, none⟩ = some (.int .i64 x.dk) ∧ W'.cell? ⟨b, j * 5 + 3, none⟩ = some (.int .i64 x.dn) ∧ W'.cell? ⟨b, j * 5 + 4, none⟩ = some (.slice x.da x.dm x.dc) ∧ W'.cell? ⟨b, jm * 5, none⟩ = some (.int .i64 y.kn) ∧ W'.cell? ⟨b, jm * 5 + 1, none⟩ = some (.int .i64 y.kd) ∧ W'.cell? ⟨b, jm * 5 + 2, none⟩ = some (.int .i64 y.dk) ∧ W'.cell? ⟨b, jm * 5 + 3, none⟩ = some (.int .i64 y.dn) ∧ W'.cell? ⟨b, jm * 5 + 4, none⟩ = some (.slice y.da y.dm y.dc)) := Lib.hid fun W' hb => by
            obtain ⟨x0, x1, x2, x3, x4⟩ := (HS1.out.step hB hb).cell hxj
            obtain ⟨y0, y1, y2, y3, y4⟩ := (HS1.out.step hB hb).cell hy
            exact ⟨x0, x1, x2, x3, x4, y0, y1, y2, y3, y4⟩
          have hbz := Below.refl w1.heap.size w1
          have jN : (j : Int) < (N : Int) := by omega
          have jmN : (jm : Int) < (N : Int) := by omega
          have j0 : (0 : Int) ≤ (j : Int) := by omega
          have jm0 : (0 : Int) ≤ (jm : Int) := by omega
          clear hy hxj hyj hl1
          by_cases hcf : cf x y < 0
          · have hcb : decide (cf x y < 0) = true := by simpa using hcf
            clear fin
            go_upto_region 4 with fail
            go_region_held3 (fun W' => W'.cell? ⟨b, j * 5, none⟩ = some (.int .i64 x.kn) ∧ W'.cell? ⟨b, j * 5 + 1, none⟩ = some (.int .i64 x.kd) ∧ W'.cell? ⟨b, j * 5 + 2, none⟩ = some (.int .i64 x.dk) ∧ W'.cell? ⟨b, j * 5 + 3, none⟩ = some (.int .i64 x.dn) ∧ W'.cell? ⟨b, j * 5 + 4, none⟩ = some (.slice x.da x.dm x.dc) ∧ W'.cell? ⟨b, jm * 5, none⟩ = some (.int .i64 y.kn) ∧ W'.cell? ⟨b, jm * 5 + 1, none⟩ = some (.int .i64 y.kd) ∧ W'.cell? ⟨b, jm * 5 + 2, none⟩ = some (.int .i64 y.dk) ∧ W'.cell? ⟨b, jm * 5 + 3, none⟩ = some (.int .i64 y.dn) ∧ W'.cell? ⟨b, jm * 5 + 4, none⟩ = some (.slice y.da y.dm y.dc)) ((refine HCC.out _ ?_; ((repeat' (first | with_reducible assumption | with_reducible refine Below.drew ?_ | (with_reducible refine Below.alloc ?_ ?_ _))) <;> first | assumption | (simp; done) | (simp; omega)))) ((first
              | (go_at_call 92; (with_reducible refine (HCL.out _ (by ((repeat' (first | with_reducible assumption | with_reducible refine Below.drew ?_ | (with_reducible refine Below.alloc ?_ ?_ _))) <;> first | assumption | (simp; done) | (simp; omega)))).mono ?_); rintro e w2 ⟨rfl, hb2⟩; have hb2z : Below w1.heap.size w1 w2 := Below.trans (show Below w1.heap.size w1 _ by ((repeat' (first | with_reducible assumption | with_reducible refine Below.drew ?_ | (with_reducible refine Below.alloc ?_ ?_ _))) <;> first | assumption | (simp; done) | (simp; omega))) (hb2.mono (Below.size (show Below w1.heap.size w1 _ by ((repeat' (first | with_reducible assumption | with_reducible refine Below.drew ?_ | (with_reducible refine Below.alloc ?_ ?_ _))) <;> first | assumption | (simp; done) | (simp; omega))))); clear hb2)))
            all_goals
              have HS2 : Hid (St B b W0 L1 w2) := Lib.hid (HS1.out.step hB (show Below w1.heap.size w1 w2 by assumption))
              obtain ⟨x0, x1, x2, x3, x4⟩ := HS2.out.cell HXJ.out
              obtain ⟨y0, y1, y2, y3, y4⟩ := HS2.out.cell HY.out
              have fr := fun o => HS2.out.free o
              go_upto_region 6 with fail
              go_region
              have hS9 : St B b W0 ((L1.set j y).set jm x) (set5 (set5 w2 b j y) b jm x).drew := ((HS2.out.put hB (by rw [HL1.out]; omega) y).put hB (by rw [List.length_set, HL1.out]; omega) x).drew hB
              have HS9 := Lib.hid hS9
              obtain ⟨W9, hW9⟩ : ∃ W9, W9 = (set5 (set5 w2 b j y) b jm x).drew := ⟨_, rfl⟩
              rw [← hW9] at HS9
              unfold set5 at hW9
              rw [← hW9]
              clear hW9 hS9 x0 x1 x2 x3 x4 y0 y1 y2 y3 y4 fr
              have HJ : Hid (j = jm + 1) := Lib.hid (by omega)
              go_wp2_with fail
              go_roundg jm
              case measure => omega
              case rel =>
                refine ⟨jm, (L1.set j y).set jm x, by omega, by omega, rfl, rfl, ?_, fun _ z hz => ?_, HS9.out⟩
                · have e : (L1.set j y).set jm x = (L1.set jm x).set j y := List.set_comm _ _ (by omega)
                  rw [e]
                  refine (HT.out.trans (turned_swap (by omega) HY.out HXJ.out)).congr fun t => ?_
                  rw [HJ.out]
                  exact rho_down (by omega)
                · rw [HYJ.out] at hz
                  cases hz
                  simpa using hcb
          · have hcb : decide (cf x y < 0) = false := by simpa using hcf
            have FIN := Lib.hid (fin.out fun _ z hz => by
              rw [show j - 1 = jm by omega, HYJ.out] at hz
              cases hz
              exact hcb)
            clear fin
            go_upto_region 4 with fail
            go_region_held3 (fun W' => W'.cell? ⟨b, j * 5, none⟩ = some (.int .i64 x.kn) ∧ W'.cell? ⟨b, j * 5 + 1, none⟩ = some (.int .i64 x.kd) ∧ W'.cell? ⟨b, j * 5 + 2, none⟩ = some (.int .i64 x.dk) ∧ W'.cell? ⟨b, j * 5 + 3, none⟩ = some (.int .i64 x.dn) ∧ W'.cell? ⟨b, j * 5 + 4, none⟩ = some (.slice x.da x.dm x.dc) ∧ W'.cell? ⟨b, jm * 5, none⟩ = some (.int .i64 y.kn) ∧ W'.cell? ⟨b, jm * 5 + 1, none⟩ = some (.int .i64 y.kd) ∧ W'.cell? ⟨b, jm * 5 + 2, none⟩ = some (.int .i64 y.dk) ∧ W'.cell? ⟨b, jm * 5 + 3, none⟩ = some (.int .i64 y.dn) ∧ W'.cell? ⟨b, jm * 5 + 4, none⟩ = some (.slice y.da y.dm y.dc)) ((refine HCC.out _ ?_; ((repeat' (first | with_reducible assumption | with_reducible refine Below.drew ?_ | (with_reducible refine Below.alloc ?_ ?_ _))) <;> first | assumption | (simp; done) | (simp; omega)))) ((first
              | (go_at_call 92; (with_reducible refine (HCL.out _ (by ((repeat' (first | with_reducible assumption | with_reducible refine Below.drew ?_ | (with_reducible refine Below.alloc ?_ ?_ _))) <;> first | assumption | (simp; done) | (simp; omega)))).mono ?_); rintro e w2 ⟨rfl, hb2⟩; have hb2z : Below w1.heap.size w1 w2 := Below.trans (show Below w1.heap.size w1 _ by ((repeat' (first | with_reducible assumption | with_reducible refine Below.drew ?_ | (with_reducible refine Below.alloc ?_ ?_ _))) <;> first | assumption | (simp; done) | (simp; omega))) (hb2.mono (Below.size (show Below w1.heap.size w1 _ by ((repeat' (first | with_reducible assumption | with_reducible refine Below.drew ?_ | (with_reducible refine Below.alloc ?_ ?_ _))) <;> first | assumption | (simp; done) | (simp; omega))))); clear hb2)))
            all_goals
              have HS2 : Hid (St B b W0 L1 w2) := Lib.hid (HS1.out.step hB (show Below w1.heap.size w1 w2 by assumption))
              go_wp2_with fail
              go_roundg (N + 1 - (i + 1))
              case measure => omega
              case rel => exact ⟨i + 1, L1, by omega, by omega, rfl, by go_num, .inl (by omega), FIN.out, HS2.out⟩
    · have hici : ¬ (i : Int) < (c : Int) := by omega
      have FIN : Hid (On (fun x y => decide (cf x y < 0)) a c L L') := Lib.hid (by
        rcases HOR.out with h | ⟨h, h2⟩
        · have e : i = c := by omega
          rw [← e]; exact HON.out
        · by_cases e : i = c
          · rw [← e]; exact HON.out
          · rw [h2, show c = a by omega]
            exact On.refl (by rw [sec_nil _ (Nat.le_refl a)]; exact List.Pairwise.nil))
      go_wp2_with fail
      go_end0
      exact ⟨rfl, L', FIN.out, HS.out⟩
end Go.Proofs.YtibabpahpiijgaaGreatDoor.Stab
