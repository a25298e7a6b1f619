/- Key36, Known36, Kept36, Keyed36, KeyG36, Ans36: laid into one text. -/
import Derived.Test.YtibabpahpiijgaaGreatDoorEnt
import Derived.Test.YtibabpahpiijgaaGreatDoorProg
import Derived.BigQuiet
import Derived.Deep.QuietTactic
import Derived.Deep.LoopGhost
import Derived.IntWalk
import Derived.Test.YtibabpahpiijgaaGreatDoorClone
import Derived.Test.YtibabpahpiijgaaGreatDoorVal
import Derived.Deep.RegionHeld3
import Derived.Test.YtibabpahpiijgaaGreatDoorPairH
import Derived.Test.YtibabpahpiijgaaGreatDoorForV
/- Keys among keys, a key among entries: slices.Index, slices.Contains, slices.IndexFunc. -/
namespace Go.Proofs.YtibabpahpiijgaaGreatDoor.Lex
open Go.RowKit Stab
set_option linter.unusedSimpArgs false
set_option linter.unusedVariables false
theorem below_drewN6 {n : Nat} {w w' : World} (h : Below n w w') : ∀ k, Below n w (w'.drewN k)
  | 0 => h
  | k + 1 => (below_drewN6 h k).drew
theorem key_at {F : Foot} {w : World} {a : Option Addr} {n cap : Nat} {l : List KeyV} (h : RowOf keyRd 2 16 F w a n cap l) (i : Nat) (hi : i < l.length) :
    ∃ b o x y, a = some ⟨b, o, none⟩ ∧ b < w.heap.size ∧ l[i] = (x, y) ∧ w.cell? ⟨b, o + i * 2, none⟩ = some (.int .i64 x) ∧ w.cell? ⟨b, o + i * 2 + 1, none⟩ = some (.int .i64 y) := by
  obtain ⟨b, o, cs, h1, h2, _, _, h4, h5⟩ := h.at_ i _ (List.getElem?_eq_getElem hi)
  obtain ⟨_, _, rfl, ⟨rfl, _⟩, rfl, _⟩ := h5
  exact ⟨b, o, _, _, h1, h2, rfl, h4 0 _ rfl, h4 1 _ rfl⟩
def IdxPost {α : Type} (p : α → Prop) (l : List α) (w : World) (e : Ending) (w' : World) : Prop :=
  ∃ r : Int, e = .returned (.int .i64 r) ∧ ((r = -1 ∧ ∀ x ∈ l, ¬ p x) ∨ ∃ i : Nat, r = i ∧ ∃ h : i < l.length, p (l[i]'h)) ∧ Below w.heap.size w w'
theorem idx_ge {α : Type} {p : α → Prop} {l : List α} {r : Int} (h : (r = -1 ∧ ∀ x ∈ l, ¬ p x) ∨ ∃ i : Nat, r = i ∧ ∃ h : i < l.length, p (l[i]'h)) (hm : ∃ x ∈ l, p x) : (0 : Int) ≤ r := by
  rcases h with ⟨_, h⟩ | ⟨i, h, _⟩
  · obtain ⟨x, hx, hp⟩ := hm
    exact absurd hp (h x hx)
  · omega
theorem idx_lt {α : Type} {p : α → Prop} {l : List α} {r : Int} (h : (r = -1 ∧ ∀ x ∈ l, ¬ p x) ∨ ∃ i : Nat, r = i ∧ ∃ h : i < l.length, p (l[i]'h)) (hm : ∀ x ∈ l, ¬ p x) : ¬ (0 : Int) ≤ r := by
  rcases h with ⟨h, _⟩ | ⟨i, _, hi, hp⟩
  · omega
  · exact absurd hp (hm _ (List.getElem_mem hi))
set_option maxRecDepth 100000 in
set_option maxHeartbeats 4000000 in
theorem idxK_any (F : Foot) (l : List KeyV) (a : Option Addr) (n cap : Nat) (kn kr : Int) (w : World) (hl : RowOf keyRd 2 16 F w a n cap l) :
    Calls Tryz.prog 68 #[.slice a n cap, .agg #[.int .i64 kn, .int .i64 kr]] w (IdxPost (fun x => x = (kn, kr)) l w) := by
  have HLN := Lib.hid hl.len
  have HL := Lib.hid hl
  have hn : n ≤ 8796093022000 := by have := hl.room; omega
  clear hl
  obtain ⟨W1, hW1⟩ : ∃ W1, W1 = w.alloc (.cells #[.int .i64 kn, .int .i64 kr] 41) := ⟨_, rfl⟩
  have hb1 : Below w.heap.size w W1 := by rw [hW1]; exact (Below.refl _ _).alloc (Nat.le_refl _) _
  have hg1 : W1.heap[w.heap.size]? = some (.cells #[.int .i64 kn, .int .i64 kr] 41 (0, 0)) := by rw [hW1]; exact heap_alloc_new w _
  have HB1 := Lib.hid hb1
  have HG1 := Lib.hid hg1
  clear hb1 hg1
  go_enter Tryz.func68, Tryz.ntmps68
  go_upto_region 2 with fail
  rw [← hW1]
  clear hW1
  go_loopg [8] n (fun g iv wr => ∃ i : Nat, i ≤ n ∧ g = n - i ∧ iv = .int .i64 i ∧ (∀ j, ∀ h : j < l.length, j < i → l[j]'h ≠ (kn, kr)) ∧ Below W1.heap.size W1 wr)
  case atStart => exact ⟨0, by omega, by omega, rfl, fun j h h1 => absurd h1 (by omega), Below.refl _ _⟩
  case round =>
    obtain ⟨i, hi, rfl, rfl, hall, hB⟩ := hrel
    obtain ⟨wo, rfl⟩ : ∃ wo : World, wo = wr := ⟨_, rfl⟩
    have hz1 := (Array.getElem?_eq_some_iff.1 HG1.out).1
    have hgo := (hB.block _ hz1).trans HG1.out
    have HB := Lib.hid (HB1.out.trans (hB.mono HB1.out.size))
    have HBB := Lib.hid hB
    have HALL := Lib.hid hall
    clear hB hall
    by_cases hlt : i < n
    · have hil : i < l.length := by have := HLN.out; omega
      obtain ⟨b, o, xn, xr, rfl, hb, hx, p0, p1⟩ := key_at (HL.out.keep keyRd_ok (Fix.of_below HB.out)) i hil
      have c0 : wo.cell? ⟨w.heap.size, 0, none⟩ = some (.int .i64 kn) := cell_at hgo rfl
      have c1 : wo.cell? ⟨w.heap.size, 1, none⟩ = some (.int .i64 kr) := cell_at hgo rfl
      have HX := Lib.hid hx
      have iN : (i : Int) < (n : Int) := by omega
      have i0 : (0 : Int) ≤ (i : Int) := by omega
      have NEE : Hid (¬ (xn = kn ∧ xr = kr) → l[i]'hil ≠ (kn, kr)) := Lib.hid fun hne e => by
        rw [HX.out] at e
        exact hne (Prod.mk.inj e)
      have HIL := Lib.hid hil
      clear hx hgo hz1
      by_cases h1 : xn = kn
      · by_cases h2 : xr = kr
        · have HEQ : Hid (l[i]'HIL.out = (kn, kr)) := Lib.hid (by rw [HX.out, h1, h2])
          subst h1
          subst h2
          go_upto_region 4 with fail
          go_quiet (fail)
          have HBq := Lib.hid (below_drewN6 HB.out nq)
          generalize wo.drewN nq = wq at *
          go_wp2_with fail
          go_ret
          exact ⟨_, rfl, .inr ⟨i, rfl, HIL.out, HEQ.out⟩, HBq.out⟩
        · have NE := Lib.hid (NEE.out fun h => h2 h.2)
          have hb2 : (kr == xr) = false := by simpa using fun e : kr = xr => h2 e.symm
          subst h1
          go_upto_region 4 with fail
          go_quiet (fail)
          have HBq := Lib.hid (below_drewN6 HBB.out nq)
          generalize wo.drewN nq = wq at *
          go_wp2_with fail
          go_roundg (n - (i + 1))
          case measure => omega
          case rel =>
            refine ⟨i + 1, by omega, rfl, by go_num, fun j h hj => ?_, HBq.out⟩
            by_cases hji : j = i
            · subst hji; exact NE.out
            · exact HALL.out j h (by omega)
      · have NE := Lib.hid (NEE.out fun h => h1 h.1)
        have hb1 : (kn == xn) = false := by simpa using fun e : kn = xn => h1 e.symm
        go_upto_region 4 with fail
        go_quiet (fail)
        have HBq := Lib.hid (below_drewN6 HBB.out nq)
        generalize wo.drewN nq = wq at *
        go_wp2_with fail
        go_roundg (n - (i + 1))
        case measure => omega
        case rel =>
          refine ⟨i + 1, by omega, rfl, by go_num, fun j h hj => ?_, HBq.out⟩
          by_cases hji : j = i
          · subst hji; exact NE.out
          · exact HALL.out j h (by omega)
    · obtain rfl : i = n := by omega
      have HNO : Hid (∀ x ∈ l, ¬ x = (kn, kr)) := Lib.hid (by
        intro x hx e
        obtain ⟨j, hj, rfl⟩ := List.mem_iff_getElem.1 hx
        exact HALL.out j hj (by have := HLN.out; omega) e)
      go_wp2_with fail
      go_ret
      exact ⟨_, rfl, .inl ⟨rfl, HNO.out⟩, HB.out⟩
set_option maxRecDepth 100000 in
set_option maxHeartbeats 1000000 in
theorem cont_any (F : Foot) (l : List KeyV) (a : Option Addr) (n cap : Nat) (kn kr : Int) (w : World) (hl : RowOf keyRd 2 16 F w a n cap l) :
    Calls Tryz.prog 44 #[.slice a n cap, .agg #[.int .i64 kn, .int .i64 kr]] w fun e w' => e = .returned (.bool (decide ((kn, kr) ∈ l))) ∧ Below w.heap.size w w' := by
  have hb0 : Below w.heap.size w (w.alloc (.cells #[.int .i64 kn, .int .i64 kr] 41)) := (Below.refl _ _).alloc (Nat.le_refl _) _
  have HC := Lib.hid (idxK_any F l a n cap kn kr _ (hl.keep keyRd_ok (Fix.of_below hb0)))
  have HB := Lib.hid hb0
  clear hl hb0
  unfold IdxPost at HC
  by_cases hm : (kn, kr) ∈ l
  · rw [decide_eq_true hm]
    have HM := Lib.hid hm
    clear hm
    go_enter Tryz.func44, Tryz.ntmps44
    go_wp2_with (go_at_call 68; (with_reducible refine HC.out.mono ?_); rintro e w2 ⟨r, rfl, hr, hb2⟩; have hr0 := idx_ge hr ⟨_, HM.out, rfl⟩; have HB2 := Lib.hid (HB.out.trans (hb2.mono HB.out.size)); clear hb2 hr)
    go_ret
    exact ⟨rfl, HB2.out⟩
  · rw [decide_eq_false hm]
    have HM2 : Hid (∀ x ∈ l, ¬ x = (kn, kr)) := Lib.hid fun x hx e => hm (e ▸ hx)
    clear hm
    go_enter Tryz.func44, Tryz.ntmps44
    go_wp2_with (go_at_call 68; (with_reducible refine HC.out.mono ?_); rintro e w2 ⟨r, rfl, hr, hb2⟩; have HR0 := Lib.hid (idx_lt hr HM2.out); have HB2 := Lib.hid (HB.out.trans (hb2.mono HB.out.size)); clear hb2 hr)
    go_ret
    refine ⟨?_, HB2.out⟩
    show Ending.returned (.bool (decide ((0 : Int) ≤ r))) = _
    rw [decide_eq_false (Int.not_le.2 HR0.out)]
end Go.Proofs.YtibabpahpiijgaaGreatDoor.Lex
/- A model's answers on a key: known, kept; no handle. -/
namespace Go.Proofs.YtibabpahpiijgaaGreatDoor.Lex
open Go.RowKit Stab
set_option linter.unusedSimpArgs false
set_option linter.unusedVariables false
set_option maxRecDepth 100000 in
set_option maxHeartbeats 1000000 in
theorem known1_any (an ar ak ad kn kr : Int) (aa : Option Addr) (am ac kb : Nat) (w : World) (h0 : w.cell? ⟨kb, 0, none⟩ = some (.int .i64 kn)) (h1 : w.cell? ⟨kb, 1, none⟩ = some (.int .i64 kr)) :
    Calls Tryz.prog 43 #[.agg #[.int .i64 an, .int .i64 ar, .int .i64 ak, .int .i64 ad, .slice aa am ac], .pointer (some ⟨kb, 0, none⟩)] w fun e w' => e = .returned (.bool (decide ((an, ar) = (kn, kr)))) ∧ Below w.heap.size w w' := by
  have hlt : kb < w.heap.size := World.block_lt_of_cell? w _ h0
  obtain ⟨W1, hW1⟩ : ∃ W1, W1 = w.alloc (.cells #[.int .i64 an, .int .i64 ar, .int .i64 ak, .int .i64 ad, .slice aa am ac] 70) := ⟨_, rfl⟩
  have hb : Below w.heap.size w W1 := by rw [hW1]; exact (Below.refl _ _).alloc (Nat.le_refl _) _
  have hg : W1.heap[w.heap.size]? = some (.cells #[.int .i64 an, .int .i64 ar, .int .i64 ak, .int .i64 ad, .slice aa am ac] 70 (0, 0)) := by rw [hW1]; exact heap_alloc_new w _
  have k0 : W1.cell? ⟨kb, 0, none⟩ = some (.int .i64 kn) := (hb.cell (p := ⟨kb, 0, none⟩) hlt).trans h0
  have k1 : W1.cell? ⟨kb, 1, none⟩ = some (.int .i64 kr) := (hb.cell (p := ⟨kb, 1, none⟩) hlt).trans h1
  have e0 : W1.cell? ⟨w.heap.size, 0, none⟩ = some (.int .i64 an) := cell_at hg rfl
  have e1 : W1.cell? ⟨w.heap.size, 1, none⟩ = some (.int .i64 ar) := cell_at hg rfl
  have HB := Lib.hid hb
  clear hlt hb hg h0 h1
  by_cases q1 : an = kn
  · by_cases q2 : ar = kr
    · subst q1
      subst q2
      rw [decide_eq_true rfl]
      go_enter Tryz.func43, Tryz.ntmps43
      go_upto_region 1 with fail
      rw [← hW1]
      clear hW1
      go_wp2_with fail
      go_ret
      exact ⟨rfl, HB.out⟩
    · rw [decide_eq_false (fun e => q2 (Prod.mk.inj e).2)]
      have hb2 : (ar == kr) = false := by simpa using q2
      subst q1
      go_enter Tryz.func43, Tryz.ntmps43
      go_upto_region 1 with fail
      rw [← hW1]
      clear hW1
      go_wp2_with fail
      go_ret
      exact ⟨rfl, HB.out⟩
  · rw [decide_eq_false (fun e => q1 (Prod.mk.inj e).1)]
    have hb1 : (an == kn) = false := by simpa using q1
    go_enter Tryz.func43, Tryz.ntmps43
    go_upto_region 1 with fail
    rw [← hW1]
    clear hW1
    go_wp2_with fail
    go_ret
    exact ⟨rfl, HB.out⟩
set_option maxRecDepth 100000 in
set_option maxHeartbeats 4000000 in
theorem idxE_any (k : Nat) (F : Foot) (l : List EntryV) (a : Option Addr) (n cap : Nat) (kn kr : Int) (kb : Nat) (w : World) (hl : RowOf (entryRd k) 5 56 F w a n cap l) (h0 : w.cell? ⟨kb, 0, none⟩ = some (.int .i64 kn)) (h1 : w.cell? ⟨kb, 1, none⟩ = some (.int .i64 kr)) :
    Calls Tryz.prog 42 #[.slice a n cap, .func (.func 43) #[] #[.pointer (some ⟨kb, 0, none⟩)]] w (IdxPost (fun x : EntryV => x.1 = (kn, kr)) l w) := by
  have HLN := Lib.hid hl.len
  have HL := Lib.hid hl
  have hn : n ≤ 3518437208880 := by have := hl.room; omega
  have hlt : kb < w.heap.size := World.block_lt_of_cell? w _ h0
  have HK : Hid (∀ W, Below w.heap.size w W → W.cell? ⟨kb, 0, none⟩ = some (.int .i64 kn) ∧ W.cell? ⟨kb, 1, none⟩ = some (.int .i64 kr)) := Lib.hid fun W hb => ⟨(hb.cell (p := ⟨kb, 0, none⟩) hlt).trans h0, (hb.cell (p := ⟨kb, 1, none⟩) hlt).trans h1⟩
  clear hl h0 h1 hlt
  go_enter Tryz.func42, Tryz.ntmps42
  go_upto_region 2 with fail
  go_loopg [8] n (fun g iv wr => ∃ i : Nat, i ≤ n ∧ g = n - i ∧ iv = .int .i64 i ∧ (∀ j, ∀ h : j < l.length, j < i → ¬ (l[j]'h).1 = (kn, kr)) ∧ Below w.heap.size w wr)
  case atStart => exact ⟨0, by omega, by omega, rfl, fun j h h1 => absurd h1 (by omega), Below.refl _ _⟩
  case round =>
    obtain ⟨i, hi, rfl, rfl, hall, hB⟩ := hrel
    obtain ⟨wo, rfl⟩ : ∃ wo : World, wo = wr := ⟨_, rfl⟩
    have HB := Lib.hid hB
    have HALL := Lib.hid hall
    clear hB hall
    by_cases hlt : i < n
    · have hil : i < l.length := by have := HLN.out; omega
      obtain ⟨b, o, hb, xn, xr, xk, xd, xl, xa, xm, xc, rfl, hx, ⟨p0, p1, p2, p3, p4⟩, _, _, _⟩ := (HL.out.keep (entryRd_ok _) (Fix.of_below HB.out)).entry i hil
      obtain ⟨q0, q1⟩ := HK.out wo HB.out
      have HC := Lib.hid (known1_any xn xr xk xd kn kr xa xm xc kb wo q0 q1)
      have iN : (i : Int) < (n : Int) := by omega
      have HX : Hid ((l[i]'hil).1 = (xn, xr)) := Lib.hid (by rw [hx])
      have HIL := Lib.hid hil
      clear hx q0 q1
      by_cases he : (xn, xr) = (kn, kr)
      · rw [decide_eq_true he] at HC
        have HE := Lib.hid he
        clear he
        go_wp2_with (go_at_call 43; (with_reducible refine HC.out.mono ?_); rintro e w2 ⟨rfl, hb2⟩; have HB2 := Lib.hid (HB.out.trans (hb2.mono HB.out.size)); clear hb2)
        go_ret
        exact ⟨_, rfl, .inr ⟨i, rfl, HIL.out, HX.out.trans HE.out⟩, HB2.out⟩
      · rw [decide_eq_false he] at HC
        have HE := Lib.hid he
        clear he
        go_wp2_with (go_at_call 43; (with_reducible refine HC.out.mono ?_); rintro e w2 ⟨rfl, hb2⟩; have HB2 := Lib.hid (HB.out.trans (hb2.mono HB.out.size)); clear hb2)
        go_roundg (n - (i + 1))
        case measure => omega
        case rel =>
          refine ⟨i + 1, by omega, rfl, by go_num, fun j h hj => ?_, HB2.out⟩
          by_cases hji : j = i
          · subst hji; rw [HX.out]; exact HE.out
          · exact HALL.out j h (by omega)
    · obtain rfl : i = n := by omega
      have HNO : Hid (∀ x ∈ l, ¬ x.1 = (kn, kr)) := Lib.hid (by
        intro x hx e
        obtain ⟨j, hj, rfl⟩ := List.mem_iff_getElem.1 hx
        exact HALL.out j hj (by have := HLN.out; omega) e)
      go_wp2_with fail
      go_ret
      exact ⟨_, rfl, .inl ⟨rfl, HNO.out⟩, HB.out⟩
theorem set3 {W : World} {b : Nat} {x y z : Value} {T : TypeId} (h : W.heap[b]? = some (.cells #[x, y, z] T (0, 0))) (u v t : Value) {B : Nat} {w : World} (hw : Below B w W) (hB : B ≤ b) :
    (((W.setCell ⟨b, 0, none⟩ u).setCell ⟨b, 1, none⟩ v).setCell ⟨b, 2, none⟩ t).heap[b]? = some (.cells #[u, v, t] T (0, 0)) ∧ Below B w (((W.setCell ⟨b, 0, none⟩ u).setCell ⟨b, 1, none⟩ v).setCell ⟨b, 2, none⟩ t) ∧
    ∀ c, c ≠ b → (((W.setCell ⟨b, 0, none⟩ u).setCell ⟨b, 1, none⟩ v).setCell ⟨b, 2, none⟩ t).heap[c]? = W.heap[c]? :=
  ⟨heap_set_at (o := 2) t (heap_set_at (o := 1) v (heap_set_at (o := 0) u h)), ((hw.setCell (p := ⟨b, 0, none⟩) hB u).setCell (p := ⟨b, 1, none⟩) hB v).setCell (p := ⟨b, 2, none⟩) hB t,
   fun c hc => by rw [Below.heap_setCell _ _ _ _ hc, Below.heap_setCell _ _ _ _ hc, Below.heap_setCell _ _ _ _ hc]⟩
/-- What a model knows of a key. -/
def KnownPost (k : Nat) (l : List EntryV) (kn kr : Int) (w : World) (e : Ending) (w' : World) : Prop :=
  Below w.heap.size w w' ∧ (((∀ x ∈ l, ¬ x.1 = (kn, kr)) ∧ e = .returned (.tuple #[.agg #[.int .i64 0, .int .i64 0, .slice none 0 0], .bool false])) ∨
    ∃ i, ∃ h : i < l.length, (l[i]'h).1 = (kn, kr) ∧ ∃ dk dn dl a c, (l[i]'h).2 = DescV.mk dk dn dl ∧ e = .returned (.tuple #[.agg #[.int .i64 dk, .int .i64 dn, .slice a dl.length c], .bool true]) ∧ RowOf (descRd k) 3 40 All w' a dl.length c dl)
set_option maxRecDepth 100000 in
set_option maxHeartbeats 4000000 in
theorem known_any (k : Nat) (F : Foot) (l : List EntryV) (room : Int) (a : Option Addr) (n cap : Nat) (kp op : Value) (kn kr : Int) (w : World) (hl : RowOf (entryRd k) 5 56 F w a n cap l) (hkp : ∃ b m c, kp = .slice b m c) (hop : ∃ b m c, op = .slice b m c) :
    Calls Tryz.prog 23 #[.agg #[.int .i64 room, .slice a n cap, kp, op], .agg #[.int .i64 kn, .int .i64 kr]] w (KnownPost k l kn kr w) := by
  obtain ⟨pb, pm, pc, rfl⟩ := hkp
  obtain ⟨ob, om, oc, rfl⟩ := hop
  obtain ⟨W1, hW1⟩ : ∃ W1, W1 = ((w.alloc (.cells #[.int .i64 room, .slice a n cap, .slice pb pm pc, .slice ob om oc] 37)).alloc (.cells #[.int .i64 kn, .int .i64 kr] 41)).alloc (.cells #[.int .i64 0, .int .i64 0, .slice none 0 0] 25) := ⟨_, rfl⟩
  have hb1 : Below w.heap.size w W1 := by rw [hW1]; exact (((Below.refl _ _).alloc (Nat.le_refl _) _).alloc (by simp) _).alloc (by simp; omega) _
  have gs : W1.heap[w.heap.size]? = some (.cells #[.int .i64 room, .slice a n cap, .slice pb pm pc, .slice ob om oc] 37 (0, 0)) ∧ W1.heap[w.heap.size + 1]? = some (.cells #[.int .i64 kn, .int .i64 kr] 41 (0, 0)) ∧ W1.heap[w.heap.size + 1 + 1]? = some (.cells #[.int .i64 0, .int .i64 0, .slice none 0 0] 25 (0, 0)) := by
    rw [hW1]
    simp only [heap_alloc_iff, World.size_alloc]
    refine ⟨?_, ?_, ?_⟩ <;> (repeat (first | rw [if_neg (by omega)])) <;> exact if_pos trivial
  have hz1 : W1.heap.size = w.heap.size + 3 := by rw [hW1]; simp
  obtain ⟨g0, g1, g2⟩ := gs
  have hl1 := hl.keep (entryRd_ok _) (Fix.of_below hb1)
  have HL := Lib.hid hl1
  have HLN := Lib.hid hl.len
  have HB := Lib.hid hb1
  have HC := Lib.hid (idxE_any k F l a n cap kn kr (w.heap.size + 1) W1 hl1 (cell_at g1 rfl) (cell_at g1 rfl))
  have HG : Hid (∀ W, Below W1.heap.size W1 W → W.cell? ⟨w.heap.size, 1, none⟩ = some (.slice a n cap) ∧ W.heap[w.heap.size + 1 + 1]? = some (.cells #[.int .i64 0, .int .i64 0, .slice none 0 0] 25 (0, 0))) := Lib.hid fun W hW => ⟨cell_at ((hW.block _ (by omega)).trans g0) rfl, (hW.block _ (by omega)).trans g2⟩
  have s1 : W1.cell? ⟨w.heap.size, 1, none⟩ = some (.slice a n cap) := cell_at g0 rfl
  have HZ : Hid (W1.heap.size = w.heap.size + 3) := Lib.hid hz1
  clear hl hl1 hb1 g0 g1 g2 hz1
  unfold IdxPost at HC
  go_enter Tryz.func23, Tryz.ntmps23
  go_upto_region 1 with fail
  rw [← hW1]
  clear hW1
  go_upto_region 2 with (go_at_call 42; (with_reducible refine HC.out.mono ?_); rintro e w2 ⟨r, rfl, hr, hb2⟩; have HR := Lib.hid hr; have HB2 := Lib.hid hb2; clear hr hb2 s1)
  obtain ⟨W2, rfl⟩ : ∃ W : World, W = w2 := ⟨_, rfl⟩
  obtain ⟨s1, hg2⟩ := HG.out W2 HB2.out
  have r0 : W2.cell? ⟨w.heap.size + 1 + 1, 0, none⟩ = some (.int .i64 0) := cell_at hg2 rfl
  have r1 : W2.cell? ⟨w.heap.size + 1 + 1, 1, none⟩ = some (.int .i64 0) := cell_at hg2 rfl
  have r2 : W2.cell? ⟨w.heap.size + 1 + 1, 2, none⟩ = some (.slice none 0 0) := cell_at hg2 rfl
  have f0 : ∀ o, W2.frozen? ⟨w.heap.size + 1 + 1, o, none⟩ = false := fun o => free_at hg2
  have HBW := Lib.hid (HB.out.trans (HB2.out.mono HB.out.size))
  rcases HR.out with ⟨rfl, hno⟩ | ⟨i, rfl, hi, hp⟩
  · have HNO := Lib.hid hno
    have HG2 := Lib.hid hg2
    clear hno hg2
    go_wp2_with fail
    obtain ⟨hs, hsb, _⟩ := set3 HG2.out (.int .i64 0) (.int .i64 0) (.slice none 0 0) HBW.out (by omega)
    clear r0 r1 r2 f0
    generalize ((W2.setCell ⟨w.heap.size + 1 + 1, 0, none⟩ (.int .i64 0)).setCell ⟨w.heap.size + 1 + 1, 1, none⟩ (.int .i64 0)).setCell ⟨w.heap.size + 1 + 1, 2, none⟩ (.slice none 0 0) = W3 at *
    have z0 : W3.cell? ⟨w.heap.size + 1 + 1, 0, none⟩ = some (.int .i64 0) := cell_at hs rfl
    have z1 : W3.cell? ⟨w.heap.size + 1 + 1, 1, none⟩ = some (.int .i64 0) := cell_at hs rfl
    have z2 : W3.cell? ⟨w.heap.size + 1 + 1, 2, none⟩ = some (.slice none 0 0) := cell_at hs rfl
    refine bodyPost_ret (v := .tuple #[.agg #[.int .i64 0, .int .i64 0, .slice none 0 0], .bool false]) (by simp [results, Tryz.results23, go_sem, z0, z1, z2]) rfl ?_
    exact ⟨hsb, .inl ⟨HNO.out, rfl⟩⟩
  · have HP := Lib.hid hp
    have hin : i < n := by have := HLN.out; omega
    have iN : (i : Int) < (n : Int) := by omega
    have i0 : (0 : Int) ≤ (i : Int) := by omega
    obtain ⟨b, o, hb, xn, xr, xk, xd, xl, xa, xm, xc, rfl, hx, ⟨_, _, p2, p3, p4⟩, _, _, hd⟩ := (HL.out.keep (entryRd_ok _) (Fix.of_below HB2.out)).entry i hi
    have hdk := descRd_kids hd
    have hxl : xl.length = xm := hdk.len
    subst hxl
    have HCL := Lib.hid (clone_any k F xk xd xl xa xl.length xc W2 hdk)
    have HX : Hid ((l[i]'hi).2 = DescV.mk xk xd xl) := Lib.hid (by rw [hx])
    have HI := Lib.hid hi
    have HGG : Hid (∀ W, Below W2.heap.size W2 W → W.heap[w.heap.size + 1 + 1]? = some (.cells #[.int .i64 0, .int .i64 0, .slice none 0 0] 25 (0, 0))) := Lib.hid fun W hW => (hW.block _ (Array.getElem?_eq_some_iff.1 hg2).1).trans hg2
    clear hp hx hd hdk hg2 r0 r1 r2 f0
    unfold ClonePost at HCL
    go_upto_region 4 with fail
    go_wp2_with (go_at_call 25; (with_reducible refine HCL.out.mono ?_); rintro e w3 ⟨a3, c3, rfl, hr3, hb3⟩; have HR3 := Lib.hid hr3; have HB3 := Lib.hid hb3; have hg3 := HGG.out w3 hb3; have r0 : w3.cell? ⟨w.heap.size + 1 + 1, 0, none⟩ = some (.int .i64 0) := cell_at hg3 rfl; have r1 : w3.cell? ⟨w.heap.size + 1 + 1, 1, none⟩ = some (.int .i64 0) := cell_at hg3 rfl; have r2 : w3.cell? ⟨w.heap.size + 1 + 1, 2, none⟩ = some (.slice none 0 0) := cell_at hg3 rfl; have f0 : ∀ o, w3.frozen? ⟨w.heap.size + 1 + 1, o, none⟩ = false := fun o => free_at hg3; have HG3 := Lib.hid hg3; clear hr3 hb3 hg3 p2 p3 p4 s1)
    obtain ⟨W3, rfl⟩ : ∃ W : World, W = w3 := ⟨_, rfl⟩
    have hbw := HBW.out.trans (HB3.out.mono HBW.out.size)
    obtain ⟨hs, hsb, hoth⟩ := set3 HG3.out (.int .i64 xk) (.int .i64 xd) (.slice a3 xl.length c3) hbw (by omega)
    have hfx : Fix (From W2.heap.size) W3 (((W3.setCell ⟨w.heap.size + 1 + 1, 0, none⟩ (.int .i64 xk)).setCell ⟨w.heap.size + 1 + 1, 1, none⟩ (.int .i64 xd)).setCell ⟨w.heap.size + 1 + 1, 2, none⟩ (.slice a3 xl.length c3)) := ⟨by simp [World.setCell], fun c _ hc => hoth c (by have hc' : W2.heap.size ≤ c := hc; have := HZ.out; have := HB2.out.size; omega)⟩
    have HRF := Lib.hid ((HR3.out.keep (descRd_ok _) hfx).mono (descRd_ok _) (G := All) fun _ _ _ => trivial)
    clear r0 r1 r2 f0 hfx hoth
    generalize ((W3.setCell ⟨w.heap.size + 1 + 1, 0, none⟩ (.int .i64 xk)).setCell ⟨w.heap.size + 1 + 1, 1, none⟩ (.int .i64 xd)).setCell ⟨w.heap.size + 1 + 1, 2, none⟩ (.slice a3 xl.length c3) = W4 at *
    have z0 : W4.cell? ⟨w.heap.size + 1 + 1, 0, none⟩ = some (.int .i64 xk) := cell_at hs rfl
    have z1 : W4.cell? ⟨w.heap.size + 1 + 1, 1, none⟩ = some (.int .i64 xd) := cell_at hs rfl
    have z2 : W4.cell? ⟨w.heap.size + 1 + 1, 2, none⟩ = some (.slice a3 xl.length c3) := cell_at hs rfl
    refine bodyPost_ret (v := .tuple #[.agg #[.int .i64 xk, .int .i64 xd, .slice a3 xl.length c3], .bool true]) (by simp [results, Tryz.results23, go_sem, z0, z1, z2]) rfl ?_
    exact ⟨hsb, .inr ⟨i, HI.out, HP.out, xk, xd, xl, a3, c3, HX.out, rfl, HRF.out⟩⟩
end Go.Proofs.YtibabpahpiijgaaGreatDoor.Lex
/- A model of two stripes asked of the key (8, 0): its error, its place, whether it is kept; no handle. -/
namespace Go.Proofs.YtibabpahpiijgaaGreatDoor.Lex
open Go.RowKit Stab
set_option linter.unusedSimpArgs false
set_option linter.unusedVariables false
set_option maxRecDepth 100000 in
set_option maxHeartbeats 1000000 in
theorem key8_any (w : World) : Calls Tryz.prog 22 #[.agg #[.int .i64 8, .int .i64 0]] w fun e w' => e = .returned (.int .i64 0) ∧ Below w.heap.size w w' := by
  have HB : Hid (Below w.heap.size w (w.alloc (.cells #[.int .i64 8, .int .i64 0] 41))) := Lib.hid ((Below.refl _ _).alloc (Nat.le_refl _) _)
  have hh : hasB 8 = true := by decide +kernel
  go_enter Tryz.func22, Tryz.ntmps22
  go_wp2_with (go_at_call 41; (with_reducible refine (has_any 8 _).mono ?_); rintro e w2 ⟨rfl, rfl⟩; rw [hh])
  go_ret
  exact ⟨rfl, HB.out⟩
set_option maxRecDepth 100000 in
set_option maxHeartbeats 1000000 in
theorem place8_any (room : Int) (kl : Value) (hkl : ∃ a n c, kl = .slice a n c) (pa : Option Addr) (pc : Nat) (op : Value) (hop : ∃ a n c, op = .slice a n c) (w : World) :
    Calls Tryz.prog 45 #[.agg #[.int .i64 room, kl, .slice pa 2 pc, op], .agg #[.int .i64 8, .int .i64 0]] w fun e w' => e = .returned (.int .i64 0) ∧ Below w.heap.size w w' := by
  obtain ⟨a1, n1, c1, rfl⟩ := hkl
  obtain ⟨a2, n2, c2, rfl⟩ := hop
  have HB : Hid (Below w.heap.size w ((w.alloc (.cells #[.int .i64 room, .slice a1 n1 c1, .slice pa 2 pc, .slice a2 n2 c2] 37)).alloc (.cells #[.int .i64 8, .int .i64 0] 41))) := Lib.hid (((Below.refl _ _).alloc (Nat.le_refl _) _).alloc (by simp) _)
  go_enter Tryz.func45, Tryz.ntmps45
  go_wp2_with fail
  go_ret
  exact ⟨rfl, HB.out⟩
set_option maxRecDepth 100000 in
set_option maxHeartbeats 1000000 in
theorem idxO_none (f : Value) (w : World) : Calls Tryz.prog 47 #[.slice none 0 0, f] w fun e w' => e = .returned (.int .i64 (-1)) ∧ w = w' := by
  go_enter Tryz.func47, Tryz.ntmps47
  go_upto_region 2 with fail
  go_loopg [8] 0 (fun g iv wr => g = 0 ∧ iv = .int .i64 0 ∧ w = wr)
  case atStart => exact ⟨rfl, rfl, rfl⟩
  case round =>
    obtain ⟨rfl, rfl, rfl⟩ := hrel
    go_wp2_with fail
    go_ret
    exact ⟨rfl, rfl⟩
set_option maxRecDepth 100000 in
set_option maxHeartbeats 1000000 in
theorem open_none (room : Int) (kl kp : Value) (hkl : ∃ a n c, kl = .slice a n c) (hkp : ∃ a n c, kp = .slice a n c) (r1 r2 : Int) (w : World) :
    Calls Tryz.prog 27 #[.agg #[.int .i64 room, kl, kp, .slice none 0 0], .agg #[.int .i64 r1, .int .i64 r2]] w fun e w' => e = .returned (.int .i64 (-1)) ∧ Below w.heap.size w w' := by
  obtain ⟨a1, n1, c1, rfl⟩ := hkl
  obtain ⟨a2, n2, c2, rfl⟩ := hkp
  have HB : Hid (Below w.heap.size w ((w.alloc (.cells #[.int .i64 room, .slice a1 n1 c1, .slice a2 n2 c2, .slice none 0 0] 37)).alloc (.cells #[.int .i64 r1, .int .i64 r2] 45))) := Lib.hid (((Below.refl _ _).alloc (Nat.le_refl _) _).alloc (by simp) _)
  go_enter Tryz.func27, Tryz.ntmps27
  go_wp2_with (go_at_call 47; (with_reducible refine (idxO_none _ _).mono ?_); rintro e w2 ⟨rfl, rfl⟩)
  go_ret
  exact ⟨rfl, HB.out⟩
set_option maxRecDepth 100000 in
set_option maxHeartbeats 4000000 in
theorem kept8_any (room : Int) (kl : Value) (hkl : ∃ a n c, kl = .slice a n c) (B : Nat) (pc : Nat) (op : Value) (hop : ∃ a n c, op = .slice a n c) (F : Foot) (l : List KeyV) (a : Option Addr) (n cap : Nat) (w : World) (hB : w.cell? ⟨B, 0, none⟩ = some (.slice a n cap)) (hl : RowOf keyRd 2 16 F w a n cap l) :
    Calls Tryz.prog 24 #[.agg #[.int .i64 room, kl, .slice (some ⟨B, 0, none⟩) 2 pc, op], .agg #[.int .i64 8, .int .i64 0]] w fun e w' => e = .returned (.bool (decide ((8, 0) ∈ l))) ∧ Below w.heap.size w w' := by
  obtain ⟨a1, n1, c1, rfl⟩ := hkl
  obtain ⟨a2, n2, c2, rfl⟩ := hop
  obtain ⟨W1, hW1⟩ : ∃ W1, W1 = (w.alloc (.cells #[.int .i64 room, .slice a1 n1 c1, .slice (some ⟨B, 0, none⟩) 2 pc, .slice a2 n2 c2] 37)).alloc (.cells #[.int .i64 8, .int .i64 0] 41) := ⟨_, rfl⟩
  have hb1 : Below w.heap.size w W1 := by rw [hW1]; exact ((Below.refl _ _).alloc (Nat.le_refl _) _).alloc (by simp) _
  have gs : W1.heap[w.heap.size]? = some (.cells #[.int .i64 room, .slice a1 n1 c1, .slice (some ⟨B, 0, none⟩) 2 pc, .slice a2 n2 c2] 37 (0, 0)) ∧ W1.heap[w.heap.size + 1]? = some (.cells #[.int .i64 8, .int .i64 0] 41 (0, 0)) := by
    rw [hW1]
    simp only [heap_alloc_iff, World.size_alloc]
    refine ⟨?_, ?_⟩ <;> (repeat (first | rw [if_neg (by omega)])) <;> exact if_pos trivial
  have hz1 : W1.heap.size = w.heap.size + 2 := by rw [hW1]; simp
  have hBl : B < w.heap.size := World.block_lt_of_cell? w _ hB
  obtain ⟨g0, g1⟩ := gs
  have HCC : Hid (∀ W, Below W1.heap.size W1 W → W.cell? ⟨w.heap.size, 0, none⟩ = some (.int .i64 room) ∧ W.cell? ⟨w.heap.size, 1, none⟩ = some (.slice a1 n1 c1) ∧ W.cell? ⟨w.heap.size, 2, none⟩ = some (.slice (some ⟨B, 0, none⟩) 2 pc) ∧ W.cell? ⟨w.heap.size, 3, none⟩ = some (.slice a2 n2 c2) ∧ W.cell? ⟨w.heap.size + 1, 0, none⟩ = some (.int .i64 8) ∧ W.cell? ⟨w.heap.size + 1, 1, none⟩ = some (.int .i64 0) ∧ W.cell? ⟨B, 0, none⟩ = some (.slice a n cap)) := Lib.hid fun W hW => by
    have e0 := (hW.block _ (show w.heap.size < W1.heap.size by omega)).trans g0
    have e1 := (hW.block _ (show w.heap.size + 1 < W1.heap.size by omega)).trans g1
    exact ⟨cell_at e0 rfl, cell_at e0 rfl, cell_at e0 rfl, cell_at e0 rfl, cell_at e1 rfl, cell_at e1 rfl, ((hb1.trans (hW.mono hb1.size)).cell (p := ⟨B, 0, none⟩) hBl).trans hB⟩
  obtain ⟨tb, htb⟩ : ∃ tb : Bool, tb = decide ((8, 0) ∈ l) := ⟨_, rfl⟩
  rw [← htb]
  have HPL : Hid (∀ W, Below W1.heap.size W1 W → Calls Tryz.prog 45 #[.agg #[.int .i64 room, .slice a1 n1 c1, .slice (some ⟨B, 0, none⟩) 2 pc, .slice a2 n2 c2], .agg #[.int .i64 8, .int .i64 0]] W fun e w' => e = .returned (.int .i64 0) ∧ Below W1.heap.size W1 w') := Lib.hid fun W hW => (place8_any room _ ⟨a1, n1, c1, rfl⟩ _ _ _ ⟨a2, n2, c2, rfl⟩ W).mono fun e w' h => ⟨h.1, hW.trans (h.2.mono hW.size)⟩
  have HCT : Hid (∀ W, Below W1.heap.size W1 W → Calls Tryz.prog 44 #[.slice a n cap, .agg #[.int .i64 8, .int .i64 0]] W fun e w' => e = .returned (.bool tb) ∧ Below W1.heap.size W1 w') := Lib.hid fun W hW => by
    rw [htb]
    exact (cont_any F l a n cap 8 0 W (hl.keep keyRd_ok (Fix.of_below (hb1.trans (hW.mono hb1.size))))).mono fun e w' h => ⟨h.1, hW.trans (h.2.mono hW.size)⟩
  have HB := Lib.hid hb1
  have hbz := Below.refl W1.heap.size W1
  clear hb1 g0 g1 hz1 hBl hB hl htb
  go_enter Tryz.func24, Tryz.ntmps24
  go_upto_region 1 with fail
  rw [← hW1]
  clear hW1
  have HS := Lib.hid hbz.drew
  refine wp_region_held (S := fun W => Below W1.heap.size W1 W) (by kernel_rfl) ?_
  change wpAnyH _ _ _ _ _ 10 #[false, false, false, false, false, false, false, false, false, false] _ W1.drew
  (refine wpAnyH_take (i := 0) (v := ?_) rfl (by kernel_rfl) (by kernel_rfl) (by kernel_rfl) (fun _ _ _ h => h) (Or.inl ⟨by rfl, ?_⟩) HS.out ?_; rotate_left 1; (focus (intro w0 hw0; clear hw0; go_simp; try with_reducible rfl)); simp only [Act.put, List.getElem_toArray, List.getElem_cons_zero, List.getElem_cons_succ, List.setIfInBounds_toArray, List.set_cons_zero, List.set_cons_succ])
  (refine wpAnyH_take (i := 1) (v := ?_) rfl (by kernel_rfl) (by kernel_rfl) (by kernel_rfl) (fun _ _ _ h => h) (Or.inl ⟨by rfl, ?_⟩) HS.out ?_; rotate_left 1; (focus (intro w0 hw0; obtain ⟨q0, q1, q2, q3, q4, q5, q6⟩ := HCC.out w0 hw0; clear hw0; go_simp; try with_reducible rfl)); simp only [Act.put, List.getElem_toArray, List.getElem_cons_zero, List.getElem_cons_succ, List.setIfInBounds_toArray, List.set_cons_zero, List.set_cons_succ])
  (refine wpAnyH_take (i := 2) (v := ?_) rfl (by kernel_rfl) (by kernel_rfl) (by kernel_rfl) (fun _ _ _ h => h) (Or.inl ⟨by rfl, ?_⟩) HS.out ?_; rotate_left 1; (focus (intro w0 hw0; obtain ⟨q0, q1, q2, q3, q4, q5, q6⟩ := HCC.out w0 hw0; clear hw0; go_simp; try with_reducible rfl)); simp only [Act.put, List.getElem_toArray, List.getElem_cons_zero, List.getElem_cons_succ, List.setIfInBounds_toArray, List.set_cons_zero, List.set_cons_succ])
  (refine wpAnyH_take (i := 3) (v := ?_) rfl (by kernel_rfl) (by kernel_rfl) (by kernel_rfl) (fun _ _ _ h => h) (Or.inl ⟨by rfl, ?_⟩) HS.out ?_; rotate_left 1; (focus (intro w0 hw0; obtain ⟨q0, q1, q2, q3, q4, q5, q6⟩ := HCC.out w0 hw0; clear hw0; go_simp; try with_reducible rfl)); simp only [Act.put, List.getElem_toArray, List.getElem_cons_zero, List.getElem_cons_succ, List.setIfInBounds_toArray, List.set_cons_zero, List.set_cons_succ])
  (refine wpAnyH_take (i := 7) (v := ?_) rfl (by kernel_rfl) (by kernel_rfl) (by kernel_rfl) (fun _ _ _ h => h) (Or.inl ⟨by rfl, ?_⟩) HS.out ?_; rotate_left 1; (focus (intro w0 hw0; obtain ⟨q0, q1, q2, q3, q4, q5, q6⟩ := HCC.out w0 hw0; clear hw0; go_simp; try with_reducible rfl)); simp only [Act.put, List.getElem_toArray, List.getElem_cons_zero, List.getElem_cons_succ, List.setIfInBounds_toArray, List.set_cons_zero, List.set_cons_succ])
  (refine wpAnyH_one (i := 4) (vi := .int .i64 0) rfl (by kernel_rfl) HS.out ?_ ?_; (focus (intro W K hW hK; (try simp only [Act.put, List.getElem_toArray, List.getElem_cons_zero, List.getElem_cons_succ, List.setIfInBounds_toArray, List.set_cons_zero, List.set_cons_succ]); refine wpOp_step rfl (fun K2 hK2 => ?_); go_simp; refine (HPL.out _ hW).mono ?_; rintro e w' ⟨rfl, hb⟩; exact hK2 _ _ (hK _ hb))); clear HS; intro wn hS; have HS := Lib.hid hS; clear hS; simp only [Act.put, List.getElem_toArray, List.getElem_cons_zero, List.getElem_cons_succ, List.setIfInBounds_toArray, List.set_cons_zero, List.set_cons_succ])
  (refine wpAnyH_take (i := 5) (v := ?_) rfl (by kernel_rfl) (by kernel_rfl) (by kernel_rfl) (fun _ _ _ h => h) (Or.inl ⟨by rfl, ?_⟩) HS.out ?_; rotate_left 1; (focus (intro w0 hw0; clear hw0; go_simp; try with_reducible rfl)); simp only [Act.put, List.getElem_toArray, List.getElem_cons_zero, List.getElem_cons_succ, List.setIfInBounds_toArray, List.set_cons_zero, List.set_cons_succ])
  (refine wpAnyH_take (i := 6) (v := ?_) rfl (by kernel_rfl) (by kernel_rfl) (by kernel_rfl) (fun _ _ _ h => h) (Or.inl ⟨by rfl, ?_⟩) HS.out ?_; rotate_left 1; (focus (intro w0 hw0; obtain ⟨q0, q1, q2, q3, q4, q5, q6⟩ := HCC.out w0 hw0; clear hw0; go_simp; try with_reducible rfl)); simp only [Act.put, List.getElem_toArray, List.getElem_cons_zero, List.getElem_cons_succ, List.setIfInBounds_toArray, List.set_cons_zero, List.set_cons_succ])
  (refine wpAnyH_one (i := 8) (vi := .bool tb) rfl (by kernel_rfl) HS.out ?_ ?_; (focus (intro W K hW hK; (try simp only [Act.put, List.getElem_toArray, List.getElem_cons_zero, List.getElem_cons_succ, List.setIfInBounds_toArray, List.set_cons_zero, List.set_cons_succ]); refine wpOp_step rfl (fun K2 hK2 => ?_); go_simp; refine (HCT.out _ hW).mono ?_; rintro e w' ⟨rfl, hb⟩; exact hK2 _ _ (hK _ hb))); clear HS; intro wn hS; have HS := Lib.hid hS; clear hS; simp only [Act.put, List.getElem_toArray, List.getElem_cons_zero, List.getElem_cons_succ, List.setIfInBounds_toArray, List.set_cons_zero, List.set_cons_succ])
  (refine wpAnyH_take (i := 9) (v := ?_) rfl (by kernel_rfl) (by kernel_rfl) (by kernel_rfl) (fun _ _ _ h => h) (Or.inl ⟨by rfl, ?_⟩) HS.out ?_; rotate_left 1; (focus (intro w0 hw0; clear hw0; go_simp; try with_reducible rfl)); simp only [Act.put, List.getElem_toArray, List.getElem_cons_zero, List.getElem_cons_succ, List.setIfInBounds_toArray, List.set_cons_zero, List.set_cons_succ])
  refine wpAnyH_done (by kernel_rfl) ?_ _
  go_wp2_with fail
  go_ret
  exact ⟨rfl, HB.out.trans (HS.out.mono HB.out.size)⟩
end Go.Proofs.YtibabpahpiijgaaGreatDoor.Lex
/- What a call with the key (8, 0) tells: Evict, and Get of what is not known. -/
namespace Go.Proofs.YtibabpahpiijgaaGreatDoor.Lex
open Go.RowKit Stab
set_option linter.unusedSimpArgs false
set_option linter.unusedVariables false
theorem set8 {W : World} {b : Nat} {x0 x1 x2 x3 x4 x5 x6 x7 : Value} {T : TypeId} (h : W.heap[b]? = some (.cells #[x0, x1, x2, x3, x4, x5, x6, x7] T (0, 0))) (u0 u1 u2 u3 u4 u5 u6 u7 : Value) {B : Nat} {w : World} (hw : Below B w W) (hB : B ≤ b) :
    ((((((((W.setCell ⟨b, 0, none⟩ u0).setCell ⟨b, 1, none⟩ u1).setCell ⟨b, 2, none⟩ u2).setCell ⟨b, 3, none⟩ u3).setCell ⟨b, 4, none⟩ u4).setCell ⟨b, 5, none⟩ u5).setCell ⟨b, 6, none⟩ u6).setCell ⟨b, 7, none⟩ u7).heap[b]? = some (.cells #[u0, u1, u2, u3, u4, u5, u6, u7] T (0, 0)) ∧ Below B w ((((((((W.setCell ⟨b, 0, none⟩ u0).setCell ⟨b, 1, none⟩ u1).setCell ⟨b, 2, none⟩ u2).setCell ⟨b, 3, none⟩ u3).setCell ⟨b, 4, none⟩ u4).setCell ⟨b, 5, none⟩ u5).setCell ⟨b, 6, none⟩ u6).setCell ⟨b, 7, none⟩ u7) ∧ ∀ c, c ≠ b → ((((((((W.setCell ⟨b, 0, none⟩ u0).setCell ⟨b, 1, none⟩ u1).setCell ⟨b, 2, none⟩ u2).setCell ⟨b, 3, none⟩ u3).setCell ⟨b, 4, none⟩ u4).setCell ⟨b, 5, none⟩ u5).setCell ⟨b, 6, none⟩ u6).setCell ⟨b, 7, none⟩ u7).heap[c]? = W.heap[c]? := by
  have h0 : (W.setCell ⟨b, 0, none⟩ u0).heap[b]? = some (.cells #[u0, x1, x2, x3, x4, x5, x6, x7] T (0, 0)) := heap_set_at (o := 0) u0 h
  have h1 : ((W.setCell ⟨b, 0, none⟩ u0).setCell ⟨b, 1, none⟩ u1).heap[b]? = some (.cells #[u0, u1, x2, x3, x4, x5, x6, x7] T (0, 0)) := heap_set_at (o := 1) u1 h0
  have h2 : (((W.setCell ⟨b, 0, none⟩ u0).setCell ⟨b, 1, none⟩ u1).setCell ⟨b, 2, none⟩ u2).heap[b]? = some (.cells #[u0, u1, u2, x3, x4, x5, x6, x7] T (0, 0)) := heap_set_at (o := 2) u2 h1
  have h3 : ((((W.setCell ⟨b, 0, none⟩ u0).setCell ⟨b, 1, none⟩ u1).setCell ⟨b, 2, none⟩ u2).setCell ⟨b, 3, none⟩ u3).heap[b]? = some (.cells #[u0, u1, u2, u3, x4, x5, x6, x7] T (0, 0)) := heap_set_at (o := 3) u3 h2
  have h4 : (((((W.setCell ⟨b, 0, none⟩ u0).setCell ⟨b, 1, none⟩ u1).setCell ⟨b, 2, none⟩ u2).setCell ⟨b, 3, none⟩ u3).setCell ⟨b, 4, none⟩ u4).heap[b]? = some (.cells #[u0, u1, u2, u3, u4, x5, x6, x7] T (0, 0)) := heap_set_at (o := 4) u4 h3
  have h5 : ((((((W.setCell ⟨b, 0, none⟩ u0).setCell ⟨b, 1, none⟩ u1).setCell ⟨b, 2, none⟩ u2).setCell ⟨b, 3, none⟩ u3).setCell ⟨b, 4, none⟩ u4).setCell ⟨b, 5, none⟩ u5).heap[b]? = some (.cells #[u0, u1, u2, u3, u4, u5, x6, x7] T (0, 0)) := heap_set_at (o := 5) u5 h4
  have h6 : (((((((W.setCell ⟨b, 0, none⟩ u0).setCell ⟨b, 1, none⟩ u1).setCell ⟨b, 2, none⟩ u2).setCell ⟨b, 3, none⟩ u3).setCell ⟨b, 4, none⟩ u4).setCell ⟨b, 5, none⟩ u5).setCell ⟨b, 6, none⟩ u6).heap[b]? = some (.cells #[u0, u1, u2, u3, u4, u5, u6, x7] T (0, 0)) := heap_set_at (o := 6) u6 h5
  have h7 : ((((((((W.setCell ⟨b, 0, none⟩ u0).setCell ⟨b, 1, none⟩ u1).setCell ⟨b, 2, none⟩ u2).setCell ⟨b, 3, none⟩ u3).setCell ⟨b, 4, none⟩ u4).setCell ⟨b, 5, none⟩ u5).setCell ⟨b, 6, none⟩ u6).setCell ⟨b, 7, none⟩ u7).heap[b]? = some (.cells #[u0, u1, u2, u3, u4, u5, u6, u7] T (0, 0)) := heap_set_at (o := 7) u7 h6
  have b0 : Below B w (W.setCell ⟨b, 0, none⟩ u0) := hw.setCell (p := ⟨b, 0, none⟩) hB u0
  have b1 : Below B w ((W.setCell ⟨b, 0, none⟩ u0).setCell ⟨b, 1, none⟩ u1) := b0.setCell (p := ⟨b, 1, none⟩) hB u1
  have b2 : Below B w (((W.setCell ⟨b, 0, none⟩ u0).setCell ⟨b, 1, none⟩ u1).setCell ⟨b, 2, none⟩ u2) := b1.setCell (p := ⟨b, 2, none⟩) hB u2
  have b3 : Below B w ((((W.setCell ⟨b, 0, none⟩ u0).setCell ⟨b, 1, none⟩ u1).setCell ⟨b, 2, none⟩ u2).setCell ⟨b, 3, none⟩ u3) := b2.setCell (p := ⟨b, 3, none⟩) hB u3
  have b4 : Below B w (((((W.setCell ⟨b, 0, none⟩ u0).setCell ⟨b, 1, none⟩ u1).setCell ⟨b, 2, none⟩ u2).setCell ⟨b, 3, none⟩ u3).setCell ⟨b, 4, none⟩ u4) := b3.setCell (p := ⟨b, 4, none⟩) hB u4
  have b5 : Below B w ((((((W.setCell ⟨b, 0, none⟩ u0).setCell ⟨b, 1, none⟩ u1).setCell ⟨b, 2, none⟩ u2).setCell ⟨b, 3, none⟩ u3).setCell ⟨b, 4, none⟩ u4).setCell ⟨b, 5, none⟩ u5) := b4.setCell (p := ⟨b, 5, none⟩) hB u5
  have b6 : Below B w (((((((W.setCell ⟨b, 0, none⟩ u0).setCell ⟨b, 1, none⟩ u1).setCell ⟨b, 2, none⟩ u2).setCell ⟨b, 3, none⟩ u3).setCell ⟨b, 4, none⟩ u4).setCell ⟨b, 5, none⟩ u5).setCell ⟨b, 6, none⟩ u6) := b5.setCell (p := ⟨b, 6, none⟩) hB u6
  have b7 : Below B w ((((((((W.setCell ⟨b, 0, none⟩ u0).setCell ⟨b, 1, none⟩ u1).setCell ⟨b, 2, none⟩ u2).setCell ⟨b, 3, none⟩ u3).setCell ⟨b, 4, none⟩ u4).setCell ⟨b, 5, none⟩ u5).setCell ⟨b, 6, none⟩ u6).setCell ⟨b, 7, none⟩ u7) := b6.setCell (p := ⟨b, 7, none⟩) hB u7
  refine ⟨h7, b7, fun c hc => ?_⟩
  rw [Below.heap_setCell _ _ _ _ hc, Below.heap_setCell _ _ _ _ hc, Below.heap_setCell _ _ _ _ hc, Below.heap_setCell _ _ _ _ hc, Below.heap_setCell _ _ _ _ hc, Below.heap_setCell _ _ _ _ hc, Below.heap_setCell _ _ _ _ hc, Below.heap_setCell _ _ _ _ hc]
/-- One, if a key is in a row. -/
def oneIf (row : List KeyV) : Int := if (8, 0) ∈ row then 1 else 0
/-- The boxes of a call's parameters, and the cell of what it tells. -/
theorem boxes5 (w : World) (A0 A1 A2 A3 A4 : Array Value) : ∃ W1, W1 = ((((w.alloc (.cells A0 37)).alloc (.cells A1 45)).alloc (.cells A2 47)).alloc (.cells A3 25)).alloc (.cells A4 28) ∧ Below w.heap.size w W1 ∧ W1.heap.size = w.heap.size + 5 ∧
    W1.heap[w.heap.size]? = some (.cells A0 37 (0, 0)) ∧ W1.heap[w.heap.size + 1]? = some (.cells A1 45 (0, 0)) ∧ W1.heap[w.heap.size + 1 + 1]? = some (.cells A2 47 (0, 0)) ∧ W1.heap[w.heap.size + 1 + 1 + 1]? = some (.cells A3 25 (0, 0)) ∧ W1.heap[w.heap.size + 1 + 1 + 1 + 1]? = some (.cells A4 28 (0, 0)) := by
  refine ⟨_, rfl, ((((((Below.refl _ _).alloc (Nat.le_refl _) _).alloc (by simp) _).alloc (by simp; omega) _).alloc (by simp; omega) _).alloc (by simp; omega) _), by simp, ?_, ?_, ?_, ?_, ?_⟩ <;> simp only [heap_alloc_iff, World.size_alloc] <;> (repeat (first | rw [if_neg (by omega)])) <;> exact if_pos trivial
set_option maxRecDepth 100000 in
set_option maxHeartbeats 8000000 in
theorem keyedE (k : Nat) (F G : Foot) (l : List EntryV) (room r1 r2 dk dn : Int) (a : Option Addr) (n cap B pc : Nat) (oa : Option Addr) (on oc : Nat) (row : List KeyV) (ka : Option Addr) (kn kc : Nat) (w : World)
    (hl : RowOf (entryRd k) 5 56 F w a n cap l) (hB : w.cell? ⟨B, 0, none⟩ = some (.slice ka kn kc)) (hr : RowOf keyRd 2 16 G w ka kn kc row) :
    Calls Tryz.prog 16 #[.agg #[.int .i64 room, .slice a n cap, .slice (some ⟨B, 0, none⟩) 2 pc, .slice oa on oc], .agg #[.int .i64 r1, .int .i64 r2], .agg #[.int .i64 3, .int .i64 8, .int .i64 0, .string ⟨#[]⟩, .int .i64 0, .int .i64 0, .slice none 0 0], .agg #[.int .i64 dk, .int .i64 dn, .slice none 0 0]] w
      fun e w' => e = .returned (.tuple #[.agg #[.int .i64 0, .int .i64 0, .int .i64 0, .slice none 0 0, .int .i64 (oneIf row), .int .i64 0, .string ⟨#[]⟩, .slice none 0 0], .bool true]) ∧ Below w.heap.size w w' := by
  obtain ⟨kind, hkind⟩ : ∃ kind : Int, kind = 3 := ⟨_, rfl⟩
  obtain ⟨W1, hW1, hb1, hz1, g0, g1, g2, g3, g4⟩ := boxes5 w #[.int .i64 room, .slice a n cap, .slice (some ⟨B, 0, none⟩) 2 pc, .slice oa on oc] #[.int .i64 r1, .int .i64 r2] #[.int .i64 3, .int .i64 8, .int .i64 0, .string ⟨#[]⟩, .int .i64 0, .int .i64 0, .slice none 0 0] #[.int .i64 dk, .int .i64 dn, .slice none 0 0] #[.int .i64 0, .int .i64 0, .int .i64 0, .slice none 0 0, .int .i64 0, .int .i64 0, .string ⟨#[]⟩, .slice none 0 0]
  have hBl : B < w.heap.size := World.block_lt_of_cell? w _ hB
  have HPC : Hid (∀ W, Below W1.heap.size W1 W → W.cell? ⟨w.heap.size, 0, none⟩ = some (.int .i64 room) ∧ W.cell? ⟨w.heap.size, 1, none⟩ = some (.slice a n cap) ∧ W.cell? ⟨w.heap.size, 2, none⟩ = some (.slice (some ⟨B, 0, none⟩) 2 pc) ∧ W.cell? ⟨w.heap.size, 3, none⟩ = some (.slice oa on oc) ∧ W.cell? ⟨w.heap.size + 1, 0, none⟩ = some (.int .i64 r1) ∧ W.cell? ⟨w.heap.size + 1, 1, none⟩ = some (.int .i64 r2) ∧ W.cell? ⟨w.heap.size + 1 + 1, 0, none⟩ = some (.int .i64 kind) ∧ W.cell? ⟨w.heap.size + 1 + 1, 1, none⟩ = some (.int .i64 8) ∧ W.cell? ⟨w.heap.size + 1 + 1, 2, none⟩ = some (.int .i64 0) ∧ W.cell? ⟨w.heap.size + 1 + 1, 3, none⟩ = some (.string ⟨#[]⟩) ∧ W.cell? ⟨w.heap.size + 1 + 1, 4, none⟩ = some (.int .i64 0) ∧ W.cell? ⟨w.heap.size + 1 + 1, 5, none⟩ = some (.int .i64 0) ∧ W.cell? ⟨w.heap.size + 1 + 1, 6, none⟩ = some (.slice none 0 0) ∧ W.cell? ⟨w.heap.size + 1 + 1 + 1, 0, none⟩ = some (.int .i64 dk) ∧ W.cell? ⟨w.heap.size + 1 + 1 + 1, 1, none⟩ = some (.int .i64 dn) ∧ W.cell? ⟨w.heap.size + 1 + 1 + 1, 2, none⟩ = some (.slice none 0 0)) := Lib.hid fun W hW => by
    have e0 := (hW.block _ (show w.heap.size < W1.heap.size by omega)).trans g0
    have e1 := (hW.block _ (show w.heap.size + 1 < W1.heap.size by omega)).trans g1
    have e2 := (hW.block _ (show w.heap.size + 1 + 1 < W1.heap.size by omega)).trans g2
    have e3 := (hW.block _ (show w.heap.size + 1 + 1 + 1 < W1.heap.size by omega)).trans g3
    subst hkind
    exact ⟨cell_at e0 rfl, cell_at e0 rfl, cell_at e0 rfl, cell_at e0 rfl, cell_at e1 rfl, cell_at e1 rfl, cell_at e2 rfl, cell_at e2 rfl, cell_at e2 rfl, cell_at e2 rfl, cell_at e2 rfl, cell_at e2 rfl, cell_at e2 rfl, cell_at e3 rfl, cell_at e3 rfl, cell_at e3 rfl⟩
  have HTC : Hid (∀ W, Below W1.heap.size W1 W → W.heap[w.heap.size + 1 + 1 + 1 + 1]? = some (.cells #[.int .i64 0, .int .i64 0, .int .i64 0, .slice none 0 0, .int .i64 0, .int .i64 0, .string ⟨#[]⟩, .slice none 0 0] 28 (0, 0))) := Lib.hid fun W hW => (hW.block _ (by omega)).trans g4
  have HKN : Hid (∀ W, Below W1.heap.size W1 W → Calls Tryz.prog 23 #[.agg #[.int .i64 room, .slice a n cap, .slice (some ⟨B, 0, none⟩) 2 pc, .slice oa on oc], .agg #[.int .i64 8, .int .i64 0]] W fun e w' => ∃ x y b m c t, e = .returned (.tuple #[.agg #[.int .i64 x, .int .i64 y, .slice b m c], .bool t]) ∧ Below W1.heap.size W1 w') := Lib.hid fun W hW =>
    (known_any k F l room a n cap _ _ 8 0 W (hl.keep (entryRd_ok _) (Fix.of_below (hb1.trans (hW.mono hb1.size)))) ⟨_, _, _, rfl⟩ ⟨_, _, _, rfl⟩).mono fun e w' h => by
      obtain ⟨hb, h | ⟨i, hi, _, xk, xd, xl, a3, c3, _, he, _⟩⟩ := h
      · exact ⟨0, 0, none, 0, 0, false, h.2, hW.trans (hb.mono hW.size)⟩
      · exact ⟨xk, xd, a3, _, c3, true, he, hW.trans (hb.mono hW.size)⟩
  obtain ⟨tb, htb⟩ : ∃ tb : Bool, tb = decide ((8, 0) ∈ row) := ⟨_, rfl⟩
  have HT1 : Hid (tb = true → oneIf row = 1) := Lib.hid fun h => by rw [oneIf, if_pos (by rw [htb] at h; exact of_decide_eq_true h)]
  have HT0 : Hid (tb = false → oneIf row = 0) := Lib.hid fun h => by rw [oneIf, if_neg (by rw [htb] at h; exact of_decide_eq_false h)]
  have HKP : Hid (∀ W, Below W1.heap.size W1 W → Calls Tryz.prog 24 #[.agg #[.int .i64 room, .slice a n cap, .slice (some ⟨B, 0, none⟩) 2 pc, .slice oa on oc], .agg #[.int .i64 8, .int .i64 0]] W fun e w' => e = .returned (.bool tb) ∧ Below W1.heap.size W1 w') := Lib.hid fun W hW => by
    have hbw := hb1.trans (hW.mono hb1.size)
    rw [htb]
    exact (kept8_any room _ ⟨_, _, _, rfl⟩ B pc _ ⟨_, _, _, rfl⟩ G row ka kn kc W ((hbw.cell (p := ⟨B, 0, none⟩) hBl).trans hB) (hr.keep keyRd_ok (Fix.of_below hbw))).mono fun e w' h => ⟨h.1, hW.trans (h.2.mono hW.size)⟩
  have HB := Lib.hid hb1
  have HZ := Lib.hid hz1
  have hbz := Below.refl W1.heap.size W1
  obtain ⟨s0, s1, s2, s3, s4, s5, s6, s7, s8, s9, s10, s11, s12, s13, s14, s15⟩ := HPC.out W1 hbz
  clear g0 g1 g2 g3 g4 hb1 hz1 hBl hl hB hr htb hbz
  rw [hkind] at s6
  have HKD := Lib.hid hkind
  go_enter Tryz.func16, Tryz.ntmps16
  go_upto_region 1 with fail
  rw [← hW1]
  clear hW1
  go_upto_region 4 with (go_at_call 22; (with_reducible refine (key8_any _).mono ?_); rintro e w2 ⟨rfl, hb2⟩; have HB2 := Lib.hid hb2; clear s0 s1 s2 s3 s4 s5 s6 s7 s8 s9 s10 s11 s12 s13 s14 s15 hb2)
  obtain ⟨s0, s1, s2, s3, s4, s5, s6, s7, s8, s9, s10, s11, s12, s13, s14, s15⟩ := HPC.out w2 HB2.out
  go_upto_region 5 with (go_at_call 23; (with_reducible refine (HKN.out _ HB2.out).mono ?_); rintro e w3 ⟨x, y, b3, m3, c3, t3, rfl, hb3⟩; have HB3 := Lib.hid hb3; clear s0 s1 s2 s3 s4 s5 s6 s7 s8 s9 s10 s11 s12 s13 s14 s15 hb3)
  obtain ⟨W4, hW4⟩ : ∃ W4, W4 = w3.alloc (.cells #[.int .i64 x, .int .i64 y, .slice b3 m3 c3] 25) := ⟨_, rfl⟩
  have HB4 : Hid (Below W1.heap.size W1 W4) := Lib.hid (by rw [hW4]; exact HB3.out.alloc HB3.out.size _)
  rw [← hW4]
  clear hW4
  obtain ⟨s0, s1, s2, s3, s4, s5, s6, s7, s8, s9, s10, s11, s12, s13, s14, s15⟩ := HPC.out W4 HB4.out
  go_upto_region 6 with (go_at_call 24; (with_reducible refine (HKP.out _ HB4.out).mono ?_); rintro e w5 ⟨rfl, hb5⟩; have HB5 := Lib.hid hb5; clear s0 s1 s2 s3 s4 s5 s6 s7 s8 s9 s10 s11 s12 s13 s14 s15 hb5)
  obtain ⟨s0, s1, s2, s3, s4, s5, s6, s7, s8, s9, s10, s11, s12, s13, s14, s15⟩ := HPC.out w5 HB5.out
  rw [HKD.out] at s6
  have hg5 := HTC.out w5 HB5.out
  have r0 : w5.cell? ⟨w.heap.size + 1 + 1 + 1 + 1, 0, none⟩ = some (.int .i64 0) := cell_at hg5 rfl
  have r1' : w5.cell? ⟨w.heap.size + 1 + 1 + 1 + 1, 1, none⟩ = some (.int .i64 0) := cell_at hg5 rfl
  have r2' : w5.cell? ⟨w.heap.size + 1 + 1 + 1 + 1, 2, none⟩ = some (.int .i64 0) := cell_at hg5 rfl
  have r3 : w5.cell? ⟨w.heap.size + 1 + 1 + 1 + 1, 3, none⟩ = some (.slice none 0 0) := cell_at hg5 rfl
  have r4 : w5.cell? ⟨w.heap.size + 1 + 1 + 1 + 1, 4, none⟩ = some (.int .i64 0) := cell_at hg5 rfl
  have r5 : w5.cell? ⟨w.heap.size + 1 + 1 + 1 + 1, 5, none⟩ = some (.int .i64 0) := cell_at hg5 rfl
  have r6 : w5.cell? ⟨w.heap.size + 1 + 1 + 1 + 1, 6, none⟩ = some (.string ⟨#[]⟩) := cell_at hg5 rfl
  have r7 : w5.cell? ⟨w.heap.size + 1 + 1 + 1 + 1, 7, none⟩ = some (.slice none 0 0) := cell_at hg5 rfl
  have f0 : ∀ o, w5.frozen? ⟨w.heap.size + 1 + 1 + 1 + 1, o, none⟩ = false := fun o => free_at hg5
  have HG5 := Lib.hid hg5
  clear hg5
  have HBW := Lib.hid (HB.out.trans (HB5.out.mono HB.out.size))
  cases tb with
  | true =>
    go_wp2_with fail
    obtain ⟨hs, hsb, _⟩ := set8 HG5.out (.int .i64 0) (.int .i64 0) (.int .i64 0) (.slice none 0 0) (.int .i64 1) (.int .i64 0) (.string ⟨#[]⟩) (.slice none 0 0) HBW.out (by omega)
    clear r0 r1' r2' r3 r4 r5 r6 r7 f0
    generalize ((((((((w5.setCell ⟨w.heap.size + 1 + 1 + 1 + 1, 0, none⟩ (.int .i64 0)).setCell ⟨w.heap.size + 1 + 1 + 1 + 1, 1, none⟩ (.int .i64 0)).setCell ⟨w.heap.size + 1 + 1 + 1 + 1, 2, none⟩ (.int .i64 0)).setCell ⟨w.heap.size + 1 + 1 + 1 + 1, 3, none⟩ (.slice none 0 0)).setCell ⟨w.heap.size + 1 + 1 + 1 + 1, 4, none⟩ (.int .i64 1)).setCell ⟨w.heap.size + 1 + 1 + 1 + 1, 5, none⟩ (.int .i64 0)).setCell ⟨w.heap.size + 1 + 1 + 1 + 1, 6, none⟩ (.string ⟨#[]⟩)).setCell ⟨w.heap.size + 1 + 1 + 1 + 1, 7, none⟩ (.slice none 0 0)) = W6 at *
    have z0 : W6.cell? ⟨w.heap.size + 1 + 1 + 1 + 1, 0, none⟩ = some (.int .i64 0) := cell_at hs rfl
    have z1 : W6.cell? ⟨w.heap.size + 1 + 1 + 1 + 1, 1, none⟩ = some (.int .i64 0) := cell_at hs rfl
    have z2 : W6.cell? ⟨w.heap.size + 1 + 1 + 1 + 1, 2, none⟩ = some (.int .i64 0) := cell_at hs rfl
    have z3 : W6.cell? ⟨w.heap.size + 1 + 1 + 1 + 1, 3, none⟩ = some (.slice none 0 0) := cell_at hs rfl
    have z4 : W6.cell? ⟨w.heap.size + 1 + 1 + 1 + 1, 4, none⟩ = some (.int .i64 1) := cell_at hs rfl
    have z5 : W6.cell? ⟨w.heap.size + 1 + 1 + 1 + 1, 5, none⟩ = some (.int .i64 0) := cell_at hs rfl
    have z6 : W6.cell? ⟨w.heap.size + 1 + 1 + 1 + 1, 6, none⟩ = some (.string ⟨#[]⟩) := cell_at hs rfl
    have z7 : W6.cell? ⟨w.heap.size + 1 + 1 + 1 + 1, 7, none⟩ = some (.slice none 0 0) := cell_at hs rfl
    refine bodyPost_ret (v := .tuple #[.agg #[.int .i64 0, .int .i64 0, .int .i64 0, .slice none 0 0, .int .i64 1, .int .i64 0, .string ⟨#[]⟩, .slice none 0 0], .bool true]) (by simp [results, Tryz.results16, go_sem, z0, z1, z2, z3, z4, z5, z6, z7]) rfl ?_
    exact ⟨by rw [HT1.out trivial], hsb⟩
  | false =>
    go_wp2_with fail
    obtain ⟨hs, hsb, _⟩ := set8 HG5.out (.int .i64 0) (.int .i64 0) (.int .i64 0) (.slice none 0 0) (.int .i64 0) (.int .i64 0) (.string ⟨#[]⟩) (.slice none 0 0) HBW.out (by omega)
    clear r0 r1' r2' r3 r4 r5 r6 r7 f0
    generalize ((((((((w5.setCell ⟨w.heap.size + 1 + 1 + 1 + 1, 0, none⟩ (.int .i64 0)).setCell ⟨w.heap.size + 1 + 1 + 1 + 1, 1, none⟩ (.int .i64 0)).setCell ⟨w.heap.size + 1 + 1 + 1 + 1, 2, none⟩ (.int .i64 0)).setCell ⟨w.heap.size + 1 + 1 + 1 + 1, 3, none⟩ (.slice none 0 0)).setCell ⟨w.heap.size + 1 + 1 + 1 + 1, 4, none⟩ (.int .i64 0)).setCell ⟨w.heap.size + 1 + 1 + 1 + 1, 5, none⟩ (.int .i64 0)).setCell ⟨w.heap.size + 1 + 1 + 1 + 1, 6, none⟩ (.string ⟨#[]⟩)).setCell ⟨w.heap.size + 1 + 1 + 1 + 1, 7, none⟩ (.slice none 0 0)) = W6 at *
    have z0 : W6.cell? ⟨w.heap.size + 1 + 1 + 1 + 1, 0, none⟩ = some (.int .i64 0) := cell_at hs rfl
    have z1 : W6.cell? ⟨w.heap.size + 1 + 1 + 1 + 1, 1, none⟩ = some (.int .i64 0) := cell_at hs rfl
    have z2 : W6.cell? ⟨w.heap.size + 1 + 1 + 1 + 1, 2, none⟩ = some (.int .i64 0) := cell_at hs rfl
    have z3 : W6.cell? ⟨w.heap.size + 1 + 1 + 1 + 1, 3, none⟩ = some (.slice none 0 0) := cell_at hs rfl
    have z4 : W6.cell? ⟨w.heap.size + 1 + 1 + 1 + 1, 4, none⟩ = some (.int .i64 0) := cell_at hs rfl
    have z5 : W6.cell? ⟨w.heap.size + 1 + 1 + 1 + 1, 5, none⟩ = some (.int .i64 0) := cell_at hs rfl
    have z6 : W6.cell? ⟨w.heap.size + 1 + 1 + 1 + 1, 6, none⟩ = some (.string ⟨#[]⟩) := cell_at hs rfl
    have z7 : W6.cell? ⟨w.heap.size + 1 + 1 + 1 + 1, 7, none⟩ = some (.slice none 0 0) := cell_at hs rfl
    refine bodyPost_ret (v := .tuple #[.agg #[.int .i64 0, .int .i64 0, .int .i64 0, .slice none 0 0, .int .i64 0, .int .i64 0, .string ⟨#[]⟩, .slice none 0 0], .bool true]) (by simp [results, Tryz.results16, go_sem, z0, z1, z2, z3, z4, z5, z6, z7]) rfl ?_
    exact ⟨by rw [HT0.out trivial], hsb⟩
end Go.Proofs.YtibabpahpiijgaaGreatDoor.Lex
/- What Get of a key that is not known tells: the plan that was chosen. -/
namespace Go.Proofs.YtibabpahpiijgaaGreatDoor.Lex
open Go.RowKit Stab
set_option linter.unusedSimpArgs false
set_option linter.unusedVariables false
theorem rowOf_none {α : Type} {r : Rd α} {size bytes : Nat} {F : Foot} {w : World} : RowOf r size bytes F w none 0 0 [] :=
  ⟨rfl, Nat.le_refl _, by decide, by omega, fun _ => rfl, fun i x h => by simp at h⟩
theorem for38 (w : World) : Calls Tryz.prog 26 #[.agg #[.int .i64 8, .int .i64 0], .agg #[.int .i64 3, .int .i64 8, .slice none 0 0]] w fun e w' => e = .returned (.int .i64 0) ∧ Below w.heap.size w w' := by
  have h := for_any 0 All 8 0 3 8 [] none 0 0 w rowOf_none (by omega) (bigAt_small (by decide))
  rw [show forE 8 0 (.mk 3 8 []) = 0 by decide +kernel] at h
  exact h
set_option maxRecDepth 100000 in
set_option maxHeartbeats 8000000 in
theorem keyedG (room r1 r2 : Int) (B pc : Nat) (ka : Option Addr) (kc : Nat) (w : World)
    (hB : w.cell? ⟨B, 0, none⟩ = some (.slice ka 0 kc)) (hr : RowOf keyRd 2 16 All w ka 0 kc []) :
    Calls Tryz.prog 16 #[.agg #[.int .i64 room, .slice none 0 0, .slice (some ⟨B, 0, none⟩) 2 pc, .slice none 0 0], .agg #[.int .i64 r1, .int .i64 r2], .agg #[.int .i64 1, .int .i64 8, .int .i64 0, .string ⟨#[]⟩, .int .i64 0, .int .i64 0, .slice none 0 0], .agg #[.int .i64 3, .int .i64 8, .slice none 0 0]] w
      fun e w' => ∃ a c, e = .returned (.tuple #[.agg #[.int .i64 0, .int .i64 3, .int .i64 8, .slice a 0 c, .int .i64 0, .int .i64 0, .string ⟨#[]⟩, .slice none 0 0], .bool true]) ∧ RowOf (descRd 0) 3 40 All w' a 0 c [] ∧ Below w.heap.size w w' := by
  obtain ⟨kind, hkind⟩ : ∃ kind : Int, kind = 1 := ⟨_, rfl⟩
  obtain ⟨W1, hW1, hb1, hz1, g0, g1, g2, g3, g4⟩ := boxes5 w #[.int .i64 room, .slice none 0 0, .slice (some ⟨B, 0, none⟩) 2 pc, .slice none 0 0] #[.int .i64 r1, .int .i64 r2] #[.int .i64 1, .int .i64 8, .int .i64 0, .string ⟨#[]⟩, .int .i64 0, .int .i64 0, .slice none 0 0] #[.int .i64 3, .int .i64 8, .slice none 0 0] #[.int .i64 0, .int .i64 0, .int .i64 0, .slice none 0 0, .int .i64 0, .int .i64 0, .string ⟨#[]⟩, .slice none 0 0]
  have hBl : B < w.heap.size := World.block_lt_of_cell? w _ hB
  have HPC : Hid (∀ W, Below W1.heap.size W1 W → W.cell? ⟨w.heap.size, 0, none⟩ = some (.int .i64 room) ∧ W.cell? ⟨w.heap.size, 1, none⟩ = some (.slice none 0 0) ∧ W.cell? ⟨w.heap.size, 2, none⟩ = some (.slice (some ⟨B, 0, none⟩) 2 pc) ∧ W.cell? ⟨w.heap.size, 3, none⟩ = some (.slice none 0 0) ∧ W.cell? ⟨w.heap.size + 1, 0, none⟩ = some (.int .i64 r1) ∧ W.cell? ⟨w.heap.size + 1, 1, none⟩ = some (.int .i64 r2) ∧ W.cell? ⟨w.heap.size + 1 + 1, 0, none⟩ = some (.int .i64 kind) ∧ W.cell? ⟨w.heap.size + 1 + 1, 1, none⟩ = some (.int .i64 8) ∧ W.cell? ⟨w.heap.size + 1 + 1, 2, none⟩ = some (.int .i64 0) ∧ W.cell? ⟨w.heap.size + 1 + 1 + 1, 0, none⟩ = some (.int .i64 3) ∧ W.cell? ⟨w.heap.size + 1 + 1 + 1, 1, none⟩ = some (.int .i64 8) ∧ W.cell? ⟨w.heap.size + 1 + 1 + 1, 2, none⟩ = some (.slice none 0 0)) := Lib.hid fun W hW => by
    have e0 := (hW.block _ (show w.heap.size < W1.heap.size by omega)).trans g0
    have e1 := (hW.block _ (show w.heap.size + 1 < W1.heap.size by omega)).trans g1
    have e2 := (hW.block _ (show w.heap.size + 1 + 1 < W1.heap.size by omega)).trans g2
    have e3 := (hW.block _ (show w.heap.size + 1 + 1 + 1 < W1.heap.size by omega)).trans g3
    subst hkind
    exact ⟨cell_at e0 rfl, cell_at e0 rfl, cell_at e0 rfl, cell_at e0 rfl, cell_at e1 rfl, cell_at e1 rfl, cell_at e2 rfl, cell_at e2 rfl, cell_at e2 rfl, cell_at e3 rfl, cell_at e3 rfl, cell_at e3 rfl⟩
  have HTC : Hid (∀ W, Below W1.heap.size W1 W → W.heap[w.heap.size + 1 + 1 + 1 + 1]? = some (.cells #[.int .i64 0, .int .i64 0, .int .i64 0, .slice none 0 0, .int .i64 0, .int .i64 0, .string ⟨#[]⟩, .slice none 0 0] 28 (0, 0))) := Lib.hid fun W hW => (hW.block _ (by omega)).trans g4
  have HKN : Hid (∀ W, Below W1.heap.size W1 W → Calls Tryz.prog 23 #[.agg #[.int .i64 room, .slice none 0 0, .slice (some ⟨B, 0, none⟩) 2 pc, .slice none 0 0], .agg #[.int .i64 8, .int .i64 0]] W fun e w' => e = .returned (.tuple #[.agg #[.int .i64 0, .int .i64 0, .slice none 0 0], .bool false]) ∧ Below W1.heap.size W1 w') := Lib.hid fun W hW =>
    (known_any 0 All [] room none 0 0 _ _ 8 0 W rowOf_none ⟨_, _, _, rfl⟩ ⟨_, _, _, rfl⟩).mono fun e w' h => by
      obtain ⟨hb, h | ⟨i, hi, _⟩⟩ := h
      · exact ⟨h.2, hW.trans (hb.mono hW.size)⟩
      · simp at hi
  have HKP : Hid (∀ W, Below W1.heap.size W1 W → Calls Tryz.prog 24 #[.agg #[.int .i64 room, .slice none 0 0, .slice (some ⟨B, 0, none⟩) 2 pc, .slice none 0 0], .agg #[.int .i64 8, .int .i64 0]] W fun e w' => e = .returned (.bool false) ∧ Below W.heap.size W w') := Lib.hid fun W hW => by
    have hbw := hb1.trans (hW.mono hb1.size)
    exact (kept8_any room _ ⟨_, _, _, rfl⟩ B pc _ ⟨_, _, _, rfl⟩ All [] ka 0 kc W ((hbw.cell (p := ⟨B, 0, none⟩) hBl).trans hB) (hr.keep keyRd_ok (Fix.of_below hbw))).mono fun e w' h => ⟨by rw [h.1]; simp, h.2⟩
  have HB := Lib.hid hb1
  have HZ := Lib.hid hz1
  have hbz := Below.refl W1.heap.size W1
  obtain ⟨s0, s1, s2, s3, s4, s5, s6, s7, s8, s9, s10, s11⟩ := HPC.out W1 hbz
  clear g0 g1 g2 g3 g4 hb1 hz1 hBl hB hr hbz
  rw [hkind] at s6
  have HKD := Lib.hid hkind
  go_enter Tryz.func16, Tryz.ntmps16
  go_upto_region 1 with fail
  rw [← hW1]
  clear hW1
  go_upto_region 4 with (go_at_call 22; (with_reducible refine (key8_any _).mono ?_); rintro e w2 ⟨rfl, hb2⟩; have HB2 := Lib.hid hb2; clear s0 s1 s2 s3 s4 s5 s6 s7 s8 s9 s10 s11 hb2)
  obtain ⟨s0, s1, s2, s3, s4, s5, s6, s7, s8, s9, s10, s11⟩ := HPC.out w2 HB2.out
  go_upto_region 5 with (go_at_call 23; (with_reducible refine (HKN.out _ HB2.out).mono ?_); rintro e w3 ⟨rfl, hb3⟩; have HB3 := Lib.hid hb3; clear s0 s1 s2 s3 s4 s5 s6 s7 s8 s9 s10 s11 hb3)
  obtain ⟨W4, hW4⟩ : ∃ W4, W4 = w3.alloc (.cells #[.int .i64 0, .int .i64 0, .slice none 0 0] 25) := ⟨_, rfl⟩
  obtain ⟨D, hD⟩ : ∃ D, D = w3.heap.size := ⟨_, rfl⟩
  have hD1 : W1.heap.size ≤ D := by rw [hD]; exact HB3.out.size
  have hb4 : Below D w3 W4 := by rw [hW4, hD]; exact (Below.refl _ _).alloc (Nat.le_refl _) _
  have hz4 : W4.heap.size = D + 1 := by rw [hW4, hD]; simp
  have HB4 : Hid (Below W1.heap.size W1 W4) := Lib.hid (HB3.out.trans (hb4.mono hD1))
  have hg4 : W4.heap[D]? = some (.cells #[.int .i64 0, .int .i64 0, .slice none 0 0] 25 (0, 0)) := by rw [hW4, hD]; exact heap_alloc_new w3 _
  have HG4 : Hid (∀ W, Below W4.heap.size W4 W → W.heap[D]? = some (.cells #[.int .i64 0, .int .i64 0, .slice none 0 0] 25 (0, 0))) := Lib.hid fun W hW => (hW.block _ (by omega)).trans hg4
  rw [← hD, ← hW4]
  have HD1 := Lib.hid hD1
  have HZ4 := Lib.hid hz4
  clear hW4 hD hb4 hg4 hD1 hz4
  obtain ⟨s0, s1, s2, s3, s4, s5, s6, s7, s8, s9, s10, s11⟩ := HPC.out W4 HB4.out
  go_upto_region 6 with (go_at_call 24; (with_reducible refine (HKP.out _ HB4.out).mono ?_); rintro e w5 ⟨rfl, hb5⟩; have HB5 := Lib.hid hb5; clear s0 s1 s2 s3 s4 s5 s6 s7 s8 s9 s10 s11 hb5)
  have HB51 := Lib.hid (HB4.out.trans (HB5.out.mono HB4.out.size))
  obtain ⟨s0, s1, s2, s3, s4, s5, s6, s7, s8, s9, s10, s11⟩ := HPC.out w5 HB51.out
  rw [HKD.out] at s6
  have hg5 := HG4.out w5 HB5.out
  have HCL : Hid (Calls Tryz.prog 25 #[.agg #[.int .i64 3, .int .i64 8, .slice none 0 0]] w5 fun e w' => ∃ a c, e = .returned (.agg #[.int .i64 3, .int .i64 8, .slice a 0 c]) ∧ RowOf (descRd 0) 3 40 All w' a 0 c [] ∧ Below w5.heap.size w5 w') := Lib.hid ((clone_any 0 All 3 8 [] none 0 0 w5 rowOf_none).mono fun e w' ⟨a, c, h1, h2, h3⟩ => ⟨a, c, h1, h2.mono (descRd_ok _) fun _ _ _ => trivial, h3⟩)
  clear hg5
  go_upto_region 9 with (go_at_call 25; (with_reducible refine HCL.out.mono ?_); rintro e w6 ⟨a, c, rfl, hr6, hb6⟩; have HR6 := Lib.hid hr6; have HB6 := Lib.hid hb6; have hg6 := HG4.out w6 (HB5.out.trans (hb6.mono HB5.out.size)); have r0 : w6.cell? ⟨D, 0, none⟩ = some (.int .i64 0) := cell_at hg6 rfl; have r1' : w6.cell? ⟨D, 1, none⟩ = some (.int .i64 0) := cell_at hg6 rfl; have r2' : w6.cell? ⟨D, 2, none⟩ = some (.slice none 0 0) := cell_at hg6 rfl; have f0 : ∀ o, w6.frozen? ⟨D, o, none⟩ = false := fun o => free_at hg6; have HG6 := Lib.hid hg6; clear hr6 hb6 hg6 s0 s1 s2 s3 s4 s5 s6 s7 s8 s9 s10 s11)
  obtain ⟨W6, rfl⟩ : ∃ W : World, W = w6 := ⟨_, rfl⟩
  have hDW : w.heap.size ≤ D := Nat.le_trans HB.out.size HD1.out
  have HB6W := Lib.hid ((HB.out.trans (HB51.out.mono HB.out.size)).trans (HB6.out.mono (by have := HB.out.size; have := HB51.out.size; omega)))
  obtain ⟨hs, hsb, hso⟩ := set3 HG6.out (.int .i64 3) (.int .i64 8) (.slice a 0 c) HB6W.out hDW
  obtain ⟨_, hsb1, _⟩ := set3 HG6.out (.int .i64 3) (.int .i64 8) (.slice a 0 c) (HB51.out.trans (HB6.out.mono HB51.out.size)) HD1.out
  clear r0 r1' r2' f0
  have HFX : Hid (RowOf (descRd 0) 3 40 All (((W6.setCell ⟨D, 0, none⟩ (.int .i64 3)).setCell ⟨D, 1, none⟩ (.int .i64 8)).setCell ⟨D, 2, none⟩ (.slice a 0 c)) a 0 c []) := Lib.hid ⟨rfl, HR6.out.le, HR6.out.max, HR6.out.room, HR6.out.nil, fun i x h => by simp at h⟩
  generalize ((W6.setCell ⟨D, 0, none⟩ (.int .i64 3)).setCell ⟨D, 1, none⟩ (.int .i64 8)).setCell ⟨D, 2, none⟩ (.slice a 0 c) = W7 at *
  have HS := Lib.hid hs
  have HSB := Lib.hid hsb
  have HSB1 := Lib.hid hsb1
  clear hso hDW hs hsb hsb1
  have hsz7 : D < W7.heap.size := (Array.getElem?_eq_some_iff.1 HS.out).1
  have HZ7 := Lib.hid hsz7
  have HVF := Lib.hid (for38 W7)
  obtain ⟨s0, s1, s2, s3, s4, s5, s6, s7, s8, s9, s10, s11⟩ := HPC.out W7 HSB1.out
  clear hsz7
  go_upto_region 18 with (go_at_call 26; (with_reducible refine HVF.out.mono ?_); rintro e w8 ⟨rfl, hb8⟩; have HB8 := Lib.hid hb8; clear hb8 s0 s1 s2 s3 s4 s5 s6 s7 s8 s9 s10 s11)
  obtain ⟨s0, s1, s2, s3, s4, s5, s6, s7, s8, s9, s10, s11⟩ := HPC.out w8 (HSB1.out.trans (HB8.out.mono HSB1.out.size))
  have HOP := Lib.hid (open_none room (.slice none 0 0) (.slice (some ⟨B, 0, none⟩) 2 pc) ⟨_, _, _, rfl⟩ ⟨_, _, _, rfl⟩ r1 r2 w8)
  go_upto_region 20 with (go_at_call 27; (with_reducible refine HOP.out.mono ?_); rintro e w9 ⟨rfl, hb9⟩; have HB9 := Lib.hid hb9; clear hb9 s0 s1 s2 s3 s4 s5 s6 s7 s8 s9 s10 s11)
  have hb91 := HSB1.out.trans ((HB8.out.trans (HB9.out.mono HB8.out.size)).mono HSB1.out.size)
  have hg9 := HTC.out w9 hb91
  have hd9 : w9.heap[D]? = some (.cells #[.int .i64 3, .int .i64 8, .slice a 0 c] 25 (0, 0)) := ((HB8.out.trans (HB9.out.mono HB8.out.size)).block _ HZ7.out).trans HS.out
  have q0 : w9.cell? ⟨D, 0, none⟩ = some (.int .i64 3) := cell_at hd9 rfl
  have q1 : w9.cell? ⟨D, 1, none⟩ = some (.int .i64 8) := cell_at hd9 rfl
  have q2 : w9.cell? ⟨D, 2, none⟩ = some (.slice a 0 c) := cell_at hd9 rfl
  have t0 : w9.cell? ⟨w.heap.size + 1 + 1 + 1 + 1, 0, none⟩ = some (.int .i64 0) := cell_at hg9 rfl
  have t1 : w9.cell? ⟨w.heap.size + 1 + 1 + 1 + 1, 1, none⟩ = some (.int .i64 0) := cell_at hg9 rfl
  have t2 : w9.cell? ⟨w.heap.size + 1 + 1 + 1 + 1, 2, none⟩ = some (.int .i64 0) := cell_at hg9 rfl
  have t3 : w9.cell? ⟨w.heap.size + 1 + 1 + 1 + 1, 3, none⟩ = some (.slice none 0 0) := cell_at hg9 rfl
  have t4 : w9.cell? ⟨w.heap.size + 1 + 1 + 1 + 1, 4, none⟩ = some (.int .i64 0) := cell_at hg9 rfl
  have t5 : w9.cell? ⟨w.heap.size + 1 + 1 + 1 + 1, 5, none⟩ = some (.int .i64 0) := cell_at hg9 rfl
  have t6 : w9.cell? ⟨w.heap.size + 1 + 1 + 1 + 1, 6, none⟩ = some (.string ⟨#[]⟩) := cell_at hg9 rfl
  have t7 : w9.cell? ⟨w.heap.size + 1 + 1 + 1 + 1, 7, none⟩ = some (.slice none 0 0) := cell_at hg9 rfl
  have f0 : ∀ o, w9.frozen? ⟨w.heap.size + 1 + 1 + 1 + 1, o, none⟩ = false := fun o => free_at hg9
  have HG9 := Lib.hid hg9
  have HBW := Lib.hid (HB.out.trans (hb91.mono HB.out.size))
  have HR9 := Lib.hid (HFX.out.keep (descRd_ok _) (Fix.of_below (HB8.out.trans (HB9.out.mono HB8.out.size))))
  clear hg9 hb91 hd9
  go_wp2_with fail
  obtain ⟨hs, hsb, _⟩ := set8 HG9.out (.int .i64 0) (.int .i64 3) (.int .i64 8) (.slice a 0 c) (.int .i64 0) (.int .i64 0) (.string ⟨#[]⟩) (.slice none 0 0) HBW.out (by omega)
  clear t0 t1 t2 t3 t4 t5 t6 t7 f0 q0 q1 q2
  generalize ((((((((w9.setCell ⟨w.heap.size + 1 + 1 + 1 + 1, 0, none⟩ (.int .i64 0)).setCell ⟨w.heap.size + 1 + 1 + 1 + 1, 1, none⟩ (.int .i64 3)).setCell ⟨w.heap.size + 1 + 1 + 1 + 1, 2, none⟩ (.int .i64 8)).setCell ⟨w.heap.size + 1 + 1 + 1 + 1, 3, none⟩ (.slice a 0 c)).setCell ⟨w.heap.size + 1 + 1 + 1 + 1, 4, none⟩ (.int .i64 0)).setCell ⟨w.heap.size + 1 + 1 + 1 + 1, 5, none⟩ (.int .i64 0)).setCell ⟨w.heap.size + 1 + 1 + 1 + 1, 6, none⟩ (.string ⟨#[]⟩)).setCell ⟨w.heap.size + 1 + 1 + 1 + 1, 7, none⟩ (.slice none 0 0)) = W6 at *
  have z0 : W6.cell? ⟨w.heap.size + 1 + 1 + 1 + 1, 0, none⟩ = some (.int .i64 0) := cell_at hs rfl
  have z1 : W6.cell? ⟨w.heap.size + 1 + 1 + 1 + 1, 1, none⟩ = some (.int .i64 3) := cell_at hs rfl
  have z2 : W6.cell? ⟨w.heap.size + 1 + 1 + 1 + 1, 2, none⟩ = some (.int .i64 8) := cell_at hs rfl
  have z3 : W6.cell? ⟨w.heap.size + 1 + 1 + 1 + 1, 3, none⟩ = some (.slice a 0 c) := cell_at hs rfl
  have z4 : W6.cell? ⟨w.heap.size + 1 + 1 + 1 + 1, 4, none⟩ = some (.int .i64 0) := cell_at hs rfl
  have z5 : W6.cell? ⟨w.heap.size + 1 + 1 + 1 + 1, 5, none⟩ = some (.int .i64 0) := cell_at hs rfl
  have z6 : W6.cell? ⟨w.heap.size + 1 + 1 + 1 + 1, 6, none⟩ = some (.string ⟨#[]⟩) := cell_at hs rfl
  have z7 : W6.cell? ⟨w.heap.size + 1 + 1 + 1 + 1, 7, none⟩ = some (.slice none 0 0) := cell_at hs rfl
  refine bodyPost_ret (v := .tuple #[.agg #[.int .i64 0, .int .i64 3, .int .i64 8, .slice a 0 c, .int .i64 0, .int .i64 0, .string ⟨#[]⟩, .slice none 0 0], .bool true]) (by simp [results, Tryz.results16, go_sem, z0, z1, z2, z3, z4, z5, z6, z7]) rfl ?_
  exact ⟨a, c, rfl, ⟨rfl, HR9.out.le, HR9.out.max, HR9.out.room, HR9.out.nil, fun i x h => by simp at h⟩, hsb⟩
end Go.Proofs.YtibabpahpiijgaaGreatDoor.Lex
/- model.Answer at a call with the key (8, 0). -/
namespace Go.Proofs.YtibabpahpiijgaaGreatDoor.Lex
open Go.RowKit Stab
set_option linter.unusedSimpArgs false
set_option linter.unusedVariables false
/-- What a call with a key tells here: a plan without kids, a number. -/
def TellsK (x1 x2 tn : Int) (w : World) (e : Ending) (w' : World) : Prop :=
  ∃ y c, e = .returned (.tuple #[.agg #[.int .i64 0, .int .i64 x1, .int .i64 x2, .slice y 0 c, .int .i64 tn, .int .i64 0, .string ⟨#[]⟩, .slice none 0 0], .bool true]) ∧ RowOf (descRd 0) 3 40 All w' y 0 c [] ∧ Below w.heap.size w w'
set_option maxRecDepth 100000 in
set_option maxHeartbeats 8000000 in
theorem answer_key (kind : Int) (hkd : kind = 1 ∨ kind = 3) (room r1 r2 dk dn x1 x2 tn : Int) (a : Option Addr) (n cap B pc : Nat) (oa : Option Addr) (on oc : Nat) (w : World)
    (hK : ∀ W, Below w.heap.size w W → Calls Tryz.prog 16 #[.agg #[.int .i64 room, .slice a n cap, .slice (some ⟨B, 0, none⟩) 2 pc, .slice oa on oc], .agg #[.int .i64 r1, .int .i64 r2], .agg #[.int .i64 kind, .int .i64 8, .int .i64 0, .string ⟨#[]⟩, .int .i64 0, .int .i64 0, .slice none 0 0], .agg #[.int .i64 dk, .int .i64 dn, .slice none 0 0]] W (TellsK x1 x2 tn W)) :
    Calls Tryz.prog 10 #[.agg #[.int .i64 room, .slice a n cap, .slice (some ⟨B, 0, none⟩) 2 pc, .slice oa on oc], .agg #[.int .i64 r1, .int .i64 r2], .agg #[.int .i64 kind, .int .i64 8, .int .i64 0, .string ⟨#[]⟩, .int .i64 0, .int .i64 0, .slice none 0 0], .agg #[.int .i64 dk, .int .i64 dn, .slice none 0 0]] w (TellsK x1 x2 tn w) := by
  obtain ⟨W1, hW1, hb1, hz1, g0, g1, g2, g3, g4⟩ := boxes5 w #[.int .i64 room, .slice a n cap, .slice (some ⟨B, 0, none⟩) 2 pc, .slice oa on oc] #[.int .i64 r1, .int .i64 r2] #[.int .i64 kind, .int .i64 8, .int .i64 0, .string ⟨#[]⟩, .int .i64 0, .int .i64 0, .slice none 0 0] #[.int .i64 dk, .int .i64 dn, .slice none 0 0] #[.int .i64 0, .int .i64 0, .int .i64 0, .slice none 0 0, .int .i64 0, .int .i64 0, .string ⟨#[]⟩, .slice none 0 0]
  have HPC : Hid (∀ W, Below W1.heap.size W1 W → W.cell? ⟨w.heap.size, 0, none⟩ = some (.int .i64 room) ∧ W.cell? ⟨w.heap.size, 1, none⟩ = some (.slice a n cap) ∧ W.cell? ⟨w.heap.size, 2, none⟩ = some (.slice (some ⟨B, 0, none⟩) 2 pc) ∧ W.cell? ⟨w.heap.size, 3, none⟩ = some (.slice oa on oc) ∧ W.cell? ⟨w.heap.size + 1, 0, none⟩ = some (.int .i64 r1) ∧ W.cell? ⟨w.heap.size + 1, 1, none⟩ = some (.int .i64 r2) ∧ W.cell? ⟨w.heap.size + 1 + 1, 0, none⟩ = some (.int .i64 kind) ∧ W.cell? ⟨w.heap.size + 1 + 1, 1, none⟩ = some (.int .i64 8) ∧ W.cell? ⟨w.heap.size + 1 + 1, 2, none⟩ = some (.int .i64 0) ∧ W.cell? ⟨w.heap.size + 1 + 1, 3, none⟩ = some (.string ⟨#[]⟩) ∧ W.cell? ⟨w.heap.size + 1 + 1, 4, none⟩ = some (.int .i64 0) ∧ W.cell? ⟨w.heap.size + 1 + 1, 5, none⟩ = some (.int .i64 0) ∧ W.cell? ⟨w.heap.size + 1 + 1, 6, none⟩ = some (.slice none 0 0) ∧ W.cell? ⟨w.heap.size + 1 + 1 + 1, 0, none⟩ = some (.int .i64 dk) ∧ W.cell? ⟨w.heap.size + 1 + 1 + 1, 1, none⟩ = some (.int .i64 dn) ∧ W.cell? ⟨w.heap.size + 1 + 1 + 1, 2, none⟩ = some (.slice none 0 0)) := Lib.hid fun W hW => by
    have e0 := (hW.block _ (show w.heap.size < W1.heap.size by omega)).trans g0
    have e1 := (hW.block _ (show w.heap.size + 1 < W1.heap.size by omega)).trans g1
    have e2 := (hW.block _ (show w.heap.size + 1 + 1 < W1.heap.size by omega)).trans g2
    have e3 := (hW.block _ (show w.heap.size + 1 + 1 + 1 < W1.heap.size by omega)).trans g3
    exact ⟨cell_at e0 rfl, cell_at e0 rfl, cell_at e0 rfl, cell_at e0 rfl, cell_at e1 rfl, cell_at e1 rfl, cell_at e2 rfl, cell_at e2 rfl, cell_at e2 rfl, cell_at e2 rfl, cell_at e2 rfl, cell_at e2 rfl, cell_at e2 rfl, cell_at e3 rfl, cell_at e3 rfl, cell_at e3 rfl⟩
  have HTC : Hid (∀ W, Below W1.heap.size W1 W → W.heap[w.heap.size + 1 + 1 + 1 + 1]? = some (.cells #[.int .i64 0, .int .i64 0, .int .i64 0, .slice none 0 0, .int .i64 0, .int .i64 0, .string ⟨#[]⟩, .slice none 0 0] 28 (0, 0))) := Lib.hid fun W hW => (hW.block _ (by omega)).trans g4
  have HK := Lib.hid (hK W1 hb1)
  unfold TellsK at HK
  have HB := Lib.hid hb1
  have HZ := Lib.hid hz1
  obtain ⟨s0, s1, s2, s3, s4, s5, s6, s7, s8, s9, s10, s11, s12, s13, s14, s15⟩ := HPC.out W1 (Below.refl W1.heap.size W1)
  have HKD := Lib.hid hkd
  clear g0 g1 g2 g3 g4 hb1 hz1 hK hkd
  go_enter Tryz.func10, Tryz.ntmps10
  go_upto_region 1 with fail
  rw [← hW1]
  clear hW1
  rcases HKD.out with rfl | rfl
  · go_upto_region 5 with fail
    go_wp2_with (go_at_call 16; (with_reducible refine HK.out.mono ?_); rintro e w2 ⟨y, c, rfl, hr2, hb2⟩; have HB2 := Lib.hid hb2; have HR2 := Lib.hid hr2; have hg := HTC.out w2 hb2; have t0 : w2.cell? ⟨w.heap.size + 1 + 1 + 1 + 1, 0, none⟩ = some (.int .i64 0) := cell_at hg rfl; have t1 : w2.cell? ⟨w.heap.size + 1 + 1 + 1 + 1, 1, none⟩ = some (.int .i64 0) := cell_at hg rfl; have t2 : w2.cell? ⟨w.heap.size + 1 + 1 + 1 + 1, 2, none⟩ = some (.int .i64 0) := cell_at hg rfl; have t3 : w2.cell? ⟨w.heap.size + 1 + 1 + 1 + 1, 3, none⟩ = some (.slice none 0 0) := cell_at hg rfl; have t4 : w2.cell? ⟨w.heap.size + 1 + 1 + 1 + 1, 4, none⟩ = some (.int .i64 0) := cell_at hg rfl; have t5 : w2.cell? ⟨w.heap.size + 1 + 1 + 1 + 1, 5, none⟩ = some (.int .i64 0) := cell_at hg rfl; have t6 : w2.cell? ⟨w.heap.size + 1 + 1 + 1 + 1, 6, none⟩ = some (.string ⟨#[]⟩) := cell_at hg rfl; have t7 : w2.cell? ⟨w.heap.size + 1 + 1 + 1 + 1, 7, none⟩ = some (.slice none 0 0) := cell_at hg rfl; have f0 : ∀ o, w2.frozen? ⟨w.heap.size + 1 + 1 + 1 + 1, o, none⟩ = false := fun o => free_at hg; have HG := Lib.hid hg; clear s0 s1 s2 s3 s4 s5 s6 s7 s8 s9 s10 s11 s12 s13 s14 s15 hr2 hb2 hg)
    obtain ⟨W2, rfl⟩ : ∃ W : World, W = w2 := ⟨_, rfl⟩
    obtain ⟨hs, hsb, _⟩ := set8 HG.out (.int .i64 0) (.int .i64 x1) (.int .i64 x2) (.slice y 0 c) (.int .i64 tn) (.int .i64 0) (.string ⟨#[]⟩) (.slice none 0 0) (HB.out.trans (HB2.out.mono HB.out.size)) (by omega)
    have HFX := Lib.hid HR2.out
    clear t0 t1 t2 t3 t4 t5 t6 t7 f0
    generalize ((((((((W2.setCell ⟨w.heap.size + 1 + 1 + 1 + 1, 0, none⟩ (.int .i64 0)).setCell ⟨w.heap.size + 1 + 1 + 1 + 1, 1, none⟩ (.int .i64 x1)).setCell ⟨w.heap.size + 1 + 1 + 1 + 1, 2, none⟩ (.int .i64 x2)).setCell ⟨w.heap.size + 1 + 1 + 1 + 1, 3, none⟩ (.slice y 0 c)).setCell ⟨w.heap.size + 1 + 1 + 1 + 1, 4, none⟩ (.int .i64 tn)).setCell ⟨w.heap.size + 1 + 1 + 1 + 1, 5, none⟩ (.int .i64 0)).setCell ⟨w.heap.size + 1 + 1 + 1 + 1, 6, none⟩ (.string ⟨#[]⟩)).setCell ⟨w.heap.size + 1 + 1 + 1 + 1, 7, none⟩ (.slice none 0 0)) = W6 at *
    have z0 : W6.cell? ⟨w.heap.size + 1 + 1 + 1 + 1, 0, none⟩ = some (.int .i64 0) := cell_at hs rfl
    have z1 : W6.cell? ⟨w.heap.size + 1 + 1 + 1 + 1, 1, none⟩ = some (.int .i64 x1) := cell_at hs rfl
    have z2 : W6.cell? ⟨w.heap.size + 1 + 1 + 1 + 1, 2, none⟩ = some (.int .i64 x2) := cell_at hs rfl
    have z3 : W6.cell? ⟨w.heap.size + 1 + 1 + 1 + 1, 3, none⟩ = some (.slice y 0 c) := cell_at hs rfl
    have z4 : W6.cell? ⟨w.heap.size + 1 + 1 + 1 + 1, 4, none⟩ = some (.int .i64 tn) := cell_at hs rfl
    have z5 : W6.cell? ⟨w.heap.size + 1 + 1 + 1 + 1, 5, none⟩ = some (.int .i64 0) := cell_at hs rfl
    have z6 : W6.cell? ⟨w.heap.size + 1 + 1 + 1 + 1, 6, none⟩ = some (.string ⟨#[]⟩) := cell_at hs rfl
    have z7 : W6.cell? ⟨w.heap.size + 1 + 1 + 1 + 1, 7, none⟩ = some (.slice none 0 0) := cell_at hs rfl
    refine bodyPost_ret (v := .tuple #[.agg #[.int .i64 0, .int .i64 x1, .int .i64 x2, .slice y 0 c, .int .i64 tn, .int .i64 0, .string ⟨#[]⟩, .slice none 0 0], .bool true]) (by simp [results, Tryz.results10, go_sem, z0, z1, z2, z3, z4, z5, z6, z7]) rfl ?_
    exact ⟨y, c, rfl, ⟨rfl, HFX.out.le, HFX.out.max, HFX.out.room, HFX.out.nil, fun i x h => by simp at h⟩, hsb⟩
  · go_upto_region 5 with fail
    go_wp2_with (go_at_call 16; (with_reducible refine HK.out.mono ?_); rintro e w2 ⟨y, c, rfl, hr2, hb2⟩; have HB2 := Lib.hid hb2; have HR2 := Lib.hid hr2; have hg := HTC.out w2 hb2; have t0 : w2.cell? ⟨w.heap.size + 1 + 1 + 1 + 1, 0, none⟩ = some (.int .i64 0) := cell_at hg rfl; have t1 : w2.cell? ⟨w.heap.size + 1 + 1 + 1 + 1, 1, none⟩ = some (.int .i64 0) := cell_at hg rfl; have t2 : w2.cell? ⟨w.heap.size + 1 + 1 + 1 + 1, 2, none⟩ = some (.int .i64 0) := cell_at hg rfl; have t3 : w2.cell? ⟨w.heap.size + 1 + 1 + 1 + 1, 3, none⟩ = some (.slice none 0 0) := cell_at hg rfl; have t4 : w2.cell? ⟨w.heap.size + 1 + 1 + 1 + 1, 4, none⟩ = some (.int .i64 0) := cell_at hg rfl; have t5 : w2.cell? ⟨w.heap.size + 1 + 1 + 1 + 1, 5, none⟩ = some (.int .i64 0) := cell_at hg rfl; have t6 : w2.cell? ⟨w.heap.size + 1 + 1 + 1 + 1, 6, none⟩ = some (.string ⟨#[]⟩) := cell_at hg rfl; have t7 : w2.cell? ⟨w.heap.size + 1 + 1 + 1 + 1, 7, none⟩ = some (.slice none 0 0) := cell_at hg rfl; have f0 : ∀ o, w2.frozen? ⟨w.heap.size + 1 + 1 + 1 + 1, o, none⟩ = false := fun o => free_at hg; have HG := Lib.hid hg; clear s0 s1 s2 s3 s4 s5 s6 s7 s8 s9 s10 s11 s12 s13 s14 s15 hr2 hb2 hg)
    obtain ⟨W2, rfl⟩ : ∃ W : World, W = w2 := ⟨_, rfl⟩
    obtain ⟨hs, hsb, _⟩ := set8 HG.out (.int .i64 0) (.int .i64 x1) (.int .i64 x2) (.slice y 0 c) (.int .i64 tn) (.int .i64 0) (.string ⟨#[]⟩) (.slice none 0 0) (HB.out.trans (HB2.out.mono HB.out.size)) (by omega)
    have HFX := Lib.hid HR2.out
    clear t0 t1 t2 t3 t4 t5 t6 t7 f0
    generalize ((((((((W2.setCell ⟨w.heap.size + 1 + 1 + 1 + 1, 0, none⟩ (.int .i64 0)).setCell ⟨w.heap.size + 1 + 1 + 1 + 1, 1, none⟩ (.int .i64 x1)).setCell ⟨w.heap.size + 1 + 1 + 1 + 1, 2, none⟩ (.int .i64 x2)).setCell ⟨w.heap.size + 1 + 1 + 1 + 1, 3, none⟩ (.slice y 0 c)).setCell ⟨w.heap.size + 1 + 1 + 1 + 1, 4, none⟩ (.int .i64 tn)).setCell ⟨w.heap.size + 1 + 1 + 1 + 1, 5, none⟩ (.int .i64 0)).setCell ⟨w.heap.size + 1 + 1 + 1 + 1, 6, none⟩ (.string ⟨#[]⟩)).setCell ⟨w.heap.size + 1 + 1 + 1 + 1, 7, none⟩ (.slice none 0 0)) = W6 at *
    have z0 : W6.cell? ⟨w.heap.size + 1 + 1 + 1 + 1, 0, none⟩ = some (.int .i64 0) := cell_at hs rfl
    have z1 : W6.cell? ⟨w.heap.size + 1 + 1 + 1 + 1, 1, none⟩ = some (.int .i64 x1) := cell_at hs rfl
    have z2 : W6.cell? ⟨w.heap.size + 1 + 1 + 1 + 1, 2, none⟩ = some (.int .i64 x2) := cell_at hs rfl
    have z3 : W6.cell? ⟨w.heap.size + 1 + 1 + 1 + 1, 3, none⟩ = some (.slice y 0 c) := cell_at hs rfl
    have z4 : W6.cell? ⟨w.heap.size + 1 + 1 + 1 + 1, 4, none⟩ = some (.int .i64 tn) := cell_at hs rfl
    have z5 : W6.cell? ⟨w.heap.size + 1 + 1 + 1 + 1, 5, none⟩ = some (.int .i64 0) := cell_at hs rfl
    have z6 : W6.cell? ⟨w.heap.size + 1 + 1 + 1 + 1, 6, none⟩ = some (.string ⟨#[]⟩) := cell_at hs rfl
    have z7 : W6.cell? ⟨w.heap.size + 1 + 1 + 1 + 1, 7, none⟩ = some (.slice none 0 0) := cell_at hs rfl
    refine bodyPost_ret (v := .tuple #[.agg #[.int .i64 0, .int .i64 x1, .int .i64 x2, .slice y 0 c, .int .i64 tn, .int .i64 0, .string ⟨#[]⟩, .slice none 0 0], .bool true]) (by simp [results, Tryz.results10, go_sem, z0, z1, z2, z3, z4, z5, z6, z7]) rfl ?_
    exact ⟨y, c, rfl, ⟨rfl, HFX.out.le, HFX.out.max, HFX.out.room, HFX.out.nil, fun i x h => by simp at h⟩, hsb⟩
end Go.Proofs.YtibabpahpiijgaaGreatDoor.Lex
