/- A call's line: report.Call, and the reference's. -/
import Derived.Test.YthjcmcgmalnfpaaGreatDoorGCal
import Derived.Test.YthjcmcgmalnfpaaGreatDoorRCall4
import Derived.Test.YthjcmcgmalnfpaaGreatDoorSplitC
import Derived.Test.YthjcmcgmalnfpaaGreatDoorNoLF
namespace Go.Proofs.YthjcmcgmalnfpaaGreatDoor.Lex
open Go.RowKit
set_option linter.unusedSimpArgs false
set_option linter.unusedVariables false
/-- What a call's line says; no kind: a question mark. -/
def callL (c : CallV) : List UInt8 := match callW c with | none => [63] | some ws => glue ws
structure SmallC (c : CallV) : Prop where
  fits : c.Fits
  text : c.text.size ≤ 500
  xs : c.xs.length ≤ 100
  lt : ∀ x ∈ c.xs, x < 18446744073709551616
theorem dec_len20 {n : Nat} (h : n < 18446744073709551616) : (Lib.decDigits n).length ≤ 20 := by
  rw [Lib.decDigits_length]
  exact nDigits_le 19 n (by omega)
theorem hexW_len2 (l : List UInt8) : (hexW l).length ≤ 1 ∧ ∀ x ∈ hexW l, x.length ≤ 2 * l.length := by
  unfold hexW
  split
  · simp
  · simp [hexOf_len]
theorem callW_len {c : CallV} (h : SmallC c) {ws : List (List UInt8)} (hw : callW c = some ws) : (glue ws).length ≤ 103103 := by
  obtain ⟨hf, ht, hx, hlt⟩ := h
  have key : ws.length ≤ 103 ∧ ∀ x ∈ ws, x.length ≤ 1000 := by
    have two : ∀ (w : List UInt8) (a b : Int), w.length ≤ 8 → InI a → InI b → [w, Lib.itoa a, Lib.itoa b].length ≤ 103 ∧ ∀ x ∈ w :: [Lib.itoa a, Lib.itoa b], x.length ≤ 1000 := fun w a b h1 h2 h3 => by
      refine ⟨by simp, fun x hx => ?_⟩
      simp only [List.mem_cons, List.not_mem_nil, or_false] at hx
      rcases hx with rfl | rfl | rfl
      · omega
      · have := itoa_len h2; omega
      · have := itoa_len h3; omega
    unfold callW at hw
    split at hw
    · cases hw; exact two _ _ _ (by simp) hf.n hf.dir
    split at hw
    · cases hw; exact two _ _ _ (by simp) hf.n hf.dir
    split at hw
    · cases hw; exact two _ _ _ (by simp) hf.n hf.dir
    split at hw
    · cases hw
      have := hexW_len2 c.text.data.toList
      have hl : c.text.data.toList.length = c.text.size := by simp
      refine ⟨by rw [List.length_cons]; omega, fun x hx => ?_⟩
      rcases List.mem_cons.1 hx with rfl | hx
      · simp
      · have := this.2 x hx; omega
    split at hw
    · cases hw
      refine ⟨by simp, fun x hx => ?_⟩
      simp only [List.mem_cons, List.not_mem_nil, or_false] at hx
      subst hx
      simp
    split at hw
    · cases hw
      refine ⟨by simp; omega, fun x hx => ?_⟩
      rcases List.mem_cons.1 hx with rfl | hx
      · simp
      · rcases List.mem_append.1 hx with hx | hx
        · simp only [List.mem_cons, List.not_mem_nil, or_false] at hx
          rcases hx with rfl | rfl
          · have := itoa_len hf.who; omega
          · have := itoa_len hf.at_; omega
        · obtain ⟨n, hn, rfl⟩ := List.mem_map.1 hx
          have := dec_len20 (hlt n hn)
          omega
    split at hw
    · cases hw; exact two _ _ _ (by simp) hf.who hf.at_
    · cases hw
  have := glue_len ws 1000 key.2
  have h2 : ws.length * (1000 + 1) ≤ 103 * 1001 := Nat.mul_le_mul_right _ key.1
  omega
def linesC (c : CallV) : List (List UInt8) := [glue (playW :: [Lib.itoa 0, Lib.itoa 0]), glue [picksW], glue [ticksW], clientW, callL c]
theorem text_linesC {c : CallV} (h : callW c ≠ none) : headT 0 0 [] [] ++ clientsT [[c]] = (linesC c).flatMap fun x => x ++ [10] := by
  cases hw : callW c with
  | none => exact absurd hw h
  | some ws => simp [headT, intsL, clientsT, clientT, callsT, callT, linesC, callL, hw, glue]
theorem linesC_noLF {c : CallV} (h : callW c ≠ none) : ∀ x ∈ linesC c, ∀ b ∈ x, b ≠ 10 := by
  cases hw : callW c with
  | none => exact absurd hw h
  | some ws =>
    intro x hx
    have p1 : NoLF playW := by unfold NoLF playW; decide
    have p2 : NoLF picksW := by unfold NoLF picksW; decide
    have p3 : NoLF ticksW := by unfold NoLF ticksW; decide
    have p4 : NoLF clientW := by unfold NoLF clientW; decide
    simp only [linesC, List.mem_cons, List.not_mem_nil, or_false] at hx
    rcases hx with rfl | rfl | rfl | rfl | rfl
    · refine glue_noLF fun y hy => ?_
      simp only [List.mem_cons, List.not_mem_nil, or_false] at hy
      rcases hy with rfl | rfl | rfl
      · exact p1
      · exact itoa_noLF _
      · exact itoa_noLF _
    · exact p2
    · exact p3
    · exact p4
    · rw [callL, hw]
      exact callW_noLF hw
theorem linesC_len {c : CallV} (h : SmallC c) : ((linesC c).flatMap fun x => x ++ [10]).length ≤ 103300 := by
  have hc : (callL c).length ≤ 103103 := by
    unfold callL
    cases hw : callW c with
    | none => simp
    | some ws => exact callW_len h hw
  have h1 := itoa_len (n := 0) ⟨by omega, by omega⟩
  have h2 := glue_len [playW, Lib.itoa 0, Lib.itoa 0] 20 (fun x hx => by
    simp only [List.mem_cons, List.not_mem_nil, or_false] at hx
    rcases hx with rfl | rfl | rfl
    · decide
    · exact h1
    · exact h1)
  simp only [linesC, List.flatMap_cons, List.flatMap_nil, List.length_append, List.length_cons, List.length_nil] at h2 ⊢
  have e1 : (glue [picksW]).length = 5 := rfl
  have e2 : (glue [ticksW]).length = 5 := rfl
  have e3 : clientW.length = 6 := rfl
  omega
theorem call_rows (c : CallV) (a : Option Addr) (cap : Nat) (W0 : World) (hu : U64s W0 a c.xs) (T1 T2 : TypeId) :
    CallRows ((W0.alloc (.cells #[.int .i64 c.kind, .int .i64 c.n, .int .i64 c.dir, .string c.text, .int .i64 c.who, .int .i64 c.at_, .slice a c.xs.length cap] T1)).alloc (.cells #[.slice (some ⟨W0.heap.size, 0, none⟩) 1 1] T2)) (some ⟨W0.heap.size + 1, 0, none⟩) [[c]] := by
  have hb1 : Below W0.heap.size W0 (W0.alloc (.cells #[.int .i64 c.kind, .int .i64 c.n, .int .i64 c.dir, .string c.text, .int .i64 c.who, .int .i64 c.at_, .slice a c.xs.length cap] T1)) := (Below.refl _ _).alloc (Nat.le_refl _) _
  have g1 := heap_alloc_new W0 (.cells #[.int .i64 c.kind, .int .i64 c.n, .int .i64 c.dir, .string c.text, .int .i64 c.who, .int .i64 c.at_, .slice a c.xs.length cap] T1)
  generalize hW1 : W0.alloc (.cells #[.int .i64 c.kind, .int .i64 c.n, .int .i64 c.dir, .string c.text, .int .i64 c.who, .int .i64 c.at_, .slice a c.xs.length cap] T1) = W1 at *
  have hz1 : W1.heap.size = W0.heap.size + 1 := by rw [← hW1]; simp
  have hb2 : Below W1.heap.size W1 (W1.alloc (.cells #[.slice (some ⟨W0.heap.size, 0, none⟩) 1 1] T2)) := (Below.refl _ _).alloc (Nat.le_refl _) _
  have g2 := heap_alloc_new W1 (.cells #[.slice (some ⟨W0.heap.size, 0, none⟩) 1 1] T2)
  generalize hW2 : W1.alloc (.cells #[.slice (some ⟨W0.heap.size, 0, none⟩) 1 1] T2) = W2 at *
  have hz2 : W2.heap.size = W1.heap.size + 1 := by rw [← hW2]; simp
  rw [hz1] at g2
  have g1' := (hb2.block _ (by omega)).trans g1
  intro i hi
  obtain rfl : i = 0 := by simp at hi; exact hi
  refine ⟨W0.heap.size + 1, 0, some ⟨W0.heap.size, 0, none⟩, 1, rfl, by omega, cell_at g2 rfl, fun k hk => ?_⟩
  obtain rfl : k = 0 := by simp at hk; exact hk
  exact ⟨W0.heap.size, 0, a, cap, rfl, by omega, cell_at g1' rfl, cell_at g1' rfl, cell_at g1' rfl, cell_at g1' rfl, cell_at g1' rfl, cell_at g1' rfl, cell_at g1' rfl, (hu.keep hb1).keep hb2⟩
set_option maxRecDepth 100000 in
set_option maxHeartbeats 4000000 in
theorem callE_any (c : CallV) (a : Option Addr) (cap : Nat) (w : World) (hs : SmallC c) (hu : U64s w a c.xs) (hm : HasMax w) (ht : HasTab w) :
    Calls Tryz.prog 23 #[.agg #[.int .i64 c.kind, .int .i64 c.n, .int .i64 c.dir, .string c.text, .int .i64 c.who, .int .i64 c.at_, .slice a c.xs.length cap]] w fun e w' => e = .returned (.string (bs (callL c))) ∧ Below w.heap.size w w' := by
  obtain ⟨W0, hW0⟩ : ∃ W0, W0 = w.alloc (.cells #[.int .i64 c.kind, .int .i64 c.n, .int .i64 c.dir, .string c.text, .int .i64 c.who, .int .i64 c.at_, .slice a c.xs.length cap] 50) := ⟨_, rfl⟩
  have hb0 : Below w.heap.size w W0 := by rw [hW0]; exact (Below.refl _ _).alloc (Nat.le_refl _) _
  have g0 : W0.heap[w.heap.size]? = some (.cells #[.int .i64 c.kind, .int .i64 c.n, .int .i64 c.dir, .string c.text, .int .i64 c.who, .int .i64 c.at_, .slice a c.xs.length cap] 50 (0, 0)) := by rw [hW0]; exact heap_alloc_new w _
  have HB0 := Lib.hid hb0
  obtain ⟨W2, hW2⟩ : ∃ W2, W2 = (W0.alloc (.cells #[.int .i64 c.kind, .int .i64 c.n, .int .i64 c.dir, .string c.text, .int .i64 c.who, .int .i64 c.at_, .slice a c.xs.length cap] 50)).alloc (.cells #[.slice (some ⟨W0.heap.size, 0, none⟩) 1 1] 92) := ⟨_, rfl⟩
  have hb2 : Below W0.heap.size W0 W2 := by rw [hW2]; exact ((Below.refl _ _).alloc (Nat.le_refl _) _).alloc (by simp) _
  have hrow : CallRows W2 (some ⟨W0.heap.size + 1, 0, none⟩) [[c]] := by rw [hW2]; exact call_rows c a cap W0 (hu.keep hb0) _ _
  have HB2 := Lib.hid (hb0.trans (hb2.mono hb0.size))
  have htot : (headT 0 0 [] [] ++ clientsT [[c]]).length ≤ 103300 := by
    cases hw : callW c with
    | some ws => rw [text_linesC (by rw [hw]; simp)]; exact linesC_len hs
    | none =>
      have e : callT c = [] := callT_none hw
      simp only [headT, intsL, clientsT, clientT, callsT, List.flatMap_cons, List.flatMap_nil, e, List.length_append, List.map_cons, List.map_nil]
      have h1 := itoa_len (n := 0) ⟨by omega, by omega⟩
      have h2 := glue_len [playW, Lib.itoa 0, Lib.itoa 0] 20 (fun x hx => by
        simp only [List.mem_cons, List.not_mem_nil, or_false] at hx
        rcases hx with rfl | rfl | rfl
        · decide
        · exact h1
        · exact h1)
      simp only [List.length_cons, List.length_nil] at h2 ⊢
      have e1 : (glue [picksW]).length = 5 := rfl
      have e2 : (glue [ticksW]).length = 5 := rfl
      have e3 : (glue [clientW]).length = 6 := rfl
      omega
  have hp := print_walk 0 0 [] [] [[c]] (some ⟨W0.heap.size + 1, 0, none⟩) none none 1 0 0 W2 (hm.below HB2.out) (ht.below HB2.out) ⟨by omega, by omega⟩ ⟨by omega, by omega⟩ (fun i hi => by simp at hi) (fun i hi => by simp at hi) hrow
    (fun l hl c' hc' => by
      simp only [List.mem_cons, List.not_mem_nil, or_false] at hl
      subst hl
      simp only [List.mem_cons, List.not_mem_nil, or_false] at hc'
      subst hc'
      exact hs.fits) (by simp) (by simp) (by simp) (by simp) (by omega)
  have HM := Lib.hid hm
  cases hw : callW c with
  | none =>
    have HP : Hid (Calls Tryz.prog 37 #[.agg #[.int .i64 0, .int .i64 0, .slice (some ⟨W0.heap.size + 1, 0, none⟩) 1 1, .slice none 0 0, .slice none 0 0]] W2 fun e w' => e = .returned (.tuple #[.string ⟨#[]⟩, .int .i64 2]) ∧ Below W2.heap.size W2 w') := Lib.hid (hp.mono fun e w' h => by
      obtain ⟨hb, h⟩ := h
      rcases h with ⟨_, he⟩ | ⟨hall, _⟩
      · exact ⟨he, hb⟩
      · exact absurd hw (hall [c] (by simp) c (by simp)))
    have HE : Hid (bs (callL c) = ⟨#[63]⟩) := Lib.hid (by rw [callL, hw]; rfl)
    have t0 := cell_at (o := 0) g0 rfl
    have t1 := cell_at (o := 1) g0 rfl
    have t2 := cell_at (o := 2) g0 rfl
    have t3 := cell_at (o := 3) g0 rfl
    have t4 := cell_at (o := 4) g0 rfl
    have t5 := cell_at (o := 5) g0 rfl
    have t6 := cell_at (o := 6) g0 rfl
    clear hp hw htot hrow hb2 hb0 g0 hm ht hu hs
    go_enter Tryz.func23, Tryz.ntmps23
    go_upto_region 1 with fail
    rw [← hW0]
    clear hW0
    go_wp2_with (rw [← hW2]; (go_at_call 37; (with_reducible refine HP.out.mono ?_); rintro e w3 ⟨rfl, hb3⟩; have HB3 := Lib.hid (HB2.out.trans (hb3.mono HB2.out.size)); clear hb3))
    go_ret
    exact ⟨by rw [HE.out]; rfl, HB3.out⟩
  | some ws =>
    have hn : callW c ≠ none := by rw [hw]; simp
    have HP : Hid (Calls Tryz.prog 37 #[.agg #[.int .i64 0, .int .i64 0, .slice (some ⟨W0.heap.size + 1, 0, none⟩) 1 1, .slice none 0 0, .slice none 0 0]] W2 fun e w' => e = .returned (.tuple #[.string (bs (headT 0 0 [] [] ++ clientsT [[c]])), .int .i64 0]) ∧ Below W2.heap.size W2 w') := Lib.hid (hp.mono fun e w' h => by
      obtain ⟨hb, h⟩ := h
      rcases h with ⟨⟨l, hl, c', hc', hno⟩, _⟩ | ⟨_, ⟨hlong, _⟩ | ⟨_, he⟩⟩
      · simp only [List.mem_cons, List.not_mem_nil, or_false] at hl
        subst hl
        simp only [List.mem_cons, List.not_mem_nil, or_false] at hc'
        subst hc'
        exact absurd hno hn
      · omega
      · exact ⟨he, hb⟩)
    have hlen : (bs (headT 0 0 [] [] ++ clientsT [[c]])).size < 4294967281 := by rw [size_bs]; omega
    have hpc : piecesC 10 (bs (headT 0 0 [] [] ++ clientsT [[c]])).data.toList = linesC c ++ [[]] := by
      show piecesC 10 (headT 0 0 [] [] ++ clientsT [[c]]) = _
      rw [text_linesC hn, piecesC_lines _ (linesC_noLF hn)]
    obtain ⟨sx, hsx⟩ : ∃ sx, sx = bs (headT 0 0 [] [] ++ clientsT [[c]]) := ⟨_, rfl⟩
    rw [← hsx] at HP hlen hpc
    have HSP : Hid (∀ W, HasMax W → Calls Tryz.prog 38 #[.string sx, .string ⟨#[10]⟩] W fun e w' => e = .returned (.slice (some ⟨W.heap.size, 0, none⟩) 6 6) ∧ w'.cell? ⟨W.heap.size, 4, none⟩ = some (.string (bs (callL c))) ∧ Below W.heap.size W w') := Lib.hid fun W h => by
      refine (splitC_any 10 sx W h hlen).mono fun e w' k => ?_
      rw [hpc] at k
      exact ⟨k.1, k.2.1 4 _ rfl, k.2.2⟩
    have t0 := cell_at (o := 0) g0 rfl
    have t1 := cell_at (o := 1) g0 rfl
    have t2 := cell_at (o := 2) g0 rfl
    have t3 := cell_at (o := 3) g0 rfl
    have t4 := cell_at (o := 4) g0 rfl
    have t5 := cell_at (o := 5) g0 rfl
    have t6 := cell_at (o := 6) g0 rfl
    clear hp hw htot hrow hb2 hb0 g0 hm ht hu hs hn hlen hpc hsx
    generalize bs (callL c) = sy at *
    go_enter Tryz.func23, Tryz.ntmps23
    go_upto_region 1 with fail
    rw [← hW0]
    clear hW0
    go_wp2_with (first
      | (rw [← hW2]; (go_at_call 37; (with_reducible refine HP.out.mono ?_); rintro e w3 ⟨rfl, hb3⟩; have HB3 := Lib.hid (HB2.out.trans (hb3.mono HB2.out.size)); clear hb3))
      | (go_at_call 38; (with_reducible refine (HSP.out _ (HM.out.below HB3.out)).mono ?_); rintro e w4 ⟨rfl, c4, hb4⟩; have HB4 := Lib.hid (HB3.out.trans (hb4.mono HB3.out.size)); clear hb4))
    go_ret
    exact ⟨rfl, HB4.out⟩
set_option maxRecDepth 100000 in
theorem rcallE_any (c : CallV) (a : Option Addr) (cap : Nat) (w : World) (hs : SmallC c) (hu : U64s w a c.xs) :
    Calls Tryz.prog 31 #[.agg #[.int .i64 c.kind, .int .i64 c.n, .int .i64 c.dir, .string c.text, .int .i64 c.who, .int .i64 c.at_, .slice a c.xs.length cap]] w fun e w' => e = .returned (.string (bs (callL c))) ∧ Below w.heap.size w w' := by
  obtain ⟨W0, hW0⟩ : ∃ W0, W0 = w.alloc (.cells #[.int .i64 c.kind, .int .i64 c.n, .int .i64 c.dir, .string c.text, .int .i64 c.who, .int .i64 c.at_, .slice a c.xs.length cap] 50) := ⟨_, rfl⟩
  have hb0 : Below w.heap.size w W0 := by rw [hW0]; exact (Below.refl _ _).alloc (Nat.le_refl _) _
  have g0 : W0.heap[w.heap.size]? = some (.cells #[.int .i64 c.kind, .int .i64 c.n, .int .i64 c.dir, .string c.text, .int .i64 c.who, .int .i64 c.at_, .slice a c.xs.length cap] 50 (0, 0)) := by rw [hW0]; exact heap_alloc_new w _
  have HB0 := Lib.hid hb0
  have t0 := cell_at (o := 0) g0 rfl
  have t1 := cell_at (o := 1) g0 rfl
  have t2 := cell_at (o := 2) g0 rfl
  have t3 := cell_at (o := 3) g0 rfl
  have t4 := cell_at (o := 4) g0 rfl
  have t5 := cell_at (o := 5) g0 rfl
  have t6 := cell_at (o := 6) g0 rfl
  have HU := Lib.hid (hu.keep hb0)
  by_cases hk : c.kind < 1 ∨ 7 < c.kind
  · have HE : Hid (bs (callL c) = ⟨#[63]⟩) := Lib.hid (by
      have : callW c = none := by
        unfold callW
        repeat rw [if_neg (by omega)]
      rw [callL, this]; rfl)
    by_cases h1 : c.kind < 1
    · clear hk hb0 g0 hu hs
      go_enter Tryz.func31, Tryz.ntmps31
      go_upto_region 1 with fail
      rw [← hW0]
      clear hW0
      go_wp2_with fail
      go_ret
      exact ⟨by rw [HE.out]; rfl, HB0.out⟩
    · have h7 : 7 < c.kind := by omega
      clear hk hb0 g0 hu hs
      go_enter Tryz.func31, Tryz.ntmps31
      go_upto_region 1 with fail
      rw [← hW0]
      clear hW0
      go_wp2_with fail
      go_ret
      exact ⟨by rw [HE.out]; rfl, HB0.out⟩
  · have h1 : ¬ c.kind < 1 := by omega
    have h7 : ¬ 7 < c.kind := by omega
    have hn : callW c ≠ none := by
      unfold callW
      rcases (by omega : c.kind = 1 ∨ c.kind = 2 ∨ c.kind = 3 ∨ c.kind = 4 ∨ c.kind = 5 ∨ c.kind = 6 ∨ c.kind = 7) with h | h | h | h | h | h | h <;> simp [h]
    have hlc : lineC c = callL c := by
      unfold lineC callL
      cases hw : callW c with
      | none => exact absurd hw hn
      | some ws => rfl
    have hr := rcall_any c a cap W0 hs.fits (by have := hs.text; omega) hn (hu.keep hb0)
    unfold RCallP at hr
    rw [hlc] at hr
    have HR : Hid (Calls Tryz.prog 46 #[.agg #[.int .i64 c.kind, .int .i64 c.n, .int .i64 c.dir, .string c.text, .int .i64 c.who, .int .i64 c.at_, .slice a c.xs.length cap]] W0 fun e w' => e = .returned (.string (bs (callL c))) ∧ Below W0.heap.size W0 w') := Lib.hid hr
    clear hk hb0 g0 hu hs hn hlc hr
    go_enter Tryz.func31, Tryz.ntmps31
    go_upto_region 1 with fail
    rw [← hW0]
    clear hW0
    go_wp2_with (go_at_call 46; (with_reducible refine HR.out.mono ?_); rintro e w3 ⟨rfl, hb3⟩; have HB3 := Lib.hid (HB0.out.trans (hb3.mono HB0.out.size)); clear hb3)
    go_ret
    exact ⟨rfl, HB3.out⟩
end Go.Proofs.YthjcmcgmalnfpaaGreatDoor.Lex
