/- entry.Check, entry.Print. -/
import Derived.Test.YtdhkndoglcnllaaGreatDoorForV
import Derived.Test.YtdhkndoglcnllaaGreatDoorPrint23
import Derived.Test.YtdhkndoglcnllaaGreatDoorNum
import Derived.Test.YtdhkndoglcnllaaGreatDoorShelf
namespace Go.Proofs.YtdhkndoglcnllaaGreatDoor.Lex
open Go.RowKit
set_option linter.unusedSimpArgs false
set_option linter.unusedVariables false
theorem nodeB_ok {kd nd : Int} {l : List DescV} (h : nodeB kd nd l = true) : okH (kd, nd) = true := by
  unfold okH
  rw [decide_eq_true_iff]
  dsimp only
  unfold nodeB at h
  split at h
  · next e =>
    simp only [Bool.and_eq_true, decide_eq_true_eq] at h
    have := hasB_le h.2.1
    omega
  · split at h
    · next e =>
      unfold smallB at h
      simp only [Bool.and_eq_true, decide_eq_true_eq] at h
      omega
    · split at h
      · next e =>
        unfold stockB at h
        simp only [Bool.and_eq_true, decide_eq_true_eq] at h
        omega
      · split at h
        · next e =>
          unfold sidesB at h
          simp only [Bool.and_eq_true, decide_eq_true_eq] at h
          have := hasB_le h.2.1
          omega
        · split at h
          · next e =>
            unfold sidesB at h
            simp only [Bool.and_eq_true, decide_eq_true_eq] at h
            have := hasB_le h.2.2.1
            omega
          · split at h
            · next e =>
              unfold singleB at h
              simp only [Bool.and_eq_true, decide_eq_true_eq] at h
              have := hasB_le h.2.2.2.1
              omega
            · split at h
              · next e =>
                unfold singleB at h
                simp only [Bool.and_eq_true, decide_eq_true_eq] at h
                have := hasB_le h.2.2.1
                omega
              · cases h
mutual
theorem right_text : ∀ {d : DescV}, d.rightD = true → ∃ t, textD d = some t
  | .mk k n l, h => by
    rw [DescV.rightD, Bool.and_eq_true] at h
    obtain ⟨ts, hts⟩ := right_texts h.2
    rw [textD, if_pos (nodeB_ok h.1), hts]
    exact ⟨_, rfl⟩
theorem right_texts : ∀ {l : List DescV}, DescV.rightL l = true → ∃ ts, textsD l = some ts
  | [], _ => ⟨[], by rw [textsD]⟩
  | d :: l, h => by
    rw [DescV.rightL, Bool.and_eq_true] at h
    obtain ⟨t, ht⟩ := right_text h.1
    obtain ⟨ts, hts⟩ := right_texts h.2
    exact ⟨t :: ts, by rw [textsD, ht, hts]; rfl⟩
end
theorem checkE_zero {d : DescV} (h : checkE d = 0) : bigD d = false ∧ d.rightD = true := by
  unfold checkE at h
  split at h
  · cases h
  · next hb =>
    split at h
    · next hr => exact ⟨by simpa using hb, hr⟩
    · cases h
theorem forE_zero {kn kd : Int} {d : DescV} (h : forE kn kd d = 0) : hasB kn = true ∧ (kd = 0 ∨ kd = 1) ∧ bigD d = false ∧ d.rightD = true ∧ d.n = kn := by
  unfold forE at h
  split at h
  · next h1 =>
    split at h
    · next h2 =>
      split at h
      · next h3 =>
        split at h
        · next h4 => exact ⟨h1, h2, (checkE_zero h3).1, (checkE_zero h3).2, h4⟩
        · cases h
      · next h3 => exact absurd h h3
    · cases h
  · cases h
/-- An entry's line. -/
def lineE (kn kd : Int) (t : List UInt8) : List UInt8 := Lib.decDigits kn.toNat ++ [32] ++ Lib.decDigits kd.toNat ++ [32] ++ t
def printE (kn kd : Int) (d : DescV) : Value := if forE kn kd d = 0 then (match textD d with | none => .tuple #[.string ⟨#[]⟩, .int .i64 8] | some t => .tuple #[.string (bs (lineE kn kd t)), .int .i64 0]) else .tuple #[.string ⟨#[]⟩, .int .i64 (forE kn kd d)]
set_option maxRecDepth 100000 in
set_option maxHeartbeats 1000000 in
theorem echeck_any (k : Nat) (F : Foot) (kn kr kd nd : Int) (l : List DescV) (a : Option Addr) (n cap : Nat) (w : World) (hl : RowOf (descRd k) 3 40 F w a n cap l) (hk : k ≤ 1048576) (hbg : BigAt k kd nd l) :
    Calls Tryz.prog 12 #[.agg #[.int .i64 kn, .int .i64 kr, .int .i64 kd, .int .i64 nd, .slice a n cap]] w fun e w' => e = .returned (.int .i64 (forE kn kr (.mk kd nd l))) ∧ Below w.heap.size w w' := by
  have hb : Below w.heap.size w (w.alloc (.cells #[.int .i64 kn, .int .i64 kr, .int .i64 kd, .int .i64 nd, .slice a n cap] 29)) := (Below.refl _ _).alloc (Nat.le_refl _) _
  have HB := Lib.hid hb
  have HC := Lib.hid (for_any k F kn kr kd nd l a n cap _ (hl.keep (descRd_ok _) (Fix.of_below hb)) hk hbg)
  clear hl hb hbg
  go_enter Tryz.func12, Tryz.ntmps12
  go_wp2_with (go_at_call 27; (with_reducible refine HC.out.mono ?_); rintro e w2 ⟨rfl, hb2⟩; have HB2 := Lib.hid (HB.out.trans (hb2.mono HB.out.size)); clear hb2)
  go_ret
  exact ⟨rfl, HB2.out⟩
set_option maxRecDepth 100000 in
set_option maxHeartbeats 4000000 in
theorem eprint_any (k : Nat) (F : Foot) (kn kr kd nd : Int) (l : List DescV) (a : Option Addr) (n cap : Nat) (w : World) (hl : RowOf (descRd k) 3 40 F w a n cap l) (hk : k ≤ 1048576) (hm : DescV.nodesL l < 1048576) (hbg : BigAt k kd nd l) (hx : HasMax w) (ht : HasTab w) :
    Calls Tryz.prog 9 #[.agg #[.int .i64 kn, .int .i64 kr, .int .i64 kd, .int .i64 nd, .slice a n cap]] w fun e w' => e = .returned (printE kn kr (.mk kd nd l)) ∧ Below w.heap.size w w' := by
  obtain ⟨W1, hW1⟩ : ∃ W1, W1 = w.alloc (.cells #[.int .i64 kn, .int .i64 kr, .int .i64 kd, .int .i64 nd, .slice a n cap] 29) := ⟨_, rfl⟩
  have hb1 : Below w.heap.size w W1 := by rw [hW1]; exact (Below.refl _ _).alloc (Nat.le_refl _) _
  have g1 : W1.heap[w.heap.size]? = some (.cells #[.int .i64 kn, .int .i64 kr, .int .i64 kd, .int .i64 nd, .slice a n cap] 29 (0, 0)) := by rw [hW1]; exact heap_alloc_new w _
  have hz1 : w.heap.size < W1.heap.size := by rw [hW1]; simp
  have hl1 := hl.keep (descRd_ok _) (Fix.of_below hb1)
  have HB := Lib.hid hb1
  have HT : Hid (∀ w2, Below W1.heap.size W1 w2 → w2.cell? ⟨w.heap.size, 0, none⟩ = some (.int .i64 kn) ∧ w2.cell? ⟨w.heap.size, 1, none⟩ = some (.int .i64 kr) ∧ w2.cell? ⟨w.heap.size, 2, none⟩ = some (.int .i64 kd) ∧ w2.cell? ⟨w.heap.size, 3, none⟩ = some (.int .i64 nd) ∧ w2.cell? ⟨w.heap.size, 4, none⟩ = some (.slice a n cap)) := Lib.hid fun w2 hb => by
    have g := (hb.block _ hz1).trans g1
    exact ⟨cell_at g rfl, cell_at g rfl, cell_at g rfl, cell_at g rfl, cell_at g rfl⟩
  obtain ⟨c0, c1, c2, c3, c4⟩ := HT.out W1 (Below.refl _ _)
  have HC := Lib.hid (echeck_any k F kn kr kd nd l a n cap W1 hl1 hk hbg)
  have HL := Lib.hid hl1
  have HX := Lib.hid (hx.below hb1)
  have HTB := Lib.hid (ht.below hb1)
  have HM := Lib.hid hm
  clear hl hl1 hb1 g1 hbg hx ht hm
  by_cases hf : forE kn kr (.mk kd nd l) = 0
  · obtain ⟨h1, h2, h3, h4, h5⟩ := forE_zero hf
    obtain ⟨t, htx⟩ := right_text h4
    have hkn := hasB_le h1
    obtain ⟨m, rfl⟩ : ∃ m : Nat, kn = m := ⟨kn.toNat, by omega⟩
    obtain ⟨r, rfl⟩ : ∃ r : Nat, kr = r := ⟨kr.toNat, by omega⟩
    obtain ⟨lz, hlz⟩ : ∃ lz, lz = lineE m r t := ⟨_, rfl⟩
    have HPE : Hid (printE m r (.mk kd nd l) = .tuple #[.string (bs lz), .int .i64 0]) := Lib.hid (by unfold printE; rw [if_pos hf, htx, hlz])
    have HLZ : Hid (lz = Lib.decDigits m ++ [32] ++ Lib.decDigits r ++ [32] ++ t) := Lib.hid (by rw [hlz]; unfold lineE; rw [Int.toNat_natCast, Int.toNat_natCast])
    have HF := Lib.hid hf
    have HPD : Hid (printD (.mk kd nd l) = .tuple #[.string (bs t), .int .i64 0]) := Lib.hid (by unfold printD; rw [h3, htx]; rfl)
    have HTL := Lib.hid (textD_len htx)
    have HDG1 : Hid (∀ W, Below W1.heap.size W1 W → Calls Tryz.prog 22 #[.int .i64 (m : Int)] W fun e w' => e = .returned (.tuple #[.string (bs (Lib.decDigits m)), .int .i64 0]) ∧ Below W.heap.size W w') := Lib.hid fun W hb => dig_yes m W (by omega) (HTB.out.below hb)
    have HDG2 : Hid (∀ W, Below W1.heap.size W1 W → Calls Tryz.prog 22 #[.int .i64 (r : Int)] W fun e w' => e = .returned (.tuple #[.string (bs (Lib.decDigits r)), .int .i64 0]) ∧ Below W.heap.size W w') := Lib.hid fun W hb => dig_yes r W (by omega) (HTB.out.below hb)
    have HLN1 := Lib.hid (decDigits_len (n := m) (by omega))
    have HLN2 := Lib.hid (decDigits_len (n := r) (by omega))
    clear hf h1 h2 h3 h4 h5 htx hkn hlz
    go_enter Tryz.func9, Tryz.ntmps9
    go_upto_region 1 with fail
    rw [← hW1]
    clear hW1
    go_upto_region 4 with (go_at_call 12; (with_reducible refine HC.out.mono ?_); rintro e w2 ⟨rfl, hb2⟩; rw [HF.out]; have HB2 := Lib.hid hb2; clear c0 c1 c2 c3 c4; obtain ⟨c0, c1, c2, c3, c4⟩ := HT.out w2 hb2; clear hb2)
    go_upto_region 5 with (go_at_call 22; (with_reducible refine (HDG1.out _ HB2.out).mono ?_); rintro e w3 ⟨rfl, hb3⟩; have HB3 := Lib.hid (HB2.out.trans (hb3.mono HB2.out.size)); clear c0 c1 c2 c3 c4; obtain ⟨c0, c1, c2, c3, c4⟩ := HT.out w3 HB3.out; clear hb3)
    go_upto_region 6 with (go_at_call 22; (with_reducible refine (HDG2.out _ HB3.out).mono ?_); rintro e w4 ⟨rfl, hb4⟩; have HB4 := Lib.hid (HB3.out.trans (hb4.mono HB3.out.size)); clear c0 c1 c2 c3 c4; obtain ⟨c0, c1, c2, c3, c4⟩ := HT.out w4 HB4.out; clear hb4)
    go_upto_region 9 with (go_at_call 23; (with_reducible refine (print_any k F kd nd l a n cap _ (HL.out.keep (descRd_ok _) (Fix.of_below HB4.out)) HM.out (HX.out.below HB4.out) (HTB.out.below HB4.out)).mono ?_); rintro e w5 ⟨rfl, hb5⟩; rw [HPD.out]; have HB5 := Lib.hid (HB4.out.trans (hb5.mono HB4.out.size)); clear c0 c1 c2 c3 c4 hb5)
    obtain ⟨W5, rfl⟩ : ∃ W : World, W = w5 := ⟨_, rfl⟩
    obtain ⟨W6, hW6⟩ : ∃ W6, W6 = W5.alloc (.cells #[.string (bs (Lib.decDigits m)), .string (bs (Lib.decDigits r)), .string (bs t)] 9) := ⟨_, rfl⟩
    have hb6 : Below W5.heap.size W5 W6 := by rw [hW6]; exact (Below.refl _ _).alloc (Nat.le_refl _) _
    have g6 : W6.heap[W5.heap.size]? = some (.cells #[.string (bs (Lib.decDigits m)), .string (bs (Lib.decDigits r)), .string (bs t)] 9 (0, 0)) := by rw [hW6]; exact heap_alloc_new W5 _
    have HB6 := Lib.hid (HB.out.trans ((HB5.out.trans (hb6.mono HB5.out.size)).mono HB.out.size))
    have HJN : Hid (Lib.join [Lib.decDigits m, Lib.decDigits r, t] [32] = lz) := Lib.hid (by rw [HLZ.out]; simp [Lib.join, List.intercalate, List.intersperse])
    have HJ : Hid (Calls Tryz.prog 24 #[.slice (some ⟨W5.heap.size, 0, none⟩) 3 3, .string ⟨#[32]⟩] W6 fun e w' => e = .returned (.string (bs lz)) ∧ Below W6.heap.size W6 w') := Lib.hid (by
      have hJ := Tryz.strings_Join W5.heap.size 0 3 [bs (Lib.decDigits m), bs (Lib.decDigits r), bs t] ⟨#[32]⟩ W6 (fun j x hx => by
        rw [Nat.zero_add]
        refine cell_at g6 ?_
        rcases j with _ | _ | _ | j
        · cases hx; rfl
        · cases hx; rfl
        · cases hx; rfl
        · simp at hx) (Array.getElem?_eq_some_iff.1 g6).1 (by simp) (by simp) (by
          show (Lib.join [Lib.decDigits m, Lib.decDigits r, t] [32]).length ≤ _
          rw [HJN.out, HLZ.out]
          have h1 := HLN1.out
          have h2 := HLN2.out
          have h3 := HTL.out
          have h4 : (DescV.mk kd nd l).nodes = DescV.nodesL l + 1 := DescV.nodes_kids _
          have h5 := HM.out
          simp only [List.length_append, List.length_cons, List.length_nil]
          omega)
      have e : ([bs (Lib.decDigits m), bs (Lib.decDigits r), bs t].map (·.data.toList)) = [Lib.decDigits m, Lib.decDigits r, t] := rfl
      rw [e, HJN.out] at hJ
      exact hJ)
    clear hb6 g6
    go_wp2_with (rw [← hW6]; (go_at_call 24; (with_reducible refine HJ.out.mono ?_); rintro e w7 ⟨rfl, hb7⟩; have HB7 := Lib.hid (HB6.out.trans (hb7.mono HB6.out.size)); clear hb7))
    go_ret2
    exact ⟨by rw [HPE.out]; rfl, HB7.out⟩
  · have HPE : Hid (printE kn kr (.mk kd nd l) = .tuple #[.string ⟨#[]⟩, .int .i64 (forE kn kr (.mk kd nd l))]) := Lib.hid (by unfold printE; rw [if_neg hf])
    generalize forE kn kr (.mk kd nd l) = ce at *
    have hcb : (ce != 0) = true := by simpa using hf
    go_enter Tryz.func9, Tryz.ntmps9
    go_upto_region 1 with fail
    rw [← hW1]
    clear hW1
    go_wp2_with (go_at_call 12; (with_reducible refine HC.out.mono ?_); rintro e w2 ⟨rfl, hb2⟩; have HB2 := Lib.hid (HB.out.trans (hb2.mono HB.out.size)); clear c0 c1 c2 c3 c4 hb2)
    go_ret2
    exact ⟨by rw [HPE.out]; rfl, HB2.out⟩
end Go.Proofs.YtdhkndoglcnllaaGreatDoor.Lex
