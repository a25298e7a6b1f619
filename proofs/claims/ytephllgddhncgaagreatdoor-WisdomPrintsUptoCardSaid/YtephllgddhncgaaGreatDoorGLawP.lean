/- RText25, RChk25, Much24, LawP25: laid into one text. -/
import Derived.Test.YtephllgddhncgaaGreatDoorGPrt
import Derived.Test.YtephllgddhncgaaGreatDoorRSort24
import Derived.Test.YtephllgddhncgaaGreatDoorGTw
import Derived.Test.YtephllgddhncgaaGreatDoorGRef
import Derived.Deep.RegionHeld3
import Derived.Test.YtephllgddhncgaaGreatDoorGEnt
import Derived.Test.YtephllgddhncgaaGreatDoorGBase
import Derived.Test.YtephllgddhncgaaGreatDoorParseW
import Derived.Test.YtephllgddhncgaaGreatDoorLive25
import Derived.WalkKit
import Derived.OpenShut
/- The reference's text of entries. -/
namespace Go.Proofs.YtephllgddhncgaaGreatDoor.Lex
open Go.RowKit Stab
set_option linter.unusedSimpArgs false
set_option linter.unusedVariables false
theorem rlineX (k : Nat) (F : Foot) (kn kr kd nd : Int) (l : List DescV) (a : Option Addr) (n cap : Nat) (w : World) (h : FineX ((kn, kr), .mk kd nd l)) (hl : RowOf (descRd k) 3 40 F w a n cap l) :
    Calls Tryz.prog 29 #[.agg #[.int .i64 kn, .int .i64 kr, .int .i64 kd, .int .i64 nd, .slice a n cap]] w fun e w' => e = .returned (.string (bs (lineX ((kn, kr), .mk kd nd l)))) ∧ Below w.heap.size w w' := by
  have hf : forE kn kr (.mk kd nd l) = 0 := h
  obtain ⟨t, htx⟩ := forE_text hf
  obtain ⟨f1, f2, f3, _, _⟩ := forE_ok hf
  obtain ⟨l1, l2, l3, l4⟩ := lineE_len hf htx
  have h1 := fine_nodes h
  have h2 : (DescV.mk kd nd l).nodes = DescV.nodesL l + 1 := DescV.nodes_kids _
  dsimp only at h1
  have hr := rline_any k F kn.toNat kr.toNat kd nd l a n cap t w (by omega) (by omega) hl (by omega) htx (by rw [size_bs]; omega) (by rw [size_bs]; omega) (by rw [size_bs]; omega)
  rw [show ((kn.toNat : Nat) : Int) = kn by omega, show ((kr.toNat : Nat) : Int) = kr by omega] at hr
  have e : lineX ((kn, kr), .mk kd nd l) = lineE kn kr t := by rw [lineX, htx]; rfl
  rw [e]
  exact hr
set_option maxRecDepth 100000 in
set_option maxHeartbeats 4000000 in
theorem rtext25 (k : Nat) (l : List EntryV) (a : Option Addr) (n cap : Nat) (w : World) (hl : RowOf (entryRd k) 5 56 All w a n cap l) (hf : ∀ x ∈ l, FineX x) (hn : n ≤ 4096) :
    Calls Tryz.prog 11 #[.slice a n cap] w fun e w' => e = .returned (.string (bs (textW l))) ∧ Below w.heap.size w w' := by
  have HLN := Lib.hid hl.len
  have HST := Lib.hid (rsort_any k l a n cap w (by omega) hl)
  have HSF : Hid (∀ x ∈ sortE l, FineX x) := Lib.hid fun x hx => hf x ((sortE_perm l).mem_iff.1 hx)
  have HSL : Hid ((sortE l).length = n) := Lib.hid ((sortE_perm l).length_eq.trans hl.len)
  clear hl hf
  go_enter Tryz.func11, Tryz.ntmps11
  go_upto_region 4 with (go_at_call 13; (with_reducible refine HST.out.mono ?_); rintro e w2 ⟨a2, c2, rfl, hr2, hb2⟩; have HR2 := Lib.hid hr2; have HB2 := Lib.hid hb2; clear hr2 hb2)
  go_loopg [3, 5] n (fun g sv iv wr => ∃ i : Nat, i ≤ n ∧ g = n - i ∧ sv = .string (bs (headW ++ bodyW ((sortE l).take i))) ∧ iv = .int .i64 i ∧ Below w2.heap.size w2 wr)
  case atStart => exact ⟨0, by omega, by omega, rfl, rfl, Below.refl _ _⟩
  case round =>
    obtain ⟨i, hi, rfl, rfl, rfl, hB⟩ := hrel
    obtain ⟨wo, rfl⟩ : ∃ wo : World, wo = wr := ⟨_, rfl⟩
    have HB := Lib.hid hB
    clear hB
    by_cases hlt : i < n
    · have hlti : (i : Int) < (n : Int) := by omega
      have hil : i < (sortE l).length := by rw [HSL.out]; exact hlt
      obtain ⟨b, o, hbw, kn, kd, dk, dn, dl, da, dm, dc, rfl, hx, ⟨p0, p1, p2, p3, p4⟩, _, _, hk⟩ := (HR2.out.keep (entryRd_ok _) (Fix.of_below HB.out)).entry i hil
      have hfx := HSF.out _ (List.getElem_mem hil)
      have HTK := Lib.hid (bodyW_take hil)
      rw [hx] at hfx HTK
      have HC := Lib.hid (rlineX k All kn kd dk dn dl da dm dc wo hfx (descRd_kids hk))
      have HLL := Lib.hid (lineX_len hfx)
      have HTL : Hid ((headW ++ bodyW ((sortE l).take i)).length ≤ 4097 * 1241) := Lib.hid (by
        have h1 := bodyW_len (l := (sortE l).take i) fun x hx => HSF.out x (List.mem_of_mem_take hx)
        have h2 : ((sortE l).take i).length ≤ i := by rw [List.length_take]; omega
        have h3 : ((sortE l).take i).length * 1241 ≤ 4096 * 1241 := Nat.mul_le_mul_right _ (by omega)
        rw [List.length_append, show headW.length = 11 from rfl]
        omega)
      clear hx hfx hk
      generalize lineX ((kn, kd), DescV.mk dk dn dl) = X at *
      have HNX : Hid (bs (headW ++ bodyW ((sortE l).take i)) ++ bs X ++ (⟨#[10]⟩ : ByteArray) = bs (headW ++ bodyW ((sortE l).take (i + 1)))) := Lib.hid (by
        rw [show (⟨#[10]⟩ : ByteArray) = bs [10] from rfl, bs_bs, bs_bs, HTK.out]
        simp only [List.append_assoc])
      have q1 : (bs (headW ++ bodyW ((sortE l).take i))).size ≤ 4097 * 1241 := by rw [size_bs]; exact HTL.out
      have q2 : (bs X).size ≤ 1240 := by rw [size_bs]; exact HLL.out
      generalize bs (headW ++ bodyW ((sortE l).take i)) = S at *
      generalize bs X = T at *
      have t1 : ¬ 9223372036854775807 < S.size + T.size := by omega
      have t2 : ¬ 9223372036854775807 < S.size + T.size + 1 := by omega
      have t3 : (S ++ T).size = S.size + T.size := ByteArray.size_append
      clear q1 q2
      go_wp2_with (go_at_call 29; (with_reducible refine HC.out.mono ?_); rintro e w3 ⟨rfl, hb3⟩; have HB3 := Lib.hid (HB.out.trans (hb3.mono HB.out.size)); clear hb3)
      go_roundg (n - (i + 1))
      case measure => omega
      case rel => exact ⟨i + 1, by omega, rfl, by rw [HNX.out], by go_num, HB3.out⟩
    · obtain rfl : i = n := by omega
      have HE : Hid (bs (headW ++ bodyW ((sortE l).take i)) = bs (textW l)) := Lib.hid (by
        rw [List.take_of_length_le (by rw [HSL.out]; omega)]
        rfl)
      go_wp2_with fail
      go_ret
      exact ⟨by rw [HE.out]; rfl, HB2.out.trans (HB.out.mono HB2.out.size)⟩
end Go.Proofs.YtephllgddhncgaaGreatDoor.Lex
/- The reference's check of entries that are to be told. -/
namespace Go.Proofs.YtephllgddhncgaaGreatDoor.Lex
open Go.RowKit Stab
set_option linter.unusedSimpArgs false
set_option linter.unusedVariables false
theorem rowOf_take {α : Type} {r : Rd α} {size bytes : Nat} {F : Foot} {w : World} {a : Option Addr} {n cap j : Nat} {xs : List α} (h : RowOf r size bytes F w a n cap xs) (hj : j ≤ n) : RowOf r size bytes F w a j cap (xs.take j) :=
  ⟨by rw [List.length_take, h.len]; omega, Nat.le_trans hj h.le, h.max, Nat.le_trans (Nat.mul_le_mul_right _ hj) h.room, h.nil, fun i x hx => h.at_ i x (by
    rw [List.getElem?_take] at hx
    split at hx
    · exact hx
    · cases hx)⟩
theorem nodup_take {l : List EntryV} : (l.map Prod.fst).Nodup ↔ ∀ i (h : i < l.length), (l[i]'h).1 ∉ (l.take i).map Prod.fst := by
  constructor
  · intro hd i h hm
    obtain ⟨y, hy, e⟩ := List.mem_map.1 hm
    obtain ⟨j, hj, rfl⟩ := List.mem_iff_getElem.1 hy
    have hj' : j < i ∧ j < l.length := by rw [List.length_take] at hj; omega
    rw [List.getElem_take] at e
    have h1 : (l.map Prod.fst)[j]? = some (l[i]'h).1 := by rw [List.getElem?_map, List.getElem?_eq_getElem hj'.2, ← e]; rfl
    have h2 : (l.map Prod.fst)[i]? = some (l[i]'h).1 := by rw [List.getElem?_map, List.getElem?_eq_getElem h]; rfl
    have := (List.getElem?_inj (by simpa using hj'.2) hd).1 (h1.trans h2.symm)
    omega
  · intro hall
    rw [List.nodup_iff_pairwise_ne, List.pairwise_iff_getElem]
    intro i j hi hj hij e
    simp only [List.length_map] at hi hj
    simp only [List.getElem_map] at e
    refine hall j hj (List.mem_map.2 ⟨l[i]'hi, ?_, e⟩)
    rw [List.mem_take_iff_getElem]
    exact ⟨i, by omega, rfl⟩
set_option maxRecDepth 100000 in
set_option maxHeartbeats 8000000 in
theorem rchk25 (k : Nat) (l : List EntryV) (a : Option Addr) (n cap : Nat) (w : World) (hl : RowOf (entryRd k) 5 56 All w a n cap l) (hm : ∀ x ∈ l, x.2.nodes ≤ 1048576) (hn : n ≤ 4096) :
    Calls Tryz.prog 9 #[.slice a n cap] w fun e w' => e = .returned (.int .i64 (chkW l)) ∧ Below w.heap.size w w' := by
  have HLN := Lib.hid hl.len
  have HL := Lib.hid hl
  have HM := Lib.hid hm
  clear hl hm
  go_enter Tryz.func9, Tryz.ntmps9
  go_upto_region 2 with fail
  go_loopg [3] n (fun g iv wr => ∃ i : Nat, i ≤ n ∧ g = n - i ∧ iv = .int .i64 i ∧ (∀ j (h : j < l.length), j < i → FineX (l[j]'h)) ∧ Below w.heap.size w wr)
  case atStart => exact ⟨0, by omega, by omega, rfl, fun j h h1 => absurd h1 (by omega), Below.refl _ _⟩
  case round =>
    obtain ⟨i, hi, rfl, rfl, hall, hB⟩ := hrel
    obtain ⟨wo, rfl⟩ : ∃ wo : World, wo = wr := ⟨_, rfl⟩
    have HB := Lib.hid hB
    have HALL := Lib.hid hall
    clear hB hall
    by_cases hlt : i < n
    · have hlti : (i : Int) < (n : Int) := by omega
      have hil : i < l.length := by have := HLN.out; omega
      obtain ⟨b, o, hb, kn, kd, dk, dn, dl, da, dm, dc, rfl, hx, ⟨p0, p1, p2, p3, p4⟩, _, _, hd⟩ := (HL.out.keep (entryRd_ok _) (Fix.of_below HB.out)).entry i hil
      have HMD : Hid (DescV.nodesL dl < 1048576) := Lib.hid (by
        have h := HM.out _ (List.getElem_mem hil)
        rw [hx, DescV.nodes_kids] at h
        exact h)
      have HC : Hid (∀ W, Below wo.heap.size wo W → Calls Tryz.prog 24 #[.agg #[.int .i64 kn, .int .i64 kd, .int .i64 dk, .int .i64 dn, .slice da dm dc]] W fun e w' => e = .returned (.int .i64 (forE kn kd (.mk dk dn dl))) ∧ Below W.heap.size W w') := Lib.hid fun W hW => rcheckE_any k All kn kd dk dn dl da dm dc W ((descRd_kids hd).keep (descRd_ok _) (Fix.of_below hW)) HMD.out (descRd_wf hd).1 (descRd_wf hd).2
      have HCC : Hid (∀ W, Below wo.heap.size wo W → W.cell? ⟨b, o + i * 5, none⟩ = some (.int .i64 kn) ∧ W.cell? ⟨b, o + i * 5 + 1, none⟩ = some (.int .i64 kd) ∧ W.cell? ⟨b, o + i * 5 + 2, none⟩ = some (.int .i64 dk) ∧ W.cell? ⟨b, o + i * 5 + 3, none⟩ = some (.int .i64 dn) ∧ W.cell? ⟨b, o + i * 5 + 4, none⟩ = some (.slice da dm dc)) := Lib.hid fun W hW => by
        have e : ∀ g, W.cell? ⟨b, g, none⟩ = wo.cell? ⟨b, g, none⟩ := fun g => hW.cell (p := ⟨b, g, none⟩) hb
        simp only [e]
        exact ⟨p0, p1, p2, p3, p4⟩
      have HF : Hid (forE (l[i]'hil).1.1 (l[i]'hil).1.2 (l[i]'hil).2 = forE kn kd (.mk dk dn dl)) := Lib.hid (by rw [hx])
      clear hx hd
      by_cases hf : forE kn kd (.mk dk dn dl) = 0
      · have HFX : Hid (FineX (l[i]'hil)) := Lib.hid (by show forE _ _ _ = 0; rw [HF.out]; exact hf)
        rw [hf] at HC
        clear hf
        go_wp2_with (go_at_call 24; (with_reducible refine (HC.out _ (Below.refl _ _)).mono ?_); rintro e w2 ⟨rfl, hb2⟩; have HB2 := Lib.hid (HB.out.trans (hb2.mono HB.out.size)); clear hb2)
        go_roundg (n - (i + 1))
        case measure => omega
        case rel =>
          refine ⟨i + 1, by omega, rfl, by go_num, fun j h hj => ?_, HB2.out⟩
          by_cases hji : j = i
          · subst hji; exact HFX.out
          · exact HALL.out j h (by omega)
      · have HFX : Hid (¬ FineX (l[i]'hil)) := Lib.hid (by show ¬ forE _ _ _ = 0; rw [HF.out]; exact hf)
        have HCK : Hid (chkW l = forE kn kd (.mk dk dn dl)) := Lib.hid (by
          have h := chkW_bad hil HALL.out HFX.out
          rw [HF.out] at h
          exact h)
        generalize forE kn kd (.mk dk dn dl) = f at *
        have hfb : (f != 0) = true := by simpa using hf
        go_upto_region 5 with (go_at_call 24; (with_reducible refine (HC.out _ (Below.refl _ _)).mono ?_); rintro e w2 ⟨rfl, hb2⟩; have HB2 := Lib.hid hb2; clear p0 p1 p2 p3 p4; obtain ⟨p0, p1, p2, p3, p4⟩ := HCC.out w2 hb2; clear hb2)
        go_wp2_with (go_at_call 24; (with_reducible refine (HC.out _ HB2.out).mono ?_); rintro e w3 ⟨rfl, hb3⟩; have HB3 := Lib.hid (HB.out.trans ((HB2.out.trans (hb3.mono HB2.out.size)).mono HB.out.size)); clear hb3)
        go_ret
        exact ⟨by rw [HCK.out]; rfl, HB3.out⟩
    · obtain rfl : i = n := by omega
      have HALLF : Hid (∀ x ∈ l, FineX x) := Lib.hid fun x hx => by
        obtain ⟨j, hj, rfl⟩ := List.mem_iff_getElem.1 hx
        exact HALL.out j hj (by have := HLN.out; omega)
      have HCF := Lib.hid (chkW_fine HALLF.out)
      have HL1 := Lib.hid (HL.out.keep (entryRd_ok _) (Fix.of_below HB.out))
      clear hi hlt
      go_upto_region 7 with fail
      go_loopg [4] i (fun g iv wr => ∃ j : Nat, j ≤ i ∧ g = i - j ∧ iv = .int .i64 j ∧ (∀ q (h : q < l.length), q < j → (l[q]'h).1 ∉ (l.take q).map Prod.fst) ∧ Below wo.heap.size wo wr)
      case atStart => exact ⟨0, by omega, by omega, rfl, fun j h h1 => absurd h1 (by omega), Below.refl _ _⟩
      case round =>
        obtain ⟨j, hj, rfl, rfl, hnd, hBj⟩ := hrel
        obtain ⟨wq, rfl⟩ : ∃ wq : World, wq = wr := ⟨_, rfl⟩
        have HBJ := Lib.hid hBj
        have HND := Lib.hid hnd
        clear hBj hnd
        by_cases hlt : j < i
        · have hlti : (j : Int) < (i : Int) := by omega
          have hj0 : (0 : Int) ≤ (j : Int) := by omega
          have hjl : j < l.length := by have := HLN.out; omega
          have hrq := HL1.out.keep (entryRd_ok _) (Fix.of_below HBJ.out)
          obtain ⟨b, o, hb, kn, kd, dk, dn, dl, da, dm, dc, rfl, hx, ⟨p0, p1, _, _, _⟩, _, _, _⟩ := hrq.entry j hjl
          have HCC : Hid (∀ W, Below wq.heap.size wq W → W.cell? ⟨b, o + j * 5, none⟩ = some (.int .i64 kn) ∧ W.cell? ⟨b, o + j * 5 + 1, none⟩ = some (.int .i64 kd)) := Lib.hid fun W hW => by
            have e : ∀ g, W.cell? ⟨b, g, none⟩ = wq.cell? ⟨b, g, none⟩ := fun g => hW.cell (p := ⟨b, g, none⟩) hb
            simp only [e]
            exact ⟨p0, p1⟩
          have HX : Hid ((l[j]'hjl).1 = (kn, kd)) := Lib.hid (by rw [hx])
          have HRT := Lib.hid (rowOf_take (j := j) hrq (by omega))
          have HLE : Hid (j ≤ cap) := Lib.hid (by have := hrq.le; omega)
          obtain ⟨tb, htb⟩ : ∃ tb : Bool, tb = decide ((kn, kd) ∈ (l.take j).map Prod.fst) := ⟨_, rfl⟩
          have HHS : Hid (∀ W, Below wq.heap.size wq W → Calls Tryz.prog 25 #[.slice (some ⟨b, o, none⟩) j cap, .agg #[.int .i64 kn, .int .i64 kd]] W fun e w' => e = .returned (.bool tb) ∧ Below wq.heap.size wq w') := Lib.hid fun W hW => by
            rw [htb]
            exact (has_any k All (l.take j) (some ⟨b, o, none⟩) j cap kn kd W (HRT.out.keep (entryRd_ok _) (Fix.of_below hW))).mono fun e w' h => ⟨h.1, hW.trans (h.2.mono hW.size)⟩
          have HJL := Lib.hid hjl
          have HTB := Lib.hid htb
          have hbz := Below.refl wq.heap.size wq
          clear hrq hx p0 p1 hb htb
          go_upto_region 9 with fail
          have HS := Lib.hid hbz.drew
          refine wp_region_held (S := fun W => Below wq.heap.size wq W) (by kernel_rfl) ?_
          change wpAnyH _ _ _ _ _ 9 #[false, false, false, false, false, false, false, false, false] _ wq.drew
          (refine wpAnyH_take (i := 0) (v := ?_) rfl (by kernel_rfl) (by kernel_rfl) (by kernel_rfl) (fun _ _ _ h => h) (Or.inl ⟨by rfl, ?_⟩) HS.out ?_; rotate_left 1; (focus (intro w0 hw0; clear hw0; go_simp; try with_reducible rfl)); simp only [Act.put, List.getElem_toArray, List.getElem_cons_zero, List.getElem_cons_succ, List.setIfInBounds_toArray, List.set_cons_zero, List.set_cons_succ])
          (refine wpAnyH_take (i := 1) (v := ?_) rfl (by kernel_rfl) (by kernel_rfl) (by kernel_rfl) (fun _ _ _ h => h) (Or.inl ⟨by rfl, ?_⟩) HS.out ?_; rotate_left 1; (focus (intro w0 hw0; clear hw0; go_simp; try with_reducible rfl)); simp only [Act.put, List.getElem_toArray, List.getElem_cons_zero, List.getElem_cons_succ, List.setIfInBounds_toArray, List.set_cons_zero, List.set_cons_succ])
          refine wpAnyH_take (i := 2) (v := .slice (some ⟨b, o, none⟩) j cap) rfl (by kernel_rfl) (by kernel_rfl) (by kernel_rfl) (fun _ _ _ h => h) (yieldsIf_slice_h rfl 22 _ _ rfl Tryz.underlying22 rfl rfl HLE.out (s := 5) (fun w => by kernel_rfl)) HS.out ?_
          simp only [Act.put, List.getElem_toArray, List.getElem_cons_zero, List.getElem_cons_succ, List.setIfInBounds_toArray, List.set_cons_zero, List.set_cons_succ]
          (refine wpAnyH_take (i := 3) (v := ?_) rfl (by kernel_rfl) (by kernel_rfl) (by kernel_rfl) (fun _ _ _ h => h) (Or.inl ⟨by rfl, ?_⟩) HS.out ?_; rotate_left 1; (focus (intro w0 hw0; clear hw0; go_simp; try with_reducible rfl)); simp only [Act.put, List.getElem_toArray, List.getElem_cons_zero, List.getElem_cons_succ, List.setIfInBounds_toArray, List.set_cons_zero, List.set_cons_succ])
          (refine wpAnyH_take (i := 4) (v := ?_) rfl (by kernel_rfl) (by kernel_rfl) (by kernel_rfl) (fun _ _ _ h => h) (Or.inl ⟨by rfl, ?_⟩) HS.out ?_; rotate_left 1; (focus (intro w0 hw0; clear hw0; go_simp; try with_reducible rfl)); simp only [Act.put, List.getElem_toArray, List.getElem_cons_zero, List.getElem_cons_succ, List.setIfInBounds_toArray, List.set_cons_zero, List.set_cons_succ])
          (refine wpAnyH_take (i := 5) (v := ?_) rfl (by kernel_rfl) (by kernel_rfl) (by kernel_rfl) (fun _ _ _ h => h) (Or.inl ⟨by rfl, ?_⟩) HS.out ?_; rotate_left 1; (focus (intro w0 hw0; clear hw0; go_simp; try with_reducible rfl)); simp only [Act.put, List.getElem_toArray, List.getElem_cons_zero, List.getElem_cons_succ, List.setIfInBounds_toArray, List.set_cons_zero, List.set_cons_succ])
          (refine wpAnyH_take (i := 6) (v := ?_) rfl (by kernel_rfl) (by kernel_rfl) (by kernel_rfl) (fun _ _ _ h => h) (Or.inl ⟨by rfl, ?_⟩) HS.out ?_; rotate_left 1; (focus (intro w0 hw0; clear hw0; go_simp; try with_reducible rfl)); simp only [Act.put, List.getElem_toArray, List.getElem_cons_zero, List.getElem_cons_succ, List.setIfInBounds_toArray, List.set_cons_zero, List.set_cons_succ])
          (refine wpAnyH_take (i := 7) (v := ?_) rfl (by kernel_rfl) (by kernel_rfl) (by kernel_rfl) (fun _ _ _ h => h) (Or.inl ⟨by rfl, ?_⟩) HS.out ?_; rotate_left 1; (focus (intro w0 hw0; obtain ⟨q1, q2⟩ := HCC.out w0 hw0; clear hw0; go_simp; try with_reducible rfl)); simp only [Act.put, List.getElem_toArray, List.getElem_cons_zero, List.getElem_cons_succ, List.setIfInBounds_toArray, List.set_cons_zero, List.set_cons_succ])
          (refine wpAnyH_one (i := 8) (vi := .bool tb) rfl (by kernel_rfl) HS.out ?_ ?_; (focus (intro W K hW hK; (try simp only [Act.put, List.getElem_toArray, List.getElem_cons_zero, List.getElem_cons_succ, List.setIfInBounds_toArray, List.set_cons_zero, List.set_cons_succ]); refine wpOp_step rfl (fun K2 hK2 => ?_); go_simp; refine (HHS.out _ hW).mono ?_; rintro e w' ⟨rfl, hb⟩; exact hK2 _ _ (hK _ hb))); clear HS; intro wn hS; have HS := Lib.hid hS; clear hS; simp only [Act.put, List.getElem_toArray, List.getElem_cons_zero, List.getElem_cons_succ, List.setIfInBounds_toArray, List.set_cons_zero, List.set_cons_succ])
          refine wpAnyH_done (by kernel_rfl) ?_ _
          by_cases hm : (kn, kd) ∈ (l.take j).map Prod.fst
          · have HCK : Hid (chkW l = 11) := Lib.hid (by
              have hd : ¬ (l.map Prod.fst).Nodup := fun hd => by
                have := nodup_take.1 hd j HJL.out
                rw [HX.out] at this
                exact this hm
              rw [HCF.out, if_neg hd])
            have hdt : tb = true := by rw [HTB.out]; exact decide_eq_true hm
            rw [hdt]
            clear hdt hm
            go_wp2_with fail
            go_ret
            exact ⟨by rw [HCK.out]; rfl, HB.out.trans ((HBJ.out.trans (HS.out.mono HBJ.out.size)).mono HB.out.size)⟩
          · have hdt : tb = false := by rw [HTB.out]; exact decide_eq_false hm
            have HNM : Hid ((l[j]'HJL.out).1 ∉ (l.take j).map Prod.fst) := Lib.hid (by rw [HX.out]; exact hm)
            rw [hdt]
            clear hdt hm
            go_wp2_with fail
            go_roundg (i - (j + 1))
            case measure => omega
            case rel =>
              refine ⟨j + 1, by omega, rfl, by go_num, fun q h hq => ?_, HBJ.out.trans (HS.out.mono HBJ.out.size)⟩
              by_cases hqj : q = j
              · subst hqj; exact HNM.out
              · exact HND.out q h (by omega)
        · obtain rfl : j = i := by omega
          have hd : (l.map Prod.fst).Nodup := nodup_take.2 fun q hq => HND.out q hq (by have := HLN.out; omega)
          have HCD : Hid (chkW l = if 65536 < (textW l).length then 12 else 0) := Lib.hid (by rw [HCF.out, if_pos hd])
          have HTX := Lib.hid (rtext25 k l a j cap wq (HL1.out.keep (entryRd_ok _) (Fix.of_below HBJ.out)) HALLF.out hn)
          have HBW : Hid (Below w.heap.size w wq) := Lib.hid (HB.out.trans (HBJ.out.mono HB.out.size))
          clear hd
          generalize textW l = tx at *
          have hsz : (bs tx).size = tx.length := size_bs _
          by_cases hbig : 65536 < tx.length
          · have hbi : (65536 : Int) < (tx.length : Int) := by omega
            rw [if_pos hbig] at HCD
            clear hbig
            go_wp2_with (go_at_call 11; (with_reducible refine HTX.out.mono ?_); rintro e w5 ⟨rfl, hb5⟩; have HB5 := Lib.hid (HBW.out.trans (hb5.mono HBW.out.size)); clear hb5)
            go_ret
            exact ⟨by rw [HCD.out]; rfl, HB5.out⟩
          · have hbi : ¬ (65536 : Int) < (tx.length : Int) := by omega
            rw [if_neg hbig] at HCD
            clear hbig
            go_wp2_with (go_at_call 11; (with_reducible refine HTX.out.mono ?_); rintro e w5 ⟨rfl, hb5⟩; have HB5 := Lib.hid (HBW.out.trans (hb5.mono HBW.out.size)); clear hb5)
            go_ret
            exact ⟨by rw [HCD.out]; rfl, HB5.out⟩
end Go.Proofs.YtephllgddhncgaaGreatDoor.Lex
/- The reference's Much of a row of entries. -/
namespace Go.Proofs.YtephllgddhncgaaGreatDoor.Lex
open Go.RowKit Stab
set_option linter.unusedSimpArgs false
set_option linter.unusedVariables false
def MuchPost (n : Nat) (l : List EntryV) (w : World) (e : Ending) (w' : World) : Prop := ∃ t : Bool, e = .returned (.bool t) ∧ (t = false → n ≤ 30 ∧ ∀ x ∈ l, x.2.nodes ≤ 80) ∧ Below w.heap.size w w'
set_option maxRecDepth 100000 in
set_option maxHeartbeats 4000000 in
theorem much24_any (k : Nat) (l : List EntryV) (a : Option Addr) (n cap : Nat) (w : World) (hl : RowOf (entryRd k) 5 56 All w a n cap l) (hm : ∀ x ∈ l, x.2.nodes ≤ 1048576) :
    Calls Tryz.prog 6 #[.slice a n cap] w (MuchPost n l w) := by
  have HLN := Lib.hid hl.len
  have HL := Lib.hid hl
  have HM := Lib.hid hm
  have hroom := hl.room
  clear hl hm
  go_enter Tryz.func6, Tryz.ntmps6
  go_upto_region 2 with fail
  go_loopg [3] n (fun g iv wr => ∃ i : Nat, i ≤ n ∧ i ≤ 40 ∧ g = n - i ∧ iv = .int .i64 i ∧ (∀ x ∈ l.take i, x.2.nodes ≤ 80) ∧ Below w.heap.size w wr)
  case atStart => exact ⟨0, by omega, by omega, rfl, rfl, by simp, Below.refl _ _⟩
  case round =>
    obtain ⟨i, hi, hi40, rfl, rfl, hall, hB⟩ := hrel
    obtain ⟨wo, rfl⟩ : ∃ wo : World, wo = wr := ⟨_, rfl⟩
    have HALL := Lib.hid hall
    have HB := Lib.hid hB
    clear hall hB
    by_cases hlt : i < n
    · have hlti : (i : Int) < (n : Int) := by omega
      by_cases h40 : i < 40
      · have h40i : (i : Int) < 40 := by omega
        have hil : i < l.length := by rw [HLN.out]; exact hlt
        obtain ⟨b, o, hbw, kn, kd, dk, dn, dl, da, dm, dc, rfl, hx, ⟨p0, p1, p2, p3, p4⟩, _, _, hk⟩ := (HL.out.keep (entryRd_ok _) (Fix.of_below HB.out)).entry i hil
        have HMD : Hid (DescV.nodesL dl < 1048576) := Lib.hid (by
          have h := HM.out _ (List.getElem_mem hil)
          rw [hx, DescV.nodes_kids] at h
          exact h)
        have HC := Lib.hid (much_any k All dk dn dl da dm dc wo (descRd_kids hk) HMD.out)
        have HTK := Lib.hid (List.take_succ_eq_append_getElem hil)
        rw [hx] at HTK
        clear hx hk
        by_cases h80 : 80 < (DescV.mk dk dn dl).nodes
        · have HD : Hid (decide (80 < (DescV.mk dk dn dl).nodes) = true) := Lib.hid (decide_eq_true h80)
          clear h80
          go_wp2_with (go_at_call 15; (with_reducible refine HC.out.mono ?_); rintro e w2 ⟨rfl, hb2⟩; rw [HD.out]; have HB2 := Lib.hid (HB.out.trans (hb2.mono HB.out.size)); clear hb2)
          go_ret
          exact ⟨_, rfl, (fun h => by cases h), HB2.out⟩
        · have HD : Hid (decide (80 < (DescV.mk dk dn dl).nodes) = false) := Lib.hid (decide_eq_false h80)
          have H80 : Hid ((DescV.mk dk dn dl).nodes ≤ 80) := Lib.hid (by omega)
          clear h80
          go_wp2_with (go_at_call 15; (with_reducible refine HC.out.mono ?_); rintro e w2 ⟨rfl, hb2⟩; rw [HD.out]; have HB2 := Lib.hid (HB.out.trans (hb2.mono HB.out.size)); clear hb2)
          go_roundg (n - (i + 1))
          case measure => omega
          case rel =>
            refine ⟨i + 1, by omega, by omega, rfl, by go_num, fun x hx => ?_, HB2.out⟩
            rw [HTK.out] at hx
            rcases List.mem_append.1 hx with hx | hx
            · exact HALL.out x hx
            · rw [List.mem_singleton.1 hx]; exact H80.out
      · have h40i : ¬ (i : Int) < 40 := by omega
        have h40b : decide ((i : Int) < 40) = false := decide_eq_false h40i
        have h30 : (30 : Int) < (n : Int) := by omega
        go_wp2_with fail
        go_ret
        exact ⟨_, rfl, (fun h => by simp at h), HB.out⟩
    · obtain rfl : i = n := by omega
      have HA2 : Hid (∀ x ∈ l, x.2.nodes ≤ 80) := Lib.hid (by have h := HALL.out; rw [List.take_of_length_le (by rw [HLN.out]; omega)] at h; exact h)
      go_wp2_with fail
      go_ret
      exact ⟨_, rfl, (fun h => ⟨by simp at h; omega, HA2.out⟩), HB.out⟩
end Go.Proofs.YtephllgddhncgaaGreatDoor.Lex
/- The law WisdomPrints. -/
namespace Go.Proofs.YtephllgddhncgaaGreatDoor.Lex
open Go.RowKit Go.ChangeShapes Go.WideShapes Stab
set_option linter.unusedSimpArgs false
set_option linter.unusedVariables false
/-- A tree's reading wants no more fuel than it has nodes. -/
theorem descRd_fit : ∀ (k m : Nat) {F : Foot} {w : World} {a : Option Addr} {n c : Nat} {l : List DescV}, RowOf (descRd k) 3 40 F w a n c l → DescV.nodesL l ≤ m → RowOf (descRd m) 3 40 F w a n c l
  | 0, m, F, w, a, n, c, l, h, _ => ⟨h.len, h.le, h.max, h.room, h.nil, fun i x hx => by
    obtain ⟨b, off, cs, h1, h2, h3, h4, h5, hr⟩ := h.at_ i x hx
    exact hr.elim⟩
  | j + 1, m, F, w, a, n, c, l, h, hm => ⟨h.len, h.le, h.max, h.room, h.nil, fun i x hx => by
    obtain ⟨b, off, cs, h1, h2, h3, h4, h5, a', n', c', e, w1, w2, hk⟩ := h.at_ i x hx
    obtain ⟨hil, hxe⟩ := List.getElem?_eq_some_iff.1 hx
    have s1 := DescV.nodesL_take_succ hil
    have s2 := DescV.nodesL_take_le l (i + 1)
    have s3 := DescV.nodes_kids x
    rw [hxe] at s1
    obtain ⟨m, rfl⟩ : ∃ q, m = q + 1 := ⟨m - 1, by omega⟩
    exact ⟨b, off, cs, h1, h2, h3, h4, h5, a', n', c', e, w1, w2, descRd_fit j m hk (by omega)⟩⟩
theorem entryRow_fit {k : Nat} {F : Foot} {w : World} {a : Option Addr} {n c : Nat} {l : List EntryV} (h : RowOf (entryRd k) 5 56 F w a n c l) (m : Nat) (hm : ∀ x ∈ l, DescV.nodesL x.2.kids ≤ m) : RowOf (entryRd (m + 1)) 5 56 F w a n c l :=
  ⟨h.len, h.le, h.max, h.room, h.nil, fun i x hx => by
    obtain ⟨b, off, cs, h1, h2, h3, h4, h5, c1, c2, hc, hk, hd⟩ := h.at_ i x hx
    refine ⟨b, off, cs, h1, h2, h3, h4, h5, c1, c2, hc, hk, ?_⟩
    cases k with
    | zero => exact hd.elim
    | succ k =>
      obtain ⟨a', n', c', e, w1, w2, hr⟩ := hd
      exact ⟨a', n', c', e, w1, w2, descRd_fit k m hr (hm x (List.mem_of_getElem? hx))⟩⟩
set_option maxRecDepth 100000 in
set_option maxHeartbeats 8000000 in
theorem prints25 (k : Nat) (l : List EntryV) (a : Option Addr) (n cap : Nat) (w : World) (hl : RowOf (entryRd k) 5 56 All w a n cap l) (hk : k ≤ 1048576) (hm : ∀ x ∈ l, x.2.nodes ≤ 1048576) (hx : HasMax w) (ht : HasTab w) :
    Calls Tryz.prog 3 #[.slice a n cap] w fun e w' => e = .returned (.bool true) ∧ Below w.heap.size w w' := by
  have HX := Lib.hid hx
  have HT := Lib.hid ht
  have HL := Lib.hid hl
  have HK := Lib.hid hk
  have HM := Lib.hid hm
  have HMU := Lib.hid (much24_any k l a n cap w hl hm)
  have HSL : Hid ((sortE l).length = n) := Lib.hid ((sortE_perm l).length_eq.trans hl.len)
  clear hx ht hl hm hk
  unfold MuchPost at HMU
  go_enter Tryz.func3, Tryz.ntmps3
  go_upto_if 10 with (go_at_call 6; (with_reducible refine HMU.out.mono ?_); rintro e w1 ⟨t, rfl, htm, hb1⟩; have HTM := Lib.hid htm; have HB1 := Lib.hid hb1; clear htm hb1)
  cases t with
  | true =>
    go_wp2_with (go_at_call 7; (with_reducible refine (live25 _ (HX.out.below HB1.out) (HT.out.below HB1.out)).mono ?_); rintro e w2 ⟨rfl, hb2⟩; have HB2 := Lib.hid (HB1.out.trans (hb2.mono HB1.out.size)); clear hb2)
    go_ret
    exact ⟨rfl, HB2.out⟩
  | false =>
    have HN : Hid (n ≤ 4096) := Lib.hid (by have := (HTM.out rfl).1; omega)
    have HPR := Lib.hid (wprint k All l a n cap w1 (HL.out.keep (entryRd_ok _) (Fix.of_below HB1.out)) HK.out HN.out (HX.out.below HB1.out) (HT.out.below HB1.out))
    have HCK : Hid (∀ W, Below w.heap.size w W → Calls Tryz.prog 9 #[.slice a n cap] W fun e w' => e = .returned (.int .i64 (chkW l)) ∧ Below W.heap.size W w') := Lib.hid fun W hW => rchk25 k l a n cap W (HL.out.keep (entryRd_ok _) (Fix.of_below hW)) HM.out HN.out
    by_cases hc : chkW l = 0
    · obtain ⟨hf, hd, hlen⟩ := chkW_ok hc
      have hpv : printWV l = .tuple #[.string (bs (textW l)), .int .i64 0] := by rw [printWV, if_pos hc]
      rw [hpv] at HPR
      rw [hc] at HCK
      have HPA : Hid (∀ W, HasMax W → Calls Tryz.prog 10 #[.string (bs (textW l))] W fun e w' => ∃ a c, e = .returned (.tuple #[.slice a n c, .int .i64 0, .int .i64 0]) ∧ RowOf (entryRd 16385) 5 56 (From W.heap.size) w' a n c (sortE l) ∧ Below W.heap.size W w') := Lib.hid fun W h => by
        have h := wparse (bs (textW l)) W h
        unfold PPost at h
        rw [data_bs, parseW_text hf hd hlen] at h
        dsimp only at h
        rw [HSL.out] at h
        exact h
      have HTX : Hid (∀ W, Below w.heap.size w W → Calls Tryz.prog 11 #[.slice a n cap] W fun e w' => e = .returned (.string (bs (textW l))) ∧ Below W.heap.size W w') := Lib.hid fun W hW => rtext25 k l a n cap W (HL.out.keep (entryRd_ok _) (Fix.of_below hW)) hf HN.out
      have HST : Hid (∀ W, Below w.heap.size w W → Calls Tryz.prog 13 #[.slice a n cap] W (RSortPost k n l W)) := Lib.hid fun W hW => rsort_any k l a n cap W (by have := HN.out; omega) (HL.out.keep (entryRd_ok _) (Fix.of_below hW))
      have HFN : Hid (∀ x ∈ sortE l, DescV.nodesL x.2.kids ≤ 16384) := Lib.hid fun x hx => by
        have h1 := fine_nodes (hf x ((sortE_perm l).mem_iff.1 hx))
        have h2 := DescV.nodes_kids x.2
        omega
      clear hc hf hd hlen hpv
      unfold RSortPost at HST
      generalize bs (textW l) = T at *
      have htt : (T.toList == T.toList) = true := by simp
      go_wp2_with (first
        | (go_at_call 8; (with_reducible refine HPR.out.mono ?_); rintro e w2 ⟨rfl, hb2⟩; have HB2 := Lib.hid (HB1.out.trans (hb2.mono HB1.out.size)); clear hb2)
        | (go_at_call 9; (with_reducible refine (HCK.out _ HB2.out).mono ?_); rintro e w3 ⟨rfl, hb3⟩; have HB3 := Lib.hid (HB2.out.trans (hb3.mono HB2.out.size)); clear hb3)
        | (go_at_call 10; (with_reducible refine (HPA.out _ (HX.out.below HB3.out)).mono ?_); rintro e w4 ⟨a4, c4, rfl, hr4, hb4⟩; have HB4 := Lib.hid (HB3.out.trans (hb4.mono HB3.out.size)); have HR4 := Lib.hid hr4; clear hb4 hr4)
        | (go_at_call 11; (with_reducible refine (HTX.out _ HB4.out).mono ?_); rintro e w5 ⟨rfl, hb5⟩; have HB5 := Lib.hid (HB4.out.trans (hb5.mono HB4.out.size)); have HR45 := Lib.hid (HR4.out.keep (entryRd_ok _) (Fix.of_below hb5)); clear hb5)
        | (go_at_call 13; (with_reducible refine (HST.out _ HB5.out).mono ?_); rintro e w6 ⟨a6, c6, rfl, hr6, hb6⟩; have HB6 := Lib.hid (HB5.out.trans (hb6.mono HB5.out.size)); have HR46 := Lib.hid (HR45.out.keep (entryRd_ok _) (Fix.of_below hb6)); have HR6 := Lib.hid (entryRow_fit hr6 16384 HFN.out); clear hb6 hr6)
        | (go_at_call 12; (with_reducible refine (all24_eq 16385 _ _ (sortE l) _ _ _ _ _ _ HR46.out HR6.out).mono ?_); rintro e w7 ⟨rfl, hb7⟩; have HB7 := Lib.hid (HB6.out.trans (hb7.mono HB6.out.size)); clear hb7)
        | (go_at_call 7; (with_reducible refine (live25 _ (HX.out.below HB7.out) (HT.out.below HB7.out)).mono ?_); rintro e w8 ⟨rfl, hb8⟩; have HB8 := Lib.hid (HB7.out.trans (hb8.mono HB7.out.size)); clear hb8))
      go_ret
      exact ⟨rfl, HB8.out⟩
    · have hpv : printWV l = .tuple #[.string ⟨#[]⟩, .int .i64 (chkW l)] := by rw [printWV, if_neg hc]
      rw [hpv] at HPR
      generalize chkW l = ck at *
      have hcb : (ck != 0) = true := by simpa using hc
      have hcc : (ck != ck) = false := by simp
      clear hc hpv
      go_wp2_with (first
        | (go_at_call 8; (with_reducible refine HPR.out.mono ?_); rintro e w2 ⟨rfl, hb2⟩; have HB2 := Lib.hid (HB1.out.trans (hb2.mono HB1.out.size)); clear hb2)
        | (go_at_call 9; (with_reducible refine (HCK.out _ HB2.out).mono ?_); rintro e w3 ⟨rfl, hb3⟩; have HB3 := Lib.hid (HB2.out.trans (hb3.mono HB2.out.size)); clear hb3)
        | (go_at_call 7; (with_reducible refine (live25 _ (HX.out.below HB3.out) (HT.out.below HB3.out)).mono ?_); rintro e w4 ⟨rfl, hb4⟩; have HB4 := Lib.hid (HB3.out.trans (hb4.mono HB3.out.size)); clear hb4))
      go_ret
      exact ⟨rfl, HB4.out⟩
theorem le_sum25 {α : Type} (f : α → Nat) : ∀ {l : List α} {x : α}, x ∈ l → f x ≤ (l.map f).sum
  | y :: l, x, h => by
    rw [List.map_cons, List.sum_cons]
    rcases List.mem_cons.1 h with rfl | h
    · omega
    · have := le_sum25 f h
      omega
set_option maxRecDepth 100000 in
theorem prints25_open {H : Type} {enc : TypeId × Value → H} {w : World} {b0 : Nat} {s0 : Nat → Bool} {e0 : Bool} {v0 : Value} {d0 : DataW H} {p0 : List MemPlace} {ww : World} {rr : Reach} {bb : Nat}
    (hv0 : Value.okWide Tryz.prog ww rr bb 22 v0) (h0 : DataW.Trod enc Tryz.prog w b0 s0 e0 22 v0 d0 p0) (q0 : ∀ q ∈ DataW.weights Tryz.prog 22 d0, q ≤ reachBytes) (hb : Rows.uptoBulk d0 ≤ 1048576) (hx : HasMax w) (ht : HasTab w) :
    Calls Tryz.prog 3 #[v0] w fun e w' => e = .returned (.bool true) ∧ Below w.heap.size w w' := by
  obtain ⟨a, n, c, rfl⟩ := okWide_slice Tryz.underlying22 hv0
  obtain ⟨f0, h0⟩ := h0
  obtain ⟨l, ⟨a', n', cap', e, hr⟩, hm⟩ := (ob_entries f0).get enc w b0 s0 e0 f0 _ _ (by omega) h0 q0
  have e' : Value.slice a n c = .slice a' n' cap' := by
    have : [Value.slice a n c] = [.slice a' n' cap'] := e
    simpa using this
  cases e'
  have hmm : ∀ x ∈ l, x.2.nodes ≤ 1048576 := fun x hxl => Nat.le_trans (le_sum25 (fun y : EntryV => y.2.nodes) hxl) (Nat.le_trans hm hb)
  have hk : ∀ x ∈ l, DescV.nodesL x.2.kids ≤ 1048575 := fun x hxl => by
    have h1 := hmm x hxl
    have h2 := DescV.nodes_kids x.2
    omega
  exact prints25 1048576 l a n c w (entryRow_fit hr 1048575 hk) (Nat.le_refl _) hmm hx ht
end Go.Proofs.YtephllgddhncgaaGreatDoor.Lex
