/- RParse25, LawR25: laid into one text. -/
import Derived.Test.YtephllgddhncgaaGreatDoorParseW
import Derived.Test.YtephllgddhncgaaGreatDoorGTw
import Derived.Test.YtephllgddhncgaaGreatDoorGRef
import Derived.Test.YtephllgddhncgaaGreatDoorRSort24
import Derived.OwnWalk
import Derived.Test.YtephllgddhncgaaGreatDoorLive25
/- The reference's Parse of a text. -/
namespace Go.Proofs.YtephllgddhncgaaGreatDoor.Lex
open Go.RowKit Stab
set_option linter.unusedSimpArgs false
set_option linter.unusedVariables false
def RPPost (s : List UInt8) (w : World) (e : Ending) (w' : World) : Prop :=
  ∃ a c, e = .returned (.tuple #[.slice a (parseW s).2.2.length c, .int .i64 (parseW s).2.1, .int .i64 (parseW s).1]) ∧ RowOf (entryRd 16385) 5 56 All w' a (parseW s).2.2.length c (parseW s).2.2 ∧ Below w.heap.size w w'
theorem rpp_bad {s : List UInt8} {w w' : World} {k n : Int} (h : parseW s = (k, n, [])) (hb : Below w.heap.size w w') : RPPost s w (.returned (.tuple #[.slice none 0 0, .int .i64 n, .int .i64 k])) w' :=
  ⟨none, 0, by rw [h]; rfl, by rw [h]; exact RowOf.empty _ _ _ _ _, hb⟩
/-- A first line that is the head makes the prefix. -/
theorem head_of {s : ByteArray} {e : Nat} (he : FirstLF s 0 e) : headW <+: s.data.toList ↔ (s.extract 0 e).data.toList = [100, 117, 108, 99, 105, 109, 101, 114, 32, 49] := by
  constructor
  · intro hh
    obtain ⟨h1, h2⟩ := head_first hh
    obtain rfl := he.det h1
    obtain ⟨t, ht⟩ := hh
    rw [ext_drop, ← ht]
    rfl
  · intro h
    have hl := lineOf_yes he
    obtain ⟨h1, _⟩ := lineOf_some hl
    rw [List.drop_zero, h] at h1
    exact ⟨s.data.toList.drop (e + 1), h1.symm⟩
set_option maxRecDepth 100000 in
set_option maxHeartbeats 8000000 in
theorem rparse25 (s : ByteArray) (w : World) (hx : HasMax w) : Calls Tryz.prog 14 #[.string s] w (RPPost s.data.toList w) := by
  have HX := Lib.hid hx
  clear hx
  by_cases hbig : 65536 < s.size
  · have HP : Hid (parseW s.data.toList = (12, 0, [])) := Lib.hid (by rw [parseW, if_pos (by simpa using hbig)])
    have hb' : (65536 : Int) < (s.size : Int) := by omega
    clear hbig
    go_enter Tryz.func14, Tryz.ntmps14
    go_wp2_with fail
    go_ret3
    exact rpp_bad HP.out (Below.refl _ _)
  · have hs : s.size ≤ 65536 := by omega
    have hs9 : s.size ≤ 9223372036854775800 := by omega
    have hb' : ¬ (65536 : Int) < (s.size : Int) := by omega
    clear hbig
    rcases firstLF_or s 0 with ⟨e, he⟩ | hno
    · by_cases hh : headW <+: s.data.toList
      · have HH := Lib.hid hh
        have heq := (head_of he).1 hh
        have hff := (head_first hh).1
        obtain rfl := he.det hff
        have HLN : Hid (Calls Tryz.prog 32 #[.string s, .int .i64 0] w fun e w' => e = .returned (.tuple #[.string (s.extract 0 10), .int .i64 11, .bool true]) ∧ w = w') := Lib.hid (rline_yes s 0 10 w hs9 he)
        have HEX : Hid (s.extract 0 10 = ⟨#[100, 117, 108, 99, 105, 109, 101, 114, 32, 49]⟩) := Lib.hid (by
          have : (s.extract 0 10).data.toList = (ByteArray.mk #[100, 117, 108, 99, 105, 109, 101, 114, 32, 49]).data.toList := heq
          exact ByteArray.ext (Array.toList_inj.1 this))
        have h11 := (head_first hh).2
        have HAT : Hid (AtW s (1, 11, [])) := Lib.hid (by
          have h := (atW_next (i' := (1, 0 + (s.extract 0 10).size + 1, [])) (x := (s.extract 0 10, true)) hs hh (atW_start s) (.inl ⟨rfl, 10, he, rfl⟩) rfl).1
          rw [ext_size (by omega) (by omega)] at h
          exact h)
        clear hh heq he hff
        have hll : (#[100, 117, 108, 99, 105, 109, 101, 114, 32, 49].toList == #[100, 117, 108, 99, 105, 109, 101, 114, 32, (49 : UInt8)].toList) = true := by decide
        go_enter Tryz.func14, Tryz.ntmps14
        go_upto_region 8 with (go_at_call 32; (with_reducible refine HLN.out.mono ?_); rintro e2 w2 ⟨rfl, rfl⟩; rw [HEX.out])
        go_loopg [6, 8, 9] (s.size - 11) (fun g av lv nv wr => ∃ i : StW, i.1 ≠ 0 ∧ AtW s i ∧ g = s.size - i.2.1 ∧ av = .int .i64 (i.2.1 : Int) ∧ (∃ a c xs, lv = .slice a i.2.2.length c ∧ GroE 16385 w.heap.size wr (.slice a i.2.2.length c) i.2.2 xs) ∧ nv = .int .i64 ((i.1 : Int) + 1) ∧ Below w.heap.size w wr)
        case atStart => exact ⟨(1, 11, []), by simp, HAT.out, rfl, rfl, ⟨none, 0, [], rfl, Gro.nil _⟩, rfl, Below.refl _ _⟩
        case round =>
          obtain ⟨⟨q, p, acc⟩, hq0, hat, rfl, rfl, ⟨sa, sc, xs, rfl, hg⟩, rfl, hB⟩ := hrel
          obtain ⟨wo, rfl⟩ : ∃ wo : World, wo = wr := ⟨_, rfl⟩
          have HB := Lib.hid hB
          have hg' : GroE 16385 w.heap.size wo (.slice sa acc.length sc) acc xs := hg
          have HG := Lib.hid hg'
          have HA := Lib.hid hat
          have HQ := Lib.hid hq0
          have hcnt : q ≤ 65536 := by have h1 : q ≤ p := hat.count; have h2 : p ≤ s.size := hat.pos; omega
          have HAL : Hid (acc.length ≤ 65536) := Lib.hid (by have h1 : acc.length ≤ q := hat.len; omega)
          have hp : p ≤ s.size := hat.pos
          clear hB hg hg' hat hq0
          dsimp only
          by_cases hlt : p < s.size
          · rcases firstLF_or s p with ⟨e, he⟩ | hno
            · have h1 := he.le
              have h2 := he.lt
              have HL := Lib.hid (rline_yes s p e wo hs9 he)
              have HOK : Hid (OkW s (q, p, acc) (s.extract p e, true)) := Lib.hid (.inl ⟨rfl, e, he, rfl⟩)
              have hz : (s.extract p e).size = e - p := ext_size h1 (by omega)
              have HZ := Lib.hid hz
              have HNX : Hid (nextW (q, p, acc) (s.extract p e, true) = if (parseE (s.extract p e).data.toList).1 ≠ 0 then none else if (parseE (s.extract p e).data.toList).2.1 ∈ acc.map Prod.fst then none else some (q + 1, p + (s.extract p e).size + 1, acc ++ [(parseE (s.extract p e).data.toList).2])) := Lib.hid (by
                unfold nextW
                rw [if_neg (by simp), if_neg HQ.out])
              have HER : Hid (errW (s.extract p e, true) = if (parseE (s.extract p e).data.toList).1 ≠ 0 then (parseE (s.extract p e).data.toList).1 else 11) := Lib.hid (by unfold errW; rw [if_neg (by simp)])
              have HFX : Hid ((parseE (s.extract p e).data.toList).1 = 0 → FineX (parseE (s.extract p e).data.toList).2) := Lib.hid fun h => (parseE_inv h).1
              have HEP := Lib.hid (reparse (s.extract p e) wo (by omega) (HX.out.below HB.out))
              unfold EPost at HEP
              clear he hz
              generalize parseE (s.extract p e).data.toList = E at *
              obtain ⟨k, ⟨kn, kr⟩, d⟩ := E
              obtain ⟨dk, dn, dl⟩ := d
              dsimp only at HNX HER HFX HEP
              simp only [DescV.kind, DescV.n, DescV.kids] at HEP
              by_cases hk : k = 0
              · subst hk
                have HFX0 := Lib.hid (HFX.out rfl)
                go_upto_region 16 with (first
                  | (go_at_call 32; (with_reducible refine HL.out.mono ?_); rintro e1 w1 ⟨rfl, rfl⟩)
                  | (go_at_call 33; (with_reducible refine HEP.out.mono ?_); rintro e1 Wb ⟨a, m, c, rfl, hr, hb⟩; have HBAB := Lib.hid hb; have HR := Lib.hid hr; clear hb hr))
                obtain ⟨Wc, hWc⟩ : ∃ Wc, Wc = Wb.alloc (.cells #[.int .i64 kn, .int .i64 kr, .int .i64 dk, .int .i64 dn, .slice a m c] 44) := ⟨_, rfl⟩
                have hbc : Below Wb.heap.size Wb Wc := by rw [hWc]; exact (Below.refl _ _).alloc (Nat.le_refl _) _
                have hgc : Wc.heap[Wb.heap.size]? = some (.cells #[.int .i64 kn, .int .i64 kr, .int .i64 dk, .int .i64 dn, .slice a m c] 44 (0, 0)) := by rw [hWc]; exact heap_alloc_new Wb _
                have hzc : Wb.heap.size < Wc.heap.size := by rw [hWc]; simp
                have hbac : Below wo.heap.size wo Wc := HBAB.out.trans (hbc.mono HBAB.out.size)
                have HBC := Lib.hid hbac
                have HGC := Lib.hid (HG.out.below (entryRd_ok _) hbac)
                have HBB := Lib.hid hbc
                have hrr := HGC.out.rowOf (bytes := 56) (entryRd_ok _) (by omega) (by have := HAL.out; omega)
                obtain ⟨va, vc, hva, hvr⟩ := hrr
                cases hva
                have HHS := Lib.hid (has_any 16385 _ acc sa acc.length sc kn kr Wc hvr)
                have c0 : Wc.cell? ⟨Wb.heap.size, 0, none⟩ = some (.int .i64 kn) := cell_at hgc rfl
                have c1 : Wc.cell? ⟨Wb.heap.size, 1, none⟩ = some (.int .i64 kr) := cell_at hgc rfl
                have HEC : Hid (∀ W, Below Wc.heap.size Wc W → W.cell? ⟨Wb.heap.size, 0, none⟩ = some (.int .i64 kn) ∧ W.cell? ⟨Wb.heap.size, 1, none⟩ = some (.int .i64 kr) ∧ W.cell? ⟨Wb.heap.size, 2, none⟩ = some (.int .i64 dk) ∧ W.cell? ⟨Wb.heap.size, 3, none⟩ = some (.int .i64 dn) ∧ W.cell? ⟨Wb.heap.size, 4, none⟩ = some (.slice a m c)) := Lib.hid fun W hW => by
                  have e := (hW.block _ hzc).trans hgc
                  exact ⟨cell_at e rfl, cell_at e rfl, cell_at e rfl, cell_at e rfl, cell_at e rfl⟩
                have HWO : Hid (w.heap.size ≤ wo.heap.size) := Lib.hid HB.out.size
                rw [← hWc]
                clear hWc hbc hgc hzc hbac hvr
                by_cases hm : (kn, kr) ∈ acc.map Prod.fst
                · have HNX' : Hid (nextW (q, p, acc) (s.extract p e, true) = none) := Lib.hid (by rw [HNX.out, if_neg (by simp), if_pos hm])
                  have HST := Lib.hid (atW_stop HH.out HA.out HOK.out HNX'.out).2
                  have HER' : Hid (errW (s.extract p e, true) = 11) := Lib.hid (by rw [HER.out, if_neg (by simp)])
                  rw [HER'.out] at HST
                  rw [decide_eq_true hm] at HHS
                  clear hm
                  go_wp2_with (go_at_call 25; (with_reducible refine HHS.out.mono ?_); rintro e1 Wd ⟨rfl, hbd⟩; have HBD := Lib.hid (HB.out.trans ((HBC.out.trans (hbd.mono HBC.out.size)).mono HB.out.size)); clear hbd c0 c1)
                  go_ret3
                  exact rpp_bad HST.out HBD.out
                · have HNX' : Hid (nextW (q, p, acc) (s.extract p e, true) = some (q + 1, p + (s.extract p e).size + 1, acc ++ [((kn, kr), DescV.mk dk dn dl)])) := Lib.hid (by rw [HNX.out, if_neg (by simp), if_neg hm])
                  have HNA := Lib.hid (atW_next hs HH.out HA.out HOK.out HNX'.out)
                  rw [decide_eq_false hm] at HHS
                  clear hm
                  go_upto_region 18 with (go_at_call 25; (with_reducible refine HHS.out.mono ?_); rintro e1 Wd ⟨rfl, hbd⟩; have HBD := Lib.hid hbd; clear c0 c1; obtain ⟨c0, c1, c2, c3, c4⟩ := HEC.out Wd hbd; clear hbd)
                  have HGD := Lib.hid (HGC.out.below (entryRd_ok _) HBD.out)
                  have HZD : Hid (w.heap.size ≤ Wd.heap.size) := Lib.hid (by have := HBD.out.size; have := HBC.out.size; have := HWO.out; omega)
                  have hrd : Hid (entryRd 16385 (fun b => w.heap.size ≤ b ∧ some b ≠ (Value.slice sa acc.length sc).ownBlock) Wd [.int .i64 kn, .int .i64 kr, .int .i64 dk, .int .i64 dn, .slice a m c] ((kn, kr), .mk dk dn dl)) := Lib.hid (by
                    refine (entryRd_ok _).mono (fine_rd HFX0.out (HR.out.keep (descRd_ok _) (Fix.of_below (HBB.out.trans (HBD.out.mono HBB.out.size))))) fun b _ hf => ⟨by have h1 := HWO.out; have hf' : wo.heap.size ≤ b := hf; omega, fun e => ?_⟩
                    have h1 := (HG.out.row.lt b e.symm).2
                    have hf' : wo.heap.size ≤ b := hf
                    omega)
                  go_wp2_with (at_builtin; refine wpl_append_at rfl _ _ 22 rfl entElemG (.slice sa acc.length sc) _ xs rfl _ _ _ _ rfl (own_below HGD.out.row ((Below.refl _ _).alloc (Nat.le_refl _) _)) (src_new3 [.int .i64 kn, .int .i64 kr, .int .i64 dk, .int .i64 dn, .slice a m c] 44 5 rfl one5) (by have := HAL.out; unfold maxLen; omega) (by have := HAL.out; omega) (by have := HZD.out; simp; omega) ?_; intro v' W5 ho hgr hat5; obtain ⟨va, vc, rfl⟩ := own_slice ho; have HO := Lib.hid ho; have HGR := Lib.hid hgr; have HAT5 := Lib.hid hat5; clear ho hgr hat5)
                  go_roundg (s.size - (e + 1))
                  case measure => omega
                  case rel =>
                    have he1 : p + (s.extract p e).size + 1 = e + 1 := by have := HZ.out; omega
                    have hna := HNA.out.1
                    rw [he1] at hna
                    have hba : Below Wd.heap.size Wd (Wd.alloc (.cells #[.int .i64 kn, .int .i64 kr, .int .i64 dk, .int .i64 dn, .slice a m c] 44)) := (Below.refl _ _).alloc (Nat.le_refl _) _
                    have hg5 := Gro.add (entryRd_ok _) (HGD.out.below (entryRd_ok _) hba) ((entryRd_ok _).keep hrd.out (Fix.of_below hba)) HO.out HGR.out HAT5.out
                    have hbw : Below w.heap.size w Wd := HB.out.trans ((HBC.out.trans (HBD.out.mono HBC.out.size)).mono HB.out.size)
                    have hb5 : Below w.heap.size w W5 := (hbw.alloc hbw.size _).grown HGR.out (by have := hbw.size; simp; omega) fun b hb => own_lt HGD.out.row b hb
                    refine ⟨(q + 1, e + 1, acc ++ [((kn, kr), DescV.mk dk dn dl)]), by simp, hna, rfl, by go_num, ⟨va, vc, xs ++ [.int .i64 kn, .int .i64 kr, .int .i64 dk, .int .i64 dn, .slice a m c], ?_, ?_⟩, by go_num, hb5⟩
                    · simp
                    · have hl : (acc ++ [((kn, kr), DescV.mk dk dn dl)]).length = acc.length + 1 := by simp
                      dsimp only
                      rw [hl]
                      exact hg5
              · have hkb : (k != 0) = true := by simpa using hk
                have HNX' : Hid (nextW (q, p, acc) (s.extract p e, true) = none) := Lib.hid (by rw [HNX.out, if_pos hk])
                have HST := Lib.hid (atW_stop HH.out HA.out HOK.out HNX'.out).2
                have HER' : Hid (errW (s.extract p e, true) = k) := Lib.hid (by rw [HER.out, if_pos hk])
                rw [HER'.out] at HST
                go_wp2_with (first
                  | (go_at_call 32; (with_reducible refine HL.out.mono ?_); rintro e1 w1 ⟨rfl, rfl⟩)
                  | (go_at_call 33; (with_reducible refine HEP.out.mono ?_); rintro e1 Wb ⟨a, m, c, rfl, hr, hb⟩; have HBAB := Lib.hid (HB.out.trans (hb.mono HB.out.size)); clear hb hr))
                go_ret3
                exact rpp_bad HST.out (HBAB.out.alloc HBAB.out.size _)
            · have HL := Lib.hid (rline_no s p wo hs9 (.inr fun j h1 h2 => hno j (by omega) h2))
              have HOK : Hid (OkW s (q, p, acc) (s.extract p s.size, false)) := Lib.hid (.inr ⟨rfl, hlt, hno, rfl⟩)
              have HST := Lib.hid (atW_stop HH.out HA.out HOK.out rfl).2
              clear hno
              go_wp2_with (go_at_call 32; (with_reducible refine HL.out.mono ?_); rintro e1 w1 ⟨rfl, rfl⟩)
              go_ret3
              exact rpp_bad HST.out HB.out
          · have HFIN := Lib.hid (atW_fin HH.out HA.out (by dsimp only; omega))
            have hrr := HG.out.rowOf (bytes := 56) (entryRd_ok _) (by omega) (by have := HAL.out; omega)
            obtain ⟨va, vc, hva, hvr⟩ := hrr
            cases hva
            have HSO := Lib.hid (rsort_any 16385 acc sa acc.length sc wo (by have := HAL.out; omega) (hvr.mono (entryRd_ok _) fun _ _ _ => trivial))
            clear hvr
            go_wp2_with (go_at_call 13; (with_reducible refine HSO.out.mono ?_); rintro e1 w3 ⟨a3, c3, rfl, hr3, hb3⟩; have HR3 := Lib.hid hr3; have HB3 := Lib.hid (HB.out.trans (hb3.mono HB.out.size)); clear hr3 hb3)
            go_ret3
            refine ⟨a3, c3, ?_, ?_, HB3.out⟩
            · rw [HFIN.out]; dsimp only; rw [HR3.out.len]; rfl
            · rw [HFIN.out]; dsimp only; rw [HR3.out.len]; exact HR3.out
      · have HP : Hid (parseW s.data.toList = (9, 1, [])) := Lib.hid (by rw [parseW, if_neg (by simpa using hs), if_neg hh])
        have HLN : Hid (Calls Tryz.prog 32 #[.string s, .int .i64 0] w fun e2 w' => e2 = .returned (.tuple #[.string (s.extract 0 e), .int .i64 (e + 1), .bool true]) ∧ w = w') := Lib.hid (rline_yes s 0 e w hs9 he)
        have hne : ((s.extract 0 e).toList == [100, 117, 108, 99, 105, 109, 101, 114, 32, 49]) = false := by
          rw [ByteArray.toList_eq, beq_eq_false_iff_ne]
          exact fun h => hh ((head_of he).2 h)
        clear hh he
        go_enter Tryz.func14, Tryz.ntmps14
        go_wp2_with (go_at_call 32; (with_reducible refine HLN.out.mono ?_); rintro e2 w2 ⟨rfl, rfl⟩)
        go_ret3
        exact rpp_bad HP.out (Below.refl _ _)
    · have HP : Hid (parseW s.data.toList = (9, 1, [])) := Lib.hid (by
        have hh : ¬ headW <+: s.data.toList := fun hh => hno 10 (by omega) (head_first hh).1.lt (head_first hh).1.here
        rw [parseW, if_neg (by simpa using hs), if_neg hh])
      have HLN := Lib.hid (rline_no s 0 w hs9 (.inr fun j h1 h2 => hno j (by omega) h2))
      clear hno
      go_enter Tryz.func14, Tryz.ntmps14
      go_wp2_with (go_at_call 32; (with_reducible refine HLN.out.mono ?_); rintro e2 w2 ⟨rfl, rfl⟩)
      go_ret3
      exact rpp_bad HP.out (Below.refl _ _)
end Go.Proofs.YtephllgddhncgaaGreatDoor.Lex
/- The law WisdomReads. -/
namespace Go.Proofs.YtephllgddhncgaaGreatDoor.Lex
open Go.RowKit Stab
set_option linter.unusedSimpArgs false
set_option linter.unusedVariables false
set_option maxRecDepth 100000 in
set_option maxHeartbeats 4000000 in
theorem reads25 (s : ByteArray) (w : World) (hx : HasMax w) (ht : HasTab w) : Calls Tryz.prog 4 #[.string s] w fun e w' => e = .returned (.bool true) ∧ Below w.heap.size w w' := by
  have HX := Lib.hid hx
  have HT := Lib.hid ht
  by_cases hbig : 4000 < s.size
  · have hbi : (4000 : Int) < (s.size : Int) := by omega
    clear hbig hx ht
    go_enter Tryz.func4, Tryz.ntmps4
    go_wp2_with (go_at_call 7; (with_reducible refine (live25 _ HX.out HT.out).mono ?_); rintro e w2 ⟨rfl, hb2⟩; have HB2 := Lib.hid hb2; clear hb2)
    go_ret
    exact ⟨rfl, HB2.out⟩
  · have hbi : ¬ (4000 : Int) < (s.size : Int) := by omega
    have HP := Lib.hid (wparse s w hx)
    have HRP : Hid (∀ W, HasMax W → Calls Tryz.prog 14 #[.string s] W (RPPost s.data.toList W)) := Lib.hid fun W h => rparse25 s W h
    unfold PPost at HP
    unfold RPPost at HRP
    clear hbig hx ht
    generalize parseW s.data.toList = E at *
    obtain ⟨k, m, l⟩ := E
    dsimp only at HP HRP
    have hmm : ((m : Int) == m) = true := by simp
    have hkk : ((k : Int) == k) = true := by simp
    go_enter Tryz.func4, Tryz.ntmps4
    go_wp2_with (first
      | (go_at_call 10; (with_reducible refine HP.out.mono ?_); rintro e w2 ⟨a2, c2, rfl, hr2, hb2⟩; have HB2 := Lib.hid hb2; have HR2 := Lib.hid hr2; clear hb2 hr2)
      | (go_at_call 14; (with_reducible refine (HRP.out _ (HX.out.below HB2.out)).mono ?_); rintro e w3 ⟨a3, c3, rfl, hr3, hb3⟩; have HR23 := Lib.hid (HR2.out.keep (entryRd_ok _) (Fix.of_below hb3)); have HB3 := Lib.hid (HB2.out.trans (hb3.mono HB2.out.size)); have HR3 := Lib.hid hr3; clear hb3 hr3)
      | (go_at_call 12; (with_reducible refine (all24_eq 16385 _ _ l _ _ _ _ _ _ HR23.out HR3.out).mono ?_); rintro e w4 ⟨rfl, hb4⟩; have HB4 := Lib.hid (HB3.out.trans (hb4.mono HB3.out.size)); clear hb4)
      | (go_at_call 7; (with_reducible refine (live25 _ (HX.out.below HB4.out) (HT.out.below HB4.out)).mono ?_); rintro e w5 ⟨rfl, hb5⟩; have HB5 := Lib.hid (HB4.out.trans (hb5.mono HB4.out.size)); clear hb5))
    go_ret
    exact ⟨rfl, HB5.out⟩
end Go.Proofs.YtephllgddhncgaaGreatDoor.Lex
