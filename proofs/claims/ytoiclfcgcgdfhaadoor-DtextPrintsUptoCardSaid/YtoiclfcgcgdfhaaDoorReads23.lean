/- The law DtextReads. -/
import Derived.Test.YtoiclfcgcgdfhaaDoorRParse23
import Derived.Test.YtoiclfcgcgdfhaaDoorLive23
import Derived.Test.YtoiclfcgcgdfhaaDoorDescR
namespace Go.Proofs.YtoiclfcgcgdfhaaDoor.Lex
open Go.RowKit
set_option linter.unusedSimpArgs false
set_option linter.unusedVariables false
theorem row_of {w : World} {F : Foot} {a : Option Addr} {m c : Nat} {d : DescV} (h : RowOf (descRd 16384) 3 40 F w a m c d.kids) : RowOf (descRd 16384) 3 40 All w a m c d.kids := h.mono (descRd_ok _) fun _ _ _ => trivial
theorem parseD_ok {s : List UInt8} (h : (parseD s).1 = 0) : textD (parseD s).2 = some s ∧ bigD (parseD s).2 = false ∧ (parseD s).2.nodes ≤ 4096 := by
  unfold parseD at h ⊢
  split
  · rename_i hc; rw [if_pos hc] at h; cases h
  · rename_i hc
    rw [if_neg hc] at h
    cases ht : treeT s with
    | none => rw [ht] at h; cases h
    | some d =>
      rw [ht] at h
      dsimp only at h ⊢
      by_cases hb : bigD d = true
      · rw [if_pos hb] at h; cases h
      · rw [if_neg hb]
        exact ⟨treeT_iff.1 ht, by simpa using hb, by have := tree_nodes ht; show d.nodes ≤ 4096; omega⟩
set_option maxRecDepth 100000 in
set_option maxHeartbeats 4000000 in
theorem reads23 (s : ByteArray) (w : World) (hs : s.size ≤ maxLen) (hm : HasMax w) (ht : HasTab w) : Calls Tryd.prog 4 #[.string s] w fun e w' => e = .returned (.bool true) ∧ Below w.heap.size w w' := by
  have hl : s.data.toList.length = s.size := by simp
  have HM := Lib.hid hm
  have HTB := Lib.hid ht
  have HP := Lib.hid (parse_any s w hs hm)
  have hs' := hs
  unfold maxLen at hs'
  by_cases hbig : 5000 < s.size
  · have hbig' : (5000 : Int) < (s.size : Int) := by omega
    have hpd : parseD s.data.toList = (12, zeroD) := by rw [parseD, if_pos (by omega)]
    have HP2 : Hid (Calls Tryd.prog 9 #[.string s] w fun e w' => Below w.heap.size w w' ∧ ∃ a m c, e = .returned (.tuple #[.agg #[.int .i64 0, .int .i64 0, .slice a m c], .int .i64 12])) := Lib.hid (HP.out.mono fun e w' h => by
      obtain ⟨a, m, c, he, _, hb⟩ := h
      rw [hpd] at he
      exact ⟨hb, a, m, c, he⟩)
    clear hpd hbig hl hm ht
    go_enter Tryd.func4, Tryd.ntmps4
    go_wp2_with (first
      | (go_at_call 9; (with_reducible refine HP2.out.mono ?_); rintro e w1 ⟨hb1, a1, m1, c1, rfl⟩; have HB1 := Lib.hid (hb1.alloc hb1.size (.cells #[.int .i64 0, .int .i64 0, .slice a1 m1 c1] 24)); clear hb1)
      | (go_at_call 6; (with_reducible refine (live23 _ (HM.out.below HB1.out) (HTB.out.below HB1.out)).mono ?_); rintro e w2 ⟨rfl, hb2⟩; have HB2 := Lib.hid (HB1.out.trans (hb2.mono HB1.out.size)); clear hb2))
    go_ret
    exact ⟨rfl, HB2.out⟩
  · have hbig' : ¬ (5000 : Int) < (s.size : Int) := by omega
    have HRP : Hid (∀ W, Calls Tryd.prog 12 #[.string s] W (ParsePost s.data.toList W)) := Lib.hid fun W => rparse_any s W hs
    have HOK := Lib.hid (parseD_ok (s := s.data.toList))
    clear hbig hl hm ht
    unfold ParsePost at HP HRP
    generalize parseD s.data.toList = E at *
    obtain ⟨k, d⟩ := E
    dsimp only at HP HRP HOK
    have HE := Lib.hid (DescV.eta d)
    have HSM : Hid (∀ (a b : Option Addr) (n n' c c' : Nat) (W : World), RowOf (descRd 16384) 3 40 All W a n c d.kids → RowOf (descRd 16384) 3 40 All W b n' c' d.kids →
      Calls Tryd.prog 11 #[.agg #[.int .i64 d.kind, .int .i64 d.n, .slice a n c], .agg #[.int .i64 d.kind, .int .i64 d.n, .slice b n' c']] W fun e w' => e = .returned (.bool true) ∧ Below W.heap.size W w') := Lib.hid fun a b n n' c c' W h1 h2 => by
        have := rsame_any 16384 All All d.kind d.n d.kind d.n d.kids d.kids a b n n' c c' W h1 h2
        rw [← DescV.eta d, cmpD_self] at this
        exact this
    have HPR : Hid (k = 0 → ∀ (a : Option Addr) (n c : Nat) (W : World), RowOf (descRd 16384) 3 40 All W a n c d.kids → HasMax W → HasTab W → Calls Tryd.prog 7 #[.agg #[.int .i64 d.kind, .int .i64 d.n, .slice a n c]] W fun e w' => e = .returned (.tuple #[.string s, .int .i64 0]) ∧ Below W.heap.size W w') := Lib.hid fun hk a n c W h1 h2 h3 => by
      obtain ⟨h5, h6, h7⟩ := HOK.out hk
      rw [DescV.nodes_kids] at h7
      have := print_any 16384 All d.kind d.n d.kids a n c W h1 (by omega) h2 h3
      rw [← DescV.eta d, printD, if_neg (by rw [h6]; decide), h5] at this
      dsimp only at this
      rw [bs_data] at this
      exact this
    clear HOK HE
    have hkk : (k != k) = false := by simp
    have h12 : (s.toList == s.toList) = true := by simp
    generalize d.kind = dk at *
    generalize d.n = dn at *
    generalize d.kids = dl at *
    go_enter Tryd.func4, Tryd.ntmps4
    go_upto_region 5 with (go_at_call 9; (with_reducible refine HP.out.mono ?_); rintro e w1 ⟨a1, m1, c1, rfl, hr1, hb1⟩; have HB1 := Lib.hid hb1; have HR1 := Lib.hid hr1; clear hb1 hr1)
    obtain ⟨W2, hW2⟩ : ∃ W2, W2 = w1.alloc (.cells #[.int .i64 dk, .int .i64 dn, .slice a1 m1 c1] 24) := ⟨_, rfl⟩
    have hb12 : Below w1.heap.size w1 W2 := by rw [hW2]; exact (Below.refl _ _).alloc (Nat.le_refl _) _
    have HG2 : Hid (W2.heap[w1.heap.size]? = some (.cells #[.int .i64 dk, .int .i64 dn, .slice a1 m1 c1] 24 (0, 0))) := Lib.hid (by rw [hW2]; exact heap_alloc_new w1 _)
    have HB2 := Lib.hid (HB1.out.trans (hb12.mono HB1.out.size))
    have HR2 := Lib.hid (HR1.out.keep (descRd_ok _) (Fix.of_below hb12))
    rw [← hW2]
    clear hW2 hb12
    go_upto_region 6 with (go_at_call 12; (with_reducible refine (HRP.out _).mono ?_); rintro e w3 ⟨a3, m3, c3, rfl, hr3, hb3⟩; have HB3 := Lib.hid hb3; have HR3 := Lib.hid hr3; clear hb3 hr3)
    obtain ⟨W4, hW4⟩ : ∃ W4, W4 = w3.alloc (.cells #[.int .i64 dk, .int .i64 dn, .slice a3 m3 c3] 24) := ⟨_, rfl⟩
    have hb34 : Below w3.heap.size w3 W4 := by rw [hW4]; exact (Below.refl _ _).alloc (Nat.le_refl _) _
    have HG4 : Hid (W4.heap[w3.heap.size]? = some (.cells #[.int .i64 dk, .int .i64 dn, .slice a3 m3 c3] 24 (0, 0))) := Lib.hid (by rw [hW4]; exact heap_alloc_new w3 _)
    have hb24 : Below W2.heap.size W2 W4 := HB3.out.trans (hb34.mono HB3.out.size)
    have HG2' := Lib.hid ((hb24.block _ (Array.getElem?_eq_some_iff.1 HG2.out).1).trans HG2.out)
    have HB4 := Lib.hid (HB2.out.trans (hb24.mono HB2.out.size))
    have HRA := Lib.hid ((HR2.out.keep (descRd_ok _) (Fix.of_below hb24)).mono (descRd_ok _) (G := All) fun _ _ _ => trivial)
    have HRB := Lib.hid ((HR3.out.keep (descRd_ok _) (Fix.of_below hb34)).mono (descRd_ok _) (G := All) fun _ _ _ => trivial)
    rw [← hW4]
    clear hW4 hb34 hb24
    have c0 := cell_at (o := 0) HG2'.out rfl
    have c1' := cell_at (o := 1) HG2'.out rfl
    have c2 := cell_at (o := 2) HG2'.out rfl
    have e0 := cell_at (o := 0) HG4.out rfl
    have e1 := cell_at (o := 1) HG4.out rfl
    have e2 := cell_at (o := 2) HG4.out rfl
    by_cases hk : k = 0
    · have HPZ := Lib.hid (HPR.out hk)
      subst hk
      go_wp2_with (first
        | (go_at_call 11; (with_reducible refine (HSM.out _ _ _ _ _ _ _ HRA.out HRB.out).mono ?_); rintro e w5 ⟨rfl, hb5⟩; have HB45 := Lib.hid hb5; have HB5 := Lib.hid (HB4.out.trans (hb5.mono HB4.out.size)); have HG5 := Lib.hid ((hb5.block _ (Array.getElem?_eq_some_iff.1 HG2'.out).1).trans HG2'.out); clear hb5 c0 c1' c2 e0 e1 e2; have c0 := cell_at (o := 0) HG5.out rfl; have c1' := cell_at (o := 1) HG5.out rfl; have c2 := cell_at (o := 2) HG5.out rfl)
        | (go_at_call 7; (with_reducible refine (HPZ.out _ _ _ _ (HRA.out.keep (descRd_ok _) (Fix.of_below HB45.out)) (HM.out.below HB5.out) (HTB.out.below HB5.out)).mono ?_); rintro e w6 ⟨rfl, hb6⟩; have HB6 := Lib.hid (HB5.out.trans (hb6.mono HB5.out.size)); clear hb6)
        | (go_at_call 6; (with_reducible refine (live23 _ (HM.out.below HB6.out) (HTB.out.below HB6.out)).mono ?_); rintro e w7 ⟨rfl, hb7⟩; have HB7 := Lib.hid (HB6.out.trans (hb7.mono HB6.out.size)); clear hb7))
      go_ret
      exact ⟨rfl, HB7.out⟩
    · have hk' : (k != 0) = true := by simpa using hk
      clear hk
      go_wp2_with (first
        | (go_at_call 11; (with_reducible refine (HSM.out _ _ _ _ _ _ _ HRA.out HRB.out).mono ?_); rintro e w5 ⟨rfl, hb5⟩; have HB5 := Lib.hid (HB4.out.trans (hb5.mono HB4.out.size)); clear hb5)
        | (go_at_call 6; (with_reducible refine (live23 _ (HM.out.below HB5.out) (HTB.out.below HB5.out)).mono ?_); rintro e w7 ⟨rfl, hb7⟩; have HB7 := Lib.hid (HB5.out.trans (hb7.mono HB5.out.size)); clear hb7))
      go_ret
      exact ⟨rfl, HB7.out⟩
end Go.Proofs.YtoiclfcgcgdfhaaDoor.Lex
