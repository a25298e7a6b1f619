/- What a call uses: script.Own and the reference's; two calls that are the same. -/
import Derived.Test.YtplhmcmfdcklaaaDoorOwn6
import Derived.Deep.RegionHeld3
import Derived.Test.YtplhmcmfdcklaaaDoorOwn
namespace Go.Proofs.YtplhmcmfdcklaaaDoor.Lex
open Go.RowKit
set_option linter.unusedSimpArgs false
set_option linter.unusedVariables false
/-- What a call uses. -/
def ownV (c : CallV) : CallV :=
  if c.kind = 1 ∨ c.kind = 2 ∨ c.kind = 3 then ⟨c.kind, c.n, c.dir, ⟨#[]⟩, 0, 0, []⟩
  else if c.kind = 4 then ⟨c.kind, 0, 0, c.text, 0, 0, []⟩
  else if c.kind = 6 then ⟨c.kind, 0, 0, ⟨#[]⟩, c.who, c.at_, c.xs⟩
  else if c.kind = 7 then ⟨c.kind, 0, 0, ⟨#[]⟩, c.who, c.at_, []⟩
  else ⟨c.kind, 0, 0, ⟨#[]⟩, 0, 0, []⟩
theorem ownV_idem (c : CallV) : ownV (ownV c) = ownV c := by
  unfold ownV
  repeat (first | rfl | split)
  all_goals (first | rfl | (simp_all; done) | (simp_all; omega))
theorem ownV_len (c : CallV) : (ownV c).xs.length ≤ c.xs.length := by
  unfold ownV
  split
  · simp
  split
  · simp
  split
  · simp
  split
  · simp
  · simp
abbrev CallV.val (c : CallV) (a : Option Addr) (cap : Nat) : Value := .agg #[.int .i64 c.kind, .int .i64 c.n, .int .i64 c.dir, .string c.text, .int .i64 c.who, .int .i64 c.at_, .slice a c.xs.length cap]
def OwnPost (c : CallV) (w : World) (e : Ending) (w' : World) : Prop := ∃ a' cap', e = .returned ((ownV c).val a' cap') ∧ U64s w' a' (ownV c).xs ∧ (ownV c).xs.length ≤ cap' ∧ (a' = none → cap' = 0) ∧ Below w.heap.size w w'
theorem u64s_nil (w : World) (a : Option Addr) : U64s w a [] := fun i hi => by simp at hi
theorem ownP_none {c : CallV} {w w' : World} {e : Ending} (hx : (ownV c).xs = []) (h : e = .returned ((ownV c).val none 0) ∧ Below w.heap.size w w') : OwnPost c w e w' :=
  ⟨none, 0, h.1, by rw [hx]; exact u64s_nil _ _, by rw [hx]; simp, fun _ => rfl, h.2⟩
theorem own_any (c : CallV) (a : Option Addr) (cap : Nat) (w : World) (hn : c.xs.length ≤ 4194304) (h : U64s w a c.xs) (hc : c.xs.length ≤ cap) (hnil : a = none → cap = 0) :
    Calls Tryd.prog 8 #[c.val a cap] w (OwnPost c w) := by
  obtain ⟨k, n, dir, text, who, at', xs⟩ := c
  simp only [CallV.val] at *
  by_cases h1 : k = 1
  · subst h1; exact (own_1 n dir who at' text a xs.length cap w).mono fun e w' h => ownP_none rfl h
  by_cases h2 : k = 2
  · subst h2; exact (own_2 n dir who at' text a xs.length cap w).mono fun e w' h => ownP_none rfl h
  by_cases h3 : k = 3
  · subst h3; exact (own_3 n dir who at' text a xs.length cap w).mono fun e w' h => ownP_none rfl h
  by_cases h4 : k = 4
  · subst h4; exact (own_4 n dir who at' text a xs.length cap w).mono fun e w' h => ownP_none rfl h
  by_cases h5 : k = 5
  · subst h5; exact (own_5 n dir who at' text a xs.length cap w).mono fun e w' h => ownP_none rfl h
  by_cases h6 : k = 6
  · subst h6
    exact own_6 n dir who at' text a xs cap w hn h hc hnil
  by_cases h7 : k = 7
  · subst h7; exact (own_7 n dir who at' text a xs.length cap w).mono fun e w' h => ownP_none rfl h
  have hv : ownV ⟨k, n, dir, text, who, at', xs⟩ = ⟨k, 0, 0, ⟨#[]⟩, 0, 0, []⟩ := by simp [ownV, h1, h2, h3, h4, h6, h7]
  by_cases hk : k < 1
  · exact (own_lo k n dir who at' text a xs.length cap w hk).mono fun e w' h => ownP_none (by rw [hv]) (by rw [hv]; exact h)
  · exact (own_hi k n dir who at' text a xs.length cap w (by omega)).mono fun e w' h => ownP_none (by rw [hv]) (by rw [hv]; exact h)
theorem rown_any (c : CallV) (a : Option Addr) (cap : Nat) (w : World) (h : U64s w a c.xs) (hc : c.xs.length ≤ cap) (hnil : a = none → cap = 0) :
    Calls Tryd.prog 10 #[c.val a cap] w (OwnPost c w) := by
  obtain ⟨k, n, dir, text, who, at', xs⟩ := c
  simp only [CallV.val] at *
  by_cases h1 : k = 1
  · subst h1; exact (rown_1 n dir who at' text a xs.length cap w).mono fun e w' h => ownP_none rfl h
  by_cases h2 : k = 2
  · subst h2; exact (rown_2 n dir who at' text a xs.length cap w).mono fun e w' h => ownP_none rfl h
  by_cases h3 : k = 3
  · subst h3; exact (rown_3 n dir who at' text a xs.length cap w).mono fun e w' h => ownP_none rfl h
  by_cases h4 : k = 4
  · subst h4; exact (rown_4 n dir who at' text a xs.length cap w).mono fun e w' h => ownP_none rfl h
  by_cases h5 : k = 5
  · subst h5; exact (rown_5 n dir who at' text a xs.length cap w).mono fun e w' h => ownP_none rfl h
  by_cases h6 : k = 6
  · subst h6
    exact (rown_6 n dir who at' text a xs.length cap w).mono fun e w' h' => ⟨a, cap, h'.1, h.keep h'.2, hc, hnil, h'.2⟩
  by_cases h7 : k = 7
  · subst h7; exact (rown_7 n dir who at' text a xs.length cap w).mono fun e w' h => ownP_none rfl h
  have hv : ownV ⟨k, n, dir, text, who, at', xs⟩ = ⟨k, 0, 0, ⟨#[]⟩, 0, 0, []⟩ := by simp [ownV, h1, h2, h3, h4, h6, h7]
  by_cases hk : k < 1
  · exact (rown_lo k n dir who at' text a xs.length cap w hk).mono fun e w' h => ownP_none (by rw [hv]) (by rw [hv]; exact h)
  · exact (rown_hi k n dir who at' text a xs.length cap w (by omega)).mono fun e w' h => ownP_none (by rw [hv]) (by rw [hv]; exact h)
set_option maxRecDepth 100000 in
set_option maxHeartbeats 4000000 in
theorem same_eq (k n dir who at' : Int) (text : ByteArray) (xs : List Nat) (a1 a2 : Option Addr) (c1 c2 : Nat) (w : World) (hn : xs.length ≤ 9223372036854775807) (h1 : U64s w a1 xs) (h2 : U64s w a2 xs) :
    Calls Tryd.prog 9 #[.agg #[.int .i64 k, .int .i64 n, .int .i64 dir, .string text, .int .i64 who, .int .i64 at', .slice a1 xs.length c1], .agg #[.int .i64 k, .int .i64 n, .int .i64 dir, .string text, .int .i64 who, .int .i64 at', .slice a2 xs.length c2]] w
      fun e w' => e = .returned (.bool true) ∧ Below w.heap.size w w' := by
  have hb : Below w.heap.size w ((w.alloc (.cells #[.int .i64 k, .int .i64 n, .int .i64 dir, .string text, .int .i64 who, .int .i64 at', .slice a1 xs.length c1] 28)).alloc (.cells #[.int .i64 k, .int .i64 n, .int .i64 dir, .string text, .int .i64 who, .int .i64 at', .slice a2 xs.length c2] 28)) := ((Below.refl _ _).alloc (Nat.le_refl _) _).alloc (by simp) _
  have H1 := Lib.hid (h1.keep hb)
  have H2 := Lib.hid (h2.keep hb)
  have HB := Lib.hid hb
  clear h1 h2 hb
  go_enter Tryd.func9, Tryd.ntmps9
  go_wp2_with (go_at_call 20; (with_reducible refine (fsame_yes xs a1 a2 c1 c2 _ hn H1.out H2.out).mono ?_); rintro e w1 ⟨rfl, d, rfl⟩)
  go_ret
  exact ⟨rfl, below_drewN HB.out _⟩
set_option maxRecDepth 100000 in
set_option maxHeartbeats 8000000 in
theorem owns_law (c : CallV) (a : Option Addr) (cap : Nat) (w : World) (hm : HasMax w) (ht : HasTab w) (h : U64s w a c.xs) (hc : c.xs.length ≤ cap) (hnil : a = none → cap = 0) (hn : c.xs.length ≤ 9223372036854775807) :
    Calls Tryd.prog 3 #[c.val a cap] w fun e w' => e = .returned (.bool true) ∧ Below w.heap.size w w' := by
  have HM := Lib.hid hm
  have HT := Lib.hid ht
  by_cases hg : 100 < c.xs.length
  · obtain ⟨k, n, dir, text, who, at', xs⟩ := c
    simp only [CallV.val] at *
    clear hm ht h hc hnil
    have hb : Hid (Below w.heap.size w (w.alloc (.cells #[.int .i64 k, .int .i64 n, .int .i64 dir, .string text, .int .i64 who, .int .i64 at', .slice a xs.length cap] 28))) := Lib.hid ((Below.refl _ _).alloc (Nat.le_refl _) _)
    go_enter Tryd.func3, Tryd.ntmps3
    go_wp2_with (go_at_call 7; (with_reducible refine (live_scr _ (HM.out.below hb.out) (HT.out.below hb.out)).mono ?_); rintro e w1 ⟨rfl, hb1⟩; have HB := Lib.hid (below_next hb.out hb1 (Nat.le_refl _)); clear hb1)
    go_ret
    exact ⟨rfl, HB.out⟩
  · have hi := ownV_idem c
    have HOWN : Hid (∀ w, U64s w a c.xs → Calls Tryd.prog 8 #[c.val a cap] w (OwnPost c w)) := Lib.hid fun w hu => own_any c a cap w (by omega) hu hc hnil
    have HROWN : Hid (∀ w, U64s w a c.xs → Calls Tryd.prog 10 #[c.val a cap] w (OwnPost c w)) := Lib.hid fun w hu => rown_any c a cap w hu hc hnil
    have HOWN2 : Hid (∀ w (a : Option Addr) (cap : Nat), U64s w a (ownV c).xs → (ownV c).xs.length ≤ cap → (a = none → cap = 0) → Calls Tryd.prog 8 #[(ownV c).val a cap] w (OwnPost (ownV c) w)) := Lib.hid fun w a cap hu hc hnil => own_any (ownV c) a cap w (by have := ownV_len c; omega) hu hc hnil
    unfold OwnPost at HOWN HROWN HOWN2
    rw [hi] at HOWN2
    have hlen : (ownV c).xs.length ≤ 100 := by have := ownV_len c; omega
    generalize ownV c = o at HOWN HROWN HOWN2 hlen
    obtain ⟨ko, no, diro, texto, whoo, ato, xso⟩ := o
    obtain ⟨k, n, dir, text, who, at', xs⟩ := c
    simp only [CallV.val] at *
    have hg1 : xs.length ≤ 100 := by omega
    obtain ⟨W0, hW0⟩ : ∃ W0, W0 = w.alloc (.cells #[.int .i64 k, .int .i64 n, .int .i64 dir, .string text, .int .i64 who, .int .i64 at', .slice a xs.length cap] 28) := ⟨_, rfl⟩
    have hb0 : Below w.heap.size w W0 := by rw [hW0]; exact (Below.refl _ _).alloc (Nat.le_refl _) _
    have hz : W0.heap.size = w.heap.size + 1 := by rw [hW0]; simp
    have hbox : Box W0 w.heap.size k n dir text who at' (.slice a xs.length cap) := by rw [hW0]; exact box_new w k n dir text who at' _ 28
    obtain ⟨_, c0, c1, c2, c3, c4, c5, c6⟩ := hbox
    have HBOX : Hid (Box W0 w.heap.size k n dir text who at' (.slice a xs.length cap)) := Lib.hid ⟨by omega, c0, c1, c2, c3, c4, c5, c6⟩
    have HU := Lib.hid (h.keep hb0)
    have HB0 := Lib.hid hb0
    have HZ := Lib.hid hz
    clear hm ht h hc hnil hb0 hz hi hn hg
    have hbz := Below.refl W0.heap.size W0
    go_enter Tryd.func3, Tryd.ntmps3
    go_wp2_with fail
    rw [← hW0]
    clear hW0
    refine (HOWN.out W0 HU.out).mono ?_
    rintro e w1 ⟨a1, cap1, rfl, hu1, hc1, hn1, hb1⟩
    have HB1 := Lib.hid (below_next (Below.refl W0.heap.size W0) hb1 (Nat.le_refl _))
    have HU1 := Lib.hid hu1
    have HC1 := Lib.hid hc1
    have HN1 := Lib.hid hn1
    have HBOX1 := Lib.hid (HBOX.out.keep HB1.out)
    clear hu1 hc1 hn1 hb1 hbz c0 c1 c2 c3 c4 c5 c6
    go_wp2_with fail
    obtain ⟨W2, hW2⟩ : ∃ W2, W2 = w1.alloc (.cells #[.int .i64 ko, .int .i64 no, .int .i64 diro, .string texto, .int .i64 whoo, .int .i64 ato, .slice a1 xso.length cap1] 28) := ⟨_, rfl⟩
    rw [← hW2]
    have hb2 : Below w1.heap.size w1 W2 := by rw [hW2]; exact (Below.refl _ _).alloc (Nat.le_refl _) _
    have hbox2 : Box W2 w1.heap.size ko no diro texto whoo ato (.slice a1 xso.length cap1) := by rw [hW2]; exact box_new w1 ko no diro texto whoo ato _ 28
    clear hW2
    generalize w1.heap.size = N2 at hbox2 ⊢
    have HB2 := Lib.hid (below_next HB1.out hb2 (Nat.le_refl _))
    have HU2 := Lib.hid (HU1.out.keep hb2)
    have HX2 := Lib.hid (HU.out.keep HB2.out)
    have hbox0 := HBOX1.out.keep hb2
    have HS : Hid (∀ W, Below W2.heap.size W2 W → (W.cell? ⟨w.heap.size, 0, none⟩ = some (.int .i64 k) ∧ W.cell? ⟨w.heap.size, 1, none⟩ = some (.int .i64 n) ∧ W.cell? ⟨w.heap.size, 2, none⟩ = some (.int .i64 dir) ∧ W.cell? ⟨w.heap.size, 3, none⟩ = some (.string text) ∧ W.cell? ⟨w.heap.size, 4, none⟩ = some (.int .i64 who) ∧ W.cell? ⟨w.heap.size, 5, none⟩ = some (.int .i64 at') ∧ W.cell? ⟨w.heap.size, 6, none⟩ = some (.slice a xs.length cap)) ∧ (W.cell? ⟨N2, 0, none⟩ = some (.int .i64 ko) ∧ W.cell? ⟨N2, 1, none⟩ = some (.int .i64 no) ∧ W.cell? ⟨N2, 2, none⟩ = some (.int .i64 diro) ∧ W.cell? ⟨N2, 3, none⟩ = some (.string texto) ∧ W.cell? ⟨N2, 4, none⟩ = some (.int .i64 whoo) ∧ W.cell? ⟨N2, 5, none⟩ = some (.int .i64 ato) ∧ W.cell? ⟨N2, 6, none⟩ = some (.slice a1 xso.length cap1))) := Lib.hid fun W hb => by
      obtain ⟨_, p0, p1, p2, p3, p4, p5, p6⟩ := hbox0.keep hb
      obtain ⟨_, q0, q1, q2, q3, q4, q5, q6⟩ := hbox2.keep hb
      exact ⟨⟨p0, p1, p2, p3, p4, p5, p6⟩, q0, q1, q2, q3, q4, q5, q6⟩
    clear hb2 hbox2 hbox0 HBOX1 HBOX HU1 HU
    have hbz := Below.refl W2.heap.size W2
    go_region_held3 (fun W => (W.cell? ⟨w.heap.size, 0, none⟩ = some (.int .i64 k) ∧ W.cell? ⟨w.heap.size, 1, none⟩ = some (.int .i64 n) ∧ W.cell? ⟨w.heap.size, 2, none⟩ = some (.int .i64 dir) ∧ W.cell? ⟨w.heap.size, 3, none⟩ = some (.string text) ∧ W.cell? ⟨w.heap.size, 4, none⟩ = some (.int .i64 who) ∧ W.cell? ⟨w.heap.size, 5, none⟩ = some (.int .i64 at') ∧ W.cell? ⟨w.heap.size, 6, none⟩ = some (.slice a xs.length cap)) ∧ (W.cell? ⟨N2, 0, none⟩ = some (.int .i64 ko) ∧ W.cell? ⟨N2, 1, none⟩ = some (.int .i64 no) ∧ W.cell? ⟨N2, 2, none⟩ = some (.int .i64 diro) ∧ W.cell? ⟨N2, 3, none⟩ = some (.string texto) ∧ W.cell? ⟨N2, 4, none⟩ = some (.int .i64 whoo) ∧ W.cell? ⟨N2, 5, none⟩ = some (.int .i64 ato) ∧ W.cell? ⟨N2, 6, none⟩ = some (.slice a1 xso.length cap1))) ((refine HS.out _ ?_; ((repeat' (first | with_reducible assumption | with_reducible refine Below.drew ?_)) <;> fail)))
     (first
      | (go_at_call 10; (with_reducible refine (HROWN.out _ (HX2.out.keep (by ((repeat' (first | with_reducible assumption | with_reducible refine Below.drew ?_)) <;> fail)))).mono ?_); rintro e w3 ⟨a3, cap3, rfl, hu3, hc3, hn3, hb3⟩; have HU3 := Lib.hid hu3; have hb3z := Below.refl w3.heap.size w3; have HB : Below W2.heap.size W2 w3 := below_next (by ((repeat' (first | with_reducible assumption | with_reducible refine Below.drew ?_)) <;> fail)) hb3 (Nat.le_refl _); clear hb3 hu3 hc3 hn3)
      | (go_at_call 8; (with_reducible refine (HOWN2.out _ a1 cap1 (HU2.out.keep (by ((repeat' (first | with_reducible assumption | with_reducible refine Below.drew ?_)) <;> fail))) HC1.out HN1.out).mono ?_); rintro e w4 ⟨a4, cap4, rfl, hu4, hc4, hn4, hb4⟩; have HU4 := Lib.hid hu4; have hb4z := Below.refl w4.heap.size w4; have HB : Below W2.heap.size W2 w4 := below_next (by ((repeat' (first | with_reducible assumption | with_reducible refine Below.drew ?_)) <;> fail)) hb4 (Nat.le_refl _); clear hb4 hu4 hc4 hn4)
      | (go_at_call 9; (with_reducible refine (same_eq ko no diro whoo ato texto xso a4 a1 cap4 cap1 _ (by omega) (HU4.out.keep (by ((repeat' (first | with_reducible assumption | with_reducible refine Below.drew ?_)) <;> fail))) (HU2.out.keep (by ((repeat' (first | with_reducible assumption | with_reducible refine Below.drew ?_)) <;> fail)))).mono ?_); rintro e w5 ⟨rfl, hb5⟩; have HB : Below W2.heap.size W2 w5 := below_next (by ((repeat' (first | with_reducible assumption | with_reducible refine Below.drew ?_)) <;> fail)) hb5 (Nat.le_refl _); clear hb5)
      | (go_at_call 9; (with_reducible refine (same_eq ko no diro whoo ato texto xso a1 a3 cap1 cap3 _ (by omega) (HU2.out.keep (by ((repeat' (first | with_reducible assumption | with_reducible refine Below.drew ?_)) <;> fail))) (HU3.out.keep (by ((repeat' (first | with_reducible assumption | with_reducible refine Below.drew ?_)) <;> fail)))).mono ?_); rintro e w5 ⟨rfl, hb5⟩; have HB : Below W2.heap.size W2 w5 := below_next (by ((repeat' (first | with_reducible assumption | with_reducible refine Below.drew ?_)) <;> fail)) hb5 (Nat.le_refl _); clear hb5)
      | (go_at_call 7; (with_reducible refine (live_scr _ (HM.out.below (HB0.out.trans ((HB2.out.trans (Below.mono (show Below W2.heap.size W2 _ from by ((repeat' (first | with_reducible assumption | with_reducible refine Below.drew ?_)) <;> fail)) HB2.out.size)).mono HB0.out.size))) (HT.out.below (HB0.out.trans ((HB2.out.trans (Below.mono (show Below W2.heap.size W2 _ from by ((repeat' (first | with_reducible assumption | with_reducible refine Below.drew ?_)) <;> fail)) HB2.out.size)).mono HB0.out.size)))).mono ?_); rintro e w5 ⟨rfl, hb5⟩; have HB : Below W2.heap.size W2 w5 := below_next (by ((repeat' (first | with_reducible assumption | with_reducible refine Below.drew ?_)) <;> fail)) hb5 (Nat.le_refl _); clear hb5))
    all_goals
      go_wp2_with fail
      go_ret
      exact ⟨rfl, HB0.out.trans ((HB2.out.trans (Below.mono (show Below W2.heap.size W2 _ from by ((repeat' (first | with_reducible assumption | with_reducible refine Below.drew ?_)) <;> fail)) HB2.out.size)).mono HB0.out.size)⟩
end Go.Proofs.YtplhmcmfdcklaaaDoor.Lex
