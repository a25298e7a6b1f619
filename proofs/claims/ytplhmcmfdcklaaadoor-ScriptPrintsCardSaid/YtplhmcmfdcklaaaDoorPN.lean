/- Words read as numbers, as script.numbers, two and row do it. -/
import Derived.Test.YtplhmcmfdcklaaaDoorNumP
import Derived.Test.YtplhmcmfdcklaaaDoorScr
import Derived.Test.YtplhmcmfdcklaaaDoorFmtU
import Derived.RegionTactic
namespace Go.Proofs.YtplhmcmfdcklaaaDoor.Lex
open Go.RowKit
set_option linter.unusedSimpArgs false
set_option linter.unusedVariables false
/-- The two errors of strconv's lie in their variables. -/
def HasErrs (w : World) : Prop := (∃ te pe, w.cell? ⟨2, 0, none⟩ = some (.iface te pe)) ∧ ∃ te pe, w.cell? ⟨3, 0, none⟩ = some (.iface te pe)
theorem HasErrs.below {w w' : World} (h : HasErrs w) (hb : Below w.heap.size w w') : HasErrs w' := by
  obtain ⟨⟨a, b, h1⟩, c, d, h2⟩ := h
  exact ⟨⟨a, b, (hb.cell (World.block_lt_of_cell? w _ h1)).trans h1⟩, c, d, (hb.cell (World.block_lt_of_cell? w _ h2)).trans h2⟩
theorem bs_list (l : List UInt8) : (bs l).data.toList = l := by simp [bs]
theorem bs_inj {x y : List UInt8} (h : bs x = bs y) : x = y := by rw [← bs_list x, h, bs_list]
theorem text_ne {a b : ByteArray} (h : ¬ a = b) : (a.toList == b.toList) = false := by
  rw [ByteArray.toList_eq, ByteArray.toList_eq, beq_eq_false_iff_ne]
  intro e
  refine h ?_
  obtain ⟨a⟩ := a
  obtain ⟨b⟩ := b
  exact congrArg ByteArray.mk (Array.toList_inj.1 e)
/-- strconv.Atoi, whatever the text. -/
theorem atoi_all (s : ByteArray) (w : World) (hl : s.size ≤ 281474976710656) (he : HasErrs w) :
    Calls Tryd.prog 60 #[.string s] w fun e w' => Below w.heap.size w w' ∧ ((∃ n, Lib.atoiAll s.data.toList = .ok n ∧ e = .returned (.tuple #[.int .i64 n, .nilIface])) ∨
      ((∀ n, Lib.atoiAll s.data.toList ≠ .ok n) ∧ ∃ m N, e = .returned (.tuple #[.int .i64 m, .iface 140 (.pointer (some ⟨N, 0, none⟩))]))) := by
  obtain ⟨⟨a, b, h1⟩, c, d, h2⟩ := he
  cases h : Lib.atoiAll s.data.toList with
  | ok n =>
    refine (Tryd.strconv_Atoi_ok s (by omega) n h w).mono ?_
    rintro e w' ⟨rfl, hw⟩
    refine ⟨?_, .inl ⟨n, rfl, rfl⟩⟩
    rcases hw with rfl | ⟨t, rfl⟩
    · exact Below.refl _ _
    · exact Lib.bytesWorld_below _ _ _
  | range =>
    refine (Tryd.strconv_Atoi_range s hl h _ w h2 (.inr ⟨_, _, rfl⟩)).mono ?_
    rintro e w' ⟨N, rfl, _, _, hb⟩
    exact ⟨hb, .inr ⟨fun n h => (by cases h), _, _, rfl⟩⟩
  | _ =>
    refine (Tryd.strconv_Atoi_syntax s hl h _ w h1 (.inr ⟨_, _, rfl⟩)).mono ?_
    rintro e w' ⟨N, rfl, _, _, hb⟩
    exact ⟨hb, .inr ⟨fun n h => (by cases h), _, _, rfl⟩⟩
theorem atoi_yes (s : ByteArray) (w : World) (hl : s.size ≤ 281474976710656) (he : HasErrs w) (n : Int) (h : Lib.atoiAll s.data.toList = .ok n) :
    Calls Tryd.prog 60 #[.string s] w fun e w' => e = .returned (.tuple #[.int .i64 n, .nilIface]) ∧ Below w.heap.size w w' :=
  (atoi_all s w hl he).mono fun e w' ⟨hb, hh⟩ => by
    rcases hh with ⟨m, hm, rfl⟩ | ⟨hm, _⟩
    · rw [hm] at h
      cases h
      exact ⟨rfl, hb⟩
    · exact absurd h (hm n)
theorem atoi_not (s : ByteArray) (w : World) (hl : s.size ≤ 281474976710656) (he : HasErrs w) (h : ∀ n, Lib.atoiAll s.data.toList ≠ .ok n) :
    Calls Tryd.prog 60 #[.string s] w fun e w' => ∃ m N, e = .returned (.tuple #[.int .i64 m, .iface 140 (.pointer (some ⟨N, 0, none⟩))]) ∧ Below w.heap.size w w' :=
  (atoi_all s w hl he).mono fun e w' ⟨hb, hh⟩ => by
    rcases hh with ⟨m, hm, rfl⟩ | ⟨hm, m, N, rfl⟩
    · exact absurd hm (h m)
    · exact ⟨m, N, rfl, hb⟩
/-- What a slice of texts shows, wherever it begins. -/
def Txt (w : World) (a : Option Addr) (ws : List (List UInt8)) : Prop := ∀ i (h : i < ws.length), ∃ g off, a = some ⟨g, off, none⟩ ∧ g < w.heap.size ∧ w.cell? ⟨g, off + i, none⟩ = some (.string (bs (ws[i]'h)))
theorem Txt.keep {w w' : World} {a : Option Addr} {ws : List (List UInt8)} (h : Txt w a ws) (hb : Below w.heap.size w w') : Txt w' a ws := fun i hi => by
  obtain ⟨g, off, h1, h2, h3⟩ := h i hi
  exact ⟨g, off, h1, Nat.lt_of_lt_of_le h2 hb.size, (hb.cell (p := ⟨g, off + i, none⟩) h2).trans h3⟩
theorem Txt.of_shows {w : World} {a : Option Addr} {ws : List (List UInt8)} (h : Shows w a ws) : Txt w a ws := fun i hi => by
  obtain ⟨g, h1, h2⟩ := h i hi
  exact ⟨g, 0, h1, World.block_lt_of_cell? w _ h2, by rw [Nat.zero_add]; exact h2⟩
theorem Txt.drop {w : World} {g off : Nat} {ws : List (List UInt8)} (h : Txt w (some ⟨g, off, none⟩) ws) (k : Nat) : Txt w (some ⟨g, off + k, none⟩) (ws.drop k) := fun i hi => by
  rw [List.length_drop] at hi
  obtain ⟨g', off', h1, h2, h3⟩ := h (k + i) (by omega)
  cases h1
  exact ⟨g, off + k, rfl, h2, by rw [List.getElem_drop, Nat.add_assoc]; exact h3⟩
theorem Txt.take {w : World} {a : Option Addr} {ws : List (List UInt8)} (h : Txt w a ws) (k : Nat) : Txt w a (ws.take k) := fun i hi => by
  rw [List.length_take] at hi
  rw [List.getElem_take]
  exact h i (by omega)
theorem own_slice {w : World} {base : Nat} {e : TypeId} {size n : Nat} {v : Value} {xs : List Value} (h : w.ownsRow base e size v n xs) : ∃ a c, v = .slice a n c := by
  rcases h.2 with ⟨rfl, rfl⟩ | ⟨g, cap, cur, rfl, _⟩
  · exact ⟨_, _, rfl⟩
  · exact ⟨_, _, rfl⟩
theorem below_or {w w' : World} {T : TypeId} {t : ByteArray} (h : w' = w ∨ w' = Lib.bytesWorld w T t) : Below w.heap.size w w' := by
  rcases h with rfl | rfl
  · exact Below.refl _ _
  · exact Lib.bytesWorld_below _ _ _
theorem intElemL : Elem Tryd.prog 34 3 1 8 := ⟨Tryd.underlying34, ⟨.int .i64 0, by kernel_rfl, rfl⟩, by omega⟩
/-- Words are not longer than this. -/
def Short (ws : List (List UInt8)) : Prop := ws.length ≤ 1099511627776 ∧ ∀ w ∈ ws, w.length ≤ 1099511627776
/-- A row of numbers, or none. -/
def RowPost {α : Type} (T : TypeId) (f : α → Value) (r : Option (List α)) (w : World) (e : Ending) (w' : World) : Prop := Below w.heap.size w w' ∧ match r with
  | none => e = .returned (.tuple #[.slice none 0 0, .bool false])
  | some l => ∃ v, e = .returned (.tuple #[v, .bool true]) ∧ w'.ownsRow w.heap.size T 1 v l.length (l.map f)
theorem rowPost_none {α : Type} {T : TypeId} {f : α → Value} {r : Option (List α)} {w w' : World} (h : r = none) (hb : Below w.heap.size w w') : RowPost T f r w (.returned (.tuple #[.slice none 0 0, .bool false])) w' := by
  subst h
  exact ⟨hb, rfl⟩
theorem rowPost_some {α : Type} {T : TypeId} {f : α → Value} {r : Option (List α)} {w w' : World} {l : List α} {v : Value} {n : Nat} (h : r = some l) (hb : Below w.heap.size w w') (ho : w'.ownsRow w.heap.size T 1 v n (l.map f)) : RowPost T f r w (.returned (.tuple #[v, .bool true])) w' := by
  subst h
  have hn : l.length = n := by have := ho.1; simpa using this
  exact ⟨hb, v, rfl, by rw [hn]; exact ho⟩
set_option maxRecDepth 100000 in
set_option maxHeartbeats 2000000 in
theorem numbers_any (ws : List (List UInt8)) (a : Option Addr) (cap : Nat) (w : World) (hs : Txt w a ws) (hsh : Short ws) (ht : HasTab w) (he : HasErrs w) :
    Calls Tryd.prog 48 #[.slice a ws.length cap] w (RowPost 3 (Value.int .i64) (numsW ws) w) := by
  have HS := Lib.hid hs
  have HT := Lib.hid ht
  have HE := Lib.hid he
  have HSH := Lib.hid hsh
  have hn := hsh.1
  clear hs ht he hsh
  go_enter Tryd.func48, Tryd.ntmps48
  go_wp2_with fail
  go_loopg [4, 11] ws.length (fun g v iv wr => ∃ (k : Nat) (l : List Int), k ≤ ws.length ∧ g = ws.length - k ∧ iv = .int .i64 k ∧ numsW (ws.take k) = some l ∧ wr.ownsRow w.heap.size 3 1 v k (l.map (Value.int .i64)) ∧ Below w.heap.size w wr)
  case atStart => exact ⟨0, [], by omega, rfl, rfl, rfl, World.ownsRow_nil _ _ _ _, Below.refl _ _⟩
  case round =>
    obtain ⟨k, l, hk, rfl, rfl, hl, hown, hbw⟩ := hrel
    obtain ⟨wo, rfl⟩ : ∃ wo : World, wo = wr := ⟨_, rfl⟩
    have HL := Lib.hid hl
    have HO := Lib.hid hown
    have HB := Lib.hid hbw
    have hsz := hbw.size
    by_cases hlt : k < ws.length
    · obtain ⟨g, off, rfl, _, c1⟩ := HS.out.keep hbw k hlt
      have HW : Hid ((bs (ws[k]'hlt)).size ≤ 281474976710656) := Lib.hid (by have := HSH.out.2 _ (List.getElem_mem hlt); rw [size_bs]; omega)
      have HAT := Lib.hid (fun n (h : numW (ws[k]'hlt) = some n) => allW_take hlt HL.out h)
      have HNO := Lib.hid (allW_none (f := numW) ws k hlt)
      generalize ws[k]'hlt = x at *
      clear hown hbw hl
      by_cases hok : ∃ n, Lib.atoiAll x = .ok n
      · obtain ⟨n, hn1⟩ := hok
        have HN1 : Hid (Lib.atoiAll (bs x).data.toList = .ok n) := Lib.hid (by rw [bs_list]; exact hn1)
        have hin := Lib.hid (atoiAll_in hn1)
        by_cases hit : Lib.itoa n = x
        · have HNX := Lib.hid (HAT.out n (numW_iff.2 ⟨hin.out, hit⟩))
          subst hit
          clear hn1
          go_wp2_with (first
            | (go_at_call 60; (with_reducible refine (atoi_yes _ _ HW.out (HE.out.below HB.out) n HN1.out).mono ?_); rintro e w2 ⟨rfl, hb2⟩; have HB2 := Lib.hid (HB.out.trans (hb2.mono HB.out.size)); have HO2 := Lib.hid (own_below HO.out hb2); clear hb2)
            | (go_at_call 38; (with_reducible refine (itoa_any n hin.out.1 hin.out.2 _ (HT.out.below HB2.out)).mono ?_); rintro e w3 ⟨rfl, hb3⟩; have HB3 := Lib.hid (HB2.out.trans (hb3.mono HB2.out.size)); have HO3 := Lib.hid (own_below HO2.out hb3); have hsz3 := HB3.out.size; clear hb3)
            | (at_builtin; refine wpl_app1 rfl _ _ 34 rfl intElemL _ _ _ rfl _ rfl rfl HO3.out HB3.out (Nat.le_refl _) hsz3 (by omega) (by unfold maxLen; omega) ?_; intro v' w4 hown4 hbw4 hg4; have HO4 := Lib.hid hown4; have HB4 := Lib.hid hbw4; clear hg4 hown4 hbw4))
          go_roundg (ws.length - (k + 1))
          case measure => omega
          case rel => exact ⟨k + 1, _, by omega, rfl, by go_num, HNX.out, by simpa using HO4.out, HB4.out⟩
        · have HNN := Lib.hid (HNO.out (by
            cases e : numW x with
            | none => rfl
            | some m =>
              obtain ⟨h1, h2⟩ := numW_iff.1 e
              rw [← h2, atoiAll_itoa h1] at hn1
              cases hn1
              exact absurd h2 hit))
          have hne := text_ne fun e => hit (bs_inj e)
          clear hn1 hit
          go_wp2_with (first
            | (go_at_call 60; (with_reducible refine (atoi_yes _ _ HW.out (HE.out.below HB.out) n HN1.out).mono ?_); rintro e w2 ⟨rfl, hb2⟩; have HB2 := Lib.hid (HB.out.trans (hb2.mono HB.out.size)); have HO2 := Lib.hid (own_below HO.out hb2); clear hb2)
            | (go_at_call 38; (with_reducible refine (itoa_any n hin.out.1 hin.out.2 _ (HT.out.below HB2.out)).mono ?_); rintro e w3 ⟨rfl, hb3⟩; have HB3 := Lib.hid (HB2.out.trans (hb3.mono HB2.out.size)); clear hb3))
          go_ret2
          exact rowPost_none HNN.out HB3.out
      · have hno : ∀ n, Lib.atoiAll x ≠ .ok n := fun n h => hok ⟨n, h⟩
        have HNN := Lib.hid (HNO.out (by
          cases e : numW x with
          | none => rfl
          | some m =>
            obtain ⟨h1, h2⟩ := numW_iff.1 e
            exact absurd (h2 ▸ atoiAll_itoa h1) (hno m)))
        have HN1 : Hid (∀ n, Lib.atoiAll (bs x).data.toList ≠ .ok n) := Lib.hid (by rw [bs_list]; exact hno)
        clear hno hok
        go_wp2_with (first
          | (go_at_call 60; (with_reducible refine (atoi_not _ _ HW.out (HE.out.below HB.out) HN1.out).mono ?_); rintro e w2 ⟨m, N, rfl, hb2⟩; have HB2 := Lib.hid (HB.out.trans (hb2.mono HB.out.size)); clear hb2))
        go_ret2
        exact rowPost_none HNN.out HB2.out
    · obtain rfl : k = ws.length := by omega
      rw [List.take_length] at HL
      clear hown hbw hl
      go_wp2_with fail
      go_ret2
      exact rowPost_some HL.out HB.out HO.out
theorem rowPost_get {α : Type} {T : TypeId} {f : α → Value} {r : Option (List α)} {w w' : World} {e : Ending} {l : List α} (hp : RowPost T f r w e w') (h : r = some l) : Below w.heap.size w w' ∧ ∃ a c, e = .returned (.tuple #[.slice a l.length c, .bool true]) ∧ w'.ownsRow w.heap.size T 1 (.slice a l.length c) l.length (l.map f) := by
  subst h
  obtain ⟨hb, v, he, ho⟩ := hp
  obtain ⟨a, c, rfl⟩ := own_slice ho
  exact ⟨hb, a, c, he, ho⟩
theorem rowPost_no {α : Type} {T : TypeId} {f : α → Value} {r : Option (List α)} {w w' : World} {e : Ending} (hp : RowPost T f r w e w') (h : r = none) : Below w.heap.size w w' ∧ e = .returned (.tuple #[.slice none 0 0, .bool false]) := by
  subst h
  exact hp
set_option maxRecDepth 100000 in
theorem two_yes (ws : List (List UInt8)) (a : Option Addr) (cap : Nat) (w : World) (hs : Txt w a ws) (hsh : Short ws) (ht : HasTab w) (he : HasErrs w) (x y : Int) (h : numsW ws = some [x, y]) :
    Calls Tryd.prog 47 #[.slice a ws.length cap] w fun e w' => e = .returned (.tuple #[.int .i64 x, .int .i64 y, .bool true]) ∧ Below w.heap.size w w' := by
  have HN := Lib.hid (numbers_any ws a cap w hs hsh ht he)
  have H := Lib.hid h
  clear hs hsh ht he h
  go_enter Tryd.func47, Tryd.ntmps47
  go_wp2_with (go_at_call 48; (with_reducible refine HN.out.mono ?_); rintro e w2 hp; obtain ⟨hb2, a2, c2, rfl, ho⟩ := rowPost_get hp H.out; obtain ⟨g2, cap2, hv, _⟩ := own_some ho (by simp); cases hv; have c0 := (own_cell (i := 0) ho rfl).1; have c1 := (own_cell (i := 1) ho rfl).1; clear hp ho)
  go_region
  go_wp2_with fail
  go_ret3
  exact ⟨rfl, hb2.drew⟩
set_option maxRecDepth 100000 in
theorem two_no (ws : List (List UInt8)) (a : Option Addr) (cap : Nat) (w : World) (hs : Txt w a ws) (hsh : Short ws) (ht : HasTab w) (he : HasErrs w) (h : ∀ x y, numsW ws ≠ some [x, y]) :
    Calls Tryd.prog 47 #[.slice a ws.length cap] w fun e w' => e = .returned (.tuple #[.int .i64 0, .int .i64 0, .bool false]) ∧ Below w.heap.size w w' := by
  have HN := Lib.hid (numbers_any ws a cap w hs hsh ht he)
  have H := Lib.hid h
  clear hs hsh ht he h
  cases hn : numsW ws with
  | none =>
    go_enter Tryd.func47, Tryd.ntmps47
    go_wp2_with (go_at_call 48; (with_reducible refine HN.out.mono ?_); rintro e w2 hp; obtain ⟨hb2, rfl⟩ := rowPost_no hp hn; clear hp)
    go_ret3
    exact ⟨rfl, hb2⟩
  | some l =>
    have hl : l.length ≠ 2 := fun e => by
      match l, e with
      | [x, y], _ => exact H.out x y hn
    have hl2 : ((l.length : Int) == 2) = false := by simpa using (show (l.length : Int) ≠ 2 by omega)
    have HL := Lib.hid hn
    clear hn
    go_enter Tryd.func47, Tryd.ntmps47
    go_wp2_with (go_at_call 48; (with_reducible refine HN.out.mono ?_); rintro e w2 hp; obtain ⟨hb2, a2, c2, rfl, ho⟩ := rowPost_get hp HL.out; clear hp ho)
    go_ret3
    exact ⟨rfl, hb2⟩
/-! ### Numbers of 64 bits -/
theorem u64ElemL : Elem Tryd.prog 26 57 1 8 := ⟨Tryd.underlying26, ⟨.int .u64 0, by kernel_rfl, rfl⟩, by omega⟩
set_option maxRecDepth 100000 in
theorem pu_yes (s : ByteArray) (w : World) (hl : s.size ≤ 281474976710656) (n : Nat) (h : Lib.parseUintB 64 s.data.toList = .ok n) :
    Calls Tryd.prog 79 #[.string s, .int .i64 10, .int .i64 64] w fun e w' => e = .returned (.tuple #[.int .u64 n, .nilIface]) ∧ Below w.heap.size w w' := by
  have HC := Lib.hid (Tryd.internal_strconv_ParseUint_10_at64 s (by omega) w)
  have H := Lib.hid h
  clear h
  go_enter Tryd.func79, Tryd.ntmps79
  go_wp2_with (go_at_call 96; (with_reducible refine HC.out.mono ?_); rintro e w1 ⟨he, hw⟩; rw [H.out] at he; have he2 : e = .returned (.tuple #[.int .u64 n, .nilIface]) := he; subst he2; have HB : Hid (Below w.heap.size w w1) := Lib.hid (below_or hw); clear hw he)
  go_ret2
  exact ⟨rfl, HB.out⟩
set_option maxRecDepth 100000 in
theorem pu_not (s : ByteArray) (w : World) (hl : s.size ≤ 281474976710656) (he : HasErrs w) (h : ∀ n, Lib.parseUintB 64 s.data.toList ≠ .ok n) :
    Calls Tryd.prog 79 #[.string s, .int .i64 10, .int .i64 64] w fun e w' => ∃ m N, e = .returned (.tuple #[.int .u64 m, .iface 140 (.pointer (some ⟨N, 0, none⟩))]) ∧ Below w.heap.size w w' := by
  have HC := Lib.hid (Tryd.internal_strconv_ParseUint_10_at64 s (by omega) w)
  have HE := Lib.hid he
  clear he
  cases hp : Lib.parseUintB 64 s.data.toList with
  | ok n => exact absurd hp (h n)
  | range =>
    have H := Lib.hid hp
    clear hp h
    go_enter Tryd.func79, Tryd.ntmps79
    go_wp2_with (first
      | (go_at_call 96; (with_reducible refine HC.out.mono ?_); rintro e w1 ⟨he, hw⟩; rw [H.out] at he; have he2 : e = .returned (.tuple #[.int .u64 18446744073709551615, .iface 137 (.int .i64 1)]) := he; subst he2; have HB : Hid (Below w.heap.size w w1) := Lib.hid (below_or hw); clear hw he)
      | (go_at_call 78; obtain ⟨_, te, pe, hv1⟩ := HE.out.below HB.out; refine (Tryd.strconv_toError_range _ s 10 64 _ _ hl hv1 (.inr ⟨_, _, rfl⟩)).mono ?_; rintro e w2 ⟨N, rfl, _, _, hb2⟩; have HB2 := Lib.hid (HB.out.trans (hb2.mono HB.out.size)); clear hb2 hv1))
    go_ret2
    exact ⟨_, _, rfl, HB2.out⟩
  | _ =>
    have H := Lib.hid hp
    clear hp h
    go_enter Tryd.func79, Tryd.ntmps79
    go_wp2_with (first
      | (go_at_call 96; (with_reducible refine HC.out.mono ?_); rintro e w1 ⟨he, hw⟩; rw [H.out] at he; have he2 : e = .returned (.tuple #[.int .u64 0, .iface 137 (.int .i64 2)]) := he; subst he2; have HB : Hid (Below w.heap.size w w1) := Lib.hid (below_or hw); clear hw he)
      | (go_at_call 78; obtain ⟨⟨te, pe, hv1⟩, _⟩ := HE.out.below HB.out; refine (Tryd.strconv_toError_syntax _ s 10 64 _ _ hl hv1 (.inr ⟨_, _, rfl⟩)).mono ?_; rintro e w2 ⟨N, rfl, _, _, hb2⟩; have HB2 := Lib.hid (HB.out.trans (hb2.mono HB.out.size)); clear hb2 hv1))
    go_ret2
    exact ⟨_, _, rfl, HB2.out⟩
set_option maxRecDepth 100000 in
set_option maxHeartbeats 2000000 in
theorem row_any (ws : List (List UInt8)) (a : Option Addr) (cap : Nat) (w : World) (hs : Txt w a ws) (hsh : Short ws) (ht : HasTab w) (he : HasErrs w) :
    Calls Tryd.prog 63 #[.slice a ws.length cap] w (RowPost 57 (fun n : Nat => Value.int .u64 n) (usW ws) w) := by
  have HS := Lib.hid hs
  have HT := Lib.hid ht
  have HE := Lib.hid he
  have HSH := Lib.hid hsh
  have hn := hsh.1
  clear hs ht he hsh
  go_enter Tryd.func63, Tryd.ntmps63
  go_wp2_with fail
  go_loopg [4, 11] ws.length (fun g v iv wr => ∃ (k : Nat) (l : List Nat), k ≤ ws.length ∧ g = ws.length - k ∧ iv = .int .i64 k ∧ usW (ws.take k) = some l ∧ wr.ownsRow w.heap.size 57 1 v k (l.map (fun n : Nat => Value.int .u64 n)) ∧ Below w.heap.size w wr)
  case atStart => exact ⟨0, [], by omega, rfl, rfl, rfl, World.ownsRow_nil _ _ _ _, Below.refl _ _⟩
  case round =>
    obtain ⟨k, l, hk, rfl, rfl, hl, hown, hbw⟩ := hrel
    obtain ⟨wo, rfl⟩ : ∃ wo : World, wo = wr := ⟨_, rfl⟩
    have HL := Lib.hid hl
    have HO := Lib.hid hown
    have HB := Lib.hid hbw
    have hsz := hbw.size
    by_cases hlt : k < ws.length
    · obtain ⟨g, off, rfl, _, c1⟩ := HS.out.keep hbw k hlt
      have HW : Hid ((bs (ws[k]'hlt)).size ≤ 281474976710656) := Lib.hid (by have := HSH.out.2 _ (List.getElem_mem hlt); rw [size_bs]; omega)
      have HAT := Lib.hid (fun n (h : uW (ws[k]'hlt) = some n) => allW_take hlt HL.out h)
      have HNO := Lib.hid (allW_none (f := uW) ws k hlt)
      generalize ws[k]'hlt = x at *
      clear hown hbw hl
      by_cases hok : ∃ n, Lib.parseUintB 64 x = .ok n
      · obtain ⟨n, hn1⟩ := hok
        have HN1 : Hid (Lib.parseUintB 64 (bs x).data.toList = .ok n) := Lib.hid (by rw [bs_list]; exact hn1)
        have hin := Lib.hid (parseUintB_lt hn1)
        by_cases hit : Lib.decDigits n = x
        · have HNX := Lib.hid (HAT.out n (uW_iff.2 ⟨hin.out, hit⟩))
          subst hit
          clear hn1
          go_wp2_with (first
            | (go_at_call 79; (with_reducible refine (pu_yes _ _ HW.out n HN1.out).mono ?_); rintro e w2 ⟨rfl, hb2⟩; have HB2 := Lib.hid (HB.out.trans (hb2.mono HB.out.size)); have HO2 := Lib.hid (own_below HO.out hb2); clear hb2)
            | (go_at_call 41; (with_reducible refine (fmtU_any n hin.out _ (HT.out.below HB2.out)).mono ?_); rintro e w3 ⟨rfl, hb3⟩; have HB3 := Lib.hid (HB2.out.trans (hb3.mono HB2.out.size)); have HO3 := Lib.hid (own_below HO2.out hb3); have hsz3 := HB3.out.size; clear hb3)
            | (at_builtin; refine wpl_app1 rfl _ _ 26 rfl u64ElemL _ _ _ rfl _ rfl rfl HO3.out HB3.out (Nat.le_refl _) hsz3 (by omega) (by unfold maxLen; omega) ?_; intro v' w4 hown4 hbw4 hg4; have HO4 := Lib.hid hown4; have HB4 := Lib.hid hbw4; clear hg4 hown4 hbw4))
          go_roundg (ws.length - (k + 1))
          case measure => omega
          case rel => exact ⟨k + 1, _, by omega, rfl, by go_num, HNX.out, by simpa using HO4.out, HB4.out⟩
        · have HNN := Lib.hid (HNO.out (by
            cases e : uW x with
            | none => rfl
            | some m =>
              obtain ⟨h1, h2⟩ := uW_iff.1 e
              rw [← h2, parseUintB_dec m h1] at hn1
              cases hn1
              exact absurd h2 hit))
          have hne := text_ne fun e => hit (bs_inj e)
          clear hn1 hit
          go_wp2_with (first
            | (go_at_call 79; (with_reducible refine (pu_yes _ _ HW.out n HN1.out).mono ?_); rintro e w2 ⟨rfl, hb2⟩; have HB2 := Lib.hid (HB.out.trans (hb2.mono HB.out.size)); have HO2 := Lib.hid (own_below HO.out hb2); clear hb2)
            | (go_at_call 41; (with_reducible refine (fmtU_any n hin.out _ (HT.out.below HB2.out)).mono ?_); rintro e w3 ⟨rfl, hb3⟩; have HB3 := Lib.hid (HB2.out.trans (hb3.mono HB2.out.size)); clear hb3))
          go_ret2
          exact rowPost_none HNN.out HB3.out
      · have hno : ∀ n, Lib.parseUintB 64 x ≠ .ok n := fun n h => hok ⟨n, h⟩
        have HNN := Lib.hid (HNO.out (by
          cases e : uW x with
          | none => rfl
          | some m =>
            obtain ⟨h1, h2⟩ := uW_iff.1 e
            exact absurd (h2 ▸ parseUintB_dec m h1) (hno m)))
        have HN1 : Hid (∀ n, Lib.parseUintB 64 (bs x).data.toList ≠ .ok n) := Lib.hid (by rw [bs_list]; exact hno)
        clear hno hok
        go_wp2_with (first
          | (go_at_call 79; (with_reducible refine (pu_not _ _ HW.out (HE.out.below HB.out) HN1.out).mono ?_); rintro e w2 ⟨m, N, rfl, hb2⟩; have HB2 := Lib.hid (HB.out.trans (hb2.mono HB.out.size)); clear hb2))
        go_ret2
        exact rowPost_none HNN.out HB2.out
    · obtain rfl : k = ws.length := by omega
      rw [List.take_length] at HL
      clear hown hbw hl
      go_wp2_with fail
      go_ret2
      exact rowPost_some HL.out HB.out HO.out
end Go.Proofs.YtplhmcmfdcklaaaDoor.Lex
