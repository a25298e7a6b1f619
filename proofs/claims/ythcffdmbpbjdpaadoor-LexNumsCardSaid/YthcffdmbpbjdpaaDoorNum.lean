/- Numbers: the program's and the reference's, walked. -/
import Derived.Test.YthcffdmbpbjdpaaDoorNumS
import Derived.Test.YthcffdmbpbjdpaaDoorLexK
import Derived.Test.YthcffdmbpbjdpaaDoorMem2
import Derived.Test.YthcffdmbpbjdpaaDoorWordS
import Derived.Test.YthcffdmbpbjdpaaDoorLine
import Derived.Test.YthcffdmbpbjdpaaDoorStr
import Derived.Test.YthcffdmbpbjdpaaDoorShelf
import Derived.Deep.LoopGhost
import Derived.Lib.OthersKept
import Derived.Laws.RangeAny
import Derived.Lib.AtoiErrMem
import Derived.Lib.SmallJoins
import Derived.Lib.AppendIntMem
namespace Go.Proofs.YthcffdmbpbjdpaaDoor.Lex
open Go.RowKit
set_option linter.unusedSimpArgs false
set_option linter.unusedVariables false
/-- The table of powers of ten reads as Go's own text lays it. -/
def HasTab (w : World) : Prop := Lib.TabIs Tryd.prog w "internal/strconv.uint64pow10" .u64 Lib.pow10Tab
theorem HasTab.below {w w' : World} (h : HasTab w) (hb : Below w.heap.size w w') : HasTab w' := Joins.tab_stays (g := 2) (by kernel_rfl) h hb (Nat.le_refl _)
theorem atoi_any (s : ByteArray) (n : Nat) (w : World) (hl : s.size ≤ 18) (h : Lib.atoi s.data.toList = some (n : Int)) :
    Calls Tryd.prog 12 #[.string s] w fun e w' => e = .returned (.tuple #[.int .i64 n, .nilIface]) ∧ Below w.heap.size w w' :=
  (Tryd.strconv_Atoi s n hl h w).mono fun e w' ⟨h1, t, h2⟩ => ⟨h1, h2 ▸ Lib.bytesWorld_below _ _ _⟩
theorem digitVal_kd (b : UInt8) : (kd b.toNat = 2 ∧ ∃ d, Lib.digitVal b = some d ∧ d = b.toNat - 48 ∧ 48 ≤ b.toNat ∧ b.toNat ≤ 57) ∨ (kd b.toNat ≠ 2 ∧ Lib.digitVal b = none) := by
  by_cases h : 48 ≤ b.toNat ∧ b.toNat ≤ 57
  · exact .inl ⟨kd_2 h, _, by rw [Lib.digitVal, if_pos h], rfl, h.1, h.2⟩
  · refine .inr ⟨fun e => ?_, by rw [Lib.digitVal, if_neg h]⟩
    by_cases h1 : 97 ≤ b.toNat ∧ b.toNat ≤ 122
    · rw [kd_1 h1] at e; omega
    · by_cases h2 : b.toNat = 40 ∨ b.toNat = 41 ∨ b.toNat = 44
      · rw [kd_3 h2] at e; omega
      · rw [kd_0 h1 h h2] at e; omega
theorem decFrom_none {b : UInt8} (hb : Lib.digitVal b = none) : ∀ (l : List UInt8) (a : Nat), b ∈ l → Lib.decFrom a l = none
  | [], _, h => by simp at h
  | c :: l, a, h => by
    rw [Lib.decFrom]
    cases hc : Lib.digitVal c with
    | none => rfl
    | some d =>
      rcases List.mem_cons.1 h with rfl | h
      · rw [hb] at hc; cases hc
      · exact decFrom_none hb l _ h
theorem decFrom_some : ∀ (l : List UInt8) (a : Nat), (∀ b ∈ l, ∃ d, Lib.digitVal b = some d) → ∃ n, Lib.decFrom a l = some n
  | [], a, _ => ⟨a, rfl⟩
  | b :: l, a, h => by
    obtain ⟨d, hd⟩ := h b (by simp)
    rw [Lib.decFrom, hd]
    exact decFrom_some l _ fun c hc => h c (by simp [hc])
theorem atoi_digits {l : List UInt8} {n : Nat} (h0 : l ≠ []) (hall : ∀ b ∈ l, ∃ d, Lib.digitVal b = some d) (h : Lib.decFrom 0 l = some n) : Lib.atoi l = some (n : Int) := by
  cases l with
  | nil => exact absurd rfl h0
  | cons b r =>
    obtain ⟨d, hd⟩ := hall b (by simp)
    have hb : 48 ≤ b.toNat ∧ b.toNat ≤ 57 := by
      unfold Lib.digitVal at hd
      split at hd
      · assumption
      · cases hd
    have h45 : ¬ b = 45 := fun e => by rw [e] at hb; revert hb; decide
    have h43 : ¬ b = 43 := fun e => by rw [e] at hb; revert hb; decide
    simp [Lib.atoi, h45, h43, Lib.decNat, h]
/-- What the texts' numbers are. -/
def NumPost (l : List UInt8) (w : World) (e : Ending) (w' : World) : Prop :=
  Below w.heap.size w w' ∧ e = .returned (.tuple (match numOf l with | none => #[.int .i64 0, .int .i64 10] | some n => #[.int .i64 n, .int .i64 0]))
theorem numPost_no {l : List UInt8} {w w' : World} (h : numOf l = none) (hb : Below w.heap.size w w') : NumPost l w (.returned (.tuple #[.int .i64 0, .int .i64 10])) w' := ⟨hb, by rw [h]⟩
theorem numPost_yes {l : List UInt8} {w w' : World} {n : Nat} (h : numOf l = some n) (hb : Below w.heap.size w w') : NumPost l w (.returned (.tuple #[.int .i64 n, .int .i64 0])) w' := ⟨hb, by rw [h]⟩
/-- The three ways in which a text is ruled out ahead of the loop, or not. -/
theorem numOf_ways (s : ByteArray) : (s.size = 0 ∧ numOf s.data.toList = none) ∨ (9 < s.size ∧ numOf s.data.toList = none) ∨ (0 < s.size ∧ s.size ≤ 9 ∧ 1 < s.size ∧ byteAt s 0 = 48 ∧ numOf s.data.toList = none) ∨
    (0 < s.size ∧ s.size ≤ 9 ∧ ¬ (byteAt s 0 = 48 ∧ 1 < s.size) ∧ numOf s.data.toList = Lib.decFrom 0 s.data.toList) := by
  have hl : s.data.toList.length = s.size := by simp
  by_cases h0 : s.size = 0
  · exact .inl ⟨h0, by rw [numOf, if_pos (.inl (by omega))]⟩
  · by_cases h9 : 9 < s.size
    · exact .inr (.inl ⟨h9, by rw [numOf, if_pos (.inr (.inl (by omega)))]⟩)
    · have e0 := some_at (s := s) (j := 0) (by omega)
      by_cases hz : byteAt s 0 = 48 ∧ 1 < s.size
      · exact .inr (.inr (.inl ⟨by omega, by omega, hz.2, hz.1, by rw [numOf, if_pos (.inr (.inr ⟨by rw [e0, hz.1], by omega⟩))]⟩))
      · refine .inr (.inr (.inr ⟨by omega, by omega, hz, ?_⟩))
        rw [numOf, if_neg]
        rintro (h | h | ⟨h1, h2⟩)
        · omega
        · omega
        · rw [e0] at h1
          exact hz ⟨Option.some.inj h1, by omega⟩
theorem mem_at {s : ByteArray} {k : Nat} (h : k < s.size) : byteAt s k ∈ s.data.toList := List.mem_of_getElem? (some_at h)
theorem all_at {s : ByteArray} {Q : UInt8 → Prop} (h : ∀ k, k < s.size → Q (byteAt s k)) : ∀ b ∈ s.data.toList, Q b := fun b hb => by
  obtain ⟨k, hk, rfl⟩ := List.mem_iff_getElem.1 hb
  have h1 := h k (by simpa using hk)
  have h2 := some_at (s := s) (j := k) (by simpa using hk)
  rw [List.getElem?_eq_getElem hk] at h2
  rwa [← Option.some.inj h2] at h1
/-- A byte that is no digit: what the loop reads there. -/
theorem next_nodigit {w : World} {k : Nat} {s : ByteArray} {i : Nat} (hk : w.heap[k]? = some (.stringIter s i)) (h : i < s.size) (hz : kd (byteAt s i).toNat ≠ 2) :
    ∃ (c p : Nat), kd c ≠ 2 ∧ ∀ ty, (Instr.next (.pointer (some ⟨k, 0, none⟩)) true ty).run Tryd.prog w = .ok (.tuple #[.bool true, .int .i64 i, .int .i32 c]) (w.iterAt k s p) := by
  rw [byteAt_eq h] at hz
  by_cases ha : (s[i]'h).toNat < 128
  · exact ⟨_, _, hz, fun ty => Lib.run_next_ascii_at w k s i ty hk h ha⟩
  · have := decode_high s i h (by omega)
    exact ⟨_, _, by rw [kd_0 (by omega) (by omega) (by omega)]; omega, fun ty => Lib.run_next_any_at w k s i ty hk h⟩
set_option maxRecDepth 100000 in
set_option maxHeartbeats 4000000 in
theorem num_loop (s : ByteArray) (w : World) (h1 : 0 < s.size) (h9 : s.size ≤ 9) (hz : ¬ (byteAt s 0 = 48 ∧ 1 < s.size)) (hnum : numOf s.data.toList = Lib.decFrom 0 s.data.toList) : Calls Tryd.prog 5 #[.string s] w (NumPost s.data.toList w) := by
  have HN := Lib.hid hnum
  have hb0 := byteAt_eq h1
  have hne : s.data.toList ≠ [] := fun e => by
    have h2 := congrArg List.length e
    have h3 : s.data.toList.length = s.size := by simp
    rw [List.length_nil] at h2
    omega
  have HNE := Lib.hid hne
  rw [hb0] at hz
  clear hnum hb0 hne
  by_cases e : s[0]'h1 = 48
  · have hs1 : s.size ≤ 1 := Nat.le_of_not_lt fun h => hz ⟨e, h⟩
    have t0 : (((s[0]'h1).toNat : Int) == 48) = true := by rw [e]; rfl
    clear hz e
    go_enter Tryd.func5, Tryd.ntmps5
    go_wp2_with fail
    go_loopg [] s.size (fun g wr => ∃ i : Nat, i ≤ s.size ∧ g = s.size - i ∧ wr.heap[w.heap.size]? = some (.stringIter s i) ∧ Below w.heap.size w wr ∧ ∀ m, m < i → kd (byteAt s m).toNat = 2)
    case atStart => exact ⟨0, by omega, rfl, World.iter_heap w s 0, (Below.refl _ _).alloc (Nat.le_refl _) _, by omega⟩
    case round =>
      obtain ⟨i, hi, rfl, hit, hbw, hall⟩ := hrel
      obtain ⟨wo, rfl⟩ : ∃ wo : World, wo = wr := ⟨_, rfl⟩
      have HA := Lib.hid hall
      have HB := Lib.hid hbw
      clear hall hbw
      by_cases hp : i < s.size
      · by_cases hk : kd (byteAt s i).toNat = 2
        · have hbe := byteAt_eq hp
          have ha : (s[i]'hp).toNat < 128 := by
            rw [hbe] at hk
            rcases digitVal_kd (s[i]'hp) with ⟨_, _, _, _, _, h⟩ | ⟨h, _⟩
            · omega
            · exact absurd hk h
          have hnx : ∀ ty, (Instr.next (.pointer (some ⟨w.heap.size, 0, none⟩)) true ty).run Tryd.prog wo = _ := fun ty => Lib.run_next_ascii_at wo w.heap.size s i ty hit hp ha
          have HI2 := Lib.hid (Lib.iterAt_heap wo w.heap.size s i (i + 1) hit)
          have HB2 := Lib.hid (Lib.below_iterAt HB.out (k := w.heap.size) (Nat.le_refl _) s (i + 1))
          have HA2 : Hid (∀ m, m < i + 1 → kd (byteAt s m).toNat = 2) := Lib.hid fun m hm => by
            rcases Nat.lt_or_ge m i with h | h
            · exact HA.out m h
            · obtain rfl : m = i := by omega
              exact hk
          rw [hbe] at hk
          have HK := Lib.hid hk
          generalize wo.iterAt w.heap.size s (i + 1) = W1 at *
          clear hit hk hbe ha
          go_wp2_with (go_at_call 11; (with_reducible refine (lkind _ _).mono ?_); rintro e w' ⟨rfl, rfl⟩; rw [HK.out])
          go_roundg (s.size - (i + 1))
          case measure => omega
          case rel => exact ⟨i + 1, by omega, rfl, HI2.out, HB2.out, HA2.out⟩
        · obtain ⟨c, p, hc, hnx⟩ := next_nodigit hit hp hk
          have HB2 := Lib.hid (Lib.below_iterAt HB.out (k := w.heap.size) (Nat.le_refl _) s p)
          have HNO : Hid (numOf s.data.toList = none) := Lib.hid (by
            rw [HN.out]
            rcases digitVal_kd (byteAt s i) with ⟨h, _⟩ | ⟨_, h⟩
            · exact absurd h hk
            · exact decFrom_none h _ _ (mem_at hp))
          generalize wo.iterAt w.heap.size s p = W1 at *
          clear hit hk
          generalize hcc : kd c = kc at *
          have HC := Lib.hid hcc
          have t1 : ((kc : Int) != 2) = true := by rw [bne_iff_ne]; omega
          clear hcc hc
          go_wp2_with (go_at_call 11; (with_reducible refine (lkind _ _).mono ?_); rintro e w' ⟨rfl, rfl⟩; rw [HC.out])
          go_ret2
          exact numPost_no HNO.out HB2.out
      · have hnx : ∀ ty, (Instr.next (.pointer (some ⟨w.heap.size, 0, none⟩)) true ty).run Tryd.prog wo = _ := fun ty => Lib.run_next_end_at wo w.heap.size s i ty hit hp
        have hdg : ∀ b ∈ s.data.toList, ∃ d, Lib.digitVal b = some d := all_at (Q := fun b => ∃ d, Lib.digitVal b = some d) fun k hk => by
          rcases digitVal_kd (byteAt s k) with ⟨_, d, h, _⟩ | ⟨h, _⟩
          · exact ⟨d, h⟩
          · exact absurd (HA.out k (by omega)) h
        obtain ⟨n, hn⟩ := decFrom_some _ 0 hdg
        have HAT := Lib.hid (atoi_digits HNE.out hdg hn)
        have HNY : Hid (numOf s.data.toList = some n) := Lib.hid (by rw [HN.out, hn])
        clear hdg hn hit
        go_wp2_with (go_at_call 12; (with_reducible refine (atoi_any s n _ (by omega) HAT.out).mono ?_); rintro e w' ⟨rfl, hb⟩; have HB2 := Lib.hid (HB.out.trans (hb.mono HB.out.size)); clear hb)
        go_ret2
        exact numPost_yes HNY.out HB2.out
  · have t0 : (((s[0]'h1).toNat : Int) == 48) = false := beq_eq_false_iff_ne.2 fun h => e (UInt8.toNat_inj.1 (by show (s[0]'h1).toNat = 48; omega))
    clear hz e
    go_enter Tryd.func5, Tryd.ntmps5
    go_wp2_with fail
    go_loopg [] s.size (fun g wr => ∃ i : Nat, i ≤ s.size ∧ g = s.size - i ∧ wr.heap[w.heap.size]? = some (.stringIter s i) ∧ Below w.heap.size w wr ∧ ∀ m, m < i → kd (byteAt s m).toNat = 2)
    case atStart => exact ⟨0, by omega, rfl, World.iter_heap w s 0, (Below.refl _ _).alloc (Nat.le_refl _) _, by omega⟩
    case round =>
      obtain ⟨i, hi, rfl, hit, hbw, hall⟩ := hrel
      obtain ⟨wo, rfl⟩ : ∃ wo : World, wo = wr := ⟨_, rfl⟩
      have HA := Lib.hid hall
      have HB := Lib.hid hbw
      clear hall hbw
      by_cases hp : i < s.size
      · by_cases hk : kd (byteAt s i).toNat = 2
        · have hbe := byteAt_eq hp
          have ha : (s[i]'hp).toNat < 128 := by
            rw [hbe] at hk
            rcases digitVal_kd (s[i]'hp) with ⟨_, _, _, _, _, h⟩ | ⟨h, _⟩
            · omega
            · exact absurd hk h
          have hnx : ∀ ty, (Instr.next (.pointer (some ⟨w.heap.size, 0, none⟩)) true ty).run Tryd.prog wo = _ := fun ty => Lib.run_next_ascii_at wo w.heap.size s i ty hit hp ha
          have HI2 := Lib.hid (Lib.iterAt_heap wo w.heap.size s i (i + 1) hit)
          have HB2 := Lib.hid (Lib.below_iterAt HB.out (k := w.heap.size) (Nat.le_refl _) s (i + 1))
          have HA2 : Hid (∀ m, m < i + 1 → kd (byteAt s m).toNat = 2) := Lib.hid fun m hm => by
            rcases Nat.lt_or_ge m i with h | h
            · exact HA.out m h
            · obtain rfl : m = i := by omega
              exact hk
          rw [hbe] at hk
          have HK := Lib.hid hk
          generalize wo.iterAt w.heap.size s (i + 1) = W1 at *
          clear hit hk hbe ha
          go_wp2_with (go_at_call 11; (with_reducible refine (lkind _ _).mono ?_); rintro e w' ⟨rfl, rfl⟩; rw [HK.out])
          go_roundg (s.size - (i + 1))
          case measure => omega
          case rel => exact ⟨i + 1, by omega, rfl, HI2.out, HB2.out, HA2.out⟩
        · obtain ⟨c, p, hc, hnx⟩ := next_nodigit hit hp hk
          have HB2 := Lib.hid (Lib.below_iterAt HB.out (k := w.heap.size) (Nat.le_refl _) s p)
          have HNO : Hid (numOf s.data.toList = none) := Lib.hid (by
            rw [HN.out]
            rcases digitVal_kd (byteAt s i) with ⟨h, _⟩ | ⟨_, h⟩
            · exact absurd h hk
            · exact decFrom_none h _ _ (mem_at hp))
          generalize wo.iterAt w.heap.size s p = W1 at *
          clear hit hk
          generalize hcc : kd c = kc at *
          have HC := Lib.hid hcc
          have t1 : ((kc : Int) != 2) = true := by rw [bne_iff_ne]; omega
          clear hcc hc
          go_wp2_with (go_at_call 11; (with_reducible refine (lkind _ _).mono ?_); rintro e w' ⟨rfl, rfl⟩; rw [HC.out])
          go_ret2
          exact numPost_no HNO.out HB2.out
      · have hnx : ∀ ty, (Instr.next (.pointer (some ⟨w.heap.size, 0, none⟩)) true ty).run Tryd.prog wo = _ := fun ty => Lib.run_next_end_at wo w.heap.size s i ty hit hp
        have hdg : ∀ b ∈ s.data.toList, ∃ d, Lib.digitVal b = some d := all_at (Q := fun b => ∃ d, Lib.digitVal b = some d) fun k hk => by
          rcases digitVal_kd (byteAt s k) with ⟨_, d, h, _⟩ | ⟨h, _⟩
          · exact ⟨d, h⟩
          · exact absurd (HA.out k (by omega)) h
        obtain ⟨n, hn⟩ := decFrom_some _ 0 hdg
        have HAT := Lib.hid (atoi_digits HNE.out hdg hn)
        have HNY : Hid (numOf s.data.toList = some n) := Lib.hid (by rw [HN.out, hn])
        clear hdg hn hit
        go_wp2_with (go_at_call 12; (with_reducible refine (atoi_any s n _ (by omega) HAT.out).mono ?_); rintro e w' ⟨rfl, hb⟩; have HB2 := Lib.hid (HB.out.trans (hb.mono HB.out.size)); clear hb)
        go_ret2
        exact numPost_yes HNY.out HB2.out
set_option maxRecDepth 100000 in
set_option maxHeartbeats 1000000 in
theorem num (s : ByteArray) (w : World) (hs : s.size ≤ 9223372036854775807) : Calls Tryd.prog 5 #[.string s] w (NumPost s.data.toList w) := by
  rcases numOf_ways s with ⟨h, hn⟩ | ⟨h, hn⟩ | ⟨h0, h9, h1, hb, hn⟩ | ⟨h0, h9, hz, hn⟩
  · have HN := Lib.hid hn
    clear hn
    go_enter Tryd.func5, Tryd.ntmps5
    go_wp2_with fail
    go_ret2
    exact numPost_no HN.out (Below.refl _ _)
  · have HN := Lib.hid hn
    clear hn
    go_enter Tryd.func5, Tryd.ntmps5
    go_wp2_with fail
    go_ret2
    exact numPost_no HN.out (Below.refl _ _)
  · have HN := Lib.hid hn
    have hbe := byteAt_eq h0
    rw [hbe] at hb
    have t0 : (((s[0]'h0).toNat : Int) == 48) = true := by rw [hb]; rfl
    clear hn hbe hb
    go_enter Tryd.func5, Tryd.ntmps5
    go_wp2_with fail
    go_ret2
    exact numPost_no HN.out (Below.refl _ _)
  · exact num_loop s w h0 h9 hz hn
/-- The reference's number. -/
def rn (l : List UInt8) : Int := match numOf l with | none => -1 | some n => n
theorem rn_no {l : List UInt8} (h : numOf l = none) : rn l = -1 := by rw [rn, h]
theorem rn_yes {l : List UInt8} {n : Nat} (h : numOf l = some n) : rn l = n := by rw [rn, h]
theorem pow_le9 {k : Nat} (h : k ≤ 9) : 10 ^ k ≤ 1000000000 := Nat.le_trans (Nat.pow_le_pow_right (by omega) h) (by decide)
set_option maxRecDepth 100000 in
set_option maxHeartbeats 4000000 in
theorem rnum_loop (s : ByteArray) (w : World) (h1 : 0 < s.size) (h9 : s.size ≤ 9) (hz : ¬ (byteAt s 0 = 48 ∧ 1 < s.size)) (hnum : numOf s.data.toList = Lib.decFrom 0 s.data.toList) : Calls Tryd.prog 6 #[.string s] w fun e w' => e = .returned (.int .i64 (rn s.data.toList)) ∧ w = w' := by
  have HN := Lib.hid hnum
  have hb0 := byteAt_eq h1
  rw [hb0] at hz
  clear hnum hb0
  by_cases e : s[0]'h1 = 48
  · have hs1 : s.size ≤ 1 := Nat.le_of_not_lt fun h => hz ⟨e, h⟩
    have t0 : (((s[0]'h1).toNat : Int) == 48) = true := by rw [e]; rfl
    clear hz e
    have z0 : ((s.size : Int) == 0) = false := beq_eq_false_iff_ne.2 (by omega)
    go_enter Tryd.func6, Tryd.ntmps6
    go_wp2_with fail
    go_loop [3, 4] (fun nv iv => ∃ i m : Nat, i ≤ s.size ∧ iv = .int .i64 i ∧ nv = .int .i64 m ∧ m < 10 ^ i ∧ Lib.decFrom 0 (s.data.toList.take i) = some m) (fun _ iv => s.size - (intOf iv).toNat)
    case atStart => exact ⟨0, 0, by omega, rfl, rfl, by simp, rfl⟩
    case round =>
      obtain ⟨i, m, hi, rfl, rfl, hm, hd⟩ := hrel
      have HD := Lib.hid hd
      have hp9 := pow_le9 (show i ≤ 9 by omega)
      have HM := Lib.hid hm
      have hm9 : m < 1000000000 := by omega
      clear hd hm hp9
      by_cases hp : i < s.size
      · have hbe := byteAt_eq hp
        have h255 : (s[i]'hp).toNat < 256 := (s[i]'hp).toNat_lt
        rcases digitVal_kd (byteAt s i) with ⟨_, d, hd, hde, h48, h57⟩ | ⟨hk, hv⟩
        · have HD2 := Lib.hid (Lib.decFrom_take s.data.toList i 0 m (byteAt s i) d HD.out (some_at hp) hd)
          have HM2 : Hid (m * 10 + d < 10 ^ (i + 1)) := Lib.hid (by have := HM.out; rw [Nat.pow_succ]; omega)
          have HDE : Hid (d = (s[i]'hp).toNat - 48) := Lib.hid (by rw [hde, hbe])
          rw [hbe] at h48 h57
          clear hd hde hbe
          go_wp2_with fail
          go_round
          case rel =>
            have hde := HDE.out
            exact ⟨i + 1, m * 10 + d, by omega, by go_num, congrArg (Value.int .i64) (by omega), HM2.out, HD2.out⟩
          case measure => simp [intOf]; omega
        · have HNO := Lib.hid (rn_no (l := s.data.toList) (by rw [HN.out]; exact decFrom_none hv _ _ (mem_at hp)))
          have hnb : ¬ (48 ≤ (s[i]'hp).toNat ∧ (s[i]'hp).toNat ≤ 57) := fun h => hk (by rw [hbe]; exact kd_2 h)
          clear hk hv hbe
          by_cases h1 : (s[i]'hp).toNat < 48
          · clear hnb
            go_wp2_with fail
            go_ret
            exact ⟨ret_int HNO.out.symm, rfl⟩
          · have h2 : 57 < (s[i]'hp).toNat := by omega
            clear hnb
            go_wp2_with fail
            go_ret
            exact ⟨ret_int HNO.out.symm, rfl⟩
      · have HY := Lib.hid (rn_yes (l := s.data.toList) (n := m) (by rw [HN.out, ← HD.out, List.take_of_length_le (by simp; omega)]))
        go_wp2_with fail
        go_ret
        exact ⟨ret_int HY.out.symm, rfl⟩
  · have t0 : (((s[0]'h1).toNat : Int) == 48) = false := beq_eq_false_iff_ne.2 fun h => e (UInt8.toNat_inj.1 (by show (s[0]'h1).toNat = 48; omega))
    clear hz e
    have z0 : ((s.size : Int) == 0) = false := beq_eq_false_iff_ne.2 (by omega)
    go_enter Tryd.func6, Tryd.ntmps6
    go_wp2_with fail
    go_loop [3, 4] (fun nv iv => ∃ i m : Nat, i ≤ s.size ∧ iv = .int .i64 i ∧ nv = .int .i64 m ∧ m < 10 ^ i ∧ Lib.decFrom 0 (s.data.toList.take i) = some m) (fun _ iv => s.size - (intOf iv).toNat)
    case atStart => exact ⟨0, 0, by omega, rfl, rfl, by simp, rfl⟩
    case round =>
      obtain ⟨i, m, hi, rfl, rfl, hm, hd⟩ := hrel
      have HD := Lib.hid hd
      have hp9 := pow_le9 (show i ≤ 9 by omega)
      have HM := Lib.hid hm
      have hm9 : m < 1000000000 := by omega
      clear hd hm hp9
      by_cases hp : i < s.size
      · have hbe := byteAt_eq hp
        have h255 : (s[i]'hp).toNat < 256 := (s[i]'hp).toNat_lt
        rcases digitVal_kd (byteAt s i) with ⟨_, d, hd, hde, h48, h57⟩ | ⟨hk, hv⟩
        · have HD2 := Lib.hid (Lib.decFrom_take s.data.toList i 0 m (byteAt s i) d HD.out (some_at hp) hd)
          have HM2 : Hid (m * 10 + d < 10 ^ (i + 1)) := Lib.hid (by have := HM.out; rw [Nat.pow_succ]; omega)
          have HDE : Hid (d = (s[i]'hp).toNat - 48) := Lib.hid (by rw [hde, hbe])
          rw [hbe] at h48 h57
          clear hd hde hbe
          go_wp2_with fail
          go_round
          case rel =>
            have hde := HDE.out
            exact ⟨i + 1, m * 10 + d, by omega, by go_num, congrArg (Value.int .i64) (by omega), HM2.out, HD2.out⟩
          case measure => simp [intOf]; omega
        · have HNO := Lib.hid (rn_no (l := s.data.toList) (by rw [HN.out]; exact decFrom_none hv _ _ (mem_at hp)))
          have hnb : ¬ (48 ≤ (s[i]'hp).toNat ∧ (s[i]'hp).toNat ≤ 57) := fun h => hk (by rw [hbe]; exact kd_2 h)
          clear hk hv hbe
          by_cases h1 : (s[i]'hp).toNat < 48
          · clear hnb
            go_wp2_with fail
            go_ret
            exact ⟨ret_int HNO.out.symm, rfl⟩
          · have h2 : 57 < (s[i]'hp).toNat := by omega
            clear hnb
            go_wp2_with fail
            go_ret
            exact ⟨ret_int HNO.out.symm, rfl⟩
      · have HY := Lib.hid (rn_yes (l := s.data.toList) (n := m) (by rw [HN.out, ← HD.out, List.take_of_length_le (by simp; omega)]))
        go_wp2_with fail
        go_ret
        exact ⟨ret_int HY.out.symm, rfl⟩
set_option maxRecDepth 100000 in
set_option maxHeartbeats 1000000 in
theorem rnum (s : ByteArray) (w : World) (hs : s.size ≤ 9223372036854775807) : Calls Tryd.prog 6 #[.string s] w fun e w' => e = .returned (.int .i64 (rn s.data.toList)) ∧ w = w' := by
  rcases numOf_ways s with ⟨h, hn⟩ | ⟨h, hn⟩ | ⟨h0, h9, h1, hb, hn⟩ | ⟨h0, h9, hz, hn⟩
  · have HN := Lib.hid (rn_no hn)
    clear hn
    rw [HN.out]
    go_enter Tryd.func6, Tryd.ntmps6
    go_wp2_with fail
    go_ret
    exact ⟨rfl, rfl⟩
  · have HN := Lib.hid (rn_no hn)
    clear hn
    rw [HN.out]
    have z0 : ((s.size : Int) == 0) = false := beq_eq_false_iff_ne.2 (by omega)
    go_enter Tryd.func6, Tryd.ntmps6
    go_wp2_with fail
    go_ret
    exact ⟨rfl, rfl⟩
  · have HN := Lib.hid (rn_no hn)
    have hbe := byteAt_eq h0
    rw [hbe] at hb
    have t0 : (((s[0]'h0).toNat : Int) == 48) = true := by rw [hb]; rfl
    clear hn hbe hb
    rw [HN.out]
    have z0 : ((s.size : Int) == 0) = false := beq_eq_false_iff_ne.2 (by omega)
    go_enter Tryd.func6, Tryd.ntmps6
    go_wp2_with fail
    go_ret
    exact ⟨rfl, rfl⟩
  · exact rnum_loop s w h0 h9 hz hn
/-! ### Digits -/
theorem itoa_any (n : Int) (h0 : -9223372036854775808 ≤ n) (h1 : n ≤ 9223372036854775807) (w : World) (ht : HasTab w) :
    Calls Tryd.prog 13 #[.int .i64 n] w fun e w' => e = .returned (.string (bs (Lib.itoa n))) ∧ Below w.heap.size w w' :=
  (Tryd.strconv_Itoa n h0 h1 w ht).mono fun e w' ⟨e1, k, os, e2⟩ => ⟨e1, e2 ▸ Lib.below_grow _ _ (Nat.le_refl _) _ _⟩
theorem itoa_nat (n : Nat) : Lib.itoa (n : Int) = Lib.decDigits n := by
  rw [Lib.itoa, if_neg (by omega), Int.toNat_natCast]
theorem dig_no (n : Int) (w : World) (h : n < 0 ∨ 999999999 < n) : Calls Tryd.prog 7 #[.int .i64 n] w fun e w' => e = .returned (.tuple #[.string ⟨#[]⟩, .int .i64 3]) ∧ w = w' := by
  by_cases h0 : n < 0
  · clear h
    go_enter Tryd.func7, Tryd.ntmps7
    go_wp2_with fail
    go_ret2
    exact ⟨rfl, rfl⟩
  · have h1 : 999999999 < n := by omega
    clear h
    go_enter Tryd.func7, Tryd.ntmps7
    go_wp2_with fail
    go_ret2
    exact ⟨rfl, rfl⟩
theorem dig_yes (n : Nat) (w : World) (h : n ≤ 999999999) (ht : HasTab w) : Calls Tryd.prog 7 #[.int .i64 n] w fun e w' => e = .returned (.tuple #[.string (bs (Lib.decDigits n)), .int .i64 0]) ∧ Below w.heap.size w w' := by
  have HT := Lib.hid ht
  have HI := Lib.hid (itoa_nat n)
  clear ht
  go_enter Tryd.func7, Tryd.ntmps7
  go_wp2_with (go_at_call 13; (with_reducible refine (itoa_any n (by omega) (by omega) _ HT.out).mono ?_); rintro e w' ⟨rfl, hb⟩; have HB := Lib.hid hb; clear hb; rw [HI.out])
  go_ret2
  exact ⟨rfl, HB.out⟩
theorem digit_at (d : Nat) (h : d < 10) : (⟨#[48, 49, 50, 51, 52, 53, 54, 55, 56, 57]⟩ : ByteArray).extract d (d + 1) = bs [UInt8.ofNat (48 + d)] := by
  have : ∀ d : Fin 10, (⟨#[48, 49, 50, 51, 52, 53, 54, 55, 56, 57]⟩ : ByteArray).extract d.1 (d.1 + 1) = bs [UInt8.ofNat (48 + d.1)] := by decide +kernel
  exact this ⟨d, h⟩
theorem decDigits_len {n : Nat} (h : n ≤ 9223372036854775807) : (Lib.decDigits n).length ≤ 19 := by
  rw [Lib.decDigits_length]
  exact nDigits_le 18 n (by omega)
set_option maxRecDepth 100000 in
theorem rdig (n : Nat) (w : World) (h : n ≤ 9223372036854775807) : Calls Tryd.prog 8 #[.int .i64 n] w fun e w' => e = .returned (.string (bs (Lib.decDigits n))) ∧ w = w' := by
  have hl := decDigits_len h
  go_enter Tryd.func8, Tryd.ntmps8
  go_wp2_with fail
  go_loop [0, 3] (fun nv tv => ∃ (m : Nat) (t : List UInt8), m ≤ n ∧ nv = .int .i64 m ∧ tv = .string (bs t) ∧ Lib.decDigits m ++ t = Lib.decDigits n) (fun nv _ => (intOf nv).toNat)
  case atStart => exact ⟨n, [], Nat.le_refl _, rfl, rfl, by simp⟩
  case round =>
    obtain ⟨m, t, hm, rfl, rfl, ht⟩ := hrel
    have htl : (bs t).size ≤ 19 := by
      have h1 := congrArg List.length ht
      rw [List.length_append] at h1
      simp only [bs, ByteArray.size, List.size_toArray]
      omega
    by_cases h9 : m < 10
    · have HX : Hid ((⟨#[48, 49, 50, 51, 52, 53, 54, 55, 56, 57]⟩ : ByteArray).extract m (m + 1) ++ bs t = bs (Lib.decDigits n)) := Lib.hid (by rw [digit_at m h9, bs_bs, ← ht, decDigits_small h9])
      clear ht hl
      go_wp2_with fail
      go_ret
      exact ⟨congrArg (fun x => Ending.returned (Value.string x)) HX.out, rfl⟩
    · have HX : Hid ((⟨#[48, 49, 50, 51, 52, 53, 54, 55, 56, 57]⟩ : ByteArray).extract (m % 10) (m % 10 + 1) ++ bs t = bs ([UInt8.ofNat (48 + m % 10)] ++ t)) := Lib.hid (by rw [digit_at _ (by omega), bs_bs])
      have HT2 : Hid (Lib.decDigits (m / 10) ++ ([UInt8.ofNat (48 + m % 10)] ++ t) = Lib.decDigits n) := Lib.hid (by rw [← ht, decDigits_big h9, List.append_assoc])
      clear ht hl
      go_wp2_with fail
      go_round
      case rel => exact ⟨m / 10, _, by omega, by go_num, congrArg Value.string HX.out, HT2.out⟩
      case measure => simp [intOf]; omega
end Go.Proofs.YthcffdmbpbjdpaaDoor.Lex
