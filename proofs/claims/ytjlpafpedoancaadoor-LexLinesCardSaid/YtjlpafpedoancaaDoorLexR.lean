/- The reference's Tokens, walked. -/
import Derived.Test.YtjlpafpedoancaaDoorLexT
namespace Go.Proofs.YtjlpafpedoancaaDoor.Lex
open Go.RowKit
set_option linter.unusedSimpArgs false
set_option linter.unusedVariables false
theorem rtokElem : Elem Tryd.prog 27 32 3 32 := ⟨Tryd.underlying27, ⟨.agg #[.int .i64 0, .string ByteArray.empty, .int .i64 0], by kernel_rfl, rfl⟩, by omega⟩
theorem kb_at {s : ByteArray} {i : Nat} (h : i < s.size) : kb s i = kd (s[i]'h).toNat := by
  have e : s.data.toList.getD i 0 = s[i]'h := by
    have hi : i < s.data.toList.length := by simpa using h
    simp [List.getD, List.getElem?_eq_getElem hi]
    rfl
  unfold kb
  rw [e]
theorem kd_le (c : Nat) : kd c ≤ 3 := by
  unfold kd
  repeat' split
  all_goals omega
theorem kb_le (s : ByteArray) (i : Nat) : kb s i ≤ 3 := kd_le _
/-- What the reference's Tokens makes of s. -/
def RTokPost (s : ByteArray) (w : World) (e : Ending) (w' : World) : Prop :=
  ((∃ m, m < s.size ∧ kb s m = 0) ∧ e = .returned (.tuple #[.slice none 0 0, .bool false]) ∧ Below w.heap.size w w') ∨
  ((∀ m, m < s.size → kb s m ≠ 0) ∧ ∃ v, e = .returned (.tuple #[v, .bool true]) ∧ w'.ownsRow w.heap.size 32 3 v (toks s s.size).length (tokCells s (toks s s.size)) ∧ Below w.heap.size w w')
/-- A place at which a token begins. -/
def Bord (s : ByteArray) (i : Nat) : Prop := i < s.size → kb s i ≠ 0 → kb s i = 3 ∨ kb s i ≠ lastK s i
theorem toks_to {s : ByteArray} {i t : Nat} (hb : kb s i = 3 ∨ kb s i ≠ lastK s i) (ht : i < t) (h : ∀ m, i ≤ m → m < t → kb s m = kb s i) (h3 : kb s i = 3 → t = i + 1) : toks s t = toks s i ++ [(kb s i, i, t)] := by
  by_cases hk : kb s i = 3
  · rw [h3 hk, toks_new hb]
  · exact toks_run hk (hb.resolve_left hk) t ht h
theorem bord_to {s : ByteArray} {i t : Nat} (ht : i < t) (h : ∀ m, i ≤ m → m < t → kb s m = kb s i) (h3 : kb s i = 3 → t = i + 1) (hs : kb s i = 3 ∨ t = s.size ∨ kb s t ≠ kb s i) : Bord s t := by
  intro hlt _
  obtain ⟨t, rfl⟩ : ∃ u, t = u + 1 := ⟨t - 1, by omega⟩
  have hl : lastK s (t + 1) = kb s i := h t (by omega) (by omega)
  rw [hl]
  rcases hs with h | h | h
  · rw [h]; exact Classical.em _
  · omega
  · exact .inr h
set_option maxRecDepth 100000 in
set_option maxHeartbeats 4000000 in
theorem rtoks (s : ByteArray) (w : World) (hs : s.size ≤ 300) : Calls Tryd.prog 7 #[.string s] w (RTokPost s w) := by
  go_enter Tryd.func7, Tryd.ntmps7
  go_wp2
  go_loopg [4, 5] s.size (fun g v iv wr => ∃ i : Nat, i ≤ s.size ∧ g = s.size - i ∧ iv = .int .i64 i ∧ wr.ownsRow w.heap.size 32 3 v (toks s i).length (tokCells s (toks s i)) ∧ Below w.heap.size w wr ∧ (∀ m, m < i → kb s m ≠ 0) ∧ Bord s i)
  case atStart => exact ⟨0, by omega, rfl, rfl, World.ownsRow_nil _ _ _ _, Below.refl _ _, by omega, fun _ h => .inr h⟩
  case round =>
    obtain ⟨i, hi, rfl, rfl, hown, hbw, hall, hbord⟩ := hrel
    obtain ⟨wo, rfl⟩ : ∃ wo : World, wo = wr := ⟨_, rfl⟩
    have HA := Lib.hid hall
    have HO := Lib.hid hown
    have HB := Lib.hid hbw
    have HD := Lib.hid hbord
    have hsz := hbw.size
    clear hall hown hbw hbord
    by_cases hp : i < s.size
    · have hk := kb_at hp
      by_cases hz : kb s i = 0
      · have HC : Hid (kd (s[i]'hp).toNat = 0) := Lib.hid (by rw [← hk]; exact hz)
        have HZ := Lib.hid hz
        clear hz hk
        go_wp2_with (go_at_call 14; (with_reducible refine (rkind _ _).mono ?_); rintro e w' ⟨rfl, rfl⟩; rw [HC.out])
        go_ret2
        exact .inl ⟨⟨i, hp, HZ.out⟩, rfl, HB.out⟩
      · have HKB := Lib.hid hk
        have hz' : kd (s[i]'hp).toNat ≠ 0 := by rw [← hk]; exact hz
        have hk3 : kd (s[i]'hp).toNat ≤ 3 := kd_le _
        generalize hkk : kd (s[i]'hp).toNat = k at *
        have HKK := Lib.hid hkk
        have t0 : ((k : Int) == 0) = false := beq_eq_false_iff_ne.2 (by omega)
        clear hk hkk hz
        go_wp2_with (go_at_call 14; (with_reducible refine (rkind _ _).mono ?_); rintro e w' ⟨rfl, rfl⟩; rw [HKK.out])
        go_loop [7] (fun tv => ∃ t : Nat, i < t ∧ t ≤ s.size ∧ tv = .int .i64 t ∧ (∀ m, i ≤ m → m < t → kb s m = k) ∧ (k = 3 → t = i + 1)) (fun tv => s.size - (intOf tv).toNat)
        case atStart => exact ⟨i + 1, by omega, by omega, by go_num, fun m h1 h2 => by obtain rfl : m = i := by omega
                                                                                       exact HKB.out, fun _ => rfl⟩
        case round =>
          obtain ⟨t, ht1, ht2, rfl, hall, h3⟩ := hrel
          have HT := Lib.hid hall
          have H3 := Lib.hid h3
          clear hall h3
          by_cases hc : k < 3 ∧ t < s.size ∧ kb s t = k
          · obtain ⟨c1, c2, c3⟩ := hc
            have hkt := kb_at c2
            have HKT : Hid (kd (s[t]'c2).toNat = k) := Lib.hid (by rw [← hkt]; exact c3)
            have HC3 := Lib.hid c3
            clear hkt c3
            go_wp2_with (go_at_call 14; (with_reducible refine (rkind _ _).mono ?_); rintro e w' ⟨rfl, rfl⟩; rw [HKT.out])
            go_round
            case rel => exact ⟨t + 1, by omega, by omega, by go_num, fun m h1 h2 => by
              rcases Nat.lt_or_ge m t with h | h
              · exact HT.out m h1 h
              · obtain rfl : m = t := by omega
                exact HC3.out, by omega⟩
            case measure => simp [intOf]; omega
          · have hst : kb s i = 3 ∨ t = s.size ∨ kb s t ≠ kb s i := by
              rw [HKB.out]
              by_cases c1 : k = 3
              · exact .inl c1
              · by_cases c2 : t < s.size
                · exact .inr (.inr fun h => hc ⟨by omega, c2, h⟩)
                · exact .inr (.inl (by omega))
            have hall2 : ∀ m, i ≤ m → m < t → kb s m = kb s i := by rw [HKB.out]; exact HT.out
            have h32 : kb s i = 3 → t = i + 1 := by rw [HKB.out]; exact H3.out
            have hbi := HD.out hp (by rw [HKB.out]; exact hz')
            have HN : Hid (toks s t = toks s i ++ [(k, i, t)]) := Lib.hid (by rw [toks_to hbi ht1 hall2 h32, HKB.out])
            have HD2 := Lib.hid (bord_to ht1 hall2 h32 hst)
            have HA2 : Hid (∀ m, m < t → kb s m ≠ 0) := Lib.hid fun m hm => by
              rcases Nat.lt_or_ge m i with h | h
              · exact HA.out m h
              · rw [HT.out m h hm]; exact hz'
            have hlt : (toks s i).length ≤ i := toks_le s i
            clear hst hall2 h32 hbi
            have HC := Lib.hid hc
            clear hc
            by_cases c1 : k < 3
            · by_cases c2 : t < s.size
              · have c3 : kb s t ≠ k := fun h => HC.out ⟨c1, c2, h⟩
                have hkt := kb_at c2
                generalize hkx : kd (s[t]'c2).toNat = kx at *
                have HKX := Lib.hid hkx
                have t1 : ((kx : Int) == (k : Int)) = false := beq_eq_false_iff_ne.2 (by omega)
                clear hkt hkx c3
                go_wp2_with (first | (go_at_call 14; (with_reducible refine (rkind _ _).mono ?_); rintro e w' ⟨rfl, rfl⟩; rw [HKX.out]) | (at_builtin; refine wpl_app3 rfl _ _ 27 rfl rtokElem _ _ _ rfl _ _ _ rfl (by simp [Value.oneCell']) HO.out HB.out (by omega) (by omega) (by omega) (by unfold maxLen; omega) ?_; intro v' w3 hown3 hbw3 hg3; have HO3 := Lib.hid hown3; have HB3 := Lib.hid hbw3; clear hg3 hown3 hbw3))
                go_roundg (s.size - t)
                case measure => omega
                case rel =>
                  refine ⟨t, ht2, rfl, rfl, ?_, HB3.out, HA2.out, HD2.out⟩
                  rw [HN.out, tokCells_snoc]
                  simpa using HO3.out
              · go_wp2_with (at_builtin; refine wpl_app3 rfl _ _ 27 rfl rtokElem _ _ _ rfl _ _ _ rfl (by simp [Value.oneCell']) HO.out HB.out (by omega) (by omega) (by omega) (by unfold maxLen; omega) ?_; intro v' w3 hown3 hbw3 hg3; have HO3 := Lib.hid hown3; have HB3 := Lib.hid hbw3; clear hg3 hown3 hbw3)
                go_roundg (s.size - t)
                case measure => omega
                case rel =>
                  refine ⟨t, ht2, rfl, rfl, ?_, HB3.out, HA2.out, HD2.out⟩
                  rw [HN.out, tokCells_snoc]
                  simpa using HO3.out
            · go_wp2_with (at_builtin; refine wpl_app3 rfl _ _ 27 rfl rtokElem _ _ _ rfl _ _ _ rfl (by simp [Value.oneCell']) HO.out HB.out (by omega) (by omega) (by omega) (by unfold maxLen; omega) ?_; intro v' w3 hown3 hbw3 hg3; have HO3 := Lib.hid hown3; have HB3 := Lib.hid hbw3; clear hg3 hown3 hbw3)
              go_roundg (s.size - t)
              case measure => omega
              case rel =>
                refine ⟨t, ht2, rfl, rfl, ?_, HB3.out, HA2.out, HD2.out⟩
                rw [HN.out, tokCells_snoc]
                simpa using HO3.out
    · obtain ⟨n, hn⟩ : ∃ n, n = i := ⟨_, rfl⟩
      go_wp2_with fail
      go_ret2
      have he : i = s.size := by omega
      exact .inr ⟨fun m hm => HA.out m (by omega), _, rfl, by rw [← he]; exact HO.out, HB.out⟩
end Go.Proofs.YtjlpafpedoancaaDoor.Lex
