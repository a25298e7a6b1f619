/- slices.SortStableFunc at entries. -/
import Derived.Test.YtdhkndoglcnllaaDoorSm3e
namespace Go.Proofs.YtdhkndoglcnllaaDoor.Stab
open Go Go.RowKit
set_option linter.unusedSimpArgs false
set_option linter.unusedVariables false
theorem symAt_all {B b : Nat} {W0 : World} (hB : B ≤ b) {pa : Addr} {cf : EC → EC → Int} (hcmp : CmpAt B b W0 pa cf) {cap N : Nat} (hl : N ≤ 1099511627776) : ∀ q, SymAt B b W0 pa cf cap N q
  | 0 => fun L a m c W hN hq => by omega
  | q + 1 => symAt_step hB hcmp hl (symAt_all hB hcmp hl q)
theorem srt_past {α : Type} {lt : α → α → Bool} {l : List α} {a b c : Nat} (h : Srt lt (sec l a b)) (hb : l.length ≤ b) (hc : l.length ≤ c) : Srt lt (sec l a c) := by
  rw [sec_past _ hb] at h
  rw [sec_past _ hc]
  exact h
set_option maxRecDepth 100000 in
set_option maxHeartbeats 4000000 in
theorem stab_any {B b : Nat} {W0 : World} (hB : B ≤ b) {pa : Addr} {cf : EC → EC → Int} (hcmp : CmpAt B b W0 pa cf) {cap N : Nat} (hl : N ≤ 1099511627776) (L : List EC) (hN : L.length = N) (W : World) (hst : St B b W0 L W) :
    Calls Tryd.prog 35 #[.slice (some ⟨b, 0, none⟩) N cap, .int .i64 N, .func (.func 25) #[] #[.pointer (some pa)]] W fun e w' => e = .returned (.tuple #[]) ∧ ∃ L', Srt (fun x y => decide (cf x y < 0)) L' ∧ Same (fun x y => decide (cf x y < 0)) L L' ∧ L'.length = N ∧ St B b W0 L' w' := by
  have HST := Lib.hid hst
  have HOO : Hid (Ord fun x y => decide (cf x y < 0)) := Lib.hid hcmp.ord
  have HINS : Hid (∀ (L' : List EC) (a c : Nat) (W' : World), L'.length = N → a ≤ c → c ≤ N → St B b W0 L' W' → Calls Tryd.prog 44 #[.slice (some ⟨b, 0, none⟩) N cap, .int .i64 a, .int .i64 c, .func (.func 25) #[] #[.pointer (some pa)]] W' fun e w' => e = .returned (.tuple #[]) ∧ ∃ L'', On (fun x y => decide (cf x y < 0)) a c L' L'' ∧ St B b W0 L'' w') := Lib.hid fun L' a c W' h1 h2 h3 h4 => by
    have h := ins_any B b W0 hB pa cf hcmp L' cap a c h2 (by omega) (by omega) W' h4
    rw [h1] at h
    exact h
  have HSYM : Hid (∀ (L' : List EC) (a m c : Nat) (W' : World), L'.length = N → a < m → m < c → c ≤ N → Srt (fun x y => decide (cf x y < 0)) (sec L' a m) → Srt (fun x y => decide (cf x y < 0)) (sec L' m c) → St B b W0 L' W' →
      Calls Tryd.prog 45 #[.slice (some ⟨b, 0, none⟩) N cap, .int .i64 a, .int .i64 m, .int .i64 c, .func (.func 25) #[] #[.pointer (some pa)]] W' fun e w' => e = .returned (.tuple #[]) ∧ ∃ L'', On (fun x y => decide (cf x y < 0)) a c L' L'' ∧ St B b W0 L'' w') := Lib.hid fun L' a m c W' h1 h2 h3 h4 h5 h6 h7 =>
    symAt_all hB hcmp hl (N + 1) L' a m c W' h1 (by omega) h2 h3 h4 h5 h6 h7
  have HN := Lib.hid hN
  clear hst hcmp hN
  go_enter Tryd.func35, Tryd.ntmps35
  go_upto_region 2 with fail
  go_loopg [7, 8] (N + 1) (fun g av bv wr => ∃ q : Nat, ∃ L' : List EC, g = N + 1 - q ∧ q * 20 ≤ N ∧ av = .int .i64 ((q * 20 : Nat) : Int) ∧ bv = .int .i64 ((q * 20 + 20 : Nat) : Int) ∧ L'.length = N ∧ Upto (fun x y => decide (cf x y < 0)) 20 q L' ∧ Same (fun x y => decide (cf x y < 0)) L L' ∧ St B b W0 L' wr)
  case atStart => exact ⟨0, L, rfl, by omega, rfl, rfl, HN.out, fun k hk => by omega, Same.refl _, HST.out⟩
  case round =>
    obtain ⟨q, L', rfl, hqn, rfl, rfl, hlen, hup, hsm, hs⟩ := hrel
    obtain ⟨wo, rfl⟩ : ∃ wo : World, wo = wr := ⟨_, rfl⟩
    have HLEN := Lib.hid hlen
    have HUP := Lib.hid hup
    have HSM := Lib.hid hsm
    have HS := Lib.hid hs
    clear hlen hup hsm hs
    obtain ⟨a, ha1, ha2⟩ : ∃ a, a ≤ q * 20 ∧ q * 20 ≤ a := ⟨q * 20, by omega, by omega⟩
    have HA : Hid (q * 20 = a) := Lib.hid (by omega)
    obtain ⟨e, he1, he2⟩ : ∃ e, e ≤ a + 20 ∧ a + 20 ≤ e := ⟨a + 20, by omega, by omega⟩
    have HE : Hid (a + 20 = e) := Lib.hid (by omega)
    rw [HA.out, HE.out]
    by_cases hle : e ≤ N
    · have hlei : (e : Int) ≤ (N : Int) := by omega
      have HC := Lib.hid (HINS.out L' a e wo HLEN.out (by omega) hle HS.out)
      obtain ⟨e2, hf1, hf2⟩ : ∃ e2, e2 ≤ e + 20 ∧ e + 20 ≤ e2 := ⟨e + 20, by omega, by omega⟩
      have we2 : IntKind.i64.wrap ((e : Int) + 20) = (e2 : Int) := wrapN (n := e) (m := 20) (i := e2) (by omega) (by omega)
      go_wp2_with (go_at_call 44; (with_reducible refine HC.out.mono ?_); rintro e w9 ⟨rfl, L1, ht1, hs1⟩; have HT1 := Lib.hid ht1; have HS1 := Lib.hid hs1; clear ht1 hs1)
      go_roundg (N + 1 - (q + 1))
      case measure => omega
      case rel =>
        have hup' : Upto (fun x y => decide (cf x y < 0)) 20 (q + 1) L1 := upto_step HUP.out (by rw [HA.out, HE.out]; exact HT1.out)
        exact ⟨q + 1, L1, rfl, by omega, by rw [show (q + 1) * 20 = e by omega], by rw [show (q + 1) * 20 + 20 = e2 by omega], by rw [HT1.out.len, HLEN.out], hup', HSM.out.trans (HT1.out.all (by omega)), HS1.out⟩
    · have hlei : ¬ (e : Int) ≤ (N : Int) := by omega
      have HC := Lib.hid (HINS.out L' a N wo HLEN.out (by omega) (Nat.le_refl N) HS.out)
      go_upto_region 7 with (go_at_call 44; (with_reducible refine HC.out.mono ?_); rintro e w9 ⟨rfl, L1, ht1, hs1⟩; have HT1 := Lib.hid ht1; have HS1 := Lib.hid hs1; clear ht1 hs1)
      have HR0 : Hid (Runs (fun x y => decide (cf x y < 0)) 20 L1) := Lib.hid (upto_end HUP.out HLEN.out (by omega) (by rw [HA.out]; exact HT1.out))
      have HSM1 := Lib.hid (HSM.out.trans (HT1.out.all (by omega)))
      have HL1 : Hid (L1.length = N) := Lib.hid (HT1.out.len.trans HLEN.out)
      clear HC HUP HSM HS HLEN
      go_loopg [6] (N + 1) (fun g sv wr => ∃ s : Nat, ∃ L' : List EC, 20 ≤ s ∧ g = N + 21 - s ∧ s ≤ 2 * N + 20 ∧ sv = .int .i64 (s : Int) ∧ L'.length = N ∧ Runs (fun x y => decide (cf x y < 0)) s L' ∧ Same (fun x y => decide (cf x y < 0)) L L' ∧ St B b W0 L' wr)
      case atStart => exact ⟨20, L1, by omega, by omega, by omega, rfl, HL1.out, HR0.out, HSM1.out, HS1.out⟩
      case round =>
        obtain ⟨s, L2, hs20, rfl, hsN, rfl, hlen, hrun, hsm, hs⟩ := hrel
        obtain ⟨wo2, rfl⟩ : ∃ wo2 : World, wo2 = wr := ⟨_, rfl⟩
        have HLEN := Lib.hid hlen
        have HRUN := Lib.hid hrun
        have HSM := Lib.hid hsm
        have HS := Lib.hid hs
        clear hlen hrun hsm hs
        by_cases hlt : s < N
        · have hlti : (s : Int) < (N : Int) := by omega
          obtain ⟨s2, hk1, hk2⟩ : ∃ s2, s2 ≤ 2 * s ∧ 2 * s ≤ s2 := ⟨2 * s, by omega, by omega⟩
          have ws2 : IntKind.i64.wrap (2 * (s : Int)) = (s2 : Int) := by
            rw [show (2 : Int) * (s : Int) = ((s : Nat) : Int) + ((s : Nat) : Int) by omega]
            exact wrapN (by omega) (by omega)
          have ws3 : IntKind.i64.wrap ((s : Int) * 2) = (s2 : Int) := by rw [Int.mul_comm]; exact ws2
          have HK : Hid (2 * s = s2) := Lib.hid (by omega)
          go_upto_region 9 with fail
          go_loopg [7, 8] (N + 1) (fun g av bv wr => ∃ (q : Nat) (a e : Nat), ∃ L' : List EC, g = N + 1 - q ∧ q ≤ a ∧ q * s2 = a ∧ a + s2 = e ∧ a ≤ N ∧ av = .int .i64 (a : Int) ∧ bv = .int .i64 (e : Int) ∧ L'.length = N ∧ Pass (fun x y => decide (cf x y < 0)) s q L' ∧ Same (fun x y => decide (cf x y < 0)) L L' ∧ St B b W0 L' wr)
          case atStart => exact ⟨0, 0, s2, L2, rfl, by omega, by omega, by omega, by omega, rfl, rfl, HLEN.out, pass_start HRUN.out, HSM.out, HS.out⟩
          case round =>
            obtain ⟨q, a, e, L3, rfl, hqa, hqs, hae, haN, rfl, rfl, hlen, hpass, hsm, hs⟩ := hrel
            obtain ⟨wo3, rfl⟩ : ∃ wo3 : World, wo3 = wr := ⟨_, rfl⟩
            have HQS : Hid (q * (2 * s) = a) := Lib.hid (by rw [HK.out]; exact hqs)
            have hae1 : e ≤ a + s2 := by omega
            have hae2 : a + s2 ≤ e := by omega
            have HLEN := Lib.hid hlen
            have HPASS := Lib.hid hpass
            have HSM := Lib.hid hsm
            have HS := Lib.hid hs
            clear hlen hpass hsm hs hqs hae
            obtain ⟨m, hm1, hm2⟩ : ∃ m, m ≤ a + s ∧ a + s ≤ m := ⟨a + s, by omega, by omega⟩
            have wm : IntKind.i64.wrap ((a : Int) + (s : Int)) = (m : Int) := wrapN (n := a) (m := s) (i := m) (by omega) (by omega)
            have HT : Hid (Srt (fun x y => decide (cf x y < 0)) (sec L3 a m) ∧ Srt (fun x y => decide (cf x y < 0)) (sec L3 m e)) := Lib.hid (by
              have h := pass_two HPASS.out
              rw [HQS.out, show a + s = m by omega, show a + 2 * s = e by omega] at h
              exact h)
            by_cases hle : e ≤ N
            · have hlei : (e : Int) ≤ (N : Int) := by omega
              have HC := Lib.hid (HSYM.out L3 a m e wo3 HLEN.out (by omega) (by omega) hle HT.out.1 HT.out.2 HS.out)
              obtain ⟨e2, hf1, hf2⟩ : ∃ e2, e2 ≤ e + s2 ∧ e + s2 ≤ e2 := ⟨e + s2, by omega, by omega⟩
              have we2 : IntKind.i64.wrap ((e : Int) + (s2 : Int)) = (e2 : Int) := wrapN (n := e) (m := s2) (i := e2) (by omega) (by omega)
              go_wp2_with (go_at_call 45; (with_reducible refine HC.out.mono ?_); rintro e' w9 ⟨rfl, L4, ht1, hs1⟩; have HT1 := Lib.hid ht1; have HS1 := Lib.hid hs1; clear ht1 hs1)
              go_roundg (N + 1 - (q + 1))
              case measure => omega
              case rel =>
                have hqs2 : (q + 1) * s2 = e := by
                  have h := HQS.out
                  rw [HK.out] at h
                  rw [Nat.add_mul, h]
                  omega
                exact ⟨q + 1, e, e2, L4, rfl, by omega, hqs2, by omega, hle, rfl, rfl, by rw [HT1.out.len, HLEN.out], pass_step HPASS.out (by rw [HQS.out, show a + 2 * s = e by omega]; exact HT1.out), HSM.out.trans (HT1.out.all (by omega)), HS1.out⟩
            · have hlei : ¬ (e : Int) ≤ (N : Int) := by omega
              by_cases hmn : m < N
              · have hmni : (m : Int) < (N : Int) := by omega
                have HC := Lib.hid (HSYM.out L3 a m N wo3 HLEN.out (by omega) hmn (Nat.le_refl N) HT.out.1 (srt_past HT.out.2 (by rw [HLEN.out]; omega) (by rw [HLEN.out]; omega)) HS.out)
                go_wp2_with (go_at_call 45; (with_reducible refine HC.out.mono ?_); rintro e' w9 ⟨rfl, L4, ht1, hs1⟩; have HT1 := Lib.hid ht1; have HS1 := Lib.hid hs1; clear ht1 hs1)
                go_roundg (N + 21 - s2)
                case measure => omega
                case rel =>
                  exact ⟨s2, L4, by omega, rfl, by omega, rfl, by rw [HT1.out.len, HLEN.out], by rw [← HK.out]; exact pass_end HPASS.out HLEN.out (by rw [HQS.out]; omega) (by rw [HQS.out]; exact HT1.out), HSM.out.trans (HT1.out.all (by omega)), HS1.out⟩
              · have hmni : ¬ (m : Int) < (N : Int) := by omega
                go_wp2_with fail
                go_roundg (N + 21 - s2)
                case measure => omega
                case rel =>
                  exact ⟨s2, L3, by omega, rfl, by omega, rfl, HLEN.out, by rw [← HK.out]; exact pass_end HPASS.out HLEN.out (by rw [HQS.out]; omega) (On.refl (pass_end' HPASS.out HLEN.out (by rw [HQS.out]; omega))), HSM.out, HS.out⟩
        · have hlti : ¬ (s : Int) < (N : Int) := by omega
          go_wp2_with fail
          go_end0
          exact ⟨rfl, L2, runs_all HRUN.out (by rw [HLEN.out]; omega), HSM.out, HLEN.out, HS.out⟩
set_option maxRecDepth 100000 in
set_option maxHeartbeats 4000000 in
/-- The whole: sorted, what is equal in its order. -/
theorem ssf_any {B b : Nat} {W0 : World} (hB : B ≤ b) {pa : Addr} {cf : EC → EC → Int} (hcmp : CmpAt B b W0 pa cf) {cap N : Nat} (hl : N ≤ 1099511627776) (L : List EC) (hN : L.length = N) (W : World) (hst : St B b W0 L W) :
    Calls Tryd.prog 24 #[.slice (some ⟨b, 0, none⟩) N cap, .func (.func 25) #[] #[.pointer (some pa)]] W fun e w' => e = .returned (.tuple #[]) ∧ ∃ L', Srt (fun x y => decide (cf x y < 0)) L' ∧ Same (fun x y => decide (cf x y < 0)) L L' ∧ L'.length = N ∧ St B b W0 L' w' := by
  have HC := Lib.hid (stab_any hB hcmp (cap := cap) hl L hN W hst)
  clear hcmp hst hN
  go_enter Tryd.func24, Tryd.ntmps24
  go_wp2_with (go_at_call 35; (with_reducible refine HC.out.mono ?_); rintro e' w9 ⟨rfl, hx⟩; have HX := Lib.hid hx; clear hx)
  go_end0
  exact ⟨rfl, HX.out⟩
end Go.Proofs.YtdhkndoglcnllaaDoor.Stab
