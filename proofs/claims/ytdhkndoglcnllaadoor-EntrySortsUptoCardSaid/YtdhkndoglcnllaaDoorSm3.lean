/- A merge from the middle: under way (the walk up to the search loop). -/
import Derived.Test.YtdhkndoglcnllaaDoorSm1
import Derived.Test.YtdhkndoglcnllaaDoorSm2
namespace Go.Proofs.YtdhkndoglcnllaaDoor.Stab
open Go Go.RowKit
set_option linter.unusedSimpArgs false
set_option linter.unusedVariables false
/-- The merge, where the section is shorter than q. -/
def SymAt (B b : Nat) (W0 : World) (pa : Addr) (cf : EC → EC → Int) (cap N q : Nat) : Prop := ∀ (L : List EC) (a m c : Nat) (W : World), L.length = N → c - a < q → a < m → m < c → c ≤ N →
  Srt (fun x y => decide (cf x y < 0)) (sec L a m) → Srt (fun x y => decide (cf x y < 0)) (sec L m c) → St B b W0 L W →
    Calls Tryd.prog 45 #[.slice (some ⟨b, 0, none⟩) N cap, .int .i64 a, .int .i64 m, .int .i64 c, .func (.func 25) #[] #[.pointer (some pa)]] W fun e w' => e = .returned (.tuple #[]) ∧ ∃ L', On (fun x y => decide (cf x y < 0)) a c L L' ∧ St B b W0 L' w'
theorem symAt_small {B b : Nat} {W0 : World} (hB : B ≤ b) {pa : Addr} {cf : EC → EC → Int} (hcmp : CmpAt B b W0 pa cf) {cap N : Nat} (hl : N ≤ 1099511627776) {L : List EC} {a m c : Nat} {W : World} (hN : L.length = N) (h1 : a < m) (h2 : m < c) (h3 : c ≤ N)
    (hu : Srt (fun x y => decide (cf x y < 0)) (sec L a m)) (hv : Srt (fun x y => decide (cf x y < 0)) (sec L m c)) (hst : St B b W0 L W) (hs : m = a + 1 ∨ c = m + 1) :
    Calls Tryd.prog 45 #[.slice (some ⟨b, 0, none⟩) N cap, .int .i64 a, .int .i64 m, .int .i64 c, .func (.func 25) #[] #[.pointer (some pa)]] W fun e w' => e = .returned (.tuple #[]) ∧ ∃ L', On (fun x y => decide (cf x y < 0)) a c L L' ∧ St B b W0 L' w' := by
  by_cases e : m = a + 1
  · have h := sm1_any B b W0 hB pa cf hcmp L cap a m c e h2 (by omega) (by omega) (by rw [← e]; exact hv) W hst
    rw [hN] at h
    exact h
  · have h := sm2_any B b W0 hB pa cf hcmp L cap a m c (by omega) (by omega) (by omega) (by omega) hu W hst
    rw [hN] at h
    exact h
end Go.Proofs.YtdhkndoglcnllaaDoor.Stab
