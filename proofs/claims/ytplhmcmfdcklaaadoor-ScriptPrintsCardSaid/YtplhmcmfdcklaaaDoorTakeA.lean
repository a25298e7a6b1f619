/- Any line taken. -/
import Derived.Test.YtplhmcmfdcklaaaDoorTakeC
namespace Go.Proofs.YtplhmcmfdcklaaaDoor.Lex
open Go.RowKit
set_option linter.unusedSimpArgs false
set_option linter.unusedVariables false
/-- Any line of a word or more. -/
theorem take_any (W1 w : World) (k : Nat) (S : ScrV) (h : List UInt8) (rest : List (List UInt8)) (g off cap : Nat) (hkm : k ≤ 1099511627776) (hS : RS W1 w k S) (c0 : w.cell? ⟨g, off, none⟩ = some (.string (bs h))) (hr : Txt w (some ⟨g, off + 1, none⟩) rest) (hsh : Short rest) (hcap : rest.length + 1 ≤ cap) (hg : g ≠ W1.heap.size) (hL : S.clients.length ≤ 1099511627776)
    (hm : HasMax W1) (ht : HasTab W1) (he : HasErrs W1) (hlast : ∀ l ∈ S.clients, l.length ≤ 1099511627776) :
    Calls Tryd.prog 31 #[.pointer (some ⟨W1.heap.size, 0, none⟩), .slice (some ⟨g, off, none⟩) (rest.length + 1) cap] w (TakePost W1 (k + 1) (stepL k S (h :: rest))) := by
  by_cases k0 : k = 0
  · subst k0
    exact take_play W1 w S h rest g off cap hS c0 hr hsh hcap hg ht he
  · by_cases k1 : k = 1
    · subst k1
      exact take_picks W1 w S h rest g off cap hS c0 hr hsh hcap hg ht he
    · by_cases k2 : k = 2
      · subst k2
        exact take_ticks W1 w S h rest g off cap hS c0 hr hsh hcap hg ht he
      · by_cases hc : h = clientW
        · exact take_client W1 w k S h rest g off cap (by omega) hkm hS c0 hc hsh hcap hg hL
        · exact take_call W1 w k S h rest g off cap (by omega) hkm hS c0 hr hc hsh hcap hg hL hm ht he hlast
set_option maxRecDepth 100000 in
/-- A line of no word. -/
theorem take_nil (R : Option Addr) (a : Option Addr) (cap : Nat) (w : World) : Calls Tryd.prog 31 #[.pointer R, .slice a 0 cap] w fun e w' => e = .returned (.bool false) ∧ w' = w := by
  go_enter Tryd.func31, Tryd.ntmps31
  go_wp2_with fail
  go_ret
  exact ⟨rfl, rfl⟩
end Go.Proofs.YtplhmcmfdcklaaaDoor.Lex
