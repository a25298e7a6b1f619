/- script.Print: walked. -/
import Derived.Test.YtmbhgnokjpcpjaaDoorCall2
import Derived.Test.YtmbhgnokjpcpjaaDoorCall6
namespace Go.Proofs.YtmbhgnokjpcpjaaDoor.Lex
open Go.RowKit
set_option linter.unusedSimpArgs false
set_option linter.unusedVariables false
/-- A call, as memory shows it. -/
structure CallV where
  kind : Int
  n : Int
  dir : Int
  text : ByteArray
  who : Int
  at_ : Int
  xs : List Nat
/-- Its numbers are ints; its row and its text are not too long for a walk. -/
structure CallV.Fits (c : CallV) : Prop where
  kind : InI c.kind
  n : InI c.n
  dir : InI c.dir
  who : InI c.who
  at_ : InI c.at_
  text : c.text.size ≤ 4194304
  xs : c.xs.length ≤ 4194304
abbrev CallV.val (c : CallV) (a : Option Addr) (cap : Nat) : Value := .agg #[.int .i64 c.kind, .int .i64 c.n, .int .i64 c.dir, .string c.text, .int .i64 c.who, .int .i64 c.at_, .slice a c.xs.length cap]
/-- A call's words; none: it has no kind. -/
def callW (c : CallV) : Option (List (List UInt8)) :=
  if c.kind = 1 then some ([103, 101, 116] :: [Lib.itoa c.n, Lib.itoa c.dir])
  else if c.kind = 2 then some ([108, 111, 111, 107, 117, 112] :: [Lib.itoa c.n, Lib.itoa c.dir])
  else if c.kind = 3 then some ([101, 118, 105, 99, 116] :: [Lib.itoa c.n, Lib.itoa c.dir])
  else if c.kind = 4 then some ([105, 109, 112, 111, 114, 116] :: hexW c.text.data.toList)
  else if c.kind = 5 then some ([101, 120, 112, 111, 114, 116] :: [])
  else if c.kind = 6 then some ([101, 120, 101, 99, 117, 116, 101] :: ([Lib.itoa c.who, Lib.itoa c.at_] ++ c.xs.map Lib.decDigits))
  else if c.kind = 7 then some ([114, 101, 108, 101, 97, 115, 101] :: [Lib.itoa c.who, Lib.itoa c.at_])
  else none
/-- A call's line; none: no text. -/
def callT (c : CallV) : List UInt8 := match callW c with | none => [] | some ws => glue ws ++ [10]
theorem call_none {k n dir who at' : Int} {text : ByteArray} {a : Option Addr} {len cap : Nat} (w : World) (h : k < 1 ∨ 7 < k) :
    Calls Tryd.prog 33 #[.agg #[.int .i64 k, .int .i64 n, .int .i64 dir, .string text, .int .i64 who, .int .i64 at', .slice a len cap]] w fun e w' => e = .returned (.string ⟨#[]⟩) ∧ Below w.heap.size w w' := by
  by_cases h0 : k < 1
  · clear h
    go_enter Tryd.func33, Tryd.ntmps33
    go_wp2_with fail
    go_ret
    exact ⟨rfl, (Below.refl _ _).alloc (Nat.le_refl _) _⟩
  · have h1 : 7 < k := by omega
    clear h
    go_enter Tryd.func33, Tryd.ntmps33
    go_wp2_with fail
    go_ret
    exact ⟨rfl, (Below.refl _ _).alloc (Nat.le_refl _) _⟩
theorem call_any (c : CallV) (hf : c.Fits) (a : Option Addr) (cap : Nat) (w : World) (hx : U64s w a c.xs) (hm : HasMax w) (ht : HasTab w) :
    Calls Tryd.prog 33 #[.agg #[.int .i64 c.kind, .int .i64 c.n, .int .i64 c.dir, .string c.text, .int .i64 c.who, .int .i64 c.at_, .slice a c.xs.length cap]] w fun e w' => e = .returned (.string (bs (callT c))) ∧ Below w.heap.size w w' := by
  obtain ⟨k, n, dir, text, who, at', xs⟩ := c
  obtain ⟨f1, f2, f3, f4, f5, f6, f7⟩ := hf
  simp only at *
  by_cases h : k < 1 ∨ 7 < k
  · have e : callT ⟨k, n, dir, text, who, at', xs⟩ = [] := by
      simp only [callT, callW]
      repeat rw [if_neg (by omega)]
    rw [e]
    exact call_none w h
  · rcases (by omega : k = 1 ∨ k = 2 ∨ k = 3 ∨ k = 4 ∨ k = 5 ∨ k = 6 ∨ k = 7) with rfl | rfl | rfl | rfl | rfl | rfl | rfl
    · exact call_1 n dir who at' text a xs.length cap w hm ht f2 f3
    · exact call_2 n dir who at' text a xs.length cap w hm ht f2 f3
    · exact call_3 n dir who at' text a xs.length cap w hm ht f2 f3
    · exact call_4 n dir who at' text a xs.length cap w hm ht f6
    · exact call_5 n dir who at' text a xs.length cap w hm ht
    · exact call_6 n dir who at' text a cap w hm ht f4 f5 xs f7 hx
    · exact call_7 n dir who at' text a xs.length cap w hm ht f4 f5
end Go.Proofs.YtmbhgnokjpcpjaaDoor.Lex
