/- script.call: a call's line, walked. -/
import Derived.Test.YtmbhgnokjpcpjaaDoorScr
import Derived.Test.YtmbhgnokjpcpjaaDoorFmtU
import Derived.Test.YtmbhgnokjpcpjaaDoorSplit
import Derived.Deep.RegionHeld3
import Derived.Deep.RegionWith
import Derived.Deep.DeepCutAuto
namespace Go.Proofs.YtmbhgnokjpcpjaaDoor.Lex
open Go.RowKit
set_option linter.unusedSimpArgs false
set_option linter.unusedVariables false
abbrev names : ByteArray := ⟨#[103, 101, 116, 32, 108, 111, 111, 107, 117, 112, 32, 101, 118, 105, 99, 116, 32, 105, 109, 112, 111, 114, 116, 32, 101, 120, 112, 111, 114, 116, 32, 101, 120, 101, 99, 117, 116, 101, 32, 114, 101, 108, 101, 97, 115, 101]⟩
def nameL : List (List UInt8) := [[103, 101, 116], [108, 111, 111, 107, 117, 112], [101, 118, 105, 99, 116], [105, 109, 112, 111, 114, 116], [101, 120, 112, 111, 114, 116], [101, 120, 101, 99, 117, 116, 101], [114, 101, 108, 101, 97, 115, 101]]
theorem names_pieces : pieces names.data.toList = nameL := by decide
/-- Split at the names. -/
theorem split_names (w : World) (hm : HasMax w) :
    Calls Tryd.prog 18 #[.string names, .string ⟨#[32]⟩] w fun e w' => e = .returned (.slice (some ⟨w.heap.size, 0, none⟩) 7 7) ∧ (∀ k l, nameL[k]? = some l → w'.cell? ⟨w.heap.size, k, none⟩ = some (.string (bs l))) ∧ Below w.heap.size w w' := by
  have h := split_any names w hm (by decide)
  rw [names_pieces] at h
  refine h.mono ?_
  rintro e w' ⟨h1, h2, h3⟩
  exact ⟨h1, fun k l hk => (own_cell h2 (i := k) (u := .string (bs l)) (by simp [hk])).1, h3⟩
/-- The box of a call: its cells. -/
structure Box (w : World) (N : Nat) (k n dir : Int) (text : ByteArray) (who at' : Int) (x : Value) : Prop where
  lt : N < w.heap.size
  c0 : w.cell? ⟨N, 0, none⟩ = some (.int .i64 k)
  c1 : w.cell? ⟨N, 1, none⟩ = some (.int .i64 n)
  c2 : w.cell? ⟨N, 2, none⟩ = some (.int .i64 dir)
  c3 : w.cell? ⟨N, 3, none⟩ = some (.string text)
  c4 : w.cell? ⟨N, 4, none⟩ = some (.int .i64 who)
  c5 : w.cell? ⟨N, 5, none⟩ = some (.int .i64 at')
  c6 : w.cell? ⟨N, 6, none⟩ = some x
theorem Box.keep {w w' : World} {N : Nat} {k n dir : Int} {text : ByteArray} {who at' : Int} {x : Value} (h : Box w N k n dir text who at' x) (hb : Below w.heap.size w w') : Box w' N k n dir text who at' x :=
  have e : ∀ i, w'.cell? ⟨N, i, none⟩ = w.cell? ⟨N, i, none⟩ := fun i => hb.cell (p := ⟨N, i, none⟩) h.lt
  ⟨Nat.lt_of_lt_of_le h.lt hb.size, (e 0).trans h.c0, (e 1).trans h.c1, (e 2).trans h.c2, (e 3).trans h.c3, (e 4).trans h.c4, (e 5).trans h.c5, (e 6).trans h.c6⟩
theorem box_new (w : World) (k n dir : Int) (text : ByteArray) (who at' : Int) (x : Value) (T : TypeId) : Box (w.alloc (.cells #[.int .i64 k, .int .i64 n, .int .i64 dir, .string text, .int .i64 who, .int .i64 at', x] T)) w.heap.size k n dir text who at' x :=
  have h := heap_alloc_new w (.cells #[.int .i64 k, .int .i64 n, .int .i64 dir, .string text, .int .i64 who, .int .i64 at', x] T)
  ⟨by simp, cell_at h rfl, cell_at h rfl, cell_at h rfl, cell_at h rfl, cell_at h rfl, cell_at h rfl, cell_at h rfl⟩
/-- A number that an int holds. -/
def InI (n : Int) : Prop := -9223372036854775808 ≤ n ∧ n ≤ 9223372036854775807
theorem itoa_len {n : Int} (h : InI n) : (Lib.itoa n).length ≤ 20 := by
  obtain ⟨h1, h2⟩ := h
  unfold Lib.itoa
  split
  · have := nDigits_le 18 n.natAbs (by omega)
    rw [List.length_cons, Lib.decDigits_length]
    omega
  · have := nDigits_le 18 n.toNat (by omega)
    rw [Lib.decDigits_length]
    omega
theorem ints_two (w : World) (x y : Int) (T : TypeId) (hx : InI x) (hy : InI y) : Ints (w.alloc (.cells #[.int .i64 x, .int .i64 y] T)) (some ⟨w.heap.size, 0, none⟩) [x, y] := by
  have h := heap_alloc_new w (.cells #[.int .i64 x, .int .i64 y] T)
  intro i hi
  match i, hi with
  | 0, _ => exact ⟨w.heap.size, 0, rfl, by simp, cell_at h rfl, hx.1, hx.2⟩
  | 1, _ => exact ⟨w.heap.size, 0, rfl, by simp, cell_at h rfl, hy.1, hy.2⟩
theorem own_nil {w : World} {base : Nat} {e : TypeId} {size n : Nat} {a : Option Addr} {cap : Nat} {xs : List Value} (h : w.ownsRow base e size (.slice a n cap) n xs) : a = none → cap = 0 := by
  rintro rfl
  rcases h.2 with ⟨h1, _⟩ | ⟨g, cap, cur, h1, _⟩
  · cases h1; rfl
  · cases h1
theorem ints_shows (xs : List Int) (a : Option Addr) (cap : Nat) (w : World) (hn : xs.length ≤ 1099511627776) (hi : Ints w a xs) (ht : HasTab w) :
    Calls Tryd.prog 32 #[.slice a xs.length cap] w fun e w' => ∃ a' cap', e = .returned (.slice a' xs.length cap') ∧ Shows w' a' (xs.map Lib.itoa) ∧ xs.length ≤ cap' ∧ (a' = none → cap' = 0) ∧ Below w.heap.size w w' := by
  refine (ints_any xs a cap w hn hi ht).mono ?_
  rintro e w' ⟨v, rfl, ho, hb⟩
  have ho2 : w'.ownsRow w.heap.size 9 1 v xs.length ((xs.map Lib.itoa).map fun l => .string (bs l)) := by rw [List.map_map]; exact ho
  obtain ⟨a', cap', rfl, h1, h2, h3⟩ := shows_of ho2
  exact ⟨a', cap', rfl, h3, h1, own_nil ho, hb⟩
theorem hex_shows (s : ByteArray) (w : World) (hs : s.size ≤ 1099511627776) :
    Calls Tryd.prog 52 #[.string s] w fun e w' => ∃ a' cap', e = .returned (.slice a' (hexW s.data.toList).length cap') ∧ Shows w' a' (hexW s.data.toList) ∧ (hexW s.data.toList).length ≤ cap' ∧ (a' = none → cap' = 0) ∧ Below w.heap.size w w' := by
  refine (hex_any s w hs).mono ?_
  rintro e w' ⟨v, rfl, ho, hb⟩
  obtain ⟨a', cap', rfl, h1, h2, h3⟩ := shows_of ho
  exact ⟨a', cap', rfl, h3, h1, own_nil ho, hb⟩
theorem hexW_len (l : List UInt8) : (hexW l).length ≤ 1099511627776 := by unfold hexW; split <;> simp
theorem hexW_glue {s : ByteArray} (h : s.size ≤ 4194304) : (glue ([105, 109, 112, 111, 114, 116] :: hexW s.data.toList)).length ≤ 1099511627776 := by
  have hl : s.data.toList.length = s.size := by simp
  unfold hexW
  split
  · simp [glue]
  · have := hexOf_len s.data.toList
    simp only [glue, List.length_append, List.length_cons, this]
    simp only [List.length_nil]
    omega
/-- What a slice of numbers of 64 bits shows. -/
def U64s (w : World) (a : Option Addr) (xs : List Nat) : Prop := ∀ i (h : i < xs.length), ∃ g off, a = some ⟨g, off, none⟩ ∧ g < w.heap.size ∧ w.cell? ⟨g, off + i, none⟩ = some (.int .u64 (xs[i]'h : Nat)) ∧ xs[i]'h < 18446744073709551616
theorem U64s.keep {w w' : World} {a : Option Addr} {xs : List Nat} (h : U64s w a xs) (hb : Below w.heap.size w w') : U64s w' a xs := fun i hi => by
  obtain ⟨g, off, h1, h2, h3, h4⟩ := h i hi
  exact ⟨g, off, h1, Nat.lt_of_lt_of_le h2 hb.size, (hb.cell (p := ⟨g, off + i, none⟩) h2).trans h3, h4⟩
end Go.Proofs.YtmbhgnokjpcpjaaDoor.Lex
