/- The reference's list of bounded room: rows of keys and things. -/
import Derived.Test.YtjlpafpedoancaaLru6
import Derived.Deep.AppendLies
import Derived.Deep.RegionLaw
import Derived.Deep.DeepCutAuto
namespace Go.Proofs.Ytjlpafpedoancaa.Ring
open Go.RowKit
/-- A row of ints in a block of ints. -/
structure IRow (w : World) (a : Option Addr) (n cap : Nat) (zs : List Int) : Prop where
  row : Row w a n cap (zs.map (Value.int .i64))
  block : ∀ x, a = some x → 0 < n → ∃ cur f, w.heap[x.block]? = some (Obj.cells cur 3 f)
theorem IRow.len {w : World} {a : Option Addr} {n cap : Nat} {zs : List Int} (h : IRow w a n cap zs) : zs.length = n := by simpa using h.row.len
theorem IRow.of_same {w w' : World} {a : Option Addr} {n cap : Nat} {zs : List Int} (h : IRow w a n cap zs) (hs : ∀ x, a = some x → 0 < n → w'.heap[x.block]? = w.heap[x.block]?) : IRow w' a n cap zs := by
  refine ⟨⟨h.row.len, h.row.le, h.row.max, h.row.nil, fun hn => ?_⟩, fun x hx hn => ?_⟩
  · obtain ⟨b, off, ha, hlt, hc⟩ := h.row.at_ hn
    have hsb := hs _ ha hn
    obtain ⟨cur, f, hb⟩ := h.block _ ha hn
    refine ⟨b, off, ha, (Array.getElem?_eq_some_iff.1 (hsb.trans hb)).1, fun i u hu => ?_⟩
    rw [World.cell?_of_block (w := w) (a := ⟨b, off + i, none⟩) hsb]; exact hc i u hu
  · obtain ⟨cur, f, hb⟩ := h.block x hx hn
    exact ⟨cur, f, (hs x hx hn).trans hb⟩
theorem IRow.below {w w' : World} {a : Option Addr} {n cap : Nat} {zs : List Int} (h : IRow w a n cap zs) (hb : Below w.heap.size w w') : IRow w' a n cap zs :=
  h.of_same fun x hx hn => by
    obtain ⟨cur, f, hc⟩ := h.block x hx hn
    exact hb.block _ (Array.getElem?_eq_some_iff.1 hc).1
theorem IRow.keeps {w w' : World} {a : Option Addr} {n cap : Nat} {zs : List Int} (h : IRow w a n cap zs) (hk : Keeps w w') : IRow w' a n cap zs :=
  h.of_same fun x hx hn => by
    obtain ⟨cur, f, hc⟩ := h.block x hx hn
    rw [hk _ _ _ _ (by decide) hc, hc]
theorem IRow.of_own {w : World} {base : Nat} {a : Option Addr} {n n' cap : Nat} {zs : List Int} (h : w.ownsRow base 3 1 (.slice a n' cap) n (zs.map (Value.int .i64))) : IRow w a n cap zs := by
  obtain ⟨a', c', he, hr⟩ := Row.of_owns h
  cases he
  refine ⟨hr, fun x hx hn => ?_⟩
  rcases h.2 with ⟨h1, h2⟩ | ⟨g, cap, cur, h1, _, hg, _⟩
  · omega
  · cases h1; cases hx; exact ⟨cur, _, hg⟩
theorem place_yes (w : World) (room : Int) (a b : Option Addr) (n c m d : Nat) (A C : List Int) (k : Int) (h : IRow w a n c (A ++ k :: C)) (hA : k ∉ A) :
    Calls Try.prog 69 #[.agg #[.int .i64 room, .slice a n c, .slice b m d], .int .i64 k] w fun e w' => e = .returned (.int .i64 A.length) ∧ Below w.heap.size w w' := by
  have hl := h.len
  have hmx := h.row.max
  have hle := h.row.le
  unfold maxLen at hmx
  have hl2 : A.length < n := by simp at hl; omega
  have H := Lib.hid h
  have HA := Lib.hid hA
  clear h hl hA
  go_enter Try.func69, Try.ntmps69
  go_wp2
  go_loopg [5] n (fun g i wr => ∃ j : Nat, j ≤ A.length ∧ g = n - j ∧ i = .int .i64 j ∧ wr = w.alloc (.cells #[.int .i64 room, .slice a n c, .slice b m d] 53))
  case atStart => exact ⟨0, by omega, rfl, rfl, rfl⟩
  case round =>
    obtain ⟨j, hj, rfl, rfl, rfl⟩ := hrel
    have hjn : j < n := by omega
    obtain ⟨b0, o0, rfl, hc⟩ := (H.out.row.keep ((Below.refl _ _).alloc (Nat.le_refl _) _) (Nat.le_refl _)).int (w := w.alloc (.cells #[.int .i64 room, .slice a n c, .slice b m d] 53)) j hjn
    have hx : (A ++ k :: C).getD j 0 = if j < A.length then A.getD j 0 else k := by
      split
      · rename_i h1; simp [List.getD, List.getElem?_append_left h1]
      · rename_i h1
        have : j = A.length := by omega
        subst this; simp [List.getD]
    by_cases hjA : j < A.length
    · have hne : A.getD j 0 ≠ k := fun e1 => HA.out (by rw [← e1]; simp [List.getD, hjA])
      rw [hx, if_pos hjA] at hc
      have t1 : (A.getD j 0 == k) = false := beq_eq_false_iff_ne.2 hne
      clear hx hne
      generalize A.getD j 0 = y at *
      go_wp2
      go_roundg (n - (j + 1))
      case measure => omega
      case rel => exact ⟨j + 1, by omega, rfl, by go_num, rfl⟩
    · obtain rfl : j = A.length := by omega
      rw [hx, if_neg hjA] at hc
      clear hx
      go_wp2
      go_ret
      exact ⟨rfl, (Below.refl _ _).alloc (Nat.le_refl _) _⟩
theorem place_no (w : World) (room : Int) (a b : Option Addr) (n c m d : Nat) (A : List Int) (k : Int) (h : IRow w a n c A) (hA : k ∉ A) :
    Calls Try.prog 69 #[.agg #[.int .i64 room, .slice a n c, .slice b m d], .int .i64 k] w fun e w' => e = .returned (.int .i64 (-1)) ∧ Below w.heap.size w w' := by
  have hl := h.len
  have hmx := h.row.max
  have hle := h.row.le
  unfold maxLen at hmx
  have H := Lib.hid h
  have HA := Lib.hid hA
  have HL := Lib.hid hl
  clear h hl hA
  go_enter Try.func69, Try.ntmps69
  go_wp2
  go_loopg [5] n (fun g i wr => ∃ j : Nat, j ≤ n ∧ g = n - j ∧ i = .int .i64 j ∧ wr = w.alloc (.cells #[.int .i64 room, .slice a n c, .slice b m d] 53))
  case atStart => exact ⟨0, by omega, rfl, rfl, rfl⟩
  case round =>
    obtain ⟨j, hj, rfl, rfl, rfl⟩ := hrel
    by_cases hjn : j < n
    · obtain ⟨b0, o0, rfl, hc⟩ := (H.out.row.keep ((Below.refl _ _).alloc (Nat.le_refl _) _) (Nat.le_refl _)).int (w := w.alloc (.cells #[.int .i64 room, .slice a n c, .slice b m d] 53)) j hjn
      have hne : A.getD j 0 ≠ k := fun e1 => HA.out (by rw [← e1]; simp [List.getD, show j < A.length by have := HL.out; omega])
      have t1 : (A.getD j 0 == k) = false := beq_eq_false_iff_ne.2 hne
      clear hne
      generalize A.getD j 0 = y at *
      go_wp2
      go_roundg (n - (j + 1))
      case measure => omega
      case rel => exact ⟨j + 1, by omega, rfl, by go_num, rfl⟩
    · go_wp2
      go_ret
      exact ⟨rfl, (Below.refl _ _).alloc (Nat.le_refl _) _⟩
theorem rpeek_yes (w : World) (room : Int) (a b : Option Addr) (n c m d : Nat) (A C : List Kv) (k v : Int) (h : IRow w a n c ((A ++ (k, v) :: C).map (·.1))) (h2 : IRow w b m d ((A ++ (k, v) :: C).map (·.2))) (hA : k ∉ A.map (·.1)) :
    Calls Try.prog 39 #[.agg #[.int .i64 room, .slice a n c, .slice b m d], .int .i64 k] w fun e w' => e = .returned (.tuple #[.int .i64 v, .bool true]) ∧ Below w.heap.size w w' := by
  have hl2 := h2.len
  simp only [List.length_map, List.length_append, List.length_cons] at hl2
  have hAm : A.length < m := by omega
  have hAI : (A.length : Int) < (m : Int) := by omega
  have hA0 : (0 : Int) ≤ (A.length : Int) := by omega
  have hmx := h2.row.max
  have hle := h2.row.le
  unfold maxLen at hmx
  simp only [List.map_append, List.map_cons] at h h2
  have HP := Lib.hid (show ∀ W, IRow W a n c (A.map (·.1) ++ k :: C.map (·.1)) → Calls Try.prog 69 #[.agg #[.int .i64 room, .slice a n c, .slice b m d], .int .i64 k] W fun e w' => e = .returned (.int .i64 A.length) ∧ Below W.heap.size W w' from fun W hW => by
    simpa using place_yes W room a b n c m d (A.map (·.1)) (C.map (·.1)) k hW hA)
  have H := Lib.hid h
  have H2 := Lib.hid h2
  clear h h2 hl2 hA
  go_enter Try.func39, Try.ntmps39
  go_wp2_with (go_at_call 69; (with_reducible refine (HP.out _ (H.out.below ((Below.refl _ _).alloc (Nat.le_refl _) _))).mono ?_); rintro e w' ⟨rfl, hb⟩; have g1 : w'.cell? ⟨w.heap.size, 2, none⟩ = some (.slice b m d) := (hb.cell (p := ⟨w.heap.size, 2, none⟩) (by simp)).trans (by simp); obtain ⟨b0, o0, rfl, hc⟩ := (H2.out.below (((Below.refl _ _).alloc (Nat.le_refl _) _).trans (hb.mono (by simp)))).row.int A.length hAm; have hc := (by simpa [List.getD] using hc : w'.cell? ⟨b0, o0 + A.length, none⟩ = some (.int .i64 v)); have hBB := ((Below.refl w.heap.size w).alloc (Nat.le_refl _) _).trans (hb.mono (by simp)))
  go_ret2
  exact ⟨rfl, hBB⟩
theorem rpeek_no (w : World) (room : Int) (a b : Option Addr) (n c m d : Nat) (A : List Kv) (k : Int) (h : IRow w a n c (A.map (·.1))) (hA : k ∉ A.map (·.1)) :
    Calls Try.prog 39 #[.agg #[.int .i64 room, .slice a n c, .slice b m d], .int .i64 k] w fun e w' => e = .returned (.tuple #[.int .i64 0, .bool false]) ∧ Below w.heap.size w w' := by
  have H := Lib.hid h
  have HA := Lib.hid hA
  clear h hA
  go_enter Try.func39, Try.ntmps39
  go_wp2_with (go_at_call 69; (with_reducible refine (place_no _ _ _ _ _ _ _ _ _ _ (H.out.below ((Below.refl _ _).alloc (Nat.le_refl _) _)) HA.out).mono ?_); rintro e w' ⟨rfl, hb⟩; have hBB := ((Below.refl w.heap.size w).alloc (Nat.le_refl _) _).trans (hb.mono (by simp)))
  go_ret2
  exact ⟨rfl, hBB⟩
/-- A struct of the reference's make. -/
def RL (room : Int) (a : Option Addr) (n c : Nat) (b : Option Addr) (m d : Nat) : Value := .agg #[.int .i64 room, .slice a n c, .slice b m d]
theorem rdel_no (w : World) (room : Int) (a b : Option Addr) (n c m d : Nat) (A : List Kv) (k : Int) (h : IRow w a n c (A.map (·.1))) (hA : k ∉ A.map (·.1)) :
    Calls Try.prog 42 #[.agg #[.int .i64 room, .slice a n c, .slice b m d], .int .i64 k] w fun e w' => e = .returned (RL room a n c b m d) ∧ Below w.heap.size w w' := by
  have H := Lib.hid h
  have HA := Lib.hid hA
  clear h hA
  go_enter Try.func42, Try.ntmps42
  go_wp2_with (go_at_call 69; (with_reducible refine (place_no _ _ _ _ _ _ _ _ _ _ (H.out.below (((Below.refl _ _).alloc (Nat.le_refl _) _).alloc (by simp) _)) HA.out).mono ?_); rintro e w' ⟨rfl, hb⟩; have hBB := (((Below.refl w.heap.size w).alloc (Nat.le_refl _) _).alloc (by simp) _).trans (hb.mono (by simp; omega)); have ⟨hc, hf⟩ := bcell hb; have hz := hb.size)
  exact bodyPost_ret (v := .agg #[.int .i64 room, .slice a n c, .slice b m d]) (by simp [results, Try.results42, go_sem, hc]) rfl ⟨rfl, ((hBB.setCell (p := ⟨w.heap.size + 1, 0, none⟩) (by simp) _).setCell (p := ⟨w.heap.size + 1, 1, none⟩) (by simp) _).setCell (p := ⟨w.heap.size + 1, 2, none⟩) (by simp) _⟩
end Go.Proofs.Ytjlpafpedoancaa.Ring
