/- The contracts of package lru's methods at [int, int]: New, Keys, Len, Room; no list; the page's example; the statement LruNils. -/
import Derived.Test.YtjlpafpedoancaaLru4
import Derived.Test.YtjlpafpedoancaaSame
import Derived.LaidEqlPtr
namespace Go.Proofs.Ytjlpafpedoancaa.Ring
open Go.RowKit
theorem elem : Elem Try.prog 30 3 1 8 := ⟨Try.underlying30, ⟨.int .i64 0, by kernel_rfl, rfl⟩, by omega⟩
theorem room_nil (w : World) : Calls Try.prog 35 #[.pointer none] w fun x w' => x = .returned (.int .i64 0) ∧ w = w' := by
  go_enter Try.func35, Try.ntmps35
  go_wp2
  go_ret
  exact ⟨rfl, rfl⟩
theorem keys_nil (w : World) : Calls Try.prog 32 #[.pointer none] w fun x w' => x = .returned (.slice none 0 0) ∧ w = w' := by
  go_enter Try.func32, Try.ntmps32
  go_wp2
  go_ret
  exact ⟨rfl, rfl⟩
theorem len_nil (w : World) : Calls Try.prog 43 #[.pointer none] w fun x w' => x = .returned (.int .i64 0) ∧ w = w' := by
  go_enter Try.func43, Try.ntmps43
  go_wp2_with (go_at_call 32; (with_reducible refine (keys_nil _).mono ?_); rintro e w' ⟨rfl, rfl⟩)
  go_ret
  exact ⟨rfl, rfl⟩
theorem peek_nil (w : World) (k : Int) : Calls Try.prog 38 #[.pointer none, .int .i64 k] w fun x w' => x = .returned (.tuple #[.int .i64 0, .bool false]) ∧ w = w' := by
  go_enter Try.func38, Try.ntmps38
  go_wp2_with (first | (go_at_call 65; (with_reducible refine (find_nil _ _).mono ?_); rintro e w' ⟨rfl, rfl⟩) | (go_at_call 67; (with_reducible refine (told_nil _).mono ?_); rintro e w' ⟨rfl, rfl⟩))
  go_ret2
  exact ⟨rfl, rfl⟩
theorem get_nil (w : World) (k : Int) : Calls Try.prog 36 #[.pointer none, .int .i64 k] w fun x w' => x = .returned (.tuple #[.int .i64 0, .bool false]) ∧ w = w' := by
  go_enter Try.func36, Try.ntmps36
  go_wp2_with (first | (go_at_call 65; (with_reducible refine (find_nil _ _).mono ?_); rintro e w' ⟨rfl, rfl⟩) | (go_at_call 67; (with_reducible refine (told_nil _).mono ?_); rintro e w' ⟨rfl, rfl⟩))
  go_ret2
  exact ⟨rfl, rfl⟩
theorem del_nil (w : World) (k : Int) : Calls Try.prog 41 #[.pointer none, .int .i64 k] w fun x w' => x = .returned (.tuple #[.int .i64 0, .bool false]) ∧ w = w' := by
  go_enter Try.func41, Try.ntmps41
  go_wp2_with (first | (go_at_call 65; (with_reducible refine (find_nil _ _).mono ?_); rintro e w' ⟨rfl, rfl⟩) | (go_at_call 67; (with_reducible refine (told_nil _).mono ?_); rintro e w' ⟨rfl, rfl⟩))
  go_ret2
  exact ⟨rfl, rfl⟩
theorem put_nil (w : World) (k v : Int) : Calls Try.prog 31 #[.pointer none, .int .i64 k, .int .i64 v] w fun x w' => x = .returned (.tuple #[.int .i64 0, .bool false]) ∧ w = w' := by
  go_enter Try.func31, Try.ntmps31
  go_wp2
  go_ret2
  exact ⟨rfl, rfl⟩
theorem room_some (w : World) (B lb mb e : Nat) (room : Int) (L : List Nd) (h : Lst w B lb room mb e L) : Calls Try.prog 35 #[ptr lb] w fun x w' => x = .returned (.int .i64 room) ∧ w = w' := by
  have c0 : w.cell? ⟨lb, 0, none⟩ = some (.int .i64 room) := cell_at h.head rfl
  clear h
  go_enter Try.func35, Try.ntmps35
  go_wp2
  go_ret
  exact ⟨rfl, rfl⟩
theorem new_no (w : World) (room : Int) (h : room < 1 ∨ 64 < room) : Calls Try.prog 30 #[.int .i64 room] w fun x w' => x = .returned (.tuple #[.pointer none, .int .i64 2]) ∧ w = w' := by
  rcases h with h | h
  · go_enter Try.func30, Try.ntmps30
    go_wp2
    go_ret2
    exact ⟨rfl, rfl⟩
  · go_enter Try.func30, Try.ntmps30
    go_wp2
    go_ret2
    exact ⟨rfl, rfl⟩
theorem new_yes (w : World) (room : Int) (h1 : 1 ≤ room) (h2 : room ≤ 64) : Calls Try.prog 30 #[.int .i64 room] w fun x w' => ∃ lb mb e, x = .returned (.tuple #[ptr lb, .int .i64 0]) ∧ Lst w' w.heap.size lb room mb e [] ∧ Below w.heap.size w w' := by
  have hmm := @run_makeMap Try.prog
  go_enter Try.func30, Try.ntmps30
  go_wp2
  go_ret2
  refine ⟨w.heap.size + 1 + 1, w.heap.size + 1, w.heap.size, rfl, ⟨?_, ⟨[], ⟨#[], 0, ?_, by simp, by simp⟩, by simp⟩, by simp, ⟨?_, trivial, by simp⟩, ?_⟩, ?_⟩
  · simp only [heap_alloc_iff, World.size_alloc]; rw [if_pos trivial]
  · simp only [heap_alloc_iff, World.size_alloc]; rw [if_neg (by omega), if_pos trivial]
  · unfold node
    simp only [heap_alloc_iff, World.size_alloc]; rw [if_neg (by omega), if_neg (by omega), if_pos trivial]; rfl
  · intro j hj; simp at hj; omega
  · exact (((Below.refl _ _).alloc (Nat.le_refl _) _).alloc (by simp) _).alloc (by simp; omega) _
theorem node_info : ∃ j, Try.prog.info? 115 = some j ∧ j.size ≠ 0 := by
  have h : (Try.prog.info? 115).map (·.size) = some 4 := by kernel_rfl
  obtain ⟨j, hj, hs⟩ := Option.map_eq_some_iff.1 h
  exact ⟨j, hj, by omega⟩
theorem neq_same (w : World) (a : Nat) : (binOp .neq 113 (ptr a) (ptr a)).run Try.prog w = .ok (.bool false) w := by
  obtain ⟨j, hj, _⟩ := node_info
  have h : ∀ d : Nat, (Op.equalIn (d + 1) 113 (ptr a) (ptr a)).run Try.prog w = .ok true w := fun d => by
    simp [Op.equalIn, run_underlying Try.underlying113, sizeOf, typeInfo, hj, run_sameAddr_same]
  simp only [binOp]
  simp [Op.equal, Op.maxDepth, h 9999]
theorem neq_other (w : World) {a b : Nat} (hne : a ≠ b) {ca cb : Array Value} {ta tb : TypeId} (ha : w.heap[a]? = some (.cells ca ta (0, 0))) (hb : w.heap[b]? = some (.cells cb tb (0, 0))) : (binOp .neq 113 (ptr a) (ptr b)).run Try.prog w = .ok (.bool true) w := by
  obtain ⟨j, hj, hs⟩ := node_info
  have h : ∀ d : Nat, (Op.equalIn (d + 1) 113 (ptr a) (ptr b)).run Try.prog w = .ok false w := fun d => by
    simp [Op.equalIn, run_underlying Try.underlying113, sizeOf, typeInfo, hj, hs, run_sameAddr_other w (a := ⟨a, 0, none⟩) (b := ⟨b, 0, none⟩) (fun e1 => hne (by injection e1)) ha hb]
  simp only [binOp]
  simp [Op.equal, Op.maxDepth, h 9999]
set_option maxRecDepth 100000 in
theorem keys_some (w : World) (B lb mb e : Nat) (room : Int) (L : List Nd) (h : Lst w B lb room mb e L) (hL : L.length ≤ 1000000) :
    Calls Try.prog 32 #[ptr lb] w fun x w' => ∃ v, x = .returned v ∧ w'.ownsRow w.heap.size 3 1 v L.length (L.map fun x => .int .i64 x.2.1) ∧ Below w.heap.size w w' := by
  have H := Lib.hid h
  have c2 : w.cell? ⟨lb, 2, none⟩ = some (ptr e) := cell_at h.head rfl
  obtain ⟨n0, hn0⟩ : ∃ n0, n0 = hd e L := ⟨_, rfl⟩
  have d3 : w.cell? ⟨e, 3, none⟩ = some (ptr n0) := by rw [hn0]; exact cell_at h.ring.fin rfl
  have HN0 := Lib.hid hn0
  have l1 := h.lt lb (by simp)
  have l2 := h.lt e (by simp)
  clear h hn0
  go_enter Try.func32, Try.ntmps32
  go_wp2
  go_loopg [3, 4] L.length (fun g v n wr => ∃ A C, L = A ++ C ∧ g = C.length ∧ n = ptr (hd e C) ∧ wr.ownsRow w.heap.size 3 1 v A.length (A.map fun x => .int .i64 x.2.1) ∧ Below w.heap.size w wr)
  case atStart => exact ⟨[], L, rfl, rfl, by rw [HN0.out], World.ownsRow_nil _ _ _ _, Below.refl _ _⟩
  case round =>
    obtain ⟨A, C, hAC, rfl, rfl, hown, hB⟩ := hrel
    have HAC := Lib.hid hAC
    have HO := Lib.hid hown
    have e2 : wr.cell? ⟨lb, 2, none⟩ = some (ptr e) := (hB.cell (p := ⟨lb, 2, none⟩) l1).trans c2
    have he : wr.heap[e]? = some (nodeO 0 0 (lst e L) (hd e L)) := (hB.block e l2).trans H.out.ring.fin
    clear hAC hown
    cases C with
    | nil =>
      simp only [hd]
      have q := neq_same wr e
      have hLA : L = A := by rw [HAC.out, List.append_nil]
      have HLA := Lib.hid hLA
      clear hLA he
      go_wp2
      go_ret
      exact ⟨_, rfl, by rw [HLA.out]; exact HO.out, hB⟩
    | cons x C =>
      simp only [hd]
      have hm := (seg_append _ _ _ _ _).1 (HAC.out ▸ H.out.ring.seg)
      have hxL : x ∈ L := by rw [HAC.out]; simp
      have hxl := H.out.lt x.1 (by simp only [List.mem_cons, List.mem_map]; exact .inr (.inr (.inr ⟨x, hxL, rfl⟩)))
      have hx : wr.heap[x.1]? = some (nodeO x.2.1 x.2.2 (lst e A) (hd e C)) := (hB.block x.1 hxl).trans hm.2.1
      have hne : x.1 ≠ e := by
        have := H.out.ring.nodup
        rw [HAC.out] at this
        intro e1
        simp [e1] at this
      have q := neq_other wr hne hx he
      obtain ⟨n1, hn1⟩ : ∃ n1, n1 = hd e C := ⟨_, rfl⟩
      rw [← hn1] at hx
      have k0 : wr.cell? ⟨x.1, 0, none⟩ = some (.int .i64 x.2.1) := cell_at hx rfl
      have HXh := Lib.hid hx
      have HN1 := Lib.hid hn1
      have hAL : A.length < 1000000 := by have := congrArg List.length HAC.out; simp at this; omega
      clear hm hxL he hne hx hn1
      go_wp2_with (at_builtin; refine wpl_app1 rfl _ _ 30 rfl elem _ _ _ rfl _ rfl rfl HO.out hB (Nat.le_refl _) hB.size (by omega) (by unfold maxLen; omega) ?_; intro v' w1 hown' hB' hg'; have k3 : w1.cell? ⟨x.1, 3, none⟩ = some (ptr n1) := ((hB'.block x.1 hxl).trans ((hB.block x.1 hxl).symm.trans HXh.out) |> fun h => cell_at h rfl))
      go_roundg C.length
      case measure => simp
      case rel => exact ⟨A ++ [x], C, by rw [HAC.out]; simp, rfl, by rw [HN1.out], by simpa using hown', hB'⟩
theorem len_some (w : World) (B lb mb e : Nat) (room : Int) (L : List Nd) (h : Lst w B lb room mb e L) (hL : L.length ≤ 1000000) :
    Calls Try.prog 43 #[ptr lb] w fun x w' => x = .returned (.int .i64 L.length) ∧ Below w.heap.size w w' := by
  have H := Lib.hid h
  clear h
  go_enter Try.func43, Try.ntmps43
  go_wp2_with (go_at_call 32; (with_reducible refine (keys_some _ _ _ _ _ _ _ H.out hL).mono ?_); rintro e w' ⟨v, rfl, hown, hB⟩; obtain ⟨a', cap', rfl, hr⟩ := Row.of_owns hown; clear hr hown)
  go_ret
  exact ⟨rfl, hB⟩
theorem src2 (w : World) (x y : Int) : Row (w.alloc (.cells #[.int .i64 x, .int .i64 y] 3)) (some ⟨w.heap.size, 0, none⟩) 2 2 ([x, y].map (Value.int .i64)) := by
  refine ⟨rfl, Nat.le_refl _, by simp [maxLen], by simp, fun _ => ⟨_, _, rfl, by simp, fun i u hu => ?_⟩⟩
  match i, hu with
  | 0, hu => simpa using hu
  | 1, hu => simpa using hu
set_option maxRecDepth 100000 in
theorem live (w : World) : Calls Try.prog 29 #[] w fun x w' => x = .returned (.bool true) ∧ Below w.heap.size w w' := by
  have hs : w.heap.size ≤ w.heap.size := Nat.le_refl _
  go_enter Try.func29, Try.ntmps29
  go_wp2_with (go_at_call 30; (with_reducible refine (new_yes _ _ (by omega) (by omega)).mono ?_); rintro e w' ⟨lb, mb, e, rfl, hl0, hb0⟩; have HL0 := Lib.hid hl0; have HB0 := Lib.hid hb0; clear hl0 hb0)
  refine (put_room _ _ _ _ _ _ [] HL0.out 1 10 (by simp) (by decide) HB0.out.size).mono ?_
  rintro x w1 ⟨rfl, b1, hl1, hb1, -⟩
  have HL1 := Lib.hid hl1; have HB1 := Lib.hid (HB0.out.trans hb1); clear hl1 hb1
  go_wp2_with fail
  refine (put_room _ _ _ _ _ _ [(b1, 1, 10)] HL1.out 2 20 (by simp) (by simp) HB1.out.size).mono ?_
  rintro x w2 ⟨rfl, b2, hl2, hb2, -⟩
  have HL2 := Lib.hid hl2; have HB2 := Lib.hid (HB1.out.trans hb2); clear hl2 hb2
  go_wp2_with fail
  refine (get_yes _ _ _ _ _ _ [(b2, 2, 20)] [] (b1, 1, 10) HL2.out).mono ?_
  rintro x w3 ⟨rfl, hl3, hb3, -⟩
  have HL3 := Lib.hid hl3; have HB3 := Lib.hid (HB2.out.trans hb3); clear hl3 hb3
  go_wp2_with fail
  refine (put_full _ _ _ _ _ _ [(b1, 1, 10)] (b2, 2, 20) HL3.out 3 30 (by simp) (by simp) HB3.out.size).mono ?_
  rintro x w4 ⟨rfl, b3, hl4, hb4, -⟩
  have HL4 := Lib.hid hl4; have HB4 := Lib.hid (HB3.out.trans hb4); clear hl4 hb4
  go_wp2_with fail
  refine (keys_some _ _ _ _ _ _ _ HL4.out (by simp)).mono ?_
  rintro x w5 ⟨v, rfl, hown, hb5⟩
  obtain ⟨a', cap', rfl, hr⟩ := Row.of_owns hown
  have HR := Lib.hid hr; have HB5 := Lib.hid (HB4.out.trans (hb5.mono HB4.out.size)); clear hr hown hb5
  go_wp2_with (go_at_call 33; (with_reducible refine (same_ints _ _ _ _ _ _ [3, 1] [3, 1] _ (HR.out.keep ((Below.refl _ _).alloc (Nat.le_refl _) _) (Nat.le_refl _)) (src2 _ 3 1)).mono ?_); rintro e w' ⟨rfl, q, rfl⟩)
  go_ret
  exact ⟨rfl, below_drewN (HB5.out.alloc HB5.out.size _) q⟩
theorem nils (w : World) (k v : Int) : Calls Try.prog 10 #[.int .i64 k, .int .i64 v] w fun x w' => x = .returned (.bool true) ∧ Below w.heap.size w w' := by
  go_enter Try.func10, Try.ntmps10
  go_wp2_with (first | (go_at_call 36; (with_reducible refine (get_nil _ _).mono ?_); rintro e w' ⟨rfl, rfl⟩) | (go_at_call 31; (with_reducible refine (put_nil _ _ _).mono ?_); rintro e w' ⟨rfl, rfl⟩) | (go_at_call 41; (with_reducible refine (del_nil _ _).mono ?_); rintro e w' ⟨rfl, rfl⟩) | (go_at_call 38; (with_reducible refine (peek_nil _ _).mono ?_); rintro e w' ⟨rfl, rfl⟩) | (go_at_call 32; (with_reducible refine (keys_nil _).mono ?_); rintro e w' ⟨rfl, rfl⟩) | (go_at_call 43; (with_reducible refine (len_nil _).mono ?_); rintro e w' ⟨rfl, rfl⟩) | (go_at_call 35; (with_reducible refine (room_nil _).mono ?_); rintro e w' ⟨rfl, rfl⟩) | (go_at_call 29; (with_reducible refine (live _).mono ?_); rintro e w' ⟨rfl, hB⟩))
  go_ret
  exact ⟨rfl, hB⟩
end Go.Proofs.Ytjlpafpedoancaa.Ring
