/- How deep a tree is: the program's count and the reference's. -/
import Derived.Test.YtibabpahpiijgaaGreatDoorClone
namespace Go.Proofs.YtibabpahpiijgaaGreatDoor
open Go.RowKit
set_option linter.unusedSimpArgs false
set_option linter.unusedVariables false
namespace DescV
mutual
def depth : DescV → Nat | .mk _ _ l => depthL l + 1
def depthL : List DescV → Nat | [] => 0 | d :: l => Nat.max d.depth (depthL l)
end
theorem depth_kids (d : DescV) : d.depth = depthL d.kids + 1 := by cases d; rfl
theorem depthL_snoc (l : List DescV) (d : DescV) : depthL (l ++ [d]) = Nat.max (depthL l) d.depth := by
  induction l with
  | nil => simp [depthL]
  | cons a l ih =>
    rw [List.cons_append, depthL, depthL, ih]
    show Nat.max _ (Nat.max _ _) = Nat.max (Nat.max _ _) _
    exact (Nat.max_assoc ..).symm
mutual
theorem depth_nodes : ∀ d : DescV, d.depth ≤ d.nodes
  | .mk _ _ l => by rw [depth, nodes]; have := depthL_nodes l; omega
theorem depthL_nodes : ∀ l : List DescV, depthL l ≤ nodesL l
  | [] => Nat.le_refl _
  | d :: l => by
    rw [depthL, nodesL]
    have h1 := depth_nodes d
    have h2 := depthL_nodes l
    show max _ _ ≤ _
    omega
end
end DescV
/-- Too big? -/
def bigD (d : DescV) : Bool := decide (60 < d.nodes ∨ 12 < d.depth)
set_option maxRecDepth 100000 in
set_option maxHeartbeats 4000000 in
theorem depth_step (k : Nat) (ih : ∀ j, k = j + 1 → ∀ (F : Foot) (kd nd : Int) (l : List DescV) (a : Option Addr) (n cap : Nat) (w : World), RowOf (descRd j) 3 40 F w a n cap l → DescV.nodesL l < 1048576 →
    Calls Tryz.prog 89 #[.agg #[.int .i64 kd, .int .i64 nd, .slice a n cap]] w fun e w' => e = .returned (.int .i64 ((DescV.depthL l + 1 : Nat) : Int)) ∧ Below w.heap.size w w') (F : Foot) (kd nd : Int) (l : List DescV) (a : Option Addr) (n cap : Nat) (w : World) (hl : RowOf (descRd k) 3 40 F w a n cap l) (hm : DescV.nodesL l < 1048576) :
    Calls Tryz.prog 89 #[.agg #[.int .i64 kd, .int .i64 nd, .slice a n cap]] w fun e w' => e = .returned (.int .i64 ((DescV.depthL l + 1 : Nat) : Int)) ∧ Below w.heap.size w w' := by
  have HLN := Lib.hid hl.len
  have hn : n ≤ 3518437208880 := by have := hl.room; omega
  have HL := Lib.hid hl
  have HIH := Lib.hid ih
  have HM := Lib.hid hm
  clear hl ih hm
  go_enter Tryz.func89, Tryz.ntmps89
  go_wp2_with fail
  go_loopg [3, 9] n (fun g dv iv wr => ∃ j : Nat, j ≤ n ∧ g = n - j ∧ iv = .int .i64 (j : Int) ∧ dv = .int .i64 ((DescV.depthL (l.take j) : Nat) : Int) ∧ Below w.heap.size w wr)
  case atStart => exact ⟨0, by omega, rfl, rfl, rfl, (Below.refl _ _).alloc (Nat.le_refl _) _⟩
  case round =>
    obtain ⟨j, hj, rfl, rfl, rfl, hB⟩ := hrel
    obtain ⟨wo, rfl⟩ : ∃ wo : World, wo = wr := ⟨_, rfl⟩
    have HB := Lib.hid hB
    by_cases hlt : j < n
    · obtain ⟨k, rfl⟩ : ∃ q, k = q + 1 := by
        cases k with
        | zero => exact absurd (row_no_zero HL.out) (fun e => by have := HLN.out; rw [e] at this; simp at this; omega)
        | succ q => exact ⟨q, rfl⟩
      have hil : j < l.length := by have := HLN.out; omega
      obtain ⟨b, off, ax, nx, cx, rfl, hbw, _, _, _, hk, p0, p1, p2⟩ := (HL.out.keep (descRd_ok _) (Fix.of_below hB)).desc j hil
      have HTK := Lib.hid (List.take_succ_eq_append_getElem hil)
      have HSUM := Lib.hid (DescV.nodesL_take_succ hil)
      have HLE := Lib.hid (DescV.nodesL_take_le l (j + 1))
      have HNK := Lib.hid (DescV.nodes_kids (l[j]'hil))
      generalize l[j]'hil = d at *
      obtain ⟨dk, dn, dl⟩ := d
      simp only [DescV.kind, DescV.n, DescV.kids] at p0 p1 p2 hk
      have HNK' : Hid ((DescV.mk dk dn dl).nodes = DescV.nodesL dl + 1) := HNK
      have hmd : DescV.nodesL dl < 1048576 := by have := HM.out; have := HSUM.out; have := HLE.out; have := HNK'.out; omega
      have HCX := Lib.hid (fun W hb => HIH.out k rfl F dk dn dl ax nx cx W (hk.keep (descRd_ok _) (Fix.of_below hb)) hmd)
      have HD1 : Hid (DescV.depthL (l.take (j + 1)) = Nat.max (DescV.depthL (l.take j)) (DescV.depthL dl + 1)) := Lib.hid (by rw [HTK.out, DescV.depthL_snoc]; rfl)
      clear hk hB hmd
      generalize DescV.depthL (l.take j) = D at *
      generalize DescV.depthL dl + 1 = E at *
      have HB4 : Hid (Below wo.heap.size wo (wo.alloc (.cells #[.int .i64 dk, .int .i64 dn, .slice ax nx cx] 25))) := Lib.hid ((Below.refl _ _).alloc (Nat.le_refl _) _)
      go_wp2_with (go_at_call 89; (with_reducible refine (HCX.out _ HB4.out).mono ?_); rintro e w5 ⟨rfl, hb5⟩; have HB5 := Lib.hid hb5; clear hb5)
      all_goals
        go_roundg (n - (j + 1))
        case measure => omega
        case rel =>
          refine ⟨j + 1, by omega, rfl, by go_num, ?_, HB.out.trans ((HB4.out.trans (HB5.out.mono HB4.out.size)).mono HB.out.size)⟩
          rw [HD1.out]
          congr 1
          show (_ : Int) = ((max D E : Nat) : Int)
          omega
    · obtain rfl : j = n := by omega
      rw [List.take_of_length_le (by have := HLN.out; omega)]
      have hD : (DescV.depthL l : Int) + 1 ≤ 9223372036854775807 := by have := DescV.depthL_nodes l; have := HM.out; omega
      go_wp2_with fail
      go_ret
      exact ⟨by rw [Int.natCast_add]; rfl, HB.out⟩
theorem depth_any : ∀ (k : Nat) (F : Foot) (kd nd : Int) (l : List DescV) (a : Option Addr) (n cap : Nat) (w : World), RowOf (descRd k) 3 40 F w a n cap l → DescV.nodesL l < 1048576 →
    Calls Tryz.prog 89 #[.agg #[.int .i64 kd, .int .i64 nd, .slice a n cap]] w fun e w' => e = .returned (.int .i64 ((DescV.depthL l + 1 : Nat) : Int)) ∧ Below w.heap.size w w'
  | 0 => depth_step 0 fun j h => by omega
  | k + 1 => depth_step (k + 1) fun j h => by
    obtain rfl : k = j := by omega
    exact depth_any k
end Go.Proofs.YtibabpahpiijgaaGreatDoor
