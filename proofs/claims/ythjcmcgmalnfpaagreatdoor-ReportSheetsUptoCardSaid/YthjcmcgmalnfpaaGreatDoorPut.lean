/- report.put: texts and numbers, one behind the other. -/
import Derived.Test.YthjcmcgmalnfpaaGreatDoorBld
import Derived.Test.YthjcmcgmalnfpaaGreatDoorFmtU
import Derived.Test.YthjcmcgmalnfpaaGreatDoorGCal
namespace Go.Proofs.YthjcmcgmalnfpaaGreatDoor.Lex
open Go.RowKit
set_option linter.unusedSimpArgs false
set_option linter.unusedVariables false
inductive Part where
  | s (x : List UInt8)
  | i (n : Int)
  | u (n : Nat)
def Part.cell : Part → Value
  | .s x => .iface 9 (.string (bs x))
  | .i n => .iface 3 (.int .i64 n)
  | .u n => .iface 77 (.int .u64 (n : Int))
def Part.text : Part → List UInt8
  | .s x => x
  | .i n => Lib.itoa n
  | .u n => Lib.decDigits n
def Part.Ok : Part → Prop
  | .s x => x.length ≤ 1073741824
  | .i n => InI n
  | .u n => n < 18446744073709551616
def partsT (l : List Part) : List UInt8 := l.flatMap Part.text
theorem part_len {p : Part} (h : p.Ok) : p.text.length ≤ 1073741824 := by
  cases p with
  | s x => exact h
  | i n => exact Nat.le_trans (itoa_len h) (by omega)
  | u n =>
    have := nDigits_le 19 n (by have : n < 18446744073709551616 := h; omega)
    show (Lib.decDigits n).length ≤ _
    rw [Lib.decDigits_length]
    omega
theorem parts_take {l : List Part} {j : Nat} (h : j < l.length) : partsT (l.take (j + 1)) = partsT (l.take j) ++ (l[j]'h).text := by
  unfold partsT
  rw [List.take_succ_eq_append_getElem h, List.flatMap_append]
  simp
theorem parts_len : ∀ {l : List Part}, (∀ p ∈ l, p.Ok) → (partsT l).length ≤ 1073741824 * l.length
  | [], _ => by simp [partsT]
  | p :: l, h => by
    have h1 := part_len (h p (by simp))
    have h2 := parts_len (l := l) fun q hq => h q (by simp [hq])
    have e : partsT (p :: l) = p.text ++ partsT l := by simp [partsT]
    rw [e, List.length_append, List.length_cons]
    omega
/-- What a slice of interface values shows. -/
def PartRow (w : World) (a : Option Addr) (l : List Part) : Prop := ∀ i p, l[i]? = some p → ∃ g, a = some ⟨g, 0, none⟩ ∧ g < w.heap.size ∧ w.cell? ⟨g, i, none⟩ = some p.cell
theorem ta_s_s (x : ByteArray) (w : World) : (Instr.typeAssert (.iface 9 (.string x)) 20 9 true).run Tryz.prog w = .ok (.tuple #[.string x, .bool true]) w := by kernel_rfl
theorem ta_i_s (n : Int) (w : World) : (Instr.typeAssert (.iface 3 (.int .i64 n)) 20 9 true).run Tryz.prog w = .ok (.tuple #[.string ByteArray.empty, .bool false]) w := by kernel_rfl
theorem ta_i_i (n : Int) (w : World) : (Instr.typeAssert (.iface 3 (.int .i64 n)) 20 3 true).run Tryz.prog w = .ok (.tuple #[.int .i64 n, .bool true]) w := by kernel_rfl
theorem ta_u_s (n : Int) (w : World) : (Instr.typeAssert (.iface 77 (.int .u64 n)) 20 9 true).run Tryz.prog w = .ok (.tuple #[.string ByteArray.empty, .bool false]) w := by kernel_rfl
theorem ta_u_i (n : Int) (w : World) : (Instr.typeAssert (.iface 77 (.int .u64 n)) 20 3 true).run Tryz.prog w = .ok (.tuple #[.int .i64 0, .bool false]) w := by kernel_rfl
theorem ta_u_u (n : Int) (w : World) : (Instr.typeAssert (.iface 77 (.int .u64 n)) 20 77 true).run Tryz.prog w = .ok (.tuple #[.int .u64 n, .bool true]) w := by kernel_rfl
/-- Between two parts. -/
structure PutS (w : World) (l : List UInt8) (wr : World) : Prop where
  below : Below w.heap.size w wr
  bld : Bld wr w.heap.size (w.heap.size + 1) l
  size : w.heap.size + 1 ≤ wr.heap.size
theorem PutS.keep {w W W' : World} {l : List UInt8} (h : PutS w l W) (hb : Below W.heap.size W W') : PutS w l W' :=
  ⟨h.below.trans (hb.mono h.below.size), h.bld.keep hb, Nat.le_trans h.size hb.size⟩
theorem PutS.write {w W : World} {l : List UInt8} (h : PutS w l W) (s : ByteArray) (hlen : l.length + s.size ≤ 140737488355328) :
    Calls Tryz.prog 14 #[.pointer (some ⟨w.heap.size, 0, none⟩), .string s] W fun e w' => e = .returned (.tuple #[.int .i64 s.size, .nilIface]) ∧ PutS w (l ++ s.data.toList) w' := by
  refine (bld_write _ _ l s W h.bld hlen h.size).mono ?_
  rintro e w' ⟨h1, h2, h3⟩
  exact ⟨h1, h.below.trans (h3.below (Nat.le_refl _) (by omega)), h2, Nat.le_trans h.size h3.size⟩
set_option maxRecDepth 100000 in
set_option maxHeartbeats 4000000 in
theorem put_any (l : List Part) (a : Option Addr) (cap : Nat) (w : World) (hr : PartRow w a l) (hok : ∀ p ∈ l, p.Ok) (hn : l.length ≤ 1024) (ht : HasTab w) :
    Calls Tryz.prog 15 #[.slice a l.length cap] w fun e w' => e = .returned (.string (bs (partsT l))) ∧ Below w.heap.size w w' := by
  have HR := Lib.hid hr
  have HOK := Lib.hid hok
  have HT := Lib.hid ht
  have h0 : PutS w [] (w.alloc (.cells #[.pointer none, .slice none 0 0] 64)) := ⟨(Below.refl _ _).alloc (Nat.le_refl _) _, bld_new _ _, by simp⟩
  have H0 := Lib.hid h0
  clear hr hok ht h0
  have q1 := ta_s_s
  have q2 := ta_i_s
  have q3 := ta_i_i
  have q4 := ta_u_s
  have q5 := ta_u_i
  have q6 := ta_u_u
  go_enter Tryz.func15, Tryz.ntmps15
  go_wp2_with fail
  go_loopg [11] l.length (fun g iv wr => ∃ j : Nat, j ≤ l.length ∧ g = l.length - j ∧ iv = .int .i64 (j : Int) ∧ PutS w (partsT (l.take j)) wr)
  case atStart => exact ⟨0, by omega, by omega, rfl, H0.out⟩
  case round =>
    obtain ⟨j, hj, rfl, rfl, hst⟩ := hrel
    obtain ⟨wo, rfl⟩ : ∃ wo : World, wo = wr := ⟨_, rfl⟩
    have HST := Lib.hid hst
    have htab := HT.out.below hst.below
    have HTB := Lib.hid htab
    by_cases hlt : j < l.length
    · obtain ⟨g, rfl, hg, c0⟩ := HR.out j _ (List.getElem?_eq_getElem hlt)
      have c1 := (hst.below.cell (p := ⟨g, j, none⟩) hg).trans c0
      have HTK := Lib.hid (parts_take hlt)
      have hpo := HOK.out _ (List.getElem_mem hlt)
      have hlen : (partsT (l.take j)).length ≤ 1073741824 * 1024 := by
        have := parts_len (l := l.take j) fun p hp => HOK.out p (List.mem_of_mem_take hp)
        rw [List.length_take] at this
        have h2 : min j l.length ≤ 1024 := by omega
        exact Nat.le_trans this (Nat.mul_le_mul_left _ h2)
      have hpl := part_len hpo
      clear hst htab c0
      cases hp : l[j]'hlt with
      | s x =>
        rw [hp] at c1 HTK hpo hpl
        have c2 : wo.cell? ⟨g, j, none⟩ = some (.iface 9 (.string (bs x))) := c1
        have HW := Lib.hid (HST.out.write (bs x) (by rw [size_bs]; have : x.length ≤ 1073741824 := hpl; omega))
        clear c1 hp hpo hpl
        go_wp2_with (go_at_call 14; (with_reducible refine HW.out.mono ?_); rintro e w2 ⟨rfl, hs2⟩; have HS2 := Lib.hid hs2; clear hs2)
        go_roundg (l.length - (j + 1))
        case measure => omega
        case rel => exact ⟨j + 1, by omega, rfl, by go_num, by rw [HTK.out]; exact HS2.out⟩
      | i n =>
        rw [hp] at c1 HTK hpo hpl
        have c2 : wo.cell? ⟨g, j, none⟩ = some (.iface 3 (.int .i64 n)) := c1
        have HI := Lib.hid (itoa_any n hpo.1 hpo.2 wo HTB.out)
        have hil : (bs (Lib.itoa n)).size ≤ 1073741824 := by rw [size_bs]; exact hpl
        obtain ⟨sx, hsx⟩ : ∃ sx, sx = bs (Lib.itoa n) := ⟨_, rfl⟩
        rw [← hsx] at HI hil
        have HSX : Hid (sx.data.toList = Part.text (.i n)) := Lib.hid (by rw [hsx]; rfl)
        clear c1 hp hpo hpl hsx
        go_wp2_with (first
          | (go_at_call 25; (with_reducible refine HI.out.mono ?_); rintro e w1 ⟨rfl, hb1⟩; have HS1 := Lib.hid (HST.out.keep hb1); clear hb1)
          | (go_at_call 14; (with_reducible refine (HS1.out.write sx (by omega)).mono ?_); rintro e w2 ⟨rfl, hs2⟩; have HS2 := Lib.hid hs2; clear hs2))
        go_roundg (l.length - (j + 1))
        case measure => omega
        case rel => exact ⟨j + 1, by omega, rfl, by go_num, by rw [HTK.out, ← HSX.out]; exact HS2.out⟩
      | u n =>
        rw [hp] at c1 HTK hpo hpl
        have c2 : wo.cell? ⟨g, j, none⟩ = some (.iface 77 (.int .u64 (n : Int))) := c1
        have HI := Lib.hid (fmtU_any n hpo wo HTB.out)
        have hil : (bs (Lib.decDigits n)).size ≤ 1073741824 := by rw [size_bs]; exact hpl
        obtain ⟨sx, hsx⟩ : ∃ sx, sx = bs (Lib.decDigits n) := ⟨_, rfl⟩
        rw [← hsx] at HI hil
        have HSX : Hid (sx.data.toList = Part.text (.u n)) := Lib.hid (by rw [hsx]; rfl)
        clear c1 hp hpo hpl hsx
        go_wp2_with (first
          | (go_at_call 26; (with_reducible refine HI.out.mono ?_); rintro e w1 ⟨rfl, hb1⟩; have HS1 := Lib.hid (HST.out.keep hb1); clear hb1)
          | (go_at_call 14; (with_reducible refine (HS1.out.write sx (by omega)).mono ?_); rintro e w2 ⟨rfl, hs2⟩; have HS2 := Lib.hid hs2; clear hs2))
        go_roundg (l.length - (j + 1))
        case measure => omega
        case rel => exact ⟨j + 1, by omega, rfl, by go_num, by rw [HTK.out, ← HSX.out]; exact HS2.out⟩
    · obtain rfl : j = l.length := by omega
      rw [List.take_length] at HST
      have hsz := HST.out.size
      have HSTR := Lib.hid (bld_string _ _ _ wo HST.out.bld (by omega))
      clear hst htab
      go_wp2_with (go_at_call 17; (with_reducible refine HSTR.out.mono ?_); rintro e w2 ⟨rfl, hb2⟩; have HB2 := Lib.hid (HST.out.below.trans (hb2.mono (by omega))); clear hb2)
      go_ret
      exact ⟨rfl, HB2.out⟩
end Go.Proofs.YthjcmcgmalnfpaaGreatDoor.Lex
