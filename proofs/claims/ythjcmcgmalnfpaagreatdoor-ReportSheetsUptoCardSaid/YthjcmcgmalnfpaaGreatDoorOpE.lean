/- A call and what belongs to it, as a text: report.Op. -/
import Derived.Test.YthjcmcgmalnfpaaGreatDoorRTold
import Derived.Test.YthjcmcgmalnfpaaGreatDoorCallE
namespace Go.Proofs.YthjcmcgmalnfpaaGreatDoor.Lex
open Go.RowKit
set_option linter.unusedSimpArgs false
set_option linter.unusedVariables false
structure OpD where
  who : Int
  at_ : Int
  ki : Int
  kn : Int
  kd : Int
  tx : ByteArray
  ow : Int
  oa : Int
  xs : List Nat
  e : Int
  dk : Int
  dn : Int
  dl : List DescV
  n : Int
  li : Int
  tt : ByteArray
  ys : List Nat
  fr : Int
  tz : Int
def OpD.call (o : OpD) : CallV := ⟨o.ki, o.kn, o.kd, o.tx, o.ow, o.oa, o.xs⟩
structure OpIn (k : Nat) (F : Foot) (w : World) (o : OpD) (xa : Option Addr) (xc : Nat) (da : Option Addr) (dm dc : Nat) (ya : Option Addr) (yc : Nat) : Prop where
  call : SmallC o.call
  xs : U64s w xa o.xs
  row : RowOf (descRd k) 3 40 F w da dm dc o.dl
  nd : DescV.nodesL o.dl < 1048576
  who : InI o.who
  at_ : InI o.at_
  fr : InI o.fr
  tz : InI o.tz
  n : InI o.n
  li : InI o.li
  tt : o.tt.size ≤ 9223372036854775807
  ys : U64s w ya o.ys
  yl : o.ys.length ≤ 100
theorem OpIn.keep {k : Nat} {F : Foot} {w w' : World} {o : OpD} {xa da ya : Option Addr} {xc dm dc yc : Nat} (h : OpIn k F w o xa xc da dm dc ya yc) (hb : Below w.heap.size w w') : OpIn k F w' o xa xc da dm dc ya yc :=
  ⟨h.call, h.xs.keep hb, h.row.keep (descRd_ok _) (Fix.of_below hb), h.nd, h.who, h.at_, h.fr, h.tz, h.n, h.li, h.tt, h.ys.keep hb, h.yl⟩
def OpD.told (o : OpD) (kind : Int) : List UInt8 := toldL kind o.e (.mk o.dk o.dn o.dl) o.n o.li o.tt.size o.ys
/-- A call's whole line. -/
def opL (o : OpD) : List UInt8 := Lib.itoa o.who ++ [46] ++ Lib.itoa o.at_ ++ [32] ++ Lib.itoa o.fr ++ [45] ++ (if o.tz = -1 then [46, 46] else Lib.itoa o.tz) ++ [32] ++ callL o.call ++ [58, 32] ++ (if o.tz = -1 then [46, 46, 46] else o.told o.ki)
theorem toldL_len {kind e n li tl : Int} {d : DescV} {ys : List Nat} (hd : d.nodes ≤ 1048576) (hn : InI n) (hl : InI li) (ht : InI tl) (hy : ys.length ≤ 1048576) : (toldL kind e d n li tl ys).length ≤ 20971600 := by
  have h1 := errW_len e
  have h2 := descT_len hd
  have h3 := itoa_len hn
  have h4 := itoa_len hl
  have h5 := itoa_len ht
  have h6 := itoa_len (n := (ys.length : Int)) ⟨by omega, by omega⟩
  have h7 := dec_len20 (n := sumF ys) (by have := sumF_lt ys; omega)
  unfold toldL
  repeat' split
  all_goals (try simp only [List.length_append, List.length_cons, List.length_nil])
  all_goals omega
theorem callL_len {c : CallV} (h : SmallC c) : (callL c).length ≤ 103103 := by
  unfold callL
  cases hw : callW c with
  | none => simp
  | some ws => exact callW_len h hw
theorem put_1 (n : Int) (W : World) (hn : InI n) (ht : HasTab W) :
    Calls Tryz.prog 15 #[.slice (some ⟨W.heap.size, 0, none⟩) 1 1] (W.alloc (.cells #[.iface 3 (.int .i64 n)] 20)) (fun e w' => e = .returned (.string (bs (Lib.itoa n))) ∧ Below W.heap.size W w') ∧
    Calls Tryz.prog 15 #[.slice (some ⟨W.heap.size, 0, none⟩) 1 1] (W.alloc (.cells #[.iface 3 (.int .i64 n)] 20)).drew (fun e w' => e = .returned (.string (bs (Lib.itoa n))) ∧ Below W.heap.size W w') := by
  have hok : ∀ p ∈ [Part.i n], p.Ok := fun p hp => by
    simp only [List.mem_cons, List.not_mem_nil, or_false] at hp
    subst hp
    exact hn
  have e : partsT [.i n] = Lib.itoa n := by simp [partsT, Part.text]
  have h1 := put_new [.i n] #[.iface 3 (.int .i64 n)] rfl W 20 hok (by simp) ht
  have h2 := put_newD [.i n] #[.iface 3 (.int .i64 n)] rfl W 20 hok (by simp) ht
  rw [e] at h1 h2
  exact ⟨h1, h2⟩
theorem put_11 (a b c : Int) (p q r : List UInt8) (W : World) (ha : InI a) (hb : InI b) (hc : InI c) (hp : p.length ≤ 1073741824) (hq : q.length ≤ 1073741824) (hr : r.length ≤ 1073741824) (ht : HasTab W) :
    Calls Tryz.prog 15 #[.slice (some ⟨W.heap.size, 0, none⟩) 11 11] (W.alloc (.cells #[.iface 3 (.int .i64 a), .iface 9 (.string ⟨#[46]⟩), .iface 3 (.int .i64 b), .iface 9 (.string ⟨#[32]⟩), .iface 3 (.int .i64 c), .iface 9 (.string ⟨#[45]⟩), .iface 9 (.string (bs p)), .iface 9 (.string ⟨#[32]⟩), .iface 9 (.string (bs q)), .iface 9 (.string ⟨#[58, 32]⟩), .iface 9 (.string (bs r))] 20))
      fun e w' => e = .returned (.string (bs (Lib.itoa a ++ [46] ++ Lib.itoa b ++ [32] ++ Lib.itoa c ++ [45] ++ p ++ [32] ++ q ++ [58, 32] ++ r))) ∧ Below W.heap.size W w' := by
  have h := put_new [.i a, .s [46], .i b, .s [32], .i c, .s [45], .s p, .s [32], .s q, .s [58, 32], .s r] #[.iface 3 (.int .i64 a), .iface 9 (.string ⟨#[46]⟩), .iface 3 (.int .i64 b), .iface 9 (.string ⟨#[32]⟩), .iface 3 (.int .i64 c), .iface 9 (.string ⟨#[45]⟩), .iface 9 (.string (bs p)), .iface 9 (.string ⟨#[32]⟩), .iface 9 (.string (bs q)), .iface 9 (.string ⟨#[58, 32]⟩), .iface 9 (.string (bs r))] rfl W 20 (fun x hx => by
    simp only [List.mem_cons, List.not_mem_nil, or_false] at hx
    rcases hx with rfl | rfl | rfl | rfl | rfl | rfl | rfl | rfl | rfl | rfl | rfl
    · exact ha
    · show 1 ≤ _; omega
    · exact hb
    · show 1 ≤ _; omega
    · exact hc
    · show 1 ≤ _; omega
    · exact hp
    · show 1 ≤ _; omega
    · exact hq
    · show 2 ≤ _; omega
    · exact hr) (by simp) ht
  rw [show partsT [.i a, .s [46], .i b, .s [32], .i c, .s [45], .s p, .s [32], .s q, .s [58, 32], .s r] = Lib.itoa a ++ [46] ++ Lib.itoa b ++ [32] ++ Lib.itoa c ++ [45] ++ p ++ [32] ++ q ++ [58, 32] ++ r by simp [partsT, Part.text]] at h
  exact h
/-- A call's box. -/
theorem op_box (w : World) (o : OpD) (xa da ya : Option Addr) (xc dm dc yc : Nat) :
    let W0 := w.alloc (.cells #[.int .i64 o.who, .int .i64 o.at_, .int .i64 o.ki, .int .i64 o.kn, .int .i64 o.kd, .string o.tx, .int .i64 o.ow, .int .i64 o.oa, .slice xa o.xs.length xc, .int .i64 o.e, .int .i64 o.dk, .int .i64 o.dn, .slice da dm dc, .int .i64 o.n, .int .i64 o.li, .string o.tt, .slice ya o.ys.length yc, .int .i64 o.fr, .int .i64 o.tz] 58)
    Below w.heap.size w W0 ∧ ∀ W, Below W0.heap.size W0 W → (W.cell? ⟨w.heap.size, 0, none⟩ = some (.int .i64 o.who) ∧ W.cell? ⟨w.heap.size, 1, none⟩ = some (.int .i64 o.at_) ∧ W.cell? ⟨w.heap.size, 17, none⟩ = some (.int .i64 o.fr) ∧ W.cell? ⟨w.heap.size, 2, none⟩ = some (.int .i64 o.ki) ∧ W.cell? ⟨w.heap.size, 3, none⟩ = some (.int .i64 o.kn) ∧ W.cell? ⟨w.heap.size, 4, none⟩ = some (.int .i64 o.kd) ∧ W.cell? ⟨w.heap.size, 5, none⟩ = some (.string o.tx) ∧ W.cell? ⟨w.heap.size, 6, none⟩ = some (.int .i64 o.ow) ∧ W.cell? ⟨w.heap.size, 7, none⟩ = some (.int .i64 o.oa) ∧ W.cell? ⟨w.heap.size, 8, none⟩ = some (.slice xa o.xs.length xc)) ∧ (W.cell? ⟨w.heap.size, 9, none⟩ = some (.int .i64 o.e) ∧ W.cell? ⟨w.heap.size, 10, none⟩ = some (.int .i64 o.dk) ∧ W.cell? ⟨w.heap.size, 11, none⟩ = some (.int .i64 o.dn) ∧ W.cell? ⟨w.heap.size, 12, none⟩ = some (.slice da dm dc) ∧ W.cell? ⟨w.heap.size, 13, none⟩ = some (.int .i64 o.n) ∧ W.cell? ⟨w.heap.size, 14, none⟩ = some (.int .i64 o.li) ∧ W.cell? ⟨w.heap.size, 15, none⟩ = some (.string o.tt) ∧ W.cell? ⟨w.heap.size, 16, none⟩ = some (.slice ya o.ys.length yc)) ∧ W.cell? ⟨w.heap.size, 18, none⟩ = some (.int .i64 o.tz) := by
  have g0 := heap_alloc_new w (.cells #[.int .i64 o.who, .int .i64 o.at_, .int .i64 o.ki, .int .i64 o.kn, .int .i64 o.kd, .string o.tx, .int .i64 o.ow, .int .i64 o.oa, .slice xa o.xs.length xc, .int .i64 o.e, .int .i64 o.dk, .int .i64 o.dn, .slice da dm dc, .int .i64 o.n, .int .i64 o.li, .string o.tt, .slice ya o.ys.length yc, .int .i64 o.fr, .int .i64 o.tz] 58)
  have hz : w.heap.size < (w.alloc (.cells #[.int .i64 o.who, .int .i64 o.at_, .int .i64 o.ki, .int .i64 o.kn, .int .i64 o.kd, .string o.tx, .int .i64 o.ow, .int .i64 o.oa, .slice xa o.xs.length xc, .int .i64 o.e, .int .i64 o.dk, .int .i64 o.dn, .slice da dm dc, .int .i64 o.n, .int .i64 o.li, .string o.tt, .slice ya o.ys.length yc, .int .i64 o.fr, .int .i64 o.tz] 58)).heap.size := by simp
  refine ⟨(Below.refl _ _).alloc (Nat.le_refl _) _, fun W hb => ?_⟩
  have g := (hb.block _ hz).trans g0
  exact ⟨⟨cell_at g rfl, cell_at g rfl, cell_at g rfl, cell_at g rfl, cell_at g rfl, cell_at g rfl, cell_at g rfl, cell_at g rfl, cell_at g rfl, cell_at g rfl⟩, ⟨cell_at g rfl, cell_at g rfl, cell_at g rfl, cell_at g rfl, cell_at g rfl, cell_at g rfl, cell_at g rfl, cell_at g rfl⟩, cell_at g rfl⟩
set_option maxRecDepth 100000 in
set_option maxHeartbeats 8000000 in
theorem opE_any (k : Nat) (F : Foot) (o : OpD) (xa da ya : Option Addr) (xc dm dc yc : Nat) (w : World) (hi : OpIn k F w o xa xc da dm dc ya yc) (hW : HasWords w) (hm : HasMax w) (ht : HasTab w) :
    Calls Tryz.prog 12 #[.agg #[.int .i64 o.who, .int .i64 o.at_, .int .i64 o.ki, .int .i64 o.kn, .int .i64 o.kd, .string o.tx, .int .i64 o.ow, .int .i64 o.oa, .slice xa o.xs.length xc, .int .i64 o.e, .int .i64 o.dk, .int .i64 o.dn, .slice da dm dc, .int .i64 o.n, .int .i64 o.li, .string o.tt, .slice ya o.ys.length yc, .int .i64 o.fr, .int .i64 o.tz]] w fun e w' => e = .returned (.string (bs (opL o))) ∧ Below w.heap.size w w' := by
  obtain ⟨hb0, hcc⟩ := op_box w o xa da ya xc dm dc yc
  obtain ⟨W0, hW0⟩ : ∃ W0, W0 = w.alloc (.cells #[.int .i64 o.who, .int .i64 o.at_, .int .i64 o.ki, .int .i64 o.kn, .int .i64 o.kd, .string o.tx, .int .i64 o.ow, .int .i64 o.oa, .slice xa o.xs.length xc, .int .i64 o.e, .int .i64 o.dk, .int .i64 o.dn, .slice da dm dc, .int .i64 o.n, .int .i64 o.li, .string o.tt, .slice ya o.ys.length yc, .int .i64 o.fr, .int .i64 o.tz] 58) := ⟨_, rfl⟩
  rw [← hW0] at hb0 hcc
  have HB0 := Lib.hid hb0
  have HC := Lib.hid hcc
  have H1 : Hid (∀ W, Below W0.heap.size W0 W → W.cell? ⟨w.heap.size, 18, none⟩ = some (.int .i64 o.tz) ∧ W.cell? ⟨w.heap.size, 2, none⟩ = some (.int .i64 o.ki) ∧ W.cell? ⟨w.heap.size, 9, none⟩ = some (.int .i64 o.e) ∧ W.cell? ⟨w.heap.size, 10, none⟩ = some (.int .i64 o.dk) ∧ W.cell? ⟨w.heap.size, 11, none⟩ = some (.int .i64 o.dn) ∧ W.cell? ⟨w.heap.size, 12, none⟩ = some (.slice da dm dc) ∧ W.cell? ⟨w.heap.size, 13, none⟩ = some (.int .i64 o.n) ∧ W.cell? ⟨w.heap.size, 14, none⟩ = some (.int .i64 o.li) ∧ W.cell? ⟨w.heap.size, 15, none⟩ = some (.string o.tt) ∧ W.cell? ⟨w.heap.size, 16, none⟩ = some (.slice ya o.ys.length yc)) := Lib.hid fun W hb => by
    obtain ⟨⟨a1, a2, a3, a4, a5, a6, a7, a8, a9, a10⟩, ⟨b1, b2, b3, b4, b5, b6, b7, b8⟩, c1⟩ := hcc W hb
    exact ⟨c1, a4, b1, b2, b3, b4, b5, b6, b7, b8⟩
  have H4 : Hid (∀ W, Below W0.heap.size W0 W → W.cell? ⟨w.heap.size, 0, none⟩ = some (.int .i64 o.who) ∧ W.cell? ⟨w.heap.size, 1, none⟩ = some (.int .i64 o.at_) ∧ W.cell? ⟨w.heap.size, 17, none⟩ = some (.int .i64 o.fr) ∧ W.cell? ⟨w.heap.size, 2, none⟩ = some (.int .i64 o.ki) ∧ W.cell? ⟨w.heap.size, 3, none⟩ = some (.int .i64 o.kn) ∧ W.cell? ⟨w.heap.size, 4, none⟩ = some (.int .i64 o.kd) ∧ W.cell? ⟨w.heap.size, 5, none⟩ = some (.string o.tx) ∧ W.cell? ⟨w.heap.size, 6, none⟩ = some (.int .i64 o.ow) ∧ W.cell? ⟨w.heap.size, 7, none⟩ = some (.int .i64 o.oa) ∧ W.cell? ⟨w.heap.size, 8, none⟩ = some (.slice xa o.xs.length xc)) := Lib.hid fun W hb => (hcc W hb).1
  have H18 : Hid (∀ W, Below W0.heap.size W0 W → W.cell? ⟨w.heap.size, 18, none⟩ = some (.int .i64 o.tz)) := Lib.hid fun W hb => (hcc W hb).2.2
  have HT : Hid (∀ W, Below W0.heap.size W0 W → HasTab W) := Lib.hid fun W hb => (ht.below hb0).below hb
  have HPT : Hid (∀ W, Below W0.heap.size W0 W → Calls Tryz.prog 15 #[.slice (some ⟨W.heap.size, 0, none⟩) 1 1] (W.alloc (.cells #[.iface 3 (.int .i64 o.tz)] 20)) fun e w' => e = .returned (.string (bs (Lib.itoa o.tz))) ∧ Below W.heap.size W w') := Lib.hid fun W hb => (put_1 o.tz W hi.tz (HT.out W hb)).1
  have HPTD : Hid (∀ W, Below W0.heap.size W0 W → Calls Tryz.prog 15 #[.slice (some ⟨W.heap.size, 0, none⟩) 1 1] (W.alloc (.cells #[.iface 3 (.int .i64 o.tz)] 20)).drew fun e w' => e = .returned (.string (bs (Lib.itoa o.tz))) ∧ Below W.heap.size W w') := Lib.hid fun W hb => (put_1 o.tz W hi.tz (HT.out W hb)).2
  have HTO : Hid (∀ W, Below W0.heap.size W0 W → Calls Tryz.prog 22 #[.int .i64 o.ki, .agg #[.int .i64 o.e, .int .i64 o.dk, .int .i64 o.dn, .slice da dm dc, .int .i64 o.n, .int .i64 o.li, .string o.tt, .slice ya o.ys.length yc]] W fun e w' => e = .returned (.string (bs (o.told o.ki))) ∧ Below W.heap.size W w') := Lib.hid fun W hb => by
    have h := (hi.keep hb0).keep hb
    exact told_any o.ki o.e o.dk o.dn o.n o.li o.dl da dm dc o.tt o.ys ya yc k F W h.row h.nd h.n h.li h.tt h.ys (by have := h.yl; omega) ((hW.below hb0).below hb) ((hm.below hb0).below hb) (HT.out W hb)
  have HCA : Hid (∀ W, Below W0.heap.size W0 W → Calls Tryz.prog 23 #[.agg #[.int .i64 o.ki, .int .i64 o.kn, .int .i64 o.kd, .string o.tx, .int .i64 o.ow, .int .i64 o.oa, .slice xa o.xs.length xc]] W fun e w' => e = .returned (.string (bs (callL o.call))) ∧ Below W.heap.size W w') := Lib.hid fun W hb => by
    have h := (hi.keep hb0).keep hb
    exact callE_any o.call xa xc W h.call h.xs ((hm.below hb0).below hb) (HT.out W hb)
  have htl : (o.told o.ki).length ≤ 20971600 := toldL_len (by rw [DescV.nodes]; have := hi.nd; omega) hi.n hi.li ⟨by omega, by have := hi.tt; omega⟩ (by have := hi.yl; omega)
  have hcl := callL_len hi.call
  have hbz := Below.refl W0.heap.size W0
  have HBZ := Lib.hid hbz
  obtain ⟨R, hR⟩ : ∃ R, R = opL o := ⟨_, rfl⟩
  rw [← hR]
  by_cases htz : o.tz = -1
  · have HP : Hid (∀ W, Below W0.heap.size W0 W → Calls Tryz.prog 15 #[.slice (some ⟨W.heap.size, 0, none⟩) 11 11] (W.alloc (.cells #[.iface 3 (.int .i64 o.who), .iface 9 (.string ⟨#[46]⟩), .iface 3 (.int .i64 o.at_), .iface 9 (.string ⟨#[32]⟩), .iface 3 (.int .i64 o.fr), .iface 9 (.string ⟨#[45]⟩), .iface 9 (.string ⟨#[46, 46]⟩), .iface 9 (.string ⟨#[32]⟩), .iface 9 (.string (bs (callL o.call))), .iface 9 (.string ⟨#[58, 32]⟩), .iface 9 (.string ⟨#[46, 46, 46]⟩)] 20))
        fun e w' => e = .returned (.string (bs R)) ∧ Below W.heap.size W w') := Lib.hid fun W hb => by
      rw [hR, opL, if_pos htz, if_pos htz]
      exact put_11 o.who o.at_ o.fr [46, 46] (callL o.call) [46, 46, 46] W hi.who hi.at_ hi.fr (by simp) (by omega) (by simp) (HT.out W hb)
    have htb : (o.tz == -1) = true := by rw [htz]; rfl
    generalize bs (callL o.call) = sc at *
    generalize bs (o.told o.ki) = st at *
    generalize bs (Lib.itoa o.tz) = sz at *
    clear hR hb0 hcc hi hW hm ht htl hcl htz
    go_enter Tryz.func12, Tryz.ntmps12
    go_upto_region 1 with fail
    rw [← hW0]
    clear hW0
    go_cut [3, 4] (fun v3 v4 wx => v3 = .string sz ∧ v4 = .string st ∧ Below W0.heap.size W0 wx)
    case first =>
      go_region_held3 (fun W => W.cell? ⟨w.heap.size, 18, none⟩ = some (.int .i64 o.tz) ∧ W.cell? ⟨w.heap.size, 2, none⟩ = some (.int .i64 o.ki) ∧ W.cell? ⟨w.heap.size, 9, none⟩ = some (.int .i64 o.e) ∧ W.cell? ⟨w.heap.size, 10, none⟩ = some (.int .i64 o.dk) ∧ W.cell? ⟨w.heap.size, 11, none⟩ = some (.int .i64 o.dn) ∧ W.cell? ⟨w.heap.size, 12, none⟩ = some (.slice da dm dc) ∧ W.cell? ⟨w.heap.size, 13, none⟩ = some (.int .i64 o.n) ∧ W.cell? ⟨w.heap.size, 14, none⟩ = some (.int .i64 o.li) ∧ W.cell? ⟨w.heap.size, 15, none⟩ = some (.string o.tt) ∧ W.cell? ⟨w.heap.size, 16, none⟩ = some (.slice ya o.ys.length yc)) ((refine H1.out _ ?_; ((repeat' (first | with_reducible assumption | with_reducible refine Below.drew ?_ | (with_reducible refine Below.alloc ?_ ?_ _))) <;> first | assumption | (simp; done) | (simp; omega)))) ((first
        | (go_at_call 15; (first | (with_reducible refine (HPT.out _ (by ((repeat' (first | with_reducible assumption | with_reducible refine Below.drew ?_ | (with_reducible refine Below.alloc ?_ ?_ _))) <;> first | assumption | (simp; done) | (simp; omega)))).mono ?_) | (with_reducible refine (HPTD.out _ (by ((repeat' (first | with_reducible assumption | with_reducible refine Below.drew ?_ | (with_reducible refine Below.alloc ?_ ?_ _))) <;> first | assumption | (simp; done) | (simp; omega)))).mono ?_)); rintro e w2 ⟨rfl, hb2⟩; have hb2z : Below W0.heap.size W0 w2 := Below.trans (show Below W0.heap.size W0 _ by ((repeat' (first | with_reducible assumption | with_reducible refine Below.drew ?_ | (with_reducible refine Below.alloc ?_ ?_ _))) <;> first | assumption | (simp; done) | (simp; omega))) (hb2.mono (Below.size (show Below W0.heap.size W0 _ by ((repeat' (first | with_reducible assumption | with_reducible refine Below.drew ?_ | (with_reducible refine Below.alloc ?_ ?_ _))) <;> first | assumption | (simp; done) | (simp; omega))))); clear hb2)
        | (go_at_call 22; (with_reducible refine (HTO.out _ (by ((repeat' (first | with_reducible assumption | with_reducible refine Below.drew ?_ | (with_reducible refine Below.alloc ?_ ?_ _))) <;> first | assumption | (simp; done) | (simp; omega)))).mono ?_); rintro e w3 ⟨rfl, hb3⟩; have hb3z : Below W0.heap.size W0 w3 := Below.trans (show Below W0.heap.size W0 _ by ((repeat' (first | with_reducible assumption | with_reducible refine Below.drew ?_ | (with_reducible refine Below.alloc ?_ ?_ _))) <;> first | assumption | (simp; done) | (simp; omega))) (hb3.mono (Below.size (show Below W0.heap.size W0 _ by ((repeat' (first | with_reducible assumption | with_reducible refine Below.drew ?_ | (with_reducible refine Below.alloc ?_ ?_ _))) <;> first | assumption | (simp; done) | (simp; omega))))); clear hb3)))
      all_goals
        go_wp2_with fail
        go_meet
        exact ⟨rfl, rfl, by assumption⟩
    case rest =>
      obtain ⟨rfl, rfl, hbx⟩ := hcut
      obtain ⟨wx, rfl⟩ : ∃ wx : World, wx = wc := ⟨_, rfl⟩
      have t18 := H18.out wx hbx
      clear hbz
      go_wp2_with fail
      clear t18
      go_region_held3 (fun W => W.cell? ⟨w.heap.size, 0, none⟩ = some (.int .i64 o.who) ∧ W.cell? ⟨w.heap.size, 1, none⟩ = some (.int .i64 o.at_) ∧ W.cell? ⟨w.heap.size, 17, none⟩ = some (.int .i64 o.fr) ∧ W.cell? ⟨w.heap.size, 2, none⟩ = some (.int .i64 o.ki) ∧ W.cell? ⟨w.heap.size, 3, none⟩ = some (.int .i64 o.kn) ∧ W.cell? ⟨w.heap.size, 4, none⟩ = some (.int .i64 o.kd) ∧ W.cell? ⟨w.heap.size, 5, none⟩ = some (.string o.tx) ∧ W.cell? ⟨w.heap.size, 6, none⟩ = some (.int .i64 o.ow) ∧ W.cell? ⟨w.heap.size, 7, none⟩ = some (.int .i64 o.oa) ∧ W.cell? ⟨w.heap.size, 8, none⟩ = some (.slice xa o.xs.length xc)) ((refine H4.out _ ?_; ((repeat' (first | with_reducible assumption | with_reducible refine Below.drew ?_ | (with_reducible refine Below.alloc ?_ ?_ _))) <;> first | assumption | (simp; done) | (simp; omega)))) ((first
        | (go_at_call 23; (with_reducible refine (HCA.out _ (by ((repeat' (first | with_reducible assumption | with_reducible refine Below.drew ?_ | (with_reducible refine Below.alloc ?_ ?_ _))) <;> first | assumption | (simp; done) | (simp; omega)))).mono ?_); rintro e w2 ⟨rfl, hb2⟩; have hb2z : Below W0.heap.size W0 w2 := Below.trans (show Below W0.heap.size W0 _ by ((repeat' (first | with_reducible assumption | with_reducible refine Below.drew ?_ | (with_reducible refine Below.alloc ?_ ?_ _))) <;> first | assumption | (simp; done) | (simp; omega))) (hb2.mono (Below.size (show Below W0.heap.size W0 _ by ((repeat' (first | with_reducible assumption | with_reducible refine Below.drew ?_ | (with_reducible refine Below.alloc ?_ ?_ _))) <;> first | assumption | (simp; done) | (simp; omega))))); have hz2 : W0.heap.size ≤ w2.heap.size := hb2z.size; clear hb2)
        | (go_at_call 15; (with_reducible refine (HP.out _ (by ((repeat' (first | with_reducible assumption | with_reducible refine Below.drew ?_ | (with_reducible refine Below.alloc ?_ ?_ _))) <;> first | assumption | (simp; done) | (simp; omega)))).mono ?_); rintro e w3 ⟨rfl, hb3⟩; have hb3z : Below W0.heap.size W0 w3 := Below.trans (show Below W0.heap.size W0 _ by ((repeat' (first | with_reducible assumption | with_reducible refine Below.drew ?_ | (with_reducible refine Below.alloc ?_ ?_ _))) <;> first | assumption | (simp; done) | (simp; omega))) (hb3.mono (Below.size (show Below W0.heap.size W0 _ by ((repeat' (first | with_reducible assumption | with_reducible refine Below.drew ?_ | (with_reducible refine Below.alloc ?_ ?_ _))) <;> first | assumption | (simp; done) | (simp; omega))))); clear hb3)))
      all_goals
        go_wp2_with fail
        go_ret
        exact ⟨rfl, HB0.out.trans (Below.mono (show Below W0.heap.size W0 _ by assumption) HB0.out.size)⟩
  · have HP : Hid (∀ W, Below W0.heap.size W0 W → Calls Tryz.prog 15 #[.slice (some ⟨W.heap.size, 0, none⟩) 11 11] (W.alloc (.cells #[.iface 3 (.int .i64 o.who), .iface 9 (.string ⟨#[46]⟩), .iface 3 (.int .i64 o.at_), .iface 9 (.string ⟨#[32]⟩), .iface 3 (.int .i64 o.fr), .iface 9 (.string ⟨#[45]⟩), .iface 9 (.string (bs (Lib.itoa o.tz))), .iface 9 (.string ⟨#[32]⟩), .iface 9 (.string (bs (callL o.call))), .iface 9 (.string ⟨#[58, 32]⟩), .iface 9 (.string (bs (o.told o.ki)))] 20))
        fun e w' => e = .returned (.string (bs R)) ∧ Below W.heap.size W w') := Lib.hid fun W hb => by
      rw [hR, opL, if_neg htz, if_neg htz]
      exact put_11 o.who o.at_ o.fr (Lib.itoa o.tz) (callL o.call) (o.told o.ki) W hi.who hi.at_ hi.fr (by have := itoa_len hi.tz; omega) (by omega) (by omega) (HT.out W hb)
    have htb : (o.tz == -1) = false := by simpa using htz
    generalize bs (callL o.call) = sc at *
    generalize bs (o.told o.ki) = st at *
    generalize bs (Lib.itoa o.tz) = sz at *
    clear hR hb0 hcc hi hW hm ht htl hcl htz
    go_enter Tryz.func12, Tryz.ntmps12
    go_upto_region 1 with fail
    rw [← hW0]
    clear hW0
    go_cut [3, 4] (fun v3 v4 wx => v3 = .string sz ∧ v4 = .string st ∧ Below W0.heap.size W0 wx)
    case first =>
      go_region_held3 (fun W => W.cell? ⟨w.heap.size, 18, none⟩ = some (.int .i64 o.tz) ∧ W.cell? ⟨w.heap.size, 2, none⟩ = some (.int .i64 o.ki) ∧ W.cell? ⟨w.heap.size, 9, none⟩ = some (.int .i64 o.e) ∧ W.cell? ⟨w.heap.size, 10, none⟩ = some (.int .i64 o.dk) ∧ W.cell? ⟨w.heap.size, 11, none⟩ = some (.int .i64 o.dn) ∧ W.cell? ⟨w.heap.size, 12, none⟩ = some (.slice da dm dc) ∧ W.cell? ⟨w.heap.size, 13, none⟩ = some (.int .i64 o.n) ∧ W.cell? ⟨w.heap.size, 14, none⟩ = some (.int .i64 o.li) ∧ W.cell? ⟨w.heap.size, 15, none⟩ = some (.string o.tt) ∧ W.cell? ⟨w.heap.size, 16, none⟩ = some (.slice ya o.ys.length yc)) ((refine H1.out _ ?_; ((repeat' (first | with_reducible assumption | with_reducible refine Below.drew ?_ | (with_reducible refine Below.alloc ?_ ?_ _))) <;> first | assumption | (simp; done) | (simp; omega)))) ((first
        | (go_at_call 15; (first | (with_reducible refine (HPT.out _ (by ((repeat' (first | with_reducible assumption | with_reducible refine Below.drew ?_ | (with_reducible refine Below.alloc ?_ ?_ _))) <;> first | assumption | (simp; done) | (simp; omega)))).mono ?_) | (with_reducible refine (HPTD.out _ (by ((repeat' (first | with_reducible assumption | with_reducible refine Below.drew ?_ | (with_reducible refine Below.alloc ?_ ?_ _))) <;> first | assumption | (simp; done) | (simp; omega)))).mono ?_)); rintro e w2 ⟨rfl, hb2⟩; have hb2z : Below W0.heap.size W0 w2 := Below.trans (show Below W0.heap.size W0 _ by ((repeat' (first | with_reducible assumption | with_reducible refine Below.drew ?_ | (with_reducible refine Below.alloc ?_ ?_ _))) <;> first | assumption | (simp; done) | (simp; omega))) (hb2.mono (Below.size (show Below W0.heap.size W0 _ by ((repeat' (first | with_reducible assumption | with_reducible refine Below.drew ?_ | (with_reducible refine Below.alloc ?_ ?_ _))) <;> first | assumption | (simp; done) | (simp; omega))))); clear hb2)
        | (go_at_call 22; (with_reducible refine (HTO.out _ (by ((repeat' (first | with_reducible assumption | with_reducible refine Below.drew ?_ | (with_reducible refine Below.alloc ?_ ?_ _))) <;> first | assumption | (simp; done) | (simp; omega)))).mono ?_); rintro e w3 ⟨rfl, hb3⟩; have hb3z : Below W0.heap.size W0 w3 := Below.trans (show Below W0.heap.size W0 _ by ((repeat' (first | with_reducible assumption | with_reducible refine Below.drew ?_ | (with_reducible refine Below.alloc ?_ ?_ _))) <;> first | assumption | (simp; done) | (simp; omega))) (hb3.mono (Below.size (show Below W0.heap.size W0 _ by ((repeat' (first | with_reducible assumption | with_reducible refine Below.drew ?_ | (with_reducible refine Below.alloc ?_ ?_ _))) <;> first | assumption | (simp; done) | (simp; omega))))); clear hb3)))
      all_goals
        go_wp2_with fail
        go_meet
        exact ⟨rfl, rfl, by assumption⟩
    case rest =>
      obtain ⟨rfl, rfl, hbx⟩ := hcut
      obtain ⟨wx, rfl⟩ : ∃ wx : World, wx = wc := ⟨_, rfl⟩
      have t18 := H18.out wx hbx
      clear hbz
      go_wp2_with fail
      clear t18
      go_region_held3 (fun W => W.cell? ⟨w.heap.size, 0, none⟩ = some (.int .i64 o.who) ∧ W.cell? ⟨w.heap.size, 1, none⟩ = some (.int .i64 o.at_) ∧ W.cell? ⟨w.heap.size, 17, none⟩ = some (.int .i64 o.fr) ∧ W.cell? ⟨w.heap.size, 2, none⟩ = some (.int .i64 o.ki) ∧ W.cell? ⟨w.heap.size, 3, none⟩ = some (.int .i64 o.kn) ∧ W.cell? ⟨w.heap.size, 4, none⟩ = some (.int .i64 o.kd) ∧ W.cell? ⟨w.heap.size, 5, none⟩ = some (.string o.tx) ∧ W.cell? ⟨w.heap.size, 6, none⟩ = some (.int .i64 o.ow) ∧ W.cell? ⟨w.heap.size, 7, none⟩ = some (.int .i64 o.oa) ∧ W.cell? ⟨w.heap.size, 8, none⟩ = some (.slice xa o.xs.length xc)) ((refine H4.out _ ?_; ((repeat' (first | with_reducible assumption | with_reducible refine Below.drew ?_ | (with_reducible refine Below.alloc ?_ ?_ _))) <;> first | assumption | (simp; done) | (simp; omega)))) ((first
        | (go_at_call 23; (with_reducible refine (HCA.out _ (by ((repeat' (first | with_reducible assumption | with_reducible refine Below.drew ?_ | (with_reducible refine Below.alloc ?_ ?_ _))) <;> first | assumption | (simp; done) | (simp; omega)))).mono ?_); rintro e w2 ⟨rfl, hb2⟩; have hb2z : Below W0.heap.size W0 w2 := Below.trans (show Below W0.heap.size W0 _ by ((repeat' (first | with_reducible assumption | with_reducible refine Below.drew ?_ | (with_reducible refine Below.alloc ?_ ?_ _))) <;> first | assumption | (simp; done) | (simp; omega))) (hb2.mono (Below.size (show Below W0.heap.size W0 _ by ((repeat' (first | with_reducible assumption | with_reducible refine Below.drew ?_ | (with_reducible refine Below.alloc ?_ ?_ _))) <;> first | assumption | (simp; done) | (simp; omega))))); have hz2 : W0.heap.size ≤ w2.heap.size := hb2z.size; clear hb2)
        | (go_at_call 15; (with_reducible refine (HP.out _ (by ((repeat' (first | with_reducible assumption | with_reducible refine Below.drew ?_ | (with_reducible refine Below.alloc ?_ ?_ _))) <;> first | assumption | (simp; done) | (simp; omega)))).mono ?_); rintro e w3 ⟨rfl, hb3⟩; have hb3z : Below W0.heap.size W0 w3 := Below.trans (show Below W0.heap.size W0 _ by ((repeat' (first | with_reducible assumption | with_reducible refine Below.drew ?_ | (with_reducible refine Below.alloc ?_ ?_ _))) <;> first | assumption | (simp; done) | (simp; omega))) (hb3.mono (Below.size (show Below W0.heap.size W0 _ by ((repeat' (first | with_reducible assumption | with_reducible refine Below.drew ?_ | (with_reducible refine Below.alloc ?_ ?_ _))) <;> first | assumption | (simp; done) | (simp; omega))))); clear hb3)))
      all_goals
        go_wp2_with fail
        go_ret
        exact ⟨rfl, HB0.out.trans (Below.mono (show Below W0.heap.size W0 _ by assumption) HB0.out.size)⟩
end Go.Proofs.YthjcmcgmalnfpaaGreatDoor.Lex
