/- slim.Clone, walked. -/
import Derived.Test.YtbijacoiblbnfaaSlimC
import Derived.Deep.RegionLaw
import Derived.Deep.LoopGhost
import Derived.Deep.DeepCutAuto
namespace Go.Proofs.Ytbijacoiblbnfaa
open Go.RowKit
set_option linter.unusedSimpArgs false
set_option linter.unusedVariables false
theorem callElem : Elem Try.prog 70 73 7 80 := ⟨Try.underlying70, ⟨.agg #[.int .i64 0, .int .i64 0, .int .i64 0, .string ByteArray.empty, .int .i64 0, .int .i64 0, .slice none 0 0], by kernel_rfl, rfl⟩, by omega⟩
theorem own_slice {w w' : World} {base : Nat} {e : TypeId} {size n m : Nat} {v v' : Value} {news : List Value} (ho : ∃ xs, w.ownsRow base e size v n xs) (h : ∀ xs, w.ownsRow base e size v n xs → w'.ownsRow base e size v' m (xs ++ news)) : ∃ a c, v' = .slice a m c := by
  obtain ⟨xs, ho⟩ := ho
  rcases (h xs ho).2 with ⟨q1, q2⟩ | ⟨g, cap, cur, q1, _⟩
  · subst q2; exact ⟨_, _, q1⟩
  · exact ⟨_, _, q1⟩
theorem Src.drew {w : World} {ad : Option Addr} {m c size : Nat} {news : List Value} (h : Src w ad m c size news) : Src w.drew ad m c size news := ⟨h.len, h.nil, h.at_, h.one⟩
/-- An append onto the call's own row in a region that draws its order; where the new row lies. -/
theorem step_app_at {P : Program} {w : World} {ops : Array Oper} {o : Oper} {a : Act} {K : Act → World → Prop} {Q : Exit → Act → World → Prop} {E0 : Prop} (hgd : o.guard = none) (s x : Operand) (t : TypeId)
    (ho : o.op = .call { callee := .builtin .append, args := #[s, x], argTypes := #[t, t] })
    {base : Nat} {e : TypeId} {size bytes : Nat} (E : Elem P t e size bytes)
    (v : Value) (n : Nat) (hs : a.eval s = v) (ad : Addr) (m c : Nat) (news : List Value) (hx : a.eval x = .slice (some ad) m c)
    (hown : ∃ xs, w.ownsRow base e size v n xs) (hsrc : Src w (some ad) m c size news)
    (h63 : n + m ≤ maxLen) (hbytes : (n + m) * bytes ≤ 140737488355328) (hbase : base ≤ w.heap.size)
    (h : ∀ v' w', (∀ xs, w.ownsRow base e size v n xs → w'.ownsRow base e size v' (n + m) (xs ++ news)) → w.grownBy w' v.ownBlock → (v'.ownBlock = v.ownBlock ∨ v'.ownBlock = some w.heap.size) → K (a.put o.dst v') w') :
    if Region.wanted o (yielded ops a.tmps) = true then Oper.wp P o a w K Q else E0 := by
  have hw : Region.wanted o (yielded ops a.tmps) = true := by simp [Region.wanted, hgd]
  rw [if_pos hw]
  obtain ⟨z, hi, hzs⟩ := E.row
  obtain ⟨i, hi, hz0, hz1, hz2⟩ := info_parts hi
  obtain ⟨xs, hown⟩ := hown
  obtain ⟨v', w', hr, h2, h3, h4, h5⟩ := run_append_own_at (P := P) w base t o.type e i z size bytes E.ht hi hz0 hz1 hz2 hzs E.pos v n xs hown ad m c news hsrc.len (hsrc.at_ ad rfl) hsrc.one h63 hbytes hbase
  unfold Oper.wp
  simp [execOp, ho, resolve, invoke, builtin, hs, hx, hr, Result.andThen]
  refine h v' w' (fun ys hy => ?_) h3 h5
  obtain rfl : ys = xs := by
    rcases hy.2 with ⟨q1, q2⟩ | ⟨g, cap, cur, q1, _, q3, _, _, _, q4⟩
    · subst q2
      have h1 : ys = [] := List.eq_nil_of_length_eq_zero (by simpa using hy.1)
      have h2 : xs = [] := List.eq_nil_of_length_eq_zero (by simpa using hown.1)
      rw [h1, h2]
    · rcases hown.2 with ⟨p1, p2⟩ | ⟨g', cap', cur', p1, _, p3, _, _, _, p4⟩
      · rw [q1] at p1; cases p1
      · rw [q1] at p1
        cases p1
        rw [q3] at p3
        cases p3
        rw [← q4, ← p4]
  exact h2
set_option maxRecDepth 100000 in
set_option maxHeartbeats 16000000 in
theorem sclone_any (st rm : Int) (F : Foot) (aC aP aT : Option Addr) (n m q cC cP cT : Nat) (L : List (List CallV)) (ps ts : List Int) (w : World)
    (hC : RowOf rowsRd 1 24 F w aC n cC L) (hP : RowOf rI 1 8 F w aP m cP ps) (hT : RowOf rI 1 8 F w aT q cT ts) :
    Calls Try.prog 7 #[.agg #[.int .i64 st, .int .i64 rm, .slice aC n cC, .slice aP m cP, .slice aT q cT]] w fun e w' => ∃ a1 c1 a2 c2 a3 c3, e = .returned (.agg #[.int .i64 st, .int .i64 rm, .slice a1 n c1, .slice a2 m c2, .slice a3 q c3]) ∧
      RowOf rowsRd 1 24 (From w.heap.size) w' a1 n c1 L ∧ RowOf rI 1 8 (From w.heap.size) w' a2 m c2 ps ∧ RowOf rI 1 8 (From w.heap.size) w' a3 q c3 ts ∧ Below w.heap.size w w' := by
  have hn : n ≤ 5864062014805 := by have := hC.room; omega
  have HLN := Lib.hid hC.len
  have hmk := calls_nil_make n hn
  have HS := Lib.hid (CS.start w #[.int .i64 st, .int .i64 rm, .slice aC n cC, .slice aP m cP, .slice aT q cT] #[.int .i64 0, .int .i64 0, .slice none 0 0, .slice none 0 0, .slice none 0 0] n L)
  have HC := Lib.hid hC
  have HP := Lib.hid hP
  have HT := Lib.hid hT
  clear hC hP hT
  go_enter Try.func7, Try.ntmps7
  go_wp2_with fail
  go_loopg [15] n (fun g iv wr => ∃ i : Nat, i ≤ n ∧ g = n - i ∧ iv = .int .i64 i ∧ CS w wr #[.int .i64 st, .int .i64 rm, .slice aC n cC, .slice aP m cP, .slice aT q cT] #[.int .i64 0, .int .i64 0, .slice none 0 0, .slice none 0 0, .slice none 0 0] n L i)
  case atStart => exact ⟨0, by omega, rfl, rfl, HS.out⟩
  case round =>
    clear hmk
    obtain ⟨i, hi, rfl, rfl, hcs⟩ := hrel
    obtain ⟨wo, rfl⟩ : ∃ wo : World, wo = wr := ⟨_, rfl⟩
    have HCS := Lib.hid hcs
    by_cases hli : i < n
    · obtain ⟨g1, o1, ax, nx, cx', rfl, lg1, _, e1', hx⟩ := HC.out.row i (by have := HLN.out; omega)
      have e1 := (hcs.below.cell (p := ⟨g1, o1 + i, none⟩) lg1).trans e1'
      have HX := Lib.hid hx
      have HLL := Lib.hid hx.len
      have hnx := room64 hx.room (by omega)
      have HCI := Lib.hid (hcs.inner hli (L[i]'(by have := HLN.out; omega)))
      have HLI : Hid (L[i]? = some (L[i]'(by have := HLN.out; omega))) := Lib.hid (List.getElem?_eq_getElem _)
      have HRM := Lib.hid hx.room
      generalize L[i]'_ = l at *
      clear e1' hx hcs
      go_wp2_with fail
      go_loopg [22] nx (fun g kv wr => ∃ (k : Nat) (v : Value), k ≤ nx ∧ g = nx - k ∧ kv = .int .i64 k ∧ CI w wr #[.int .i64 st, .int .i64 rm, .slice (some ⟨g1, o1, none⟩) n cC, .slice aP m cP, .slice aT q cT] #[.int .i64 0, .int .i64 0, .slice none 0 0, .slice none 0 0, .slice none 0 0] n L i wo.heap.size l k v)
      case atStart => exact ⟨0, _, by omega, rfl, rfl, HCI.out⟩
      case round =>
        obtain ⟨k, v, hk, rfl, rfl, hci⟩ := hrel
        obtain ⟨wk, rfl⟩ : ∃ wk : World, wk = wr := ⟨_, rfl⟩
        have HK := Lib.hid hci
        by_cases hlk : k < nx
        · obtain ⟨hwf, g3, o3, a3, n3, x3, rfl, lg3, _, r3, p0, p1, p2, p3, p4, p5, p6⟩ := (HX.out.keep callRd_ok (Fix.of_below hci.below)).call k (by have := HLL.out; omega)
          have HGET : Hid (l[k]? = some (l[k]'(by have := HLL.out; omega))) := Lib.hid (List.getElem?_eq_getElem _)
          have HWF := Lib.hid hwf
          have R3 := Lib.hid r3
          have HV : Hid (∃ cur, wk.heap[w.heap.size + 2]? = some (.cells cur 70 (0, 0)) ∧ cur[i]? = some v) := Lib.hid (by obtain ⟨cur, q1, _, _, q4, _⟩ := hci.cur; exact ⟨cur, q1, q4⟩)
          generalize l[k]'_ = c at *
          obtain ⟨ck, ⟨cn, cd⟩, ct, ⟨cw, ca⟩, cx⟩ := c
          simp only at p0 p1 p2 p3 p4 p5 p6
          clear hci hwf r3 e1
          go_wp2_with fail
          refine (cloneU_any cx F a3 n3 x3 _ (R3.out.keep (Rd.int_ok _) (Fix.alloc _ _ _))).mono ?_
          rintro e w2 ⟨a', cap', rfl, hr2, hb2⟩
          have gb : w2.heap[wk.heap.size]? = some (.cells #[.int .i64 ck, .int .i64 cn, .int .i64 cd, .string ct, .int .i64 cw, .int .i64 ca, .slice a3 n3 x3] 73 (0, 0)) := (hb2.block _ (by simp)).trans (heap_alloc_new wk _)
          have HB2 := Lib.hid hb2
          have HR2 := Lib.hid hr2
          have HGB := Lib.hid gb
          have b6 := cell_at (o := 6) gb rfl
          have f6 := free_at (o := 6) gb
          have HSZ : Hid (wk.heap.size + 1 ≤ w2.heap.size) := Lib.hid (by have := hb2.size; simpa using this)
          have HV2 : Hid (w2.cell? ⟨w.heap.size + 2, i, none⟩ = some v) := Lib.hid (by
            obtain ⟨cur, q1, q2⟩ := HV.out
            exact cell_at ((hb2.block _ (by have := (Array.getElem?_eq_some_iff.1 q1).1; simp; omega)).trans ((Lib.alloc_old _ _ _ (Array.getElem?_eq_some_iff.1 q1).1).trans q1)) q2)
          clear hb2 hr2 gb p0 p1 p2 p3 p4 p5 p6
          go_wp2_with fail
          obtain ⟨w3, e3⟩ : ∃ w3, w3 = w2.setCell ⟨wk.heap.size, 6, none⟩ (.slice a' n3 cap') := ⟨_, rfl⟩
          have hsz3 : w3.heap.size = w2.heap.size := by rw [e3]; simp [World.setCell]
          have hb3 : Below wk.heap.size wk w3 := by
            rw [e3]
            exact (((Below.refl _ _).alloc (Nat.le_refl _) _).trans (HB2.out.mono (by simp))).setCell (by show wk.heap.size ≤ wk.heap.size; omega) _
          have gb3 : w3.heap[wk.heap.size]? = some (.cells (#[.int .i64 ck, .int .i64 cn, .int .i64 cd, .string ct, .int .i64 cw, .int .i64 ca, .slice a' n3 cap'] : Array Value) 73 (0, 0)) := by
            rw [e3]
            exact heap_set_at _ HGB.out
          have hN : w.heap.size + 3 ≤ wk.heap.size := Nat.le_trans HK.out.base HK.out.size
          have hv3 : w3.cell? ⟨w.heap.size + 1 + 1, i, none⟩ = some v := by
            obtain ⟨cur, q1, q2⟩ := HV.out
            exact cell_at ((hb3.block _ (by omega)).trans q1) q2
          have hfr3 : w3.frozen? ⟨w.heap.size + 1 + 1, i, none⟩ = false := by
            obtain ⟨cur, q1, q2⟩ := HV.out
            exact free_at ((hb3.block _ (by omega)).trans q1)
          have HLT : Hid (∀ b, v.ownBlock = some b → wo.heap.size ≤ b ∧ b < wk.heap.size) := Lib.hid (by obtain ⟨cells, ho, _⟩ := HK.out.own; exact fun b hb => ho.lt b hb)
          have p0 := cell_at (o := 0) gb3 rfl
          have p1 := cell_at (o := 1) gb3 rfl
          have p2 := cell_at (o := 2) gb3 rfl
          have p3 := cell_at (o := 3) gb3 rfl
          have p4 := cell_at (o := 4) gb3 rfl
          have p5 := cell_at (o := 5) gb3 rfl
          have p6 := cell_at (o := 6) gb3 rfl
          have z1 : wk.heap.size < w3.heap.size := by have := HSZ.out; omega
          have HBASE := Lib.hid HK.out.base
          have HS4 : Hid (∀ W, Below w3.heap.size w3 W → W.cell? ⟨w.heap.size + 1 + 1, i, none⟩ = some v ∧ W.cell? ⟨wk.heap.size, 0, none⟩ = some (.int .i64 ck) ∧ W.cell? ⟨wk.heap.size, 1, none⟩ = some (.int .i64 cn) ∧ W.cell? ⟨wk.heap.size, 2, none⟩ = some (.int .i64 cd) ∧ W.cell? ⟨wk.heap.size, 3, none⟩ = some (.string ct) ∧ W.cell? ⟨wk.heap.size, 4, none⟩ = some (.int .i64 cw) ∧ W.cell? ⟨wk.heap.size, 5, none⟩ = some (.int .i64 ca) ∧ W.cell? ⟨wk.heap.size, 6, none⟩ = some (.slice a' n3 cap')) := Lib.hid fun W hb => by
            have e : ∀ g o, g < w3.heap.size → W.cell? ⟨g, o, none⟩ = w3.cell? ⟨g, o, none⟩ := fun g o h => hb.cell (p := ⟨g, o, none⟩) h
            simp only [e _ _ z1, e _ _ (show w.heap.size + 1 + 1 < w3.heap.size by omega)]
            exact ⟨hv3, p0, p1, p2, p3, p4, p5, p6⟩
          have HS5 : Hid (∀ W W', Below w3.heap.size w3 W → W.grownBy W' v.ownBlock → (W'.cell? ⟨w.heap.size + 1 + 1, i, none⟩ = some v ∧ W'.cell? ⟨wk.heap.size, 0, none⟩ = some (.int .i64 ck) ∧ W'.cell? ⟨wk.heap.size, 1, none⟩ = some (.int .i64 cn) ∧ W'.cell? ⟨wk.heap.size, 2, none⟩ = some (.int .i64 cd) ∧ W'.cell? ⟨wk.heap.size, 3, none⟩ = some (.string ct) ∧ W'.cell? ⟨wk.heap.size, 4, none⟩ = some (.int .i64 cw) ∧ W'.cell? ⟨wk.heap.size, 5, none⟩ = some (.int .i64 ca) ∧ W'.cell? ⟨wk.heap.size, 6, none⟩ = some (.slice a' n3 cap')) ∧ W'.frozen? ⟨w.heap.size + 1 + 1, i, none⟩ = false) := Lib.hid fun W W' hb hg => by
            have hs := HS4.out W hb
            have ne1 : some (w.heap.size + 1 + 1) ≠ v.ownBlock := fun e => by have := (HLT.out _ e.symm).1; have := HBASE.out; omega
            have ne2 : some wk.heap.size ≠ v.ownBlock := fun e => by have := (HLT.out _ e.symm).2; omega
            have e : ∀ g o, g < w3.heap.size → some g ≠ v.ownBlock → W'.cell? ⟨g, o, none⟩ = W.cell? ⟨g, o, none⟩ := fun g o h hn => World.cell?_of_block (a := ⟨g, o, none⟩) (hg.block g (Nat.lt_of_lt_of_le h hb.size) hn)
            simp only [e _ _ z1 ne2, e _ _ (show w.heap.size + 1 + 1 < w3.heap.size by omega) ne1]
            refine ⟨hs, ?_⟩
            obtain ⟨cur, q1, q2⟩ := HV.out
            exact free_at ((hg.block _ (by have := hb.size; omega) ne1).trans ((hb.block _ (by omega)).trans ((hb3.block _ (by omega)).trans q1)))
          have HB3 := Lib.hid hb3
          have HOW : Hid (∀ o, ∃ cells, (w3.alloc o).drew.ownsRow wo.heap.size 73 7 v k cells) := Lib.hid (by obtain ⟨cells, ho, _⟩ := HK.out.own; exact fun o => ⟨cells, (own_below ho HB3.out).alloc _⟩)
          have HSRC : Hid (∀ w : World, Src (w.alloc (.cells #[.int .i64 ck, .int .i64 cn, .int .i64 cd, .string ct, .int .i64 cw, .int .i64 ca, .slice a' n3 cap'] 73)) (some ⟨w.heap.size, 0, none⟩) 1 1 7 (callCells (ck, (cn, cd), ct, (cw, ca), cx) a' n3 cap')) := Lib.hid fun w => src_new (callCells (ck, (cn, cd), ct, (cw, ca), cx) a' n3 cap') 73 7 rfl (by intro u hu; simp [callCells] at hu; rcases hu with rfl | rfl | rfl | rfl | rfl | rfl | rfl <;> rfl)
          have HE3 := Lib.hid e3
          have HKN : Hid (k < nx) := Lib.hid hlk
          have hkk : k + 1 ≤ maxLen := by unfold maxLen; omega
          have hkb : (k + 1) * 80 ≤ 140737488355328 := by have := HRM.out; omega
          have HSZW : Hid (wo.heap.size ≤ w3.heap.size) := Lib.hid (by have := HK.out.size; omega)
          have hlt2 : w.heap.size + 1 + 1 < w3.heap.size := by omega
          rw [← e3]
          clear e3 hb3 gb3 hsz3 b6 f6
          go_region_law (first | (refine step_app_at (by rfl) (.tmp 35) (.tmp 37) 70 (by rfl) callElem v k (by simp [Act.eval, Act.put]) ⟨w3.heap.size, 0, none⟩ 1 1 (callCells (ck, (cn, cd), ct, (cw, ca), cx) a' n3 cap') (by simp [Act.eval, Act.put]) (HOW.out _) (HSRC.out _).drew hkk hkb (by simpa using Nat.le_succ_of_le HSZW.out) ?_; intro v' w5 hown5 hg5 hat5; have hfr5 := (HS5.out _ _ ((Below.refl _ _).alloc (Nat.le_refl _) _).drew hg5).2; have hce5 := (HS5.out _ _ ((Below.refl _ _).alloc (Nat.le_refl _) _).drew hg5).1.1; obtain ⟨av, cv, rfl⟩ := own_slice (HOW.out _) hown5))
          all_goals
            have HCI2 : Hid (CI w (w5.setCell ⟨w.heap.size + 1 + 1, i, none⟩ (.slice av (k + 1) cv)) #[.int .i64 st, .int .i64 rm, .slice (some ⟨g1, o1, none⟩) n cC, .slice aP m cP, .slice aT q cT] #[.int .i64 0, .int .i64 0, .slice none 0 0, .slice none 0 0, .slice none 0 0] n L i wo.heap.size l (k + 1) (.slice av (k + 1) cv)) := Lib.hid (CI.step HK.out hli HGET.out HWF.out rfl HB2.out HR2.out HE3.out ((Below.refl _ _).alloc (Nat.le_refl _) _).drew (fun cells ho => hown5 cells ((own_below ho HB3.out).alloc _)) hg5 hat5)
            clear hown5 hg5 hat5 p0 p1 p2 p3 p4 p5 p6 hv3 hfr3 hfr5 hce5
            go_wp2_with fail
            go_roundg (nx - (k + 1))
            case measure => omega
            case rel => exact ⟨k + 1, _, by omega, rfl, by go_num, HCI2.out⟩
        · have HCO : Hid (CS w wk #[.int .i64 st, .int .i64 rm, .slice (some ⟨g1, o1, none⟩) n cC, .slice aP m cP, .slice aT q cT] #[.int .i64 0, .int .i64 0, .slice none 0 0, .slice none 0 0, .slice none 0 0] n L (i + 1)) := Lib.hid (by
            exact CI.outer hci (by have := HLL.out; omega) HLI.out (by have h1 := HLL.out; have h2 := HRM.out; rw [h1]; exact h2))
          clear hci e1
          go_wp2_with fail
          go_roundg (n - (i + 1))
          case measure => omega
          case rel => exact ⟨i + 1, by omega, rfl, by go_num, HCO.out⟩
    · have hN := hcs.size
      have hbx := hcs.box
      have hres := hcs.res
      have HROW := Lib.hid (hcs.done hli HLN.out HC.out.room)
      have HB := Lib.hid hcs.below
      have HPo := Lib.hid (HP.out.keep (Rd.int_ok _) (Fix.of_below hcs.below))
      have HTo := Lib.hid (HT.out.keep (Rd.int_ok _) (Fix.of_below hcs.below))
      have c3 := cell_at (o := 3) hbx rfl
      have c4 := cell_at (o := 4) hbx rfl
      have HBX := Lib.hid hbx
      have HRES := Lib.hid hres
      clear hcs hbx hres
      go_wp2_with fail
      go_region_with (first
        | (go_at_call 22; (with_reducible refine (cloneI_any ps F aP m cP _ (HPo.out.keep (Rd.int_ok _) (Fix.drew _ _))).mono ?_); rintro e w8 ⟨a8, x8, rfl, hr8, hb8⟩; have c48 : w8.cell? ⟨w.heap.size, 4, none⟩ = some (.slice aT q cT) := (hb8.cell (p := ⟨w.heap.size, 4, none⟩) (by show w.heap.size < wo.heap.size; omega)).trans c4; have HB8 := Lib.hid (show Below wo.heap.size wo w8 from (Below.refl _ _).drew.trans hb8); have HR8 := Lib.hid hr8; clear hb8 hr8)
        | (go_at_call 22; (with_reducible refine (cloneI_any ts F aT q cT _ (HTo.out.keep (Rd.int_ok _) (Fix.of_below HB8.out))).mono ?_); rintro e w9 ⟨a9, x9, rfl, hr9, hb9⟩; have HB9 := Lib.hid hb9; have HR9 := Lib.hid hr9; have hbx9 : w9.heap[w.heap.size]? = _ := (hb9.block _ (by have := HB8.out.size; omega)).trans ((HB8.out.block _ (by omega)).trans HBX.out); have k2 := cell_at (o := 2) hbx9 rfl; have k3 := cell_at (o := 3) hbx9 rfl; have k4 := cell_at (o := 4) hbx9 rfl; have f2 := free_at (o := 2) hbx9; have f3 := free_at (o := 3) hbx9; have f4 := free_at (o := 4) hbx9; have HBX9 := Lib.hid hbx9; clear hbx9 hb9 hr9))
      all_goals
        obtain ⟨wA, eA⟩ : ∃ wA, wA = ((w9.setCell ⟨w.heap.size, 2, none⟩ (.slice (some ⟨w.heap.size + 1 + 1, 0, none⟩) n n)).setCell ⟨w.heap.size, 3, none⟩ (.slice a8 m x8)).setCell ⟨w.heap.size, 4, none⟩ (.slice a9 q x9) := ⟨_, rfl⟩
        have gA : wA.heap[w.heap.size]? = some (.cells (#[.int .i64 st, .int .i64 rm, .slice (some ⟨w.heap.size + 1 + 1, 0, none⟩) n n, .slice a8 m x8, .slice a9 q x9] : Array Value) 25 (0, 0)) := by
          rw [eA]
          exact heap_set_at _ (heap_set_at _ (heap_set_at _ HBX9.out))
        have FA : ∀ F : Foot, ¬ F w.heap.size → Fix F wo wA := fun F hF => by
          rw [eA]
          exact ((((Fix.of_below HB8.out).trans (.of_below HB9.out)).set_other hF _).set_other hF _).set_other hF _
        have rA : wA.heap[w.heap.size + 1]? = _ := ((FA (fun b => b = w.heap.size + 1) (by omega)).same _ (by omega) rfl).trans HRES.out
        have hsA : wo.heap.size ≤ wA.heap.size := (FA (fun _ => False) id).size
        have BA : Below w.heap.size w wA := by
          rw [eA]
          exact ((((HB.out.trans (HB8.out.mono (by omega))).trans (HB9.out.mono (by have := HB8.out.size; omega))).setCell (by show w.heap.size ≤ w.heap.size; omega) _).setCell (by show w.heap.size ≤ w.heap.size; omega) _).setCell (by show w.heap.size ≤ w.heap.size; omega) _
        have FX9 : Fix (From w8.heap.size) w9 wA := by
          rw [eA]
          have : ¬ (From w8.heap.size) w.heap.size := by show ¬ _ ≤ _; have := HB8.out.size; omega
          exact (((Fix.refl _ _).set_other this _).set_other this _).set_other this _
        have FX8 : Fix (From wo.heap.size) w8 wA := by
          rw [eA]
          have : ¬ (From wo.heap.size) w.heap.size := by show ¬ _ ≤ _; omega
          exact (((Fix.of_below HB9.out).set_other this _).set_other this _).set_other this _
        have HRA := Lib.hid (HROW.out.keep rowsRd_ok (FA _ (by show ¬ _ ≤ _; omega)))
        have HRA8 := Lib.hid (HR8.out.keep (Rd.int_ok _) FX8)
        have HRA9 := Lib.hid (HR9.out.keep (Rd.int_ok _) FX9)
        have HBA := Lib.hid BA
        have HRES2 := Lib.hid rA
        have HLT : Hid (w.heap.size + 1 < wA.heap.size ∧ wo.heap.size ≤ w8.heap.size) := Lib.hid ⟨by omega, HB8.out.size⟩
        have s0 := cell_at (o := 0) gA rfl
        have s1 := cell_at (o := 1) gA rfl
        have s2 := cell_at (o := 2) gA rfl
        have s3 := cell_at (o := 3) gA rfl
        have s4 := cell_at (o := 4) gA rfl
        have r0 := cell_at (o := 0) rA rfl
        have r1 := cell_at (o := 1) rA rfl
        have r2 := cell_at (o := 2) rA rfl
        have r3 := cell_at (o := 3) rA rfl
        have r4 := cell_at (o := 4) rA rfl
        have y0 := free_at (o := 0) rA
        have y1 := free_at (o := 1) rA
        have y2 := free_at (o := 2) rA
        have y3 := free_at (o := 3) rA
        have y4 := free_at (o := 4) rA
        rw [← eA]
        clear eA gA FA rA FX8 FX9 BA k2 k3 k4 f2 f3 f4 c48
        go_wp2_with fail
        have FB : ∀ F : Foot, ¬ F (w.heap.size + 1) → Fix F wA (((((wA.setCell ⟨w.heap.size + 1, 0, none⟩ (.int .i64 st)).setCell ⟨w.heap.size + 1, 1, none⟩ (.int .i64 rm)).setCell ⟨w.heap.size + 1, 2, none⟩ (.slice (some ⟨w.heap.size + 1 + 1, 0, none⟩) n n)).setCell ⟨w.heap.size + 1, 3, none⟩ (.slice a8 m x8)).setCell ⟨w.heap.size + 1, 4, none⟩ (.slice a9 q x9)) :=
          fun F hF => (((((Fix.refl _ _).set_other hF _).set_other hF _).set_other hF _).set_other hF _).set_other hF _
        refine bodyPost_ret (v := .agg #[.int .i64 st, .int .i64 rm, .slice (some ⟨w.heap.size + 1 + 1, 0, none⟩) n n, .slice a8 m x8, .slice a9 q x9]) (by simp [results, Try.results7, r0, r1, r2, r3, r4, go_sem]) rfl ⟨_, _, _, _, _, _, rfl, ?_, ?_, ?_, ?_⟩
        · exact (HRA.out.keep rowsRd_ok (FB _ (by show ¬ _ ≤ _; omega))).mono rowsRd_ok fun b _ hf => by have : w.heap.size + 2 ≤ b := hf; show w.heap.size ≤ b; omega
        · exact (HRA8.out.keep (Rd.int_ok _) (FB _ (by show ¬ wo.heap.size ≤ _; omega))).mono (Rd.int_ok _) fun b _ hf => by have : wo.heap.size ≤ b := hf; show w.heap.size ≤ b; omega
        · exact (HRA9.out.keep (Rd.int_ok _) (FB _ (by have := HLT.out.2; show ¬ w8.heap.size ≤ _; omega))).mono (Rd.int_ok _) fun b _ hf => by have := HLT.out.2; have : w8.heap.size ≤ b := hf; show w.heap.size ≤ b; omega
        · have h : w.heap.size ≤ w.heap.size + 1 := by omega
          exact ((((HBA.out.setCell h _).setCell h _).setCell h _).setCell h _).setCell h _
end Go.Proofs.Ytbijacoiblbnfaa
