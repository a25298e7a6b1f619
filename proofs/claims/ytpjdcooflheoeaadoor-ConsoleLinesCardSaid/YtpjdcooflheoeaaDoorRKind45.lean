/- The reference's calls of a kind. -/
import Derived.Test.YtpjdcooflheoeaaDoorKinds45
namespace Go.Proofs.YtpjdcooflheoeaaDoor.Lex
open Go.RowKit
set_option linter.unusedSimpArgs false
set_option linter.unusedVariables false
theorem opElem : Elem Tryd.prog 23 72 19 216 := ⟨Tryd.underlying23, ⟨.agg #[.int .i64 0, .int .i64 0, .int .i64 0, .int .i64 0, .int .i64 0, .string ByteArray.empty, .int .i64 0, .int .i64 0, .slice none 0 0, .int .i64 0, .int .i64 0, .int .i64 0, .slice none 0 0, .int .i64 0, .int .i64 0, .string ByteArray.empty, .slice none 0 0, .int .i64 0, .int .i64 0], by kernel_rfl, rfl⟩, by omega⟩
/-- 'append(out, u)' of one whole struct. -/
theorem wpl_appN {P : Program} {W w0 : World} {ops : Array Oper} {rest : List Oper} {o : Oper} {a : Act} {Q : Exit → Act → World → Prop} (hgd : o.guard = none) (s x : Operand) (t : TypeId)
    (ho : o.op = .call { callee := .builtin .append, args := #[s, x], argTypes := #[t, t] })
    {base B : Nat} {e : TypeId} {size bytes : Nat} (E : Elem P t e size bytes) (v : Value) (n : Nat) (xs : List Value) (hs : a.eval s = v) (cs : List Value) (hx : a.eval x = .slice (some ⟨W.heap.size, 0, none⟩) 1 1) (hu : cs.length = size)
    (hown : W.ownsRow base e size v n xs) (hB : Below B w0 W) (hBb : B ≤ base) (hbase : base ≤ W.heap.size) (hn : (n + 1) * bytes ≤ 140737488355328) (hm : n + 1 ≤ maxLen) (h1 : ∀ u ∈ cs, u.oneCell' = true)
    (h : ∀ v' w', w'.ownsRow base e size v' (n + 1) (xs ++ cs) → Below B w0 w' → W.grownBy w' v.ownBlock → wpList P ops Q rest (a.put o.dst v') w') : wpList P ops Q (o :: rest) a (W.alloc (.cells cs.toArray e)) := by
  refine wpl_append hgd s x t ho E v n xs hs (some ⟨W.heap.size, 0, none⟩) 1 1 cs hx (hown.alloc _) ⟨by rw [hu, Nat.one_mul], by simp, fun y hy j z hz => ?_, h1⟩ hm hn (by simp; omega) fun v' w' h1 h2 _ => h v' w' h1 ?_ (grown_trans (World.grownBy_alloc W _ _) h2)
  · cases hy
    rw [Addr.add_lit, Nat.zero_add]
    exact cell_at (heap_alloc_new W _) (by simpa using hz)
  · exact (hB.alloc (by omega) _).grown h2 (by simp; omega) (fun k hk => by have := own_lt hown k hk; omega)
theorem flat_at : ∀ (l : List OpV) (i j : Nat) (hi : i < l.length) (v : Value), (l[i]'hi).cells[j]? = some v → (l.flatMap OpV.cells)[i * 19 + j]? = some v
  | o :: l, 0, j, _, v, h => by
    have hj : j < o.cells.length := (List.getElem?_eq_some_iff.1 h).1
    rw [List.flatMap_cons, Nat.zero_mul, Nat.zero_add, List.getElem?_append_left hj]
    exact h
  | o :: l, i + 1, j, hi, v, h => by
    have ih := flat_at l i j (by simpa using hi) v (by simpa using h)
    have hc : o.cells.length = 19 := rfl
    rw [List.flatMap_cons, List.getElem?_append_right (by omega), hc, show (i + 1) * 19 + j - 19 = i * 19 + j by omega]
    exact ih
theorem opRow_of {w : World} {base : Nat} {v : Value} {l : List OpV} (h : w.ownsRow base 72 19 v l.length (l.flatMap OpV.cells)) (hok : ∀ o ∈ l, o.Ok) : ∃ a c, v = .slice a l.length c ∧ OpRow w a l := by
  rcases h.2 with ⟨rfl, hn⟩ | ⟨g, cap, cur, rfl, hb, hg, hn, hm, hs, ht⟩
  · exact ⟨none, 0, by rw [hn], fun i hi => by omega⟩
  · refine ⟨_, cap, rfl, fun i hi => ⟨g, 0, rfl, (Array.getElem?_eq_some_iff.1 hg).1, fun j u hu => ?_, hok _ (List.getElem_mem hi)⟩⟩
    rw [Nat.zero_add]
    exact (own_cell h (flat_at l i j hi u hu)).1
/-- The calls of a kind. -/
def ofKind (k : Nat) (l : List OpV) : List OpV := l.filter fun o => kdV o == k
theorem ofKind_snoc (k : Nat) (l : List OpV) (o : OpV) : ofKind k (l ++ [o]) = if kdV o = k then ofKind k l ++ [o] else ofKind k l := by
  unfold ofKind
  rw [List.filter_append]
  by_cases h : kdV o = k
  · rw [if_pos h]; simp [h]
  · rw [if_neg h]; simp [h]
theorem ofKind_len (k : Nat) (l : List OpV) : (ofKind k l).length ≤ l.length := List.length_filter_le _ _
set_option maxRecDepth 100000 in
set_option maxHeartbeats 4000000 in
theorem rkind_any (l : List OpV) (k : Nat) (hk : k < 8) (a : Option Addr) (cap : Nat) (w : World) (hl : l.length ≤ 1048576) (ho : OpRow w a l) :
    Calls Tryd.prog 15 #[.slice a l.length cap, .int .i64 k] w fun e w' => Below w.heap.size w w' ∧ ∃ a' c', e = .returned (.slice a' (ofKind k l).length c') ∧ OpRow w' a' (ofKind k l) := by
  have HO := Lib.hid ho
  clear ho
  go_enter Tryd.func15, Tryd.ntmps15
  go_wp2_with fail
  go_loopg [5, 6] l.length (fun g v iv wr => ∃ n : Nat, n ≤ l.length ∧ g = l.length - n ∧ iv = .int .i64 (n : Int) ∧ wr.ownsRow w.heap.size 72 19 v (ofKind k (l.take n)).length ((ofKind k (l.take n)).flatMap OpV.cells) ∧ Below w.heap.size w wr ∧ ∀ o ∈ ofKind k (l.take n), o.Ok)
  case atStart => exact ⟨0, by omega, rfl, rfl, World.ownsRow_nil _ _ _ _, Below.refl _ _, by simp [ofKind]⟩
  case round =>
    obtain ⟨n, hn, rfl, rfl, hown, hb, hoks⟩ := hrel
    obtain ⟨wo, rfl⟩ : ∃ wo : World, wo = wr := ⟨_, rfl⟩
    have HOW := Lib.hid hown
    have HB := Lib.hid hb
    have HOKS := Lib.hid hoks
    have hzo := hb.size
    by_cases hlt : n < l.length
    · obtain ⟨g, off, rfl, hg, hrg, hok⟩ := HO.out.keep hb n hlt
      have HTK := Lib.hid (List.take_succ_eq_append_getElem hlt)
      have hml := ofKind_len k (l.take n)
      rw [List.length_take] at hml
      generalize l[n]'hlt = o at *
      have HSN := Lib.hid (ofKind_snoc k (l.take n) o)
      rw [← HTK.out] at HSN
      have HR := Lib.hid hrg
      have HOK := Lib.hid hok
      have one19 := hok.one
      have ck := hrg 2 (.int .i64 o.ki) rfl
      have hkr := hok.ki
      generalize ofKind k (l.take n) = m at *
      clear hown hb hoks hrg hok
      by_cases hr : 1 ≤ o.ki ∧ o.ki ≤ 7
      · obtain ⟨hk1, hk7⟩ := hr
        have hkd : kdV o = o.ki.toNat := by unfold kdV; rw [if_pos ⟨hk1, hk7⟩]
        by_cases he : o.ki = (k : Int)
        · have hek : kdV o = k := by omega
          have HM : Hid (ofKind k (l.take (n + 1)) = m ++ [o]) := Lib.hid (by rw [HSN.out, if_pos hek])
          have het : (o.ki == (k : Int)) = true := by rw [he]; exact beq_self_eq_true _
          clear he hkd hek
          go_wp2_with (first
            | (refine wpList_load_mid rfl 72 _ rfl g (off + n * 19) rfl [o.x0, o.x1, .int .i64 o.ki, o.x3, o.x4, o.x5, o.x6, o.x7, o.x8, .int .i64 o.e, o.x10, o.x11, o.x12, o.x13, o.x14, o.x15, o.x16, .int .i64 o.fr, .int .i64 o.til] _ HR.out Tryd.underlying72 rfl (by kernel_rfl) ?_)
            | (at_builtin; refine wpl_appN rfl _ _ 23 rfl opElem _ _ _ rfl [o.x0, o.x1, .int .i64 o.ki, o.x3, o.x4, o.x5, o.x6, o.x7, o.x8, .int .i64 o.e, o.x10, o.x11, o.x12, o.x13, o.x14, o.x15, o.x16, .int .i64 o.fr, .int .i64 o.til] rfl rfl HOW.out HB.out (Nat.le_refl _) hzo (by omega) (by unfold maxLen; omega) one19 ?_; intro v' w3 hown3 hbw3 hg3; have HO3 := Lib.hid hown3; have HB3 := Lib.hid hbw3; clear hg3 hown3 hbw3))
          go_roundg (l.length - (n + 1))
          case measure => omega
          case rel => exact ⟨n + 1, by omega, rfl, by go_num, by rw [HM.out, List.length_append, List.flatMap_append]; simp only [List.length_singleton, List.flatMap_cons, List.flatMap_nil, List.append_nil]; exact HO3.out, HB3.out, by
            rw [HM.out]
            intro x hx
            rcases List.mem_append.1 hx with hx | hx
            · exact HOKS.out x hx
            · rw [List.mem_singleton.1 hx]; exact HOK.out⟩
        · have hek : kdV o ≠ k := by omega
          have HM : Hid (ofKind k (l.take (n + 1)) = m) := Lib.hid (by rw [HSN.out, if_neg hek])
          clear hkd hek
          go_wp2_with fail
          go_roundg (l.length - (n + 1))
          case measure => omega
          case rel => exact ⟨n + 1, by omega, rfl, by go_num, by rw [HM.out]; exact HOW.out, HB.out, by rw [HM.out]; exact HOKS.out⟩
      · have hkd : kdV o = 0 := by unfold kdV; rw [if_neg hr]
        by_cases hk1 : o.ki < 1
        · by_cases he : 0 = k
          · have hek : kdV o = k := by omega
            have HM : Hid (ofKind k (l.take (n + 1)) = m ++ [o]) := Lib.hid (by rw [HSN.out, if_pos hek])
            have het : ((0 : Int) == (k : Int)) = true := by rw [← he]; rfl
            clear he hkd hek
            go_wp2_with (first
              | (refine wpList_load_mid rfl 72 _ rfl g (off + n * 19) rfl [o.x0, o.x1, .int .i64 o.ki, o.x3, o.x4, o.x5, o.x6, o.x7, o.x8, .int .i64 o.e, o.x10, o.x11, o.x12, o.x13, o.x14, o.x15, o.x16, .int .i64 o.fr, .int .i64 o.til] _ HR.out Tryd.underlying72 rfl (by kernel_rfl) ?_)
              | (at_builtin; refine wpl_appN rfl _ _ 23 rfl opElem _ _ _ rfl [o.x0, o.x1, .int .i64 o.ki, o.x3, o.x4, o.x5, o.x6, o.x7, o.x8, .int .i64 o.e, o.x10, o.x11, o.x12, o.x13, o.x14, o.x15, o.x16, .int .i64 o.fr, .int .i64 o.til] rfl rfl HOW.out HB.out (Nat.le_refl _) hzo (by omega) (by unfold maxLen; omega) one19 ?_; intro v' w3 hown3 hbw3 hg3; have HO3 := Lib.hid hown3; have HB3 := Lib.hid hbw3; clear hg3 hown3 hbw3))
            go_roundg (l.length - (n + 1))
            case measure => omega
            case rel => exact ⟨n + 1, by omega, rfl, by go_num, by rw [HM.out, List.length_append, List.flatMap_append]; simp only [List.length_singleton, List.flatMap_cons, List.flatMap_nil, List.append_nil]; exact HO3.out, HB3.out, by
              rw [HM.out]
              intro x hx
              rcases List.mem_append.1 hx with hx | hx
              · exact HOKS.out x hx
              · rw [List.mem_singleton.1 hx]; exact HOK.out⟩
          · have hek : kdV o ≠ k := by omega
            have hen : ¬ (0 : Int) = (k : Int) := by omega
            have HM : Hid (ofKind k (l.take (n + 1)) = m) := Lib.hid (by rw [HSN.out, if_neg hek])
            clear hkd hek
            go_wp2_with fail
            go_roundg (l.length - (n + 1))
            case measure => omega
            case rel => exact ⟨n + 1, by omega, rfl, by go_num, by rw [HM.out]; exact HOW.out, HB.out, by rw [HM.out]; exact HOKS.out⟩
        · have hk7 : 7 < o.ki := by omega
          by_cases he : 0 = k
          · have hek : kdV o = k := by omega
            have HM : Hid (ofKind k (l.take (n + 1)) = m ++ [o]) := Lib.hid (by rw [HSN.out, if_pos hek])
            have het : ((0 : Int) == (k : Int)) = true := by rw [← he]; rfl
            clear he hkd hek
            go_wp2_with (first
              | (refine wpList_load_mid rfl 72 _ rfl g (off + n * 19) rfl [o.x0, o.x1, .int .i64 o.ki, o.x3, o.x4, o.x5, o.x6, o.x7, o.x8, .int .i64 o.e, o.x10, o.x11, o.x12, o.x13, o.x14, o.x15, o.x16, .int .i64 o.fr, .int .i64 o.til] _ HR.out Tryd.underlying72 rfl (by kernel_rfl) ?_)
              | (at_builtin; refine wpl_appN rfl _ _ 23 rfl opElem _ _ _ rfl [o.x0, o.x1, .int .i64 o.ki, o.x3, o.x4, o.x5, o.x6, o.x7, o.x8, .int .i64 o.e, o.x10, o.x11, o.x12, o.x13, o.x14, o.x15, o.x16, .int .i64 o.fr, .int .i64 o.til] rfl rfl HOW.out HB.out (Nat.le_refl _) hzo (by omega) (by unfold maxLen; omega) one19 ?_; intro v' w3 hown3 hbw3 hg3; have HO3 := Lib.hid hown3; have HB3 := Lib.hid hbw3; clear hg3 hown3 hbw3))
            go_roundg (l.length - (n + 1))
            case measure => omega
            case rel => exact ⟨n + 1, by omega, rfl, by go_num, by rw [HM.out, List.length_append, List.flatMap_append]; simp only [List.length_singleton, List.flatMap_cons, List.flatMap_nil, List.append_nil]; exact HO3.out, HB3.out, by
              rw [HM.out]
              intro x hx
              rcases List.mem_append.1 hx with hx | hx
              · exact HOKS.out x hx
              · rw [List.mem_singleton.1 hx]; exact HOK.out⟩
          · have hek : kdV o ≠ k := by omega
            have hen : ¬ (0 : Int) = (k : Int) := by omega
            have HM : Hid (ofKind k (l.take (n + 1)) = m) := Lib.hid (by rw [HSN.out, if_neg hek])
            clear hkd hek
            go_wp2_with fail
            go_roundg (l.length - (n + 1))
            case measure => omega
            case rel => exact ⟨n + 1, by omega, rfl, by go_num, by rw [HM.out]; exact HOW.out, HB.out, by rw [HM.out]; exact HOKS.out⟩
    · obtain rfl : n = l.length := by omega
      rw [List.take_length] at hown hoks
      obtain ⟨a', c', rfl, hro⟩ := opRow_of hown hoks
      have HRO := Lib.hid hro
      clear hown hb hoks hro
      go_wp2_with fail
      refine bodyPost_ret (v := .slice a' (ofKind k l).length c') (by simp [results, Tryd.results15, go_sem]) rfl ⟨HB.out, a', c', rfl, HRO.out⟩
end Go.Proofs.YtpjdcooflheoeaaDoor.Lex
