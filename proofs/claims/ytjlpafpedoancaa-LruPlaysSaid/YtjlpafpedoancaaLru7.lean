/- The statement LruFront, walked. -/
import Derived.Test.YtjlpafpedoancaaLru6
import Derived.Test.YtjlpafpedoancaaUniq
namespace Go.Proofs.Ytjlpafpedoancaa.Ring
open Go.RowKit Uniq
theorem putS_keys {n : Nat} {K : List Kv} (h : K.length ≤ n) (hn : 1 ≤ n) (k v : Int) : (putS n K k v).2.map (·.1) = (k :: (K.map (·.1)).filter (· ≠ k)).take n := by
  have hl := put_length h hn k v
  have hf : ∀ K' : List Kv, (without K' k).map (·.1) = (K'.map (·.1)).filter (· ≠ k) := fun K' => by
    unfold without
    rw [List.filter_map]; rfl
  unfold putS at hl ⊢
  split
  · rename_i x hx
    simp only [hx] at hl
    have hl2 : ((k, v) :: without K k).length ≤ n := hl
    rw [List.take_of_length_le]
    · simp [hf]
    · have := congrArg List.length (hf K)
      simp only [List.length_map, List.length_cons] at this hl2 ⊢
      omega
  · rename_i hx
    have hs : (K.map (·.1)).filter (· ≠ k) = K.map (·.1) := List.filter_eq_self.2 fun z hz => by
      obtain ⟨u, hu, rfl⟩ := List.mem_map.1 hz
      rw [List.find?_eq_none] at hx
      simpa using hx u hu
    rw [hs]
    split
    · rename_i hk
      obtain ⟨m, rfl⟩ : ∃ m, n = m + 1 := ⟨n - 1, by omega⟩
      simp only [List.map_cons, List.take_succ_cons, List.map_dropLast]
      rw [List.dropLast_eq_take]
      simp [hk]
    · rename_i hk
      rw [List.take_of_length_le]
      · simp
      · simp; omega
theorem Lst.of_below {w w' : World} {B lb mb e : Nat} {room : Int} {L : List Nd} (h : Lst w B lb room mb e L) (hb : Below w.heap.size w w') : Lst w' B lb room mb e L := by
  have hlt := h.lt
  have hs : ∀ j ∈ lb :: mb :: e :: L.map (·.1), w'.heap[j]? = w.heap[j]? := fun j hj => hb.block j (hlt j hj)
  obtain ⟨m, hm, hp⟩ := h.map
  exact ⟨(hs lb (by simp)).trans h.head, ⟨m, hm.of_block (hs mb (by simp)), hp⟩, h.keys, ⟨(hs e (by simp)).trans h.ring.fin, seg_same h.ring.seg fun x hx => hs x.1 (by simp only [List.mem_cons]; exact .inr (.inr (.inr (List.mem_map_of_mem hx)))), h.ring.nodup⟩, h.base⟩
theorem keys_map (L : List Nd) : L.map (fun x => Value.int .i64 x.2.1) = ((L.map (·.2)).map (·.1)).map (Value.int .i64) := by simp
theorem own_drewN {w : World} {base : Nat} {e : TypeId} {size : Nat} {v : Value} {n : Nat} {xs : List Value} (h : w.ownsRow base e size v n xs) (q : Nat) : (w.drewN q).ownsRow base e size v n xs := h
theorem row_own {w : World} {base : Nat} {e : TypeId} {a : Option Addr} {n n' cap : Nat} {xs : List Value} (h : w.ownsRow base e 1 (.slice a n' cap) n xs) : Row w a n cap xs := by
  obtain ⟨a', c', he, hr⟩ := Row.of_owns h
  cases he; exact hr
set_option maxRecDepth 100000 in
set_option maxHeartbeats 4000000 in
theorem lruFront (room : Int) (a : Option Addr) (n cap : Nat) (zs : List Int) (w : World) (h : Row w a n cap (zs.map (Value.int .i64))) (hr0 : 0 ≤ room) (hr1 : room ≤ 255) :
    Calls Try.prog 8 #[.int .u8 room, .slice a n cap] w fun e w' => e = .returned (.bool true) ∧ Below w.heap.size w w' := by
  have hlen := h.len
  simp only [List.length_map] at hlen
  have HL := Lib.hid hlen
  have hle := h.le
  have hmx := h.max
  unfold maxLen at hmx
  have H := Lib.hid h
  clear h hlen
  by_cases hn : 200 < n
  · go_enter Try.func8, Try.ntmps8
    go_wp2_with (go_at_call 29; (with_reducible refine (live _).mono ?_); rintro e w' ⟨rfl, hB⟩)
    go_ret
    exact ⟨rfl, hB⟩
  · obtain ⟨c, hc⟩ : ∃ c : Nat, (c : Int) = 1 + room % 64 := ⟨(1 + room % 64).toNat, by omega⟩
    have hc1 : 1 ≤ c := by omega
    have hc2 : c ≤ 64 := by omega
    have HC := Lib.hid hc.symm
    have q0 : 0 ≤ room % 64 := by omega
    have q1 : room % 64 ≤ 63 := by omega
    clear hc
    go_enter Try.func8, Try.ntmps8
    go_wp2_with (go_at_call 30; (with_reducible refine (new_yes _ _ (by omega) (by omega)).mono ?_); rintro e w' ⟨lb, mb, e, rfl, hl0, hb0⟩; have HL0 := Lib.hid hl0; have HB0 := Lib.hid hb0; clear hl0 hb0)
    rw [HC.out] at *
    have hcI : (1 : Int) ≤ (c : Int) := by omega
    go_loopg [9] n (fun g i wr => ∃ k : Nat, k ≤ n ∧ g = n - k ∧ i = .int .i64 k ∧ ∃ L, Lst wr w.heap.size lb c mb e L ∧ (L.map (·.2)).map (·.1) = (uniq (zs.take k).reverse).take c ∧ Below w.heap.size w wr)
    case atStart => exact ⟨0, by omega, rfl, rfl, [], HL0.out, by simp [uniq], HB0.out⟩
    case round =>
      clear HL0 HB0
      obtain ⟨k, hk, rfl, rfl, L, hl, hu, hB⟩ := hrel
      obtain ⟨wo, rfl⟩ : ∃ wo : World, wo = wr := ⟨_, rfl⟩
      have HLs := Lib.hid hl
      have HU := Lib.hid hu
      have HB := Lib.hid hB
      clear hl hu hB
      have hLc : L.length ≤ c := by have := congrArg List.length HU.out; simp only [List.length_map, List.length_take] at this; omega
      by_cases hkn : k < n
      · have hk200 : (k : Int) ≤ 200 := by omega
        have hki : (k : Int) < (n : Int) := by omega
        have hk0 : (0 : Int) ≤ (k : Int) := by omega
        obtain ⟨b0, o0, rfl, hcz⟩ := (H.out.keep HB.out (Nat.le_refl _)).int k hkn
        have HX := Lib.hid (rfl : zs.getD k 0 = zs.getD k 0)
        obtain ⟨x, hx⟩ : ∃ x, x = zs.getD k 0 := ⟨_, rfl⟩
        rw [← hx] at hcz
        have HXX := Lib.hid hx
        clear HX hx
        go_wp2_with (first | (go_at_call 31; (with_reducible refine (put_any _ _ _ _ _ _ _ c rfl hc1 HLs.out x k HB.out.size).mono ?_); rintro e w' ⟨rfl, L1, hl1, hm1, hb1, -⟩; have HL1 := Lib.hid hl1; have HM1 := Lib.hid hm1; have HB1 := Lib.hid (HB.out.trans hb1); clear hl1 hm1 hb1; have hL1c : L1.length ≤ c := (by have h9 := putS_keys (K := L.map (·.2)) (by simpa using hLc) hc1 x k; rw [← HM1.out] at h9; have h8 := congrArg List.length h9; simp only [List.length_map, List.length_take, List.length_cons] at h8; omega)) | (go_at_call 32; (with_reducible refine (keys_some _ _ _ _ _ _ _ HL1.out (by omega)).mono ?_); rintro e w' ⟨v, rfl, hown, hb2⟩; obtain ⟨a2, c2, rfl, hr2⟩ := Row.of_owns hown; rw [keys_map] at hr2; have HR2 := Lib.hid hr2; have HL2 := Lib.hid (HL1.out.of_below hb2); have HB2 := Lib.hid (HB1.out.trans (hb2.mono HB1.out.size)); clear hr2 hown hb2))
        have hks : (L1.map (·.2)).map (·.1) = (uniq (zs.take (k + 1)).reverse).take c := by
          rw [HM1.out, putS_keys (by simpa using hLc) hc1, HU.out, Uniq.step c hc1, List.take_succ_eq_append_getElem (by have := HL.out; omega), List.reverse_append]
          simp only [List.reverse_cons, List.reverse_nil, List.nil_append, List.cons_append]
          rw [HXX.out]; simp [List.getD, show k < zs.length by have := HL.out; omega]
        have hl1 : 0 < L1.length := by
          have h9 := putS_keys (K := L.map (·.2)) (by simpa using hLc) hc1 x k
          rw [← HM1.out] at h9
          have h8 := congrArg List.length h9
          simp only [List.length_map, List.length_take, List.length_cons] at h8
          omega
        have hfirst : ((L1.map (·.2)).map (·.1)).getD 0 0 = x := by
          have h9 := putS_keys (K := L.map (·.2)) (by simpa using hLc) hc1 x k
          rw [← HM1.out] at h9
          rw [h9]
          obtain ⟨m, rfl⟩ : ∃ m, c = m + 1 := ⟨c - 1, by omega⟩
          simp
        obtain ⟨b3, o3, rfl, hc3⟩ := HR2.out.int 0 hl1
        rw [hfirst] at hc3
        simp only [Nat.add_zero] at hc3
        have HKS := Lib.hid hks
        have cz2 : w'.cell? ⟨b0, o0 + k, none⟩ = some (.int .i64 x) := by
          obtain ⟨b9, o9, h9, hc9⟩ := (H.out.keep HB2.out (Nat.le_refl _)).int k hkn
          cases h9
          rw [hc9, HXX.out]
        have t0 : ((L1.length : Int) == 0) = false := beq_eq_false_iff_ne.2 (by omega)
        have tp : (0 : Int) < (L1.length : Int) := by omega
        clear hks hfirst hcz
        go_quiet (fail)
        go_wp2
        go_roundg (n - (k + 1))
        case measure => omega
        case rel => exact ⟨k + 1, by omega, rfl, by go_num, L1, HL2.out.drewN _, HKS.out, below_drewN HB2.out _⟩
      · have hkn2 : k = n := by omega
        have hfull : zs.take k = zs := List.take_of_length_le (by have := HL.out; omega)
        rw [hfull] at HU
        clear hkn2 hfull
        go_wp2
        go_loopg [8, 11] n (fun g v i wr2 => ∃ j : Nat, j ≤ n ∧ j = g ∧ i = .int .i64 ((j : Int) - 1) ∧ wr2.ownsRow wo.heap.size 3 1 v (uniq (zs.drop j).reverse).length ((uniq (zs.drop j).reverse).map (Value.int .i64)) ∧ (uniq (zs.drop j).reverse).length ≤ c ∧ Below wo.heap.size wo wr2)
        case atStart => exact ⟨n, by omega, rfl, rfl, by rw [List.drop_of_length_le (by have := HL.out; omega)]; exact World.ownsRow_nil _ _ _ _, by rw [List.drop_of_length_le (by have := HL.out; omega)]; simp [uniq], Below.refl _ _⟩
        case round =>
          obtain ⟨j, hj, rfl, rfl, hown, hW, hB2⟩ := hrel
          by_cases hj0 : j = 0
          · subst hj0
            have hkeys : (L.map (·.2)).map (·.1) = uniq (zs.drop 0).reverse := by
              rw [HU.out]
              rw [List.drop_zero] at hW ⊢
              rw [List.take_of_length_le hW]
            generalize uniq (zs.drop 0).reverse = W at *
            have HK := Lib.hid hkeys
            have HO := Lib.hid hown
            have HB2 := Lib.hid hB2
            clear hkeys hown hB2
            go_wp2_with (first | (go_at_call 32; (with_reducible refine (keys_some _ _ _ _ _ _ _ (HLs.out.of_below HB2.out) (by omega)).mono ?_); rintro e w' ⟨v, rfl, hown1, hb3⟩; obtain ⟨a2, c2, rfl, hr2⟩ := Row.of_owns hown1; obtain ⟨a3, c3, rfl, hr3⟩ := Row.of_owns HO.out; rw [keys_map, HK.out] at hr2; have HR2 := Lib.hid hr2; have HR3 := Lib.hid (hr3.keep hb3 (Nat.le_refl _)); have HB3 := Lib.hid (HB2.out.trans (hb3.mono HB2.out.size)); clear hr2 hr3 hown1 hb3) | (go_at_call 33; (with_reducible refine (same_ints _ _ _ _ _ _ _ _ _ HR2.out HR3.out).mono ?_); rintro e w' ⟨rfl, q, rfl⟩) | (go_at_call 29; (with_reducible refine (live _).mono ?_); rintro e w' ⟨rfl, hL⟩))
            go_ret
            exact ⟨rfl, HB.out.trans (((below_drewN HB3.out q).trans (hL.mono HB3.out.size)).mono HB.out.size)⟩
          · obtain ⟨j', rfl⟩ : ∃ j', j = j' + 1 := ⟨j - 1, by omega⟩
            have hji : ((j' + 1 : Nat) : Int) - 1 = (j' : Int) := by omega
            simp only [hji]
            clear hji
            by_cases hfull : (uniq (zs.drop (j' + 1)).reverse).length < c
            · have hjn : j' < n := by omega
              have hjI : (j' : Int) < (n : Int) := by omega
              have hj0' : (0 : Int) ≤ (j' : Int) := by omega
              have hlt : ((uniq (zs.drop (j' + 1)).reverse).length : Int) < (c : Int) := by omega
              have hrow := H.out.keep (HB.out.trans (hB2.mono HB.out.size)) (Nat.le_refl _)
              obtain ⟨bz, oz, rfl, hcz⟩ := hrow.int j' hjn
              have hus : uniq (zs.drop j').reverse = if zs.getD j' 0 ∈ uniq (zs.drop (j' + 1)).reverse then uniq (zs.drop (j' + 1)).reverse else uniq (zs.drop (j' + 1)).reverse ++ [zs.getD j' 0] := by
                have hjl : j' < zs.length := by have := HL.out; omega
                have hd1 : zs.drop j' = zs.getD j' 0 :: zs.drop (j' + 1) := by rw [List.drop_eq_getElem_cons hjl]; simp [List.getD, hjl]
                rw [hd1, List.reverse_cons, uniq_snoc]
                simp only [mem_uniq]
              obtain ⟨x, hx⟩ : ∃ x, x = zs.getD j' 0 := ⟨_, rfl⟩
              rw [← hx] at hcz hus
              have HXX := Lib.hid hx
              clear hx hj0 hrow
              generalize uniq (zs.drop (j' + 1)).reverse = W at *
              have HUS := Lib.hid hus
              obtain ⟨a3, c3, rfl, hr3⟩ := Row.of_owns hown
              have HR3 := Lib.hid hr3
              have HO := Lib.hid hown
              have HB2 := Lib.hid hB2
              have hW64 : W.length ≤ 64 := by omega
              clear hus hr3 hown hB2
              obtain ⟨w2, rfl⟩ : ∃ w2 : World, w2 = wr := ⟨_, rfl⟩
              go_wp2
              go_loopg [12, 13] W.length (fun g t i wr3 => ∃ q : Nat, q ≤ W.length ∧ g = W.length - q ∧ i = .int .i64 q ∧ t = .bool (decide (x ∈ W.take q)) ∧ ∃ d, wr3 = w2.drewN d)
              case atStart => exact ⟨0, by omega, rfl, rfl, by simp, 0, rfl⟩
              case round =>
                obtain ⟨q, hq, rfl, rfl, rfl, d, rfl⟩ := hrel
                by_cases hqW : q < W.length
                · obtain ⟨b4, o4, rfl, hc4⟩ := HR3.out.int q hqW
                  have hqI : (q : Int) < (W.length : Int) := by omega
                  have hq0 : (0 : Int) ≤ (q : Int) := by omega
                  have htk : (x ∈ W.take (q + 1)) ↔ (x ∈ W.take q ∨ W.getD q 0 = x) := by
                    rw [List.take_succ_eq_append_getElem hqW]
                    simp only [List.mem_append, List.mem_singleton, List.getD, List.getElem?_eq_getElem hqW, Option.getD_some]
                    exact or_congr_right ⟨Eq.symm, Eq.symm⟩
                  have HTK := Lib.hid htk
                  clear htk
                  generalize W.getD q 0 = y at *
                  by_cases hin : x ∈ W.take q
                  · have t1 : decide (x ∈ W.take q) = true := by simpa using hin
                    have HIN := Lib.hid hin
                    clear hin
                    simp only [t1]
                    clear t1
                    go_wp2
                    go_quiet (fail)
                    go_wp2
                    go_roundg (W.length - (q + 1))
                    case measure => omega
                    case rel => exact ⟨q + 1, by omega, rfl, by go_num, by rw [decide_eq_true (HTK.out.2 (.inl HIN.out))], _, rfl⟩
                  · have t1 : decide (x ∈ W.take q) = false := by simpa using hin
                    have HIN := Lib.hid hin
                    clear hin
                    simp only [t1]
                    clear t1
                    by_cases hyx : y = x
                    · have t2 : (y == x) = true := by simp [hyx]
                      have HYX := Lib.hid hyx
                      clear hyx
                      go_wp2
                      go_quiet (fail)
                      go_wp2
                      go_roundg (W.length - (q + 1))
                      case measure => omega
                      case rel => exact ⟨q + 1, by omega, rfl, by go_num, by rw [decide_eq_true (HTK.out.2 (.inr HYX.out))], _, rfl⟩
                    · have t2 : (y == x) = false := by simp [hyx]
                      have HYX := Lib.hid hyx
                      clear hyx
                      go_wp2
                      go_quiet (fail)
                      go_wp2
                      go_roundg (W.length - (q + 1))
                      case measure => omega
                      case rel => exact ⟨q + 1, by omega, rfl, by go_num, by rw [decide_eq_false (fun h => (HTK.out.1 h).elim HIN.out HYX.out)], _, rfl⟩
                · have hqe : W.take q = W := List.take_of_length_le (by omega)
                  rw [hqe]
                  clear hqe
                  by_cases hin : x ∈ W
                  · have t1 : decide (x ∈ W) = true := by simpa using hin
                    have HIN := Lib.hid hin
                    clear hin
                    simp only [t1]
                    clear t1
                    go_wp2
                    go_roundg j'
                    case measure => omega
                    case rel =>
                      have e1 : uniq (zs.drop j').reverse = W := by rw [HUS.out, if_pos HIN.out]
                      exact ⟨j', by omega, rfl, by go_num, by rw [e1]; exact HO.out, by rw [e1]; omega, below_drewN HB2.out _⟩
                  · have t1 : decide (x ∈ W) = false := by simpa using hin
                    have HIN := Lib.hid hin
                    clear hin
                    simp only [t1]
                    clear t1
                    go_wp2_with (at_builtin; refine wpl_app1 (W := w2.drewN d) (w0 := wo) (B := wo.heap.size) (base := wo.heap.size) rfl _ _ 30 rfl elem (.slice a3 W.length c3) W.length (W.map (Value.int .i64)) rfl _ rfl rfl (own_drewN HO.out d) (below_drewN HB2.out d) (Nat.le_refl _) HB2.out.size (by omega) (by unfold maxLen; omega) ?_; intro v' w3 hown' hB' hg')
                    go_roundg j'
                    case measure => omega
                    case rel =>
                      have e1 : uniq (zs.drop j').reverse = W ++ [x] := by rw [HUS.out, if_neg HIN.out]
                      exact ⟨j', by omega, rfl, by go_num, by rw [e1]; simpa using hown', by rw [e1]; simp; omega, hB'⟩
            · have hWc : (uniq (zs.drop (j' + 1)).reverse).length = c := by omega
              have hkeys : (L.map (·.2)).map (·.1) = uniq (zs.drop (j' + 1)).reverse := by
                rw [HU.out]
                have hs : zs.reverse = (zs.drop (j' + 1)).reverse ++ (zs.take (j' + 1)).reverse := by rw [← List.reverse_append, List.take_append_drop]
                obtain ⟨r, hr⟩ := uniq_take (zs.drop (j' + 1)).reverse (zs.take (j' + 1)).reverse
                rw [hs, hr, List.take_append_of_le_length (by omega), List.take_of_length_le (by omega)]
              generalize uniq (zs.drop (j' + 1)).reverse = W at *
              have hge : (c : Int) ≤ (W.length : Int) := by omega
              have hj0' : (0 : Int) ≤ (j' : Int) := by omega
              clear hWc hfull hj0
              obtain ⟨a3, c3, rfl, -⟩ := Row.of_owns hown
              have HK := Lib.hid hkeys
              have HO := Lib.hid hown
              have HB2 := Lib.hid hB2
              clear hkeys hown hB2
              go_wp2_with (first | (go_at_call 32; (with_reducible refine (keys_some _ _ _ _ _ _ _ (HLs.out.of_below HB2.out) (by omega)).mono ?_); rintro e w' ⟨v, rfl, hown1, hb3⟩; obtain ⟨a2, c2, rfl, hr2⟩ := Row.of_owns hown1; have hr3 := row_own HO.out; rw [keys_map, HK.out] at hr2; have HR2 := Lib.hid hr2; have HR3 := Lib.hid (hr3.keep hb3 (Nat.le_refl _)); have HB3 := Lib.hid (HB2.out.trans (hb3.mono HB2.out.size)); clear hr2 hr3 hown1 hb3) | (go_at_call 33; (with_reducible refine (same_ints _ _ _ _ _ _ _ _ _ HR2.out HR3.out).mono ?_); rintro e w' ⟨rfl, q, rfl⟩) | (go_at_call 29; (with_reducible refine (live _).mono ?_); rintro e w' ⟨rfl, hL⟩))
              go_ret
              exact ⟨rfl, HB.out.trans (((below_drewN HB3.out q).trans (hL.mono HB3.out.size)).mono HB.out.size)⟩
end Go.Proofs.Ytjlpafpedoancaa.Ring
