/- script.Print: the state of its walk. -/
import Derived.Test.YtmbhgnokjpcpjaaDoorPrint
import Derived.Deep.LoopGhost
namespace Go.Proofs.YtmbhgnokjpcpjaaDoor.Lex
open Go.RowKit
set_option linter.unusedSimpArgs false
set_option linter.unusedVariables false
/-- What a slice of calls shows. -/
def CallRow (w : World) (a : Option Addr) (l : List CallV) : Prop := ∀ k (h : k < l.length), ∃ g off ax cx, a = some ⟨g, off, none⟩ ∧ g < w.heap.size ∧
  w.cell? ⟨g, off + k * 7, none⟩ = some (.int .i64 (l[k]'h).kind) ∧ w.cell? ⟨g, off + k * 7 + 1, none⟩ = some (.int .i64 (l[k]'h).n) ∧ w.cell? ⟨g, off + k * 7 + 2, none⟩ = some (.int .i64 (l[k]'h).dir) ∧
  w.cell? ⟨g, off + k * 7 + 3, none⟩ = some (.string (l[k]'h).text) ∧ w.cell? ⟨g, off + k * 7 + 4, none⟩ = some (.int .i64 (l[k]'h).who) ∧ w.cell? ⟨g, off + k * 7 + 5, none⟩ = some (.int .i64 (l[k]'h).at_) ∧
  w.cell? ⟨g, off + k * 7 + 6, none⟩ = some (.slice ax (l[k]'h).xs.length cx) ∧ U64s w ax (l[k]'h).xs
theorem CallRow.keep {w w' : World} {a : Option Addr} {l : List CallV} (h : CallRow w a l) (hb : Below w.heap.size w w') : CallRow w' a l := fun k hk => by
  obtain ⟨g, off, ax, cx, h1, h2, c0, c1, c2, c3, c4, c5, c6, hu⟩ := h k hk
  have e : ∀ i, w'.cell? ⟨g, i, none⟩ = w.cell? ⟨g, i, none⟩ := fun i => hb.cell (p := ⟨g, i, none⟩) h2
  exact ⟨g, off, ax, cx, h1, Nat.lt_of_lt_of_le h2 hb.size, (e _).trans c0, (e _).trans c1, (e _).trans c2, (e _).trans c3, (e _).trans c4, (e _).trans c5, (e _).trans c6, hu.keep hb⟩
/-- What a slice of slices of calls shows. -/
def CallRows (w : World) (a : Option Addr) (L : List (List CallV)) : Prop := ∀ i (h : i < L.length), ∃ g off ax cx, a = some ⟨g, off, none⟩ ∧ g < w.heap.size ∧ w.cell? ⟨g, off + i, none⟩ = some (.slice ax (L[i]'h).length cx) ∧ CallRow w ax (L[i]'h)
theorem CallRows.keep {w w' : World} {a : Option Addr} {L : List (List CallV)} (h : CallRows w a L) (hb : Below w.heap.size w w') : CallRows w' a L := fun i hi => by
  obtain ⟨g, off, ax, cx, h1, h2, c0, hr⟩ := h i hi
  exact ⟨g, off, ax, cx, h1, Nat.lt_of_lt_of_le h2 hb.size, (hb.cell (p := ⟨g, off + i, none⟩) h2).trans c0, hr.keep hb⟩
/-- The state of a print: the script's box, the builder behind it. -/
structure PS (w0 W : World) (box : Array Value) (l : List UInt8) : Prop where
  below : Below w0.heap.size w0 W
  box : W.heap[w0.heap.size]? = some (.cells box 54 (0, 0))
  bld : Bld W (w0.heap.size + 1) (w0.heap.size + 2) l
  size : w0.heap.size + 2 ≤ W.heap.size
theorem PS.start (w : World) (box : Array Value) : PS w ((w.alloc (.cells box 54)).alloc (.cells #[.pointer none, .slice none 0 0] 70)) box [] := by
  refine ⟨((Below.refl _ _).alloc (Nat.le_refl _) _).alloc (by simp) _, ?_, ?_, by simp⟩
  · rw [Lib.alloc_old _ _ _ (by simp)]
    exact heap_alloc_new w _
  · have := bld_new (w.alloc (.cells box 54)) (w.heap.size + 2)
    simpa using this
theorem PS.keep {w0 W W' : World} {box : Array Value} {l : List UInt8} (h : PS w0 W box l) (hb : Below W.heap.size W W') : PS w0 W' box l :=
  ⟨h.below.trans (hb.mono h.below.size), (hb.block _ (by have := h.size; omega)).trans h.box, h.bld.keep hb, Nat.le_trans h.size hb.size⟩
theorem PS.write {w0 W : World} {box : Array Value} {l : List UInt8} (h : PS w0 W box l) (s : List UInt8) (hlen : l.length + s.length ≤ 140737488355328) :
    Calls Tryd.prog 27 #[.pointer (some ⟨w0.heap.size + 1, 0, none⟩), .string (bs s)] W fun e w' => e = .returned (.tuple #[.int .i64 (bs s).size, .nilIface]) ∧ PS w0 w' box (l ++ s) := by
  refine (bld_write _ _ l (bs s) W h.bld (by rw [size_bs]; exact hlen) h.size).mono ?_
  rintro e w' ⟨h1, h2, h3⟩
  exact ⟨h1, h.below.trans (h3.below (by omega) (by omega)), (h3.block _ (by omega) (by omega)).trans h.box, h2, Nat.le_trans h.size h3.size⟩
theorem PS.alloc {w0 W : World} {box : Array Value} {l : List UInt8} (h : PS w0 W box l) (o : Obj) : PS w0 (W.alloc o) box l := h.keep ((Below.refl _ _).alloc (Nat.le_refl _) _)
/-- A print's text: all its lines; of a call without a kind no line. -/
def playW : List UInt8 := [112, 108, 97, 121]
def picksW : List UInt8 := [112, 105, 99, 107, 115]
def ticksW : List UInt8 := [116, 105, 99, 107, 115]
def clientW : List UInt8 := [99, 108, 105, 101, 110, 116]
def intsL (word : List UInt8) (l : List Int) : List UInt8 := glue (word :: l.map Lib.itoa) ++ [10]
def headT (stripes room : Int) (picks ticks : List Int) : List UInt8 := intsL playW [stripes, room] ++ intsL picksW picks ++ intsL ticksW ticks
def callsT (l : List CallV) : List UInt8 := l.flatMap callT
def clientT (l : List CallV) : List UInt8 := (glue [clientW] ++ [10]) ++ callsT l
def clientsT (L : List (List CallV)) : List UInt8 := L.flatMap clientT
theorem PS.cell {w0 W : World} {box : Array Value} {l : List UInt8} (h : PS w0 W box l) (i : Nat) {u : Value} (hu : box[i]? = some u) : W.cell? ⟨w0.heap.size, i, none⟩ = some u := cell_at h.box hu
theorem line_ints (word : List UInt8) (xs : List Int) (a : Option Addr) (cap : Nat) (w : World) (hl : (intsL word xs).length ≤ 1099511627776) (hn : xs.length ≤ 1099511627776) (hc : xs.length ≤ cap) (hnil : a = none → cap = 0) (hs : Shows w a (xs.map Lib.itoa)) :
    Calls Tryd.prog 31 #[.string (bs word), .slice a xs.length cap] w fun e w' => e = .returned (.string (bs (intsL word xs))) ∧ Below w.heap.size w w' := by
  have h := line_any word (xs.map Lib.itoa) a cap w (by simp only [intsL, List.length_append] at hl; omega) (by simpa using hn) (by simpa using hc) hnil hs
  rw [List.length_map] at h
  exact h
theorem intsL_len (word : List UInt8) (l : List Int) : (glue (word :: l.map Lib.itoa)).length + 1 = (intsL word l).length := by simp [intsL]
theorem callT_none {c : CallV} (h : callW c = none) : callT c = [] := by rw [callT, h]
theorem callT_some {c : CallV} (h : callW c ≠ none) : callT c ≠ [] := by
  unfold callT
  cases e : callW c with
  | none => exact absurd e h
  | some ws => simp
/-- What Print makes of a script. -/
def PrintPost (L : List (List CallV)) (T : List UInt8) (w : World) (e : Ending) (w' : World) : Prop :=
  Below w.heap.size w w' ∧
  (((∃ l ∈ L, ∃ c ∈ l, callW c = none) ∧ e = .returned (.tuple #[.string ⟨#[]⟩, .int .i64 2])) ∨
   ((∀ l ∈ L, ∀ c ∈ l, callW c ≠ none) ∧ ((1048576 < T.length ∧ e = .returned (.tuple #[.string ⟨#[]⟩, .int .i64 12])) ∨ (T.length ≤ 1048576 ∧ e = .returned (.tuple #[.string (bs T), .int .i64 0])))))
theorem clients_take {L : List (List CallV)} {i : Nat} (h : i < L.length) : clientsT (L.take (i + 1)) = clientsT (L.take i) ++ clientT (L[i]'h) := by
  rw [List.take_succ_eq_append_getElem h]
  simp only [clientsT, List.flatMap_append, List.flatMap_cons, List.flatMap_nil, List.append_nil]
theorem calls_take {l : List CallV} {k : Nat} (h : k < l.length) : callsT (l.take (k + 1)) = callsT (l.take k) ++ callT (l[k]'h) := by
  rw [List.take_succ_eq_append_getElem h]
  simp only [callsT, List.flatMap_append, List.flatMap_cons, List.flatMap_nil, List.append_nil]
theorem clients_le (L : List (List CallV)) (i : Nat) : (clientsT (L.take i)).length ≤ (clientsT L).length := by
  have e : clientsT L = clientsT (L.take i) ++ clientsT (L.drop i) := by
    rw [clientsT, clientsT, clientsT, ← List.flatMap_append, List.take_append_drop]
  rw [e, List.length_append]
  omega
theorem calls_le (l : List CallV) (k : Nat) : (callsT (l.take k)).length ≤ (callsT l).length := by
  have e : callsT l = callsT (l.take k) ++ callsT (l.drop k) := by
    rw [callsT, callsT, callsT, ← List.flatMap_append, List.take_append_drop]
  rw [e, List.length_append]
  omega
set_option maxRecDepth 100000 in
set_option maxHeartbeats 16000000 in
theorem print_walk (stripes room : Int) (picks ticks : List Int) (L : List (List CallV)) (aC aP aT : Option Addr) (cC cP cT : Nat) (w : World) (hm : HasMax w) (ht : HasTab w)
    (hs : InI stripes) (hr : InI room) (hP : Ints w aP picks) (hT : Ints w aT ticks) (hC : CallRows w aC L) (hfit : ∀ l ∈ L, ∀ c ∈ l, c.Fits)
    (hpl : picks.length ≤ 4194304) (htl : ticks.length ≤ 4194304) (hLl : L.length ≤ 4194304) (hll : ∀ l ∈ L, l.length ≤ 4194304) (htot : (headT stripes room picks ticks ++ clientsT L).length ≤ 1099511627776) :
    Calls Tryd.prog 17 #[.agg #[.int .i64 stripes, .int .i64 room, .slice aC L.length cC, .slice aP picks.length cP, .slice aT ticks.length cT]] w (PrintPost L (headT stripes room picks ticks ++ clientsT L) w) := by
  have HP0 := Lib.hid (PS.start w #[.int .i64 stripes, .int .i64 room, .slice aC L.length cC, .slice aP picks.length cP, .slice aT ticks.length cT])
  have HT := Lib.hid ht
  have HM := Lib.hid hm
  have l1 : (intsL playW [stripes, room]).length ≤ 1099511627776 := by simp only [headT, List.length_append] at htot; omega
  have l2 : (intsL picksW picks).length ≤ 1099511627776 := by simp only [headT, List.length_append] at htot; omega
  have l3 : (intsL ticksW ticks).length ≤ 1099511627776 := by simp only [headT, List.length_append] at htot; omega
  have HPI := Lib.hid hP
  have HTI := Lib.hid hT
  have HCI := Lib.hid hC
  have HTOT := Lib.hid htot
  have HFIT := Lib.hid hfit
  have HLL := Lib.hid hll
  clear hm ht hP hT hC htot hfit hll
  go_enter Tryd.func17, Tryd.ntmps17
  go_wp2_with fail
  generalize hW2 : (w.alloc (.cells #[.int .i64 stripes, .int .i64 room, .slice aC L.length cC, .slice aP picks.length cP, .slice aT ticks.length cT] 54)).alloc (.cells #[.pointer none, .slice none 0 0] 70) = W2 at *
  have hz : W2.heap.size = w.heap.size + 1 + 1 := by rw [← hW2]; simp
  have hi2 := ints_two W2 stripes room 3 hs hr
  rw [hz] at hi2
  have HB2 := Lib.hid ((HP0.out.alloc (.cells #[.int .i64 stripes, .int .i64 room] 3)).below)
  have HP1 := Lib.hid (HP0.out.alloc (.cells #[.int .i64 stripes, .int .i64 room] 3))
  refine (ints_shows [stripes, room] _ 2 _ (by simp) hi2 (HT.out.below HB2.out)).mono ?_
  rintro e w3 ⟨a3, cap3, rfl, hs3, hc3, hn3, hb3⟩
  have HP3 := Lib.hid (HP1.out.keep hb3)
  clear hb3 hi2 hW2 hz
  go_wp2_with fail
  refine (line_any playW [Lib.itoa stripes, Lib.itoa room] a3 cap3 _ (by have := intsL_len playW [stripes, room]; simp only [List.map_cons, List.map_nil] at this; omega) (by simp) hc3 hn3 hs3).mono ?_
  rintro e w4 ⟨rfl, hb4⟩
  have HP4 := Lib.hid (HP3.out.keep hb4)
  clear hb4 hs3 hc3 hn3
  go_wp2_with fail
  refine (HP4.out.write (intsL playW [stripes, room]) (by simp; omega)).mono ?_
  rintro e w5 ⟨rfl, hp5⟩
  have HP5 := Lib.hid hp5
  have b3 := hp5.cell 3 rfl
  have b4 := hp5.cell 4 rfl
  have b2 := hp5.cell 2 rfl
  clear hp5
  go_wp2_with fail
  refine (ints_shows picks aP cP _ (by omega) (HPI.out.keep HP5.out.below) (HT.out.below HP5.out.below)).mono ?_
  rintro e w6 ⟨a6, cap6, rfl, hs6, hc6, hn6, hb6⟩
  have HP6 := Lib.hid (HP5.out.keep hb6)
  clear hb6 b2 b3 b4
  go_wp2_with fail
  refine (line_ints picksW picks a6 cap6 _ l2 (by omega) hc6 hn6 hs6).mono ?_
  rintro e w7 ⟨rfl, hb7⟩
  have HP7 := Lib.hid (HP6.out.keep hb7)
  clear hb7 hs6 hc6 hn6
  go_wp2_with fail
  refine (HP7.out.write (intsL picksW picks) (by simp only [List.nil_append]; omega)).mono ?_
  rintro e w8 ⟨rfl, hp8⟩
  have HP8 := Lib.hid hp8
  have b3 := hp8.cell 3 rfl
  have b4 := hp8.cell 4 rfl
  have b2 := hp8.cell 2 rfl
  clear hp8
  go_wp2_with fail
  refine (ints_shows ticks aT cT _ (by omega) (HTI.out.keep HP8.out.below) (HT.out.below HP8.out.below)).mono ?_
  rintro e w9 ⟨a9, cap9, rfl, hs9, hc9, hn9, hb9⟩
  have HP9 := Lib.hid (HP8.out.keep hb9)
  clear hb9 b2 b3 b4
  go_wp2_with fail
  refine (line_ints ticksW ticks a9 cap9 _ l3 (by omega) hc9 hn9 hs9).mono ?_
  rintro e w10 ⟨rfl, hb10⟩
  have HP10 := Lib.hid (HP9.out.keep hb10)
  clear hb10 hs9 hc9 hn9
  go_wp2_with fail
  refine (HP10.out.write (intsL ticksW ticks) (by simp only [List.nil_append, List.length_append]; omega)).mono ?_
  rintro e w11 ⟨rfl, hp11⟩
  have HP11 : Hid (PS w w11 _ (headT stripes room picks ticks)) := Lib.hid (by simpa [headT] using hp11)
  have b2 := hp11.cell 2 rfl
  clear hp11
  go_wp2_with fail
  go_loopg [31] L.length (fun g iv wr => ∃ i : Nat, i ≤ L.length ∧ g = L.length - i ∧ iv = .int .i64 i ∧ PS w wr #[.int .i64 stripes, .int .i64 room, .slice aC L.length cC, .slice aP picks.length cP, .slice aT ticks.length cT] (headT stripes room picks ticks ++ clientsT (L.take i)) ∧ ∀ l ∈ L.take i, ∀ c ∈ l, callW c ≠ none)
  case atStart => exact ⟨0, by omega, by omega, rfl, by simpa [clientsT] using HP11.out, by simp⟩
  case round =>
    obtain ⟨i, hi, rfl, rfl, hps, hok⟩ := hrel
    obtain ⟨wo, rfl⟩ : ∃ wo : World, wo = wr := ⟨_, rfl⟩
    have HPS := Lib.hid hps
    have HOK := Lib.hid hok
    clear hok b2
    by_cases hlt : i < L.length
    · obtain ⟨g, off, ax, cx, rfl, hg, e0', hrow⟩ := HCI.out i hlt
      have e0 := (hps.below.cell (p := ⟨g, off + i, none⟩) hg).trans e0'
      clear e0' hg
      have HROW := Lib.hid hrow
      have HTK := Lib.hid (clients_take hlt)
      have hci := clients_le L i
      have hci1 := clients_le L (i + 1)
      have HFL := Lib.hid (HFIT.out (L[i]'hlt) (List.getElem_mem hlt))
      have HLK := HLL.out (L[i]'hlt) (List.getElem_mem hlt)
      have HMEM := Lib.hid (List.getElem_mem hlt)
      have HTAKE : Hid (L.take (i + 1) = L.take i ++ [L[i]'hlt]) := Lib.hid (List.take_succ_eq_append_getElem hlt)
      generalize L[i]'hlt = l at *
      clear hps hrow
      go_wp2_with fail
      refine (line_any clientW [] none 0 _ (by simp [glue, clientW]) (by simp) (by simp) (fun _ => rfl) (fun i hi => absurd hi (by simp))).mono ?_
      rintro e w12 ⟨rfl, hb12⟩
      have HP12 := Lib.hid (HPS.out.keep hb12)
      clear hb12
      go_wp2_with fail
      refine (HP12.out.write (glue [clientW] ++ [10]) (by have := HTOT.out; simp [glue, clientW] at this ⊢; omega)).mono ?_
      rintro e w13 ⟨rfl, hp13⟩
      have HP13 := Lib.hid hp13
      clear hp13
      go_wp2_with fail
      have hlen1 : (headT stripes room picks ticks ++ clientsT (L.take i) ++ clientT l).length ≤ 1099511627776 := by
        have h1 := HTOT.out
        rw [HTK.out] at hci1
        simp only [List.length_append] at h1 hci1 ⊢
        omega
      have HLEN1 := Lib.hid hlen1
      clear hci hci1 hlen1
      go_loopg [39] l.length (fun g2 kv wr2 => ∃ k : Nat, k ≤ l.length ∧ g2 = l.length - k ∧ kv = .int .i64 k ∧ PS w wr2 #[.int .i64 stripes, .int .i64 room, .slice (some ⟨g, off, none⟩) L.length cC, .slice aP picks.length cP, .slice aT ticks.length cT] (headT stripes room picks ticks ++ clientsT (L.take i) ++ (glue [clientW] ++ [10]) ++ callsT (l.take k)) ∧ ∀ c ∈ l.take k, callW c ≠ none)
      case atStart => exact ⟨0, by omega, by omega, rfl, by simpa [callsT] using HP13.out, by simp⟩
      case round =>
        obtain ⟨k, hk, rfl, rfl, hps2, hok2⟩ := hrel
        obtain ⟨wk, rfl⟩ : ∃ wk : World, wk = wr := ⟨_, rfl⟩
        have HPS2 := Lib.hid hps2
        have HOK2 := Lib.hid hok2
        clear hok2
        by_cases hkl : k < l.length
        · obtain ⟨g3, off3, ax3, cx3, rfl, hg3, d0, d1, d2, d3, d4, d5, d6, hu⟩ := HROW.out.keep hps2.below k hkl
          have HU := Lib.hid hu
          have HCT := Lib.hid (calls_take hkl)
          have HFC := Lib.hid (HFL.out (l[k]'hkl) (List.getElem_mem hkl))
          have hck1 := calls_le l (k + 1)
          have HMC := Lib.hid (List.getElem_mem hkl)
          have HTK2 : Hid (l.take (k + 1) = l.take k ++ [l[k]'hkl]) := Lib.hid (List.take_succ_eq_append_getElem hkl)
          generalize l[k]'hkl = c at *
          clear hu
          go_wp2_with fail
          have HPA := Lib.hid (HPS2.out.alloc (.cells #[.int .i64 c.kind, .int .i64 c.n, .int .i64 c.dir, .string c.text, .int .i64 c.who, .int .i64 c.at_, .slice ax3 c.xs.length cx3] 28))
          refine (call_any c HFC.out ax3 cx3 _ (HU.out.keep ((Below.refl _ _).alloc (Nat.le_refl _) _)) (HM.out.below HPA.out.below) (HT.out.below HPA.out.below)).mono ?_
          rintro e w14 ⟨rfl, hb14⟩
          have HP14 := Lib.hid (HPA.out.keep hb14)
          clear hb14 d0 d1 d2 d3 d4 d5 d6 hps2
          by_cases hnone : callW c = none
          · have h1 : (bs (callT c)).toList.isEmpty = true := by rw [Lib.toList_data, callT_none hnone]; rfl
            have HNO := Lib.hid hnone
            clear hnone
            go_wp2_with fail
            go_ret2
            exact ⟨HP14.out.below, .inl ⟨⟨l, HMEM.out, c, HMC.out, HNO.out⟩, rfl⟩⟩
          · have h1 : (bs (callT c)).toList.isEmpty = false := by rw [Lib.toList_data]; exact (List.isEmpty_eq_false_iff).2 (callT_some hnone)
            have HYES := Lib.hid hnone
            clear hnone
            go_wp2_with fail
            refine (HP14.out.write (callT c) (by
              have h2 := HLEN1.out
              rw [HCT.out] at hck1
              simp only [clientT, List.length_append] at h2 hck1 ⊢
              omega)).mono ?_
            rintro e w15 ⟨rfl, hp15⟩
            have HP15 := Lib.hid hp15
            clear hp15
            go_wp2_with fail
            go_roundg (l.length - (k + 1))
            case measure => omega
            case rel => exact ⟨k + 1, by omega, rfl, by go_num, by rw [HCT.out]; simpa [List.append_assoc] using HP15.out, fun c' hc' => by
              rw [HTK2.out, List.mem_append, List.mem_singleton] at hc'
              rcases hc' with h | rfl
              · exact HOK2.out c' h
              · exact HYES.out⟩
        · have HLK2 : Hid (l.take k = l) := Lib.hid (List.take_of_length_le (by omega))
          have HPN : Hid (PS w wk #[.int .i64 stripes, .int .i64 room, .slice (some ⟨g, off, none⟩) L.length cC, .slice aP picks.length cP, .slice aT ticks.length cT] (headT stripes room picks ticks ++ clientsT (L.take (i + 1)))) := Lib.hid (by
            rw [HTK.out, clientT]
            rw [HLK2.out] at hps2
            simpa [List.append_assoc] using hps2)
          have HOKN : Hid (∀ l ∈ L.take (i + 1), ∀ c ∈ l, callW c ≠ none) := Lib.hid (by
            rw [HTAKE.out]
            intro l' hl' c hc
            rcases List.mem_append.1 hl' with h | h
            · exact HOK.out l' h c hc
            · rw [List.mem_singleton] at h
              subst h
              exact HOK2.out c (by rw [HLK2.out]; exact hc))
          clear hps2
          go_wp2_with fail
          go_roundg (L.length - (i + 1))
          case measure => omega
          case rel => exact ⟨i + 1, by omega, rfl, by go_num, HPN.out, HOKN.out⟩
    · have HB := Lib.hid hps.below
      have HTI2 : Hid (L.take i = L) := Lib.hid (List.take_of_length_le (by omega))
      have hT : ((headT stripes room picks ticks ++ clientsT L).length : Int) ≤ 1099511627776 := by have := HTOT.out; omega
      have HPT : Hid (PS w wo #[.int .i64 stripes, .int .i64 room, .slice aC L.length cC, .slice aP picks.length cP, .slice aT ticks.length cT] (headT stripes room picks ticks ++ clientsT L)) := Lib.hid (by rw [← HTI2.out]; rw [HTI2.out]; rw [HTI2.out] at hps; exact hps)
      have HOKL : Hid (∀ l ∈ L, ∀ c ∈ l, callW c ≠ none) := Lib.hid (by have := HOK.out; rw [HTI2.out] at this; exact this)
      clear hps
      generalize headT stripes room picks ticks ++ clientsT L = T at *
      by_cases hbig : 1048576 < T.length
      · go_wp2_with (go_at_call 34; refine (bld_len _ _ _ _ HPT.out.bld).mono ?_; rintro e w' ⟨rfl, rfl⟩)
        go_ret2
        exact ⟨HB.out, .inr ⟨HOKL.out, .inl ⟨hbig, rfl⟩⟩⟩
      · go_wp2_with (first | (go_at_call 34; refine (bld_len _ _ _ _ HPT.out.bld).mono ?_; rintro e w' ⟨rfl, rfl⟩) | (go_at_call 30; refine (bld_string _ _ _ _ HPT.out.bld (by have := HPT.out.size; omega)).mono ?_; rintro e w' ⟨rfl, hb⟩; have HBF := Lib.hid (HB.out.trans (hb.mono (by omega))); clear hb))
        go_ret2
        exact ⟨HBF.out, .inr ⟨HOKL.out, .inr ⟨by omega, rfl⟩⟩⟩
end Go.Proofs.YtmbhgnokjpcpjaaDoor.Lex
