/- Trees read out of memory; whatever came in, read, with its bulk. -/
import Derived.Test.YtibabpahpiijgaaGreatDoorFoot
import Derived.Test.YtibabpahpiijgaaGreatDoorRows
import Derived.KernelRfl
namespace Go.Proofs.YtibabpahpiijgaaGreatDoor
open Go.RowKit
set_option linter.unusedVariables false
inductive DescV where
  | mk (kind n : Int) (kids : List DescV)
namespace DescV
def kind : DescV → Int | .mk k _ _ => k
def n : DescV → Int | .mk _ n _ => n
def kids : DescV → List DescV | .mk _ _ l => l
mutual
def nodes : DescV → Nat | .mk _ _ l => nodesL l + 1
def nodesL : List DescV → Nat | [] => 0 | d :: l => d.nodes + nodesL l
end
theorem nodesL_sum (l : List DescV) : nodesL l = (l.map nodes).sum := by
  induction l with
  | nil => rfl
  | cons d l ih => rw [nodesL, ih]; rfl
theorem nodes_kids (d : DescV) : d.nodes = nodesL d.kids + 1 := by cases d; rfl
theorem eta (d : DescV) : d = .mk d.kind d.n d.kids := by cases d; rfl
theorem nodesL_get {l : List DescV} {i : Nat} (h : i < l.length) : (l[i]).nodes ≤ nodesL l := by
  induction l generalizing i with
  | nil => simp at h
  | cons d l ih =>
    rw [nodesL]
    cases i with
    | zero => simp
    | succ i => have := ih (i := i) (by simpa using h); simp; omega
theorem nodes_pos (d : DescV) : 0 < d.nodes := by rw [nodes_kids]; omega
theorem nodesL_take_succ {l : List DescV} {i : Nat} (h : i < l.length) : nodesL (l.take (i + 1)) = nodesL (l.take i) + (l[i]).nodes := by
  rw [List.take_succ_eq_append_getElem h, nodesL_sum, nodesL_sum, List.map_append, List.sum_append]
  simp
theorem nodesL_take_le (l : List DescV) (i : Nat) : nodesL (l.take i) ≤ nodesL l := by
  induction l generalizing i with
  | nil => simp
  | cons d l ih =>
    cases i with
    | zero => simp [nodesL]
    | succ i => simp only [List.take_succ_cons, nodesL]; have := ih i; omega
end DescV
/-- A tree of at most so many floors, read. -/
def descRd : Nat → Rd DescV
  | 0 => fun _ _ _ _ => False
  | k + 1 => fun F w cs d => ∃ a n cap, cs = [.int .i64 d.kind, .int .i64 d.n, .slice a n cap] ∧ (Lit.int .i64 d.kind).wf = true ∧ (Lit.int .i64 d.n).wf = true ∧ RowOf (descRd k) 3 40 F w a n cap d.kids
theorem RowOf.imp {α : Type} {r q : Rd α} {size bytes : Nat} {F : Foot} {w : World} {a : Option Addr} {n cap : Nat} {xs : List α} (h : RowOf r size bytes F w a n cap xs) (k : ∀ cs x, r F w cs x → q F w cs x) : RowOf q size bytes F w a n cap xs := by
  refine ⟨h.len, h.le, h.max, h.room, h.nil, fun i x hx => ?_⟩
  obtain ⟨b, off, cs, h1, h2, h3, h4, h5, h6⟩ := h.at_ i x hx
  exact ⟨b, off, cs, h1, h2, h3, h4, h5, k _ _ h6⟩
theorem descRd_succ : ∀ (k : Nat) {F : Foot} {w : World} {cs : List Value} {d : DescV}, descRd k F w cs d → descRd (k + 1) F w cs d
  | 0, _, _, _, _, h => h.elim
  | k + 1, F, w, cs, d, ⟨a, n, cap, h1, h2, h3, h4⟩ => ⟨a, n, cap, h1, h2, h3, h4.imp fun _ _ h => descRd_succ k h⟩
theorem descRd_mono {k m : Nat} (h : k ≤ m) {F : Foot} {w : World} {cs : List Value} {d : DescV} (hd : descRd k F w cs d) : descRd m F w cs d := by
  obtain ⟨j, rfl⟩ := Nat.le.dest h
  clear h
  induction j with
  | zero => exact hd
  | succ j ih => exact descRd_succ _ ih
theorem descRd_ok : ∀ k, (descRd k).Ok 3
  | 0 => ⟨fun h => h.elim, fun h => h.elim, fun h => h.elim, fun h => h.elim⟩
  | k + 1 => by
    have ih := descRd_ok k
    exact ⟨fun ⟨_, _, _, h, _⟩ => by rw [h]; rfl, fun ⟨a, n, cap, h, h2, h3, h4⟩ hf => ⟨a, n, cap, h, h2, h3, h4.keep ih hf⟩, fun ⟨a, n, cap, h, h2, h3, h4⟩ hg => ⟨a, n, cap, h, h2, h3, h4.mono ih hg⟩,
      fun ⟨a, n, cap, h, _⟩ u hu => by rw [h] at hu; simp at hu; rcases hu with rfl | rfl | rfl <;> rfl⟩
/-! ### Whatever came in, with its bulk -/
abbrev mInt : Int → Nat := fun _ => 1
abbrev mStr : ByteArray → Nat := fun s => s.size + 1
abbrev mList {α : Type} (μ : α → Nat) : List α → Nat := fun l => (l.map μ).sum + 1
abbrev mPair {α β : Type} (μ : α → Nat) (ν : β → Nat) : α × β → Nat := fun x => μ x.1 + ν x.2
structure OB {α : Type} (P : Program) (t : TypeId) (r : Rd α) (μ : α → Nat) (N : Nat) : Prop where
  get : ∀ {H : Type} (enc : TypeId × Value → H) (w : World) (base : Nat) (spare : Nat → Bool) (held : Bool) (fuel : Nat) (cs : List Value) (x : DataW H × List MemPlace), fuel ≤ N →
    DataW.trod enc P w base spare held fuel t cs = some x → (∀ q ∈ DataW.weights P t x.1, q ≤ reachBytes) → ∃ y, r All w cs y ∧ μ y ≤ Rows.uptoBulk x.1
theorem OB.le {α : Type} {P : Program} {t : TypeId} {r : Rd α} {μ : α → Nat} {N M : Nat} (h : OB P t r μ N) (hm : M ≤ N) : OB P t r μ M :=
  ⟨fun enc w base spare held fuel cs x hf hx hq => h.get enc w base spare held fuel cs x (by omega) hx hq⟩
theorem OB.map {α β : Type} {P : Program} {t : TypeId} {r : Rd α} {q : Rd β} {μ : α → Nat} {ν : β → Nat} {N : Nat} (h : OB P t r μ N) (f : α → β) (hf : ∀ {w cs x}, r All w cs x → q All w cs (f x)) (hν : ∀ x, ν (f x) ≤ μ x) : OB P t q ν N := by
  refine ⟨fun enc w base spare held fuel cs x hl hx hq => ?_⟩
  obtain ⟨y, h1, h2⟩ := h.get enc w base spare held fuel cs x hl hx hq
  exact ⟨f y, hf h1, Nat.le_trans (hν y) h2⟩
theorem bulk_pos {H : Type} (d : DataW H) : 1 ≤ Rows.uptoBulk d := by
  cases d with
  | lit l => cases l <;> simp [Rows.uptoBulk]
  | _ => simp [Rows.uptoBulk]
theorem ob_int {P : Program} {t : TypeId} {k : IntKind} (ht : P.underlying t = some (.int k)) (N : Nat) : OB P t (Rd.int k) mInt N :=
  ⟨fun enc w base spare held fuel cs x _ hx hq => by
    obtain ⟨y, hy⟩ := (opens_int ht).get enc w base spare held fuel cs x hx hq
    exact ⟨y, hy, bulk_pos _⟩⟩
theorem ob_bool {P : Program} {t : TypeId} (ht : P.underlying t = some .bool) (N : Nat) : OB P t Rd.bool (fun _ => 1) N :=
  ⟨fun enc w base spare held fuel cs x _ hx hq => by
    obtain ⟨b, rfl, rfl⟩ := DataW.trod_bool ht hx
    exact ⟨b, rfl, bulk_pos _⟩⟩
theorem ob_str {P : Program} {t : TypeId} (ht : P.underlying t = some .string) (N : Nat) : OB P t Rd.str mStr N :=
  ⟨fun enc w base spare held fuel cs x _ hx hq => by
    obtain ⟨s, rfl, rfl, hw⟩ := DataW.trod_string ht hx
    have h2 : s.data.toList.length = s.size := by simp
    refine ⟨s, ⟨rfl, ?_⟩, ?_⟩
    · have := hq s.data.toList.length (by simp [DataW.weights])
      unfold reachBytes at this
      omega
    · simp [Rows.uptoBulk, h2]⟩
theorem bulkAll_eq {H : Type} (l : List (DataW H)) : Rows.uptoBulkAll l = (l.map Rows.uptoBulk).sum := by
  induction l with
  | nil => rfl
  | cons d l ih => rw [Rows.uptoBulkAll, ih]; rfl
theorem sum_le_sum {α β : Type} {f : α → Nat} {g : β → Nat} : ∀ {l : List α} {m : List β}, l.length = m.length → (∀ i (h : i < l.length) (k : i < m.length), f l[i] ≤ g m[i]) → (l.map f).sum ≤ (m.map g).sum
  | [], [], _, _ => Nat.le_refl _
  | x :: l, y :: m, hl, h => by
    have h0 := h 0 (by simp) (by simp)
    have := sum_le_sum (l := l) (m := m) (by simpa using hl) fun i a b => by have := h (i + 1) (by simpa using a) (by simpa using b); simpa only [List.getElem_cons_succ] using this
    simp only [List.map_cons, List.sum_cons]
    simp at h0
    omega
  | [], _ :: _, hl, _ => by simp at hl
  | _ :: _, [], hl, _ => by simp at hl
theorem ob_slice {α : Type} {P : Program} {t e : TypeId} {r : Rd α} {μ : α → Nat} {N size bytes : Nat} (ht : P.underlying t = some (.slice e)) (hs : P.cellsOf e = size) (hbt : P.bytesOf e = bytes) (h0 : 0 < size) (hr : r.Ok size) (ho : OB P e r μ N) :
    OB P t (Rd.slice r size bytes) (mList μ) (N + 1) := by
  refine ⟨fun {H} enc w base spare held fuel cs x hf h hq => ?_⟩
  rcases DataW.trod_slice ht h with ⟨rfl, rfl⟩ | ⟨a, n, cap, elems, rest, f, rfl, rfl, rfl, _, hl, hm, hen, hel, _, _⟩
  · exact ⟨[], ⟨none, 0, 0, rfl, RowOf.empty _ _ _ _ _⟩, by simp [Rows.uptoBulk, mList]⟩
  · have hw0 : (elems.length + rest.length) * P.bytesOf e ≤ reachBytes := by
      have := hq ((elems.length + rest.length) * P.bytesOf e) (by simp [DataW.weights, ht])
      exact this
    have each : ∀ i, i < n → ∃ y : α × List Value, w.cells? base (a.add (i * P.cellsOf e)) (P.cellsOf e) = some y.2 ∧ r All w y.2 y.1 ∧ ∀ z, elems[i]? = some z → μ y.1 ≤ Rows.uptoBulk z.1 := by
      intro i hi
      have hel' := hel i hi
      rw [List.getElem?_eq_getElem (by omega)] at hel'
      obtain ⟨cs', h1, h2⟩ := Option.bind_eq_some_iff.1 hel'
      obtain ⟨y, hy, hμ⟩ := ho.get enc w base spare held f cs' _ (by omega) h2 fun q hq' => hq q (by
        rw [DataW.weights, ht]
        refine List.mem_cons_of_mem _ (List.mem_append_left _ ?_)
        have : ∀ (l : List (DataW H)) (d : DataW H), d ∈ l → q ∈ DataW.weights P e d → q ∈ DataW.weightsAll P e l := by
          intro l
          induction l with
          | nil => intro d hd; simp at hd
          | cons z l ih =>
            intro d hd hqd
            rw [DataW.weightsAll, List.mem_append]
            rcases List.mem_cons.1 hd with rfl | hd
            · exact .inl hqd
            · exact .inr (ih d hd hqd)
        exact this _ _ (List.mem_map.2 ⟨_, List.getElem_mem (by omega), rfl⟩) hq')
      refine ⟨(y, cs'), h1, hy, fun z hz => ?_⟩
      rw [List.getElem?_eq_getElem (by omega)] at hz
      cases hz
      exact hμ
    obtain ⟨l, hl2, hg⟩ := list_choose n each
    refine ⟨l.map (·.1), ⟨some a, n, cap, rfl, by simpa using hl2, hl, hm, ?_, by simp, fun i x hx => ?_⟩, ?_⟩
    · rw [hbt] at hw0
      have : n * bytes ≤ (elems.length + rest.length) * bytes := Nat.mul_le_mul_right _ (by omega)
      unfold reachBytes at hw0
      omega
    · rw [List.getElem?_map, Option.map_eq_some_iff] at hx
      obtain ⟨g, hgi, rfl⟩ := hx
      obtain ⟨h1, h2, _⟩ := hg i g hgi
      rw [hs] at h1
      obtain ⟨_, hlen, hcell⟩ := World.cells?_some h1
      obtain ⟨b, off, spot⟩ := a
      obtain rfl : spot = none := by
        have h0l : 0 < l.length := by have := (List.getElem?_eq_some_iff.1 hgi).1; omega
        obtain ⟨k1, _⟩ := hg 0 _ (List.getElem?_eq_getElem h0l)
        rw [hs] at k1
        obtain ⟨_, klen, kcell⟩ := World.cells?_some k1
        have c0 := kcell 0 (by omega)
        rw [Deep.add_add] at c0
        have hsp := World.cell?_spot (c0.trans (List.getElem?_eq_getElem (by omega)))
        simpa [Addr.add] using hsp
      have hcc : ∀ j, j < size → w.cell? ⟨b, off + i * size + j, none⟩ = g.2[j]? := fun j hj => by
        have := hcell j hj
        rw [Deep.add_add, Addr.add_lit] at this
        rw [← this, Nat.add_assoc]
      refine ⟨b, off, g.2, rfl, ?_, trivial, hlen, fun j u hu => ?_, h2⟩
      · have := hcc 0 h0
        rw [List.getElem?_eq_getElem (by omega)] at this
        exact World.block_lt_of_cell? w _ this
      · rw [hcc j (by have := (List.getElem?_eq_some_iff.1 hu).1; omega)]
        exact hu
    · have := sum_le_sum (f := fun y : α × List Value => μ y.1) (g := fun z : DataW H × List MemPlace => Rows.uptoBulk z.1) (l := l) (m := elems) (by omega) fun i h1 h2 => (hg i _ (List.getElem?_eq_getElem h1)).2.2 _ (List.getElem?_eq_getElem h2)
      show ((l.map (·.1)).map μ).sum + 1 ≤ Rows.uptoBulk (.slice (elems.map (·.1)) (rest.map (·.1)))
      rw [Rows.uptoBulk, bulkAll_eq, List.map_map, List.map_map]
      show (l.map (fun y : α × List Value => μ y.1)).sum + 1 ≤ (elems.map (fun z : DataW H × List MemPlace => Rows.uptoBulk z.1)).sum + _ + 1
      omega
/-- The fields of a struct from cell o on. -/
structure OBFs {γ : Type} (P : Program) (fs : List Field) (o tot : Nat) (r : Rd γ) (μ : γ → Nat) (N : Nat) : Prop where
  get : ∀ {H : Type} (enc : TypeId × Value → H) (w : World) (base : Nat) (spare : Nat → Bool) (held : Bool) (n : Nat) (cs : List Value) (xs : List (DataW H × List MemPlace)), n ≤ N →
    cs.length = tot → xs.length = fs.length → (∀ (i : Nat) (f : Field), fs[i]? = some f → DataW.trod enc P w base spare held n f.type ((cs.drop f.offset).take (P.cellsOf f.type)) = xs[i]?) →
    (∀ q ∈ DataW.weightsEach P (fs.map (·.type)) (xs.map (·.1)), q ≤ reachBytes) → ∃ y, r All w (cs.drop o) y ∧ μ y ≤ Rows.uptoBulkAll (xs.map (·.1))
theorem obf_one {γ : Type} {P : Program} {f : Field} {o tot s N : Nat} {r : Rd γ} {μ : γ → Nat} (h1 : f.offset = o) (h2 : P.cellsOf f.type = s) (h3 : o + s = tot) (ho : OB P f.type r μ N) : OBFs P [f] o tot r μ N := by
  refine ⟨fun {H} enc w base spare held n cs xs hn hcs hxs hx hq => ?_⟩
  match xs, hxs with
  | [x], _ =>
    have e := hx 0 f rfl
    rw [h1, h2, List.take_of_length_le (by rw [List.length_drop]; omega)] at e
    obtain ⟨y, hy, hm⟩ := ho.get enc w base spare held n _ x hn e fun q hq' => hq q (by simpa [DataW.weightsEach] using hq')
    exact ⟨y, hy, by simpa [Rows.uptoBulkAll] using hm⟩
theorem obf_cons {α γ : Type} {P : Program} {f : Field} {fs : List Field} {o tot s N : Nat} {r : Rd α} {q : Rd γ} {μ : α → Nat} {ν : γ → Nat} (h1 : f.offset = o) (h2 : P.cellsOf f.type = s) (ho : OB P f.type r μ N) (hn : OBFs P fs (o + s) tot q ν N) : OBFs P (f :: fs) o tot (Rd.pair r q) (mPair μ ν) N := by
  refine ⟨fun {H} enc w base spare held n cs xs hN hcs hxs hx hq => ?_⟩
  match xs, hxs with
  | x :: xs, hl =>
    have e := hx 0 f rfl
    rw [h1, h2] at e
    obtain ⟨y1, hy1, hm1⟩ := ho.get enc w base spare held n _ x hN e fun q hq' => hq q (by rw [List.map_cons, List.map_cons, DataW.weightsEach]; exact List.mem_append_left _ hq')
    obtain ⟨y2, hy2, hm2⟩ := hn.get enc w base spare held n cs xs hN hcs (by simpa using hl) (fun i g hg => by simpa using hx (i + 1) g (by simpa using hg)) fun q hq' => hq q (by rw [List.map_cons, List.map_cons, DataW.weightsEach]; exact List.mem_append_right _ hq')
    refine ⟨(y1, y2), ⟨_, _, ?_, hy1, hy2⟩, ?_⟩
    · rw [← List.drop_drop, List.take_append_drop]
    · simp only [List.map_cons, Rows.uptoBulkAll]
      show μ y1 + ν y2 ≤ _
      omega
theorem ob_struct {γ : Type} {P : Program} {t : TypeId} {fs : Array Field} {tot N : Nat} {r : Rd γ} {μ : γ → Nat} (ht : P.underlying t = some (.struct fs)) (hc : P.cellsOf t = tot) (ho : OBFs P fs.toList 0 tot r μ N) : OB P t r (fun y => μ y + 1) (N + 1) := by
  refine ⟨fun {H} enc w base spare held fuel cs x hf h hq => ?_⟩
  obtain ⟨xs, n, rfl, rfl, hl, hxs, hx⟩ := DataW.trod_struct ht h
  obtain ⟨y, hy, hm⟩ := ho.get enc w base spare held n cs xs (by omega) (by omega) (by simpa using hxs) (fun i f hf => hx i f (by simpa using hf)) fun q hq' => hq q (by simpa [DataW.weights, ht] using hq')
  exact ⟨y, by simpa using hy, by simp only [Rows.uptoBulk]; omega⟩
theorem ob_desc : ∀ N, OB Tryz.prog 25 (descRd N) DescV.nodes N
  | 0 => ⟨fun enc w base spare held fuel cs x hf h _ => by
      obtain ⟨xs, n, rfl, _⟩ := DataW.trod_struct Tryz.underlying25 h
      omega⟩
  | N + 1 => by
    have ih := ob_desc N
    have hk : OB Tryz.prog 23 (Rd.slice (descRd N) 3 40) (mList DescV.nodes) N := (ob_slice Tryz.underlying23 (by kernel_rfl) (by kernel_rfl) (by omega) (descRd_ok N) ih).le (by omega)
    have hs := ob_struct (tot := 3) Tryz.underlying25 (by kernel_rfl) (obf_cons (s := 1) rfl (by kernel_rfl) (ob_int Tryz.underlying3 N) (obf_cons (s := 1) rfl (by kernel_rfl) (ob_int Tryz.underlying3 N) (obf_one (s := 1) rfl (by kernel_rfl) rfl hk)))
    refine hs.map (fun y => .mk y.1 y.2.1 y.2.2) ?_ ?_
    · rintro w cs ⟨k, n, l⟩ ⟨_, _, rfl, ⟨rfl, h1⟩, _, _, rfl, ⟨rfl, h2⟩, a, m, cap, rfl, h3⟩
      exact ⟨a, m, cap, rfl, h1, h2, h3⟩
    · rintro ⟨k, n, l⟩
      show DescV.nodesL l + 1 ≤ 1 + (1 + ((l.map DescV.nodes).sum + 1)) + 1
      rw [DescV.nodesL_sum]
      omega
end Go.Proofs.YtibabpahpiijgaaGreatDoor
