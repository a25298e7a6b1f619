/- Foot, Desc, Grow, DescM, Clone, Range, Nodes, Depth: laid into one text. -/
import Derived.Test.YthjcmcgmalnfpaaGreatDoorMem2
import Derived.Deep.Slices
import Derived.SizedLaws
import Derived.Test.YthjcmcgmalnfpaaGreatDoorRows
import Derived.KernelRfl
import Derived.Maps.AppendAt
import Derived.Test.YthjcmcgmalnfpaaGreatDoorProg
import Derived.Deep.LoopGhost
import Derived.Test.YthjcmcgmalnfpaaGreatDoorHeldZ
import Derived.RangeFuncRecord
import Derived.RangeFuncFrom
import Derived.RangeFuncCalls
import Derived.Test.YthjcmcgmalnfpaaGreatDoorMem
import Derived.RangeFuncNested
import Derived.RangeFuncLeaves
import Derived.Shelf.Abstract
import Derived.Shelf.RegionOpen
import Derived.OwnWalkIn
import Derived.TacticsInMore
import Derived.LoopNIn
import Derived.LoopIn
import Derived.Sort.LoopGhostIn
import Derived.Lib.SmallJoins
import Derived.RegionTactic
/- Reading deep values out of memory, with the blocks that a reading leans on (F): what cells show, as plain lists, numbers and texts. No function of the program. -/
namespace Go.Proofs.YthjcmcgmalnfpaaGreatDoor
open Go.RowKit
set_option linter.unusedVariables false
abbrev Foot := Nat → Prop
/-- Blocks of F that were there read as before. -/
structure Fix (F : Foot) (w w' : World) : Prop where
  size : w.heap.size ≤ w'.heap.size
  same : ∀ b, b < w.heap.size → F b → w'.heap[b]? = w.heap[b]?
theorem Fix.refl (F : Foot) (w : World) : Fix F w w := ⟨Nat.le_refl _, fun _ _ _ => rfl⟩
theorem Fix.trans {F : Foot} {a b c : World} (h : Fix F a b) (k : Fix F b c) : Fix F a c :=
  ⟨Nat.le_trans h.size k.size, fun x hx hf => (k.same x (Nat.lt_of_lt_of_le hx h.size) hf).trans (h.same x hx hf)⟩
theorem Fix.mono {F G : Foot} {w w' : World} (h : Fix F w w') (hg : ∀ b, b < w.heap.size → G b → F b) : Fix G w w' := ⟨h.size, fun b hb hf => h.same b hb (hg b hb hf)⟩
theorem Fix.of_below {F : Foot} {w w' : World} (h : Below w.heap.size w w') : Fix F w w' := ⟨h.size, fun b hb _ => h.block b hb⟩
theorem Fix.of_belowB {F : Foot} {B : Nat} {w w' : World} (h : Below B w w') (hF : ∀ b, b < w.heap.size → F b → b < B) : Fix F w w' := ⟨h.size, fun b hb hf => h.block b (hF b hb hf)⟩
theorem Fix.of_grown {F : Foot} {w w' : World} {r : Option Nat} (h : w.grownBy w' r) (hr : ∀ b, b < w.heap.size → F b → some b ≠ r) : Fix F w w' := ⟨h.size, fun b hb hf => h.block b hb (hr b hb hf)⟩
theorem Fix.alloc (F : Foot) (w : World) (o : Obj) : Fix F w (w.alloc o) := .of_below ((Below.refl _ _).alloc (Nat.le_refl _) _)
theorem Fix.drew (F : Foot) (w : World) : Fix F w w.drew := ⟨Nat.le_refl _, fun _ _ _ => rfl⟩
theorem Fix.drewN (F : Foot) (w : World) (n : Nat) : Fix F w (w.drewN n) := ⟨Nat.le_refl _, fun _ _ _ => rfl⟩
theorem Fix.setCell {F : Foot} (w : World) (a : Addr) (v : Value) (h : ¬ F a.block) : Fix F w (w.setCell a v) := .of_grown (grown_setCell w a v) fun b _ hf e => h (by cases e; exact hf)
theorem Fix.cell {F : Foot} {w w' : World} (h : Fix F w w') {b o : Nat} (hb : b < w.heap.size) (hf : F b) : w'.cell? ⟨b, o, none⟩ = w.cell? ⟨b, o, none⟩ := World.cell?_of_block (a := ⟨b, o, none⟩) (h.same b hb hf)
abbrev All : Foot := fun _ => True
/-- A reading: at this world these cells (of one value) show this, by blocks of F. -/
abbrev Rd (α : Type) := Foot → World → List Value → α → Prop
structure Rd.Ok {α : Type} (r : Rd α) (size : Nat) : Prop where
  len : ∀ {F w cs x}, r F w cs x → cs.length = size
  keep : ∀ {F w w' cs x}, r F w cs x → Fix F w w' → r F w' cs x
  mono : ∀ {F G : Foot} {w cs x}, r F w cs x → (∀ b, b < w.heap.size → F b → G b) → r G w cs x
  one : ∀ {F w cs x}, r F w cs x → ∀ u ∈ cs, u.oneCell' = true
def Rd.int (k : IntKind) : Rd Int := fun _ _ cs n => cs = [.int k n] ∧ (Lit.int k n).wf = true
def Rd.bool : Rd Bool := fun _ _ cs b => cs = [.bool b]
def Rd.str : Rd ByteArray := fun _ _ cs s => cs = [.string s] ∧ s.size ≤ 140737488351232
def Rd.pair {α β : Type} (r : Rd α) (q : Rd β) : Rd (α × β) := fun F w cs x => ∃ c1 c2, cs = c1 ++ c2 ∧ r F w c1 x.1 ∧ q F w c2 x.2
/-- What a slice of n elements shows: each so many cells and bytes. -/
structure RowOf {α : Type} (r : Rd α) (size bytes : Nat) (F : Foot) (w : World) (a : Option Addr) (n cap : Nat) (xs : List α) : Prop where
  len : xs.length = n
  le : n ≤ cap
  max : cap ≤ maxLen
  room : n * bytes ≤ 140737488351232
  nil : a = none → cap = 0
  at_ : ∀ i x, xs[i]? = some x → ∃ b off cs, a = some ⟨b, off, none⟩ ∧ b < w.heap.size ∧ F b ∧ cs.length = size ∧ (∀ j u, cs[j]? = some u → w.cell? ⟨b, off + i * size + j, none⟩ = some u) ∧ r F w cs x
def Rd.slice {α : Type} (r : Rd α) (size bytes : Nat) : Rd (List α) := fun F w cs xs => ∃ a n cap, cs = [.slice a n cap] ∧ RowOf r size bytes F w a n cap xs
theorem Rd.int_ok (k : IntKind) : (Rd.int k).Ok 1 := ⟨fun h => by rw [h.1]; rfl, fun h _ => h, fun h _ => h, fun h u hu => by rw [h.1] at hu; simp at hu; subst hu; rfl⟩
theorem Rd.bool_ok : Rd.bool.Ok 1 := ⟨fun h => by rw [show _ = [_] from h]; rfl, fun h _ => h, fun h _ => h, fun h u hu => by rw [show _ = [_] from h] at hu; simp at hu; subst hu; rfl⟩
theorem Rd.str_ok : Rd.str.Ok 1 := ⟨fun h => by rw [h.1]; rfl, fun h _ => h, fun h _ => h, fun h u hu => by rw [h.1] at hu; simp at hu; subst hu; rfl⟩
theorem Rd.pair_ok {α β : Type} {r : Rd α} {q : Rd β} {m n : Nat} (h : r.Ok m) (k : q.Ok n) : (Rd.pair r q).Ok (m + n) :=
  ⟨fun ⟨c1, c2, e, h1, h2⟩ => by rw [e, List.length_append, h.len h1, k.len h2], fun ⟨c1, c2, e, h1, h2⟩ hb => ⟨c1, c2, e, h.keep h1 hb, k.keep h2 hb⟩, fun ⟨c1, c2, e, h1, h2⟩ hb => ⟨c1, c2, e, h.mono h1 hb, k.mono h2 hb⟩,
    fun ⟨c1, c2, e, h1, h2⟩ u hu => by
      rw [e, List.mem_append] at hu
      rcases hu with hu | hu
      · exact h.one h1 u hu
      · exact k.one h2 u hu⟩
theorem RowOf.keep {α : Type} {r : Rd α} {size bytes : Nat} (hr : r.Ok size) {F : Foot} {w w' : World} {a : Option Addr} {n cap : Nat} {xs : List α} (h : RowOf r size bytes F w a n cap xs) (hb : Fix F w w') : RowOf r size bytes F w' a n cap xs := by
  refine ⟨h.len, h.le, h.max, h.room, h.nil, fun i x hx => ?_⟩
  obtain ⟨b, off, cs, h1, h2, hf, h3, h4, h5⟩ := h.at_ i x hx
  exact ⟨b, off, cs, h1, Nat.lt_of_lt_of_le h2 hb.size, hf, h3, fun j u hu => (hb.cell h2 hf).trans (h4 j u hu), hr.keep h5 hb⟩
theorem RowOf.mono {α : Type} {r : Rd α} {size bytes : Nat} (hr : r.Ok size) {F G : Foot} {w : World} {a : Option Addr} {n cap : Nat} {xs : List α} (h : RowOf r size bytes F w a n cap xs) (hg : ∀ b, b < w.heap.size → F b → G b) : RowOf r size bytes G w a n cap xs := by
  refine ⟨h.len, h.le, h.max, h.room, h.nil, fun i x hx => ?_⟩
  obtain ⟨b, off, cs, h1, h2, hf, h3, h4, h5⟩ := h.at_ i x hx
  exact ⟨b, off, cs, h1, h2, hg b h2 hf, h3, h4, hr.mono h5 hg⟩
theorem Rd.slice_ok {α : Type} {r : Rd α} {size : Nat} (hr : r.Ok size) (bytes : Nat) : (Rd.slice r size bytes).Ok 1 :=
  ⟨fun ⟨_, _, _, e, _⟩ => by rw [e]; rfl, fun ⟨a, n, cap, e, h⟩ hb => ⟨a, n, cap, e, h.keep hr hb⟩, fun ⟨a, n, cap, e, h⟩ hg => ⟨a, n, cap, e, h.mono hr hg⟩, fun ⟨a, n, cap, e, h⟩ u hu => by rw [e] at hu; simp at hu; subst hu; rfl⟩
theorem RowOf.empty {α : Type} (r : Rd α) (size bytes : Nat) (F : Foot) (w : World) : RowOf r size bytes F w none 0 0 [] := ⟨rfl, Nat.le_refl _, by simp, by simp, by simp, by simp⟩
/-- A row of integers, its cell. -/
theorem RowOf.int {k : IntKind} {bytes : Nat} {F : Foot} {w : World} {a : Option Addr} {n cap : Nat} {xs : List Int} (h : RowOf (Rd.int k) 1 bytes F w a n cap xs) (i : Nat) (hi : i < xs.length) :
    ∃ b off, a = some ⟨b, off, none⟩ ∧ b < w.heap.size ∧ F b ∧ w.cell? ⟨b, off + i, none⟩ = some (.int k (xs[i]'hi)) ∧ (Lit.int k (xs[i]'hi)).wf = true := by
  obtain ⟨b, off, cs, h1, h2, hf, _, h4, rfl, h5⟩ := h.at_ i (xs[i]'hi) (List.getElem?_eq_getElem hi)
  exact ⟨b, off, h1, h2, hf, by simpa using h4 0 _ rfl, h5⟩
/-- A row of the call's own reads as what it shows. -/
theorem RowOf.of_owns {α : Type} {r : Rd α} {size bytes : Nat} {F : Foot} {w : World} {base : Nat} {e : TypeId} {v : Value} {n : Nat} {cs : List Value} {xs : List α} (h : w.ownsRow base e size v n cs) (hsz : 0 < size) (hx : xs.length = n) (hroom : n * bytes ≤ 140737488351232) (hF : ∀ b, v.ownBlock = some b → F b)
    (hr : ∀ i x, xs[i]? = some x → ((cs.drop (i * size)).take size).length = size ∧ r F w ((cs.drop (i * size)).take size) x) : ∃ a cap, v = .slice a n cap ∧ RowOf r size bytes F w a n cap xs := by
  rcases h.2 with ⟨rfl, rfl⟩ | ⟨g, cap, cur, rfl, hbg, hg, hle, hm, hs, ht⟩
  · obtain rfl : xs = [] := List.eq_nil_of_length_eq_zero hx
    exact ⟨none, 0, rfl, RowOf.empty _ _ _ _ _⟩
  · refine ⟨_, cap, rfl, hx, hle, hm, hroom, by simp, fun i x hxi => ⟨g, 0, _, rfl, (Array.getElem?_eq_some_iff.1 hg).1, hF g rfl, (hr i x hxi).1, fun j u hu => ?_, (hr i x hxi).2⟩⟩
    have hj : j < size := by have := (List.getElem?_eq_some_iff.1 hu).1; rw [(hr i x hxi).1] at this; exact this
    rw [List.getElem?_take_of_lt hj, List.getElem?_drop] at hu
    have := h.cells (g := g) rfl _ u hu
    rw [Addr.add_lit] at this
    rw [← this, Nat.zero_add, Nat.zero_add]
theorem list_choose {β : Type} {Q : Nat → β → Prop} : ∀ n, (∀ i, i < n → ∃ y, Q i y) → ∃ l : List β, l.length = n ∧ ∀ (i : Nat) y, l[i]? = some y → Q i y
  | 0, _ => ⟨[], rfl, by simp⟩
  | n + 1, h => by
    obtain ⟨l, hl, hq⟩ := list_choose n fun i hi => h i (by omega)
    obtain ⟨y, hy⟩ := h n (by omega)
    refine ⟨l ++ [y], by simp [hl], fun i z hz => ?_⟩
    by_cases hi : i < l.length
    · rw [List.getElem?_append_left hi] at hz
      exact hq i z hz
    · rw [List.getElem?_append_right (by omega)] at hz
      have : i - l.length = 0 := by
        have := (List.getElem?_eq_some_iff.1 hz).1
        simp at this
        omega
      rw [this] at hz
      obtain rfl : y = z := by simpa using hz
      rw [show i = n by omega]
      exact hy
/-! ### From the form's own reading -/
/-- Whatever the form reads as a value of type t, reads so. -/
structure Opens {α : Type} (P : Program) (t : TypeId) (r : Rd α) : Prop where
  get : ∀ {H : Type} (enc : TypeId × Value → H) (w : World) (base : Nat) (spare : Nat → Bool) (held : Bool) (fuel : Nat) (cs : List Value) (x : DataW H × List MemPlace),
    DataW.trod enc P w base spare held fuel t cs = some x → (∀ q ∈ DataW.weights P t x.1, q ≤ reachBytes) → ∃ y, r All w cs y
theorem opens_int {P : Program} {t : TypeId} {k : IntKind} (ht : P.underlying t = some (.int k)) : Opens P t (Rd.int k) := by
  constructor
  intro H enc w base spare held fuel cs x h _
  obtain ⟨n, rfl, rfl, hw⟩ := DataW.trod_int ht h
  exact ⟨n, rfl, hw⟩
theorem opens_str {P : Program} {t : TypeId} (ht : P.underlying t = some .string) : Opens P t Rd.str := by
  constructor
  intro H enc w base spare held fuel cs x h hq
  obtain ⟨s, rfl, rfl, hw⟩ := DataW.trod_string ht h
  refine ⟨s, rfl, ?_⟩
  have := hq s.data.toList.length (by simp [DataW.weights])
  have h2 : s.data.toList.length = s.size := by simp
  unfold reachBytes at this
  omega
theorem opens_slice {α : Type} {P : Program} {t e : TypeId} {r : Rd α} {size bytes : Nat} (ht : P.underlying t = some (.slice e)) (hs : P.cellsOf e = size) (hbt : P.bytesOf e = bytes) (h0 : 0 < size) (hr : r.Ok size) (ho : Opens P e r) : Opens P t (Rd.slice r size bytes) := by
  constructor
  intro H enc w base spare held fuel cs x h hq
  rcases Deep.open_slice ht h with ⟨rfl, rfl⟩ | ⟨a, n, cap, m, f, D, Pl, rfl, _, hl, hm, hmm, rfl, hx⟩
  · exact ⟨[], none, 0, 0, rfl, RowOf.empty _ _ _ _ _⟩
  · have hlm : n ≤ m := by rw [hmm]; split <;> omega
    have hw0 : (n + (m - n)) * P.bytesOf e ≤ reachBytes := hq _ (by simp [DataW.weights, ht])
    have each : ∀ i, i < n → ∃ y : α × List Value, w.cells? base (a.add (i * P.cellsOf e)) (P.cellsOf e) = some y.2 ∧ r All w y.2 y.1 := by
      intro i hi
      obtain ⟨cs', h1, h2⟩ := hx i (by omega)
      obtain ⟨y, hy⟩ := ho.get enc w base spare held f cs' _ h2 fun q hq' => hq q (by
        rw [DataW.weights, ht]
        refine List.mem_cons_of_mem _ (List.mem_append_left _ ?_)
        have : ∀ (l : List (DataW H)) (d : DataW H), d ∈ l → q ∈ DataW.weights P e d → q ∈ DataW.weightsAll P e l := by
          intro l
          induction l with
          | nil => intro d hd; simp at hd
          | cons z l ih =>
            intro d hd hqd
            rw [DataW.weightsAll, List.mem_append]
            rcases List.mem_cons.1 hd with rfl | hd
            · exact .inl hqd
            · exact .inr (ih d hd hqd)
        exact this _ (D i) (List.mem_map.2 ⟨i, List.mem_range.2 hi, rfl⟩) hq')
      exact ⟨(y, cs'), h1, hy⟩
    obtain ⟨l, hl2, hg⟩ := list_choose n each
    refine ⟨l.map (·.1), some a, n, cap, rfl, by simpa using hl2, hl, hm, ?_, by simp, fun i x hx => ?_⟩
    · rw [hbt] at hw0
      have : n * bytes ≤ (n + (m - n)) * bytes := Nat.mul_le_mul_right _ (by omega)
      unfold reachBytes at hw0
      omega
    · rw [List.getElem?_map, Option.map_eq_some_iff] at hx
      obtain ⟨g, hgi, rfl⟩ := hx
      obtain ⟨h1, h2⟩ := hg i g hgi
      rw [hs] at h1
      obtain ⟨_, hlen, hcell⟩ := World.cells?_some h1
      obtain ⟨b, off, spot⟩ := a
      obtain rfl : spot = none := by
        have h0l : 0 < l.length := by have := (List.getElem?_eq_some_iff.1 hgi).1; omega
        obtain ⟨k1, _⟩ := hg 0 _ (List.getElem?_eq_getElem h0l)
        rw [hs] at k1
        obtain ⟨_, klen, kcell⟩ := World.cells?_some k1
        have c0 := kcell 0 (by omega)
        rw [Deep.add_add] at c0
        have hsp := World.cell?_spot (c0.trans (List.getElem?_eq_getElem (by omega)))
        simpa [Addr.add] using hsp
      have hcc : ∀ j, j < size → w.cell? ⟨b, off + i * size + j, none⟩ = g.2[j]? := fun j hj => by
        have := hcell j hj
        rw [Deep.add_add, Addr.add_lit] at this
        rw [← this, Nat.add_assoc]
      refine ⟨b, off, g.2, rfl, ?_, trivial, hlen, fun j u hu => ?_, h2⟩
      · have := hcc 0 h0
        rw [List.getElem?_eq_getElem (by omega)] at this
        exact World.block_lt_of_cell? w _ this
      · rw [hcc j (by have := (List.getElem?_eq_some_iff.1 hu).1; omega)]
        exact hu
/-- The fields of a struct from cell o on. -/
structure OpensFs {γ : Type} (P : Program) (fs : List Field) (o tot : Nat) (r : Rd γ) : Prop where
  get : ∀ {H : Type} (enc : TypeId × Value → H) (w : World) (base : Nat) (spare : Nat → Bool) (held : Bool) (n : Nat) (cs : List Value) (xs : List (DataW H × List MemPlace)),
    cs.length = tot → xs.length = fs.length → (∀ (i : Nat) (f : Field), fs[i]? = some f → DataW.trod enc P w base spare held n f.type ((cs.drop f.offset).take (P.cellsOf f.type)) = xs[i]?) →
    (∀ q ∈ DataW.weightsEach P (fs.map (·.type)) (xs.map (·.1)), q ≤ reachBytes) → ∃ y, r All w (cs.drop o) y
theorem fs_one {γ : Type} {P : Program} {f : Field} {o tot s : Nat} {r : Rd γ} (h1 : f.offset = o) (h2 : P.cellsOf f.type = s) (h3 : o + s = tot) (ho : Opens P f.type r) : OpensFs P [f] o tot r := by
  constructor
  intro H enc w base spare held n cs xs hcs hxs hx hq
  match xs, hxs with
  | [x], _ =>
    have e := hx 0 f rfl
    rw [h1, h2, List.take_of_length_le (by rw [List.length_drop]; omega)] at e
    exact ho.get enc w base spare held n _ x e fun q hq' => hq q (by simpa [DataW.weightsEach] using hq')
theorem fs_cons {α γ : Type} {P : Program} {f : Field} {fs : List Field} {o tot s : Nat} {r : Rd α} {q : Rd γ} (h1 : f.offset = o) (h2 : P.cellsOf f.type = s) (ho : Opens P f.type r) (hn : OpensFs P fs (o + s) tot q) : OpensFs P (f :: fs) o tot (Rd.pair r q) := by
  constructor
  intro H enc w base spare held n cs xs hcs hxs hx hq
  match xs, hxs with
  | x :: xs, hl =>
    have e := hx 0 f rfl
    rw [h1, h2] at e
    obtain ⟨y1, hy1⟩ := ho.get enc w base spare held n _ x e fun q hq' => hq q (by rw [List.map_cons, List.map_cons, DataW.weightsEach]; exact List.mem_append_left _ hq')
    obtain ⟨y2, hy2⟩ := hn.get enc w base spare held n cs xs hcs (by simpa using hl) (fun i g hg => by simpa using hx (i + 1) g (by simpa using hg)) fun q hq' => hq q (by rw [List.map_cons, List.map_cons, DataW.weightsEach]; exact List.mem_append_right _ hq')
    refine ⟨(y1, y2), _, _, ?_, hy1, hy2⟩
    rw [← List.drop_drop, List.take_append_drop]
theorem opens_struct {γ : Type} {P : Program} {t : TypeId} {fs : Array Field} {tot : Nat} {r : Rd γ} (ht : P.underlying t = some (.struct fs)) (hc : P.cellsOf t = tot) (ho : OpensFs P fs.toList 0 tot r) : Opens P t r := by
  constructor
  intro H enc w base spare held fuel cs x h hq
  obtain ⟨xs, n, _, rfl, hl, hxs, hx⟩ := DataW.trod_struct ht h
  obtain ⟨y, hy⟩ := ho.get enc w base spare held n cs xs (by omega) (by simpa using hxs) (fun i f hf => hx i f (by simpa using hf)) fun q hq' => hq q (by simpa [DataW.weights, ht] using hq')
  exact ⟨y, by simpa using hy⟩
end Go.Proofs.YthjcmcgmalnfpaaGreatDoor
/- Trees read out of memory; whatever came in, read, with its bulk. -/
namespace Go.Proofs.YthjcmcgmalnfpaaGreatDoor
open Go.RowKit
set_option linter.unusedVariables false
inductive DescV where
  | mk (kind n : Int) (kids : List DescV)
namespace DescV
def kind : DescV → Int | .mk k _ _ => k
def n : DescV → Int | .mk _ n _ => n
def kids : DescV → List DescV | .mk _ _ l => l
mutual
def nodes : DescV → Nat | .mk _ _ l => nodesL l + 1
def nodesL : List DescV → Nat | [] => 0 | d :: l => d.nodes + nodesL l
end
theorem nodesL_sum (l : List DescV) : nodesL l = (l.map nodes).sum := by
  induction l with
  | nil => rfl
  | cons d l ih => rw [nodesL, ih]; rfl
theorem nodes_kids (d : DescV) : d.nodes = nodesL d.kids + 1 := by cases d; rfl
theorem eta (d : DescV) : d = .mk d.kind d.n d.kids := by cases d; rfl
theorem nodesL_get {l : List DescV} {i : Nat} (h : i < l.length) : (l[i]).nodes ≤ nodesL l := by
  induction l generalizing i with
  | nil => simp at h
  | cons d l ih =>
    rw [nodesL]
    cases i with
    | zero => simp
    | succ i => have := ih (i := i) (by simpa using h); simp; omega
theorem nodes_pos (d : DescV) : 0 < d.nodes := by rw [nodes_kids]; omega
theorem nodesL_take_succ {l : List DescV} {i : Nat} (h : i < l.length) : nodesL (l.take (i + 1)) = nodesL (l.take i) + (l[i]).nodes := by
  rw [List.take_succ_eq_append_getElem h, nodesL_sum, nodesL_sum, List.map_append, List.sum_append]
  simp
theorem nodesL_take_le (l : List DescV) (i : Nat) : nodesL (l.take i) ≤ nodesL l := by
  induction l generalizing i with
  | nil => simp
  | cons d l ih =>
    cases i with
    | zero => simp [nodesL]
    | succ i => simp only [List.take_succ_cons, nodesL]; have := ih i; omega
end DescV
/-- A tree of at most so many floors, read. -/
def descRd : Nat → Rd DescV
  | 0 => fun _ _ _ _ => False
  | k + 1 => fun F w cs d => ∃ a n cap, cs = [.int .i64 d.kind, .int .i64 d.n, .slice a n cap] ∧ (Lit.int .i64 d.kind).wf = true ∧ (Lit.int .i64 d.n).wf = true ∧ RowOf (descRd k) 3 40 F w a n cap d.kids
theorem RowOf.imp {α : Type} {r q : Rd α} {size bytes : Nat} {F : Foot} {w : World} {a : Option Addr} {n cap : Nat} {xs : List α} (h : RowOf r size bytes F w a n cap xs) (k : ∀ cs x, r F w cs x → q F w cs x) : RowOf q size bytes F w a n cap xs := by
  refine ⟨h.len, h.le, h.max, h.room, h.nil, fun i x hx => ?_⟩
  obtain ⟨b, off, cs, h1, h2, h3, h4, h5, h6⟩ := h.at_ i x hx
  exact ⟨b, off, cs, h1, h2, h3, h4, h5, k _ _ h6⟩
theorem descRd_succ : ∀ (k : Nat) {F : Foot} {w : World} {cs : List Value} {d : DescV}, descRd k F w cs d → descRd (k + 1) F w cs d
  | 0, _, _, _, _, h => h.elim
  | k + 1, F, w, cs, d, ⟨a, n, cap, h1, h2, h3, h4⟩ => ⟨a, n, cap, h1, h2, h3, h4.imp fun _ _ h => descRd_succ k h⟩
theorem descRd_mono {k m : Nat} (h : k ≤ m) {F : Foot} {w : World} {cs : List Value} {d : DescV} (hd : descRd k F w cs d) : descRd m F w cs d := by
  obtain ⟨j, rfl⟩ := Nat.le.dest h
  clear h
  induction j with
  | zero => exact hd
  | succ j ih => exact descRd_succ _ ih
theorem descRd_ok : ∀ k, (descRd k).Ok 3
  | 0 => ⟨fun h => h.elim, fun h => h.elim, fun h => h.elim, fun h => h.elim⟩
  | k + 1 => by
    have ih := descRd_ok k
    exact ⟨fun ⟨_, _, _, h, _⟩ => by rw [h]; rfl, fun ⟨a, n, cap, h, h2, h3, h4⟩ hf => ⟨a, n, cap, h, h2, h3, h4.keep ih hf⟩, fun ⟨a, n, cap, h, h2, h3, h4⟩ hg => ⟨a, n, cap, h, h2, h3, h4.mono ih hg⟩,
      fun ⟨a, n, cap, h, _⟩ u hu => by rw [h] at hu; simp at hu; rcases hu with rfl | rfl | rfl <;> rfl⟩
/-! ### Whatever came in, with its bulk -/
abbrev mInt : Int → Nat := fun _ => 1
abbrev mStr : ByteArray → Nat := fun s => s.size + 1
abbrev mList {α : Type} (μ : α → Nat) : List α → Nat := fun l => (l.map μ).sum + 1
abbrev mPair {α β : Type} (μ : α → Nat) (ν : β → Nat) : α × β → Nat := fun x => μ x.1 + ν x.2
structure OB {α : Type} (P : Program) (t : TypeId) (r : Rd α) (μ : α → Nat) (N : Nat) : Prop where
  get : ∀ {H : Type} (enc : TypeId × Value → H) (w : World) (base : Nat) (spare : Nat → Bool) (held : Bool) (fuel : Nat) (cs : List Value) (x : DataW H × List MemPlace), fuel ≤ N →
    DataW.trod enc P w base spare held fuel t cs = some x → (∀ q ∈ DataW.weights P t x.1, q ≤ reachBytes) → ∃ y, r All w cs y ∧ μ y ≤ Rows.uptoBulk x.1
theorem OB.le {α : Type} {P : Program} {t : TypeId} {r : Rd α} {μ : α → Nat} {N M : Nat} (h : OB P t r μ N) (hm : M ≤ N) : OB P t r μ M :=
  ⟨fun enc w base spare held fuel cs x hf hx hq => h.get enc w base spare held fuel cs x (by omega) hx hq⟩
theorem OB.map {α β : Type} {P : Program} {t : TypeId} {r : Rd α} {q : Rd β} {μ : α → Nat} {ν : β → Nat} {N : Nat} (h : OB P t r μ N) (f : α → β) (hf : ∀ {w cs x}, r All w cs x → q All w cs (f x)) (hν : ∀ x, ν (f x) ≤ μ x) : OB P t q ν N := by
  refine ⟨fun enc w base spare held fuel cs x hl hx hq => ?_⟩
  obtain ⟨y, h1, h2⟩ := h.get enc w base spare held fuel cs x hl hx hq
  exact ⟨f y, hf h1, Nat.le_trans (hν y) h2⟩
theorem bulk_pos {H : Type} (d : DataW H) : 1 ≤ Rows.uptoBulk d := by
  cases d with
  | lit l => cases l <;> simp [Rows.uptoBulk]
  | _ => simp [Rows.uptoBulk]
theorem ob_int {P : Program} {t : TypeId} {k : IntKind} (ht : P.underlying t = some (.int k)) (N : Nat) : OB P t (Rd.int k) mInt N :=
  ⟨fun enc w base spare held fuel cs x _ hx hq => by
    obtain ⟨y, hy⟩ := (opens_int ht).get enc w base spare held fuel cs x hx hq
    exact ⟨y, hy, bulk_pos _⟩⟩
theorem ob_bool {P : Program} {t : TypeId} (ht : P.underlying t = some .bool) (N : Nat) : OB P t Rd.bool (fun _ => 1) N :=
  ⟨fun enc w base spare held fuel cs x _ hx hq => by
    obtain ⟨b, rfl, rfl⟩ := DataW.trod_bool ht hx
    exact ⟨b, rfl, bulk_pos _⟩⟩
theorem ob_str {P : Program} {t : TypeId} (ht : P.underlying t = some .string) (N : Nat) : OB P t Rd.str mStr N :=
  ⟨fun enc w base spare held fuel cs x _ hx hq => by
    obtain ⟨s, rfl, rfl, hw⟩ := DataW.trod_string ht hx
    have h2 : s.data.toList.length = s.size := by simp
    refine ⟨s, ⟨rfl, ?_⟩, ?_⟩
    · have := hq s.data.toList.length (by simp [DataW.weights])
      unfold reachBytes at this
      omega
    · simp [Rows.uptoBulk, h2]⟩
theorem bulkAll_eq {H : Type} (l : List (DataW H)) : Rows.uptoBulkAll l = (l.map Rows.uptoBulk).sum := by
  induction l with
  | nil => rfl
  | cons d l ih => rw [Rows.uptoBulkAll, ih]; rfl
theorem sum_le_sum {α β : Type} {f : α → Nat} {g : β → Nat} : ∀ {l : List α} {m : List β}, l.length = m.length → (∀ i (h : i < l.length) (k : i < m.length), f l[i] ≤ g m[i]) → (l.map f).sum ≤ (m.map g).sum
  | [], [], _, _ => Nat.le_refl _
  | x :: l, y :: m, hl, h => by
    have h0 := h 0 (by simp) (by simp)
    have := sum_le_sum (l := l) (m := m) (by simpa using hl) fun i a b => by have := h (i + 1) (by simpa using a) (by simpa using b); simpa only [List.getElem_cons_succ] using this
    simp only [List.map_cons, List.sum_cons]
    simp at h0
    omega
  | [], _ :: _, hl, _ => by simp at hl
  | _ :: _, [], hl, _ => by simp at hl
theorem ob_slice {α : Type} {P : Program} {t e : TypeId} {r : Rd α} {μ : α → Nat} {N size bytes : Nat} (ht : P.underlying t = some (.slice e)) (hs : P.cellsOf e = size) (hbt : P.bytesOf e = bytes) (h0 : 0 < size) (hr : r.Ok size) (ho : OB P e r μ N) :
    OB P t (Rd.slice r size bytes) (mList μ) (N + 1) := by
  refine ⟨fun {H} enc w base spare held fuel cs x hf h hq => ?_⟩
  rcases DataW.trod_slice ht h with ⟨rfl, rfl⟩ | ⟨a, n, cap, elems, rest, f, rfl, rfl, rfl, _, hl, hm, hen, hel, _, _⟩
  · exact ⟨[], ⟨none, 0, 0, rfl, RowOf.empty _ _ _ _ _⟩, by simp [Rows.uptoBulk, mList]⟩
  · have hw0 : (elems.length + rest.length) * P.bytesOf e ≤ reachBytes := by
      have := hq ((elems.length + rest.length) * P.bytesOf e) (by simp [DataW.weights, ht])
      exact this
    have each : ∀ i, i < n → ∃ y : α × List Value, w.cells? base (a.add (i * P.cellsOf e)) (P.cellsOf e) = some y.2 ∧ r All w y.2 y.1 ∧ ∀ z, elems[i]? = some z → μ y.1 ≤ Rows.uptoBulk z.1 := by
      intro i hi
      have hel' := hel i hi
      rw [List.getElem?_eq_getElem (by omega)] at hel'
      obtain ⟨cs', h1, h2⟩ := Option.bind_eq_some_iff.1 hel'
      obtain ⟨y, hy, hμ⟩ := ho.get enc w base spare held f cs' _ (by omega) h2 fun q hq' => hq q (by
        rw [DataW.weights, ht]
        refine List.mem_cons_of_mem _ (List.mem_append_left _ ?_)
        have : ∀ (l : List (DataW H)) (d : DataW H), d ∈ l → q ∈ DataW.weights P e d → q ∈ DataW.weightsAll P e l := by
          intro l
          induction l with
          | nil => intro d hd; simp at hd
          | cons z l ih =>
            intro d hd hqd
            rw [DataW.weightsAll, List.mem_append]
            rcases List.mem_cons.1 hd with rfl | hd
            · exact .inl hqd
            · exact .inr (ih d hd hqd)
        exact this _ _ (List.mem_map.2 ⟨_, List.getElem_mem (by omega), rfl⟩) hq')
      refine ⟨(y, cs'), h1, hy, fun z hz => ?_⟩
      rw [List.getElem?_eq_getElem (by omega)] at hz
      cases hz
      exact hμ
    obtain ⟨l, hl2, hg⟩ := list_choose n each
    refine ⟨l.map (·.1), ⟨some a, n, cap, rfl, by simpa using hl2, hl, hm, ?_, by simp, fun i x hx => ?_⟩, ?_⟩
    · rw [hbt] at hw0
      have : n * bytes ≤ (elems.length + rest.length) * bytes := Nat.mul_le_mul_right _ (by omega)
      unfold reachBytes at hw0
      omega
    · rw [List.getElem?_map, Option.map_eq_some_iff] at hx
      obtain ⟨g, hgi, rfl⟩ := hx
      obtain ⟨h1, h2, _⟩ := hg i g hgi
      rw [hs] at h1
      obtain ⟨_, hlen, hcell⟩ := World.cells?_some h1
      obtain ⟨b, off, spot⟩ := a
      obtain rfl : spot = none := by
        have h0l : 0 < l.length := by have := (List.getElem?_eq_some_iff.1 hgi).1; omega
        obtain ⟨k1, _⟩ := hg 0 _ (List.getElem?_eq_getElem h0l)
        rw [hs] at k1
        obtain ⟨_, klen, kcell⟩ := World.cells?_some k1
        have c0 := kcell 0 (by omega)
        rw [Deep.add_add] at c0
        have hsp := World.cell?_spot (c0.trans (List.getElem?_eq_getElem (by omega)))
        simpa [Addr.add] using hsp
      have hcc : ∀ j, j < size → w.cell? ⟨b, off + i * size + j, none⟩ = g.2[j]? := fun j hj => by
        have := hcell j hj
        rw [Deep.add_add, Addr.add_lit] at this
        rw [← this, Nat.add_assoc]
      refine ⟨b, off, g.2, rfl, ?_, trivial, hlen, fun j u hu => ?_, h2⟩
      · have := hcc 0 h0
        rw [List.getElem?_eq_getElem (by omega)] at this
        exact World.block_lt_of_cell? w _ this
      · rw [hcc j (by have := (List.getElem?_eq_some_iff.1 hu).1; omega)]
        exact hu
    · have := sum_le_sum (f := fun y : α × List Value => μ y.1) (g := fun z : DataW H × List MemPlace => Rows.uptoBulk z.1) (l := l) (m := elems) (by omega) fun i h1 h2 => (hg i _ (List.getElem?_eq_getElem h1)).2.2 _ (List.getElem?_eq_getElem h2)
      show ((l.map (·.1)).map μ).sum + 1 ≤ Rows.uptoBulk (.slice (elems.map (·.1)) (rest.map (·.1)))
      rw [Rows.uptoBulk, bulkAll_eq, List.map_map, List.map_map]
      show (l.map (fun y : α × List Value => μ y.1)).sum + 1 ≤ (elems.map (fun z : DataW H × List MemPlace => Rows.uptoBulk z.1)).sum + _ + 1
      omega
/-- The fields of a struct from cell o on. -/
structure OBFs {γ : Type} (P : Program) (fs : List Field) (o tot : Nat) (r : Rd γ) (μ : γ → Nat) (N : Nat) : Prop where
  get : ∀ {H : Type} (enc : TypeId × Value → H) (w : World) (base : Nat) (spare : Nat → Bool) (held : Bool) (n : Nat) (cs : List Value) (xs : List (DataW H × List MemPlace)), n ≤ N →
    cs.length = tot → xs.length = fs.length → (∀ (i : Nat) (f : Field), fs[i]? = some f → DataW.trod enc P w base spare held n f.type ((cs.drop f.offset).take (P.cellsOf f.type)) = xs[i]?) →
    (∀ q ∈ DataW.weightsEach P (fs.map (·.type)) (xs.map (·.1)), q ≤ reachBytes) → ∃ y, r All w (cs.drop o) y ∧ μ y ≤ Rows.uptoBulkAll (xs.map (·.1))
theorem obf_one {γ : Type} {P : Program} {f : Field} {o tot s N : Nat} {r : Rd γ} {μ : γ → Nat} (h1 : f.offset = o) (h2 : P.cellsOf f.type = s) (h3 : o + s = tot) (ho : OB P f.type r μ N) : OBFs P [f] o tot r μ N := by
  refine ⟨fun {H} enc w base spare held n cs xs hn hcs hxs hx hq => ?_⟩
  match xs, hxs with
  | [x], _ =>
    have e := hx 0 f rfl
    rw [h1, h2, List.take_of_length_le (by rw [List.length_drop]; omega)] at e
    obtain ⟨y, hy, hm⟩ := ho.get enc w base spare held n _ x hn e fun q hq' => hq q (by simpa [DataW.weightsEach] using hq')
    exact ⟨y, hy, by simpa [Rows.uptoBulkAll] using hm⟩
theorem obf_cons {α γ : Type} {P : Program} {f : Field} {fs : List Field} {o tot s N : Nat} {r : Rd α} {q : Rd γ} {μ : α → Nat} {ν : γ → Nat} (h1 : f.offset = o) (h2 : P.cellsOf f.type = s) (ho : OB P f.type r μ N) (hn : OBFs P fs (o + s) tot q ν N) : OBFs P (f :: fs) o tot (Rd.pair r q) (mPair μ ν) N := by
  refine ⟨fun {H} enc w base spare held n cs xs hN hcs hxs hx hq => ?_⟩
  match xs, hxs with
  | x :: xs, hl =>
    have e := hx 0 f rfl
    rw [h1, h2] at e
    obtain ⟨y1, hy1, hm1⟩ := ho.get enc w base spare held n _ x hN e fun q hq' => hq q (by rw [List.map_cons, List.map_cons, DataW.weightsEach]; exact List.mem_append_left _ hq')
    obtain ⟨y2, hy2, hm2⟩ := hn.get enc w base spare held n cs xs hN hcs (by simpa using hl) (fun i g hg => by simpa using hx (i + 1) g (by simpa using hg)) fun q hq' => hq q (by rw [List.map_cons, List.map_cons, DataW.weightsEach]; exact List.mem_append_right _ hq')
    refine ⟨(y1, y2), ⟨_, _, ?_, hy1, hy2⟩, ?_⟩
    · rw [← List.drop_drop, List.take_append_drop]
    · simp only [List.map_cons, Rows.uptoBulkAll]
      show μ y1 + ν y2 ≤ _
      omega
theorem ob_struct {γ : Type} {P : Program} {t : TypeId} {fs : Array Field} {tot N : Nat} {r : Rd γ} {μ : γ → Nat} (ht : P.underlying t = some (.struct fs)) (hc : P.cellsOf t = tot) (ho : OBFs P fs.toList 0 tot r μ N) : OB P t r (fun y => μ y + 1) (N + 1) := by
  refine ⟨fun {H} enc w base spare held fuel cs x hf h hq => ?_⟩
  obtain ⟨xs, n, rfl, rfl, hl, hxs, hx⟩ := DataW.trod_struct ht h
  obtain ⟨y, hy, hm⟩ := ho.get enc w base spare held n cs xs (by omega) (by omega) (by simpa using hxs) (fun i f hf => hx i f (by simpa using hf)) fun q hq' => hq q (by simpa [DataW.weights, ht] using hq')
  exact ⟨y, by simpa using hy, by simp only [Rows.uptoBulk]; omega⟩
theorem ob_desc : ∀ N, OB Tryz.prog 54 (descRd N) DescV.nodes N
  | 0 => ⟨fun enc w base spare held fuel cs x hf h _ => by
      obtain ⟨xs, n, rfl, _⟩ := DataW.trod_struct Tryz.underlying54 h
      omega⟩
  | N + 1 => by
    have ih := ob_desc N
    have hk : OB Tryz.prog 52 (Rd.slice (descRd N) 3 40) (mList DescV.nodes) N := (ob_slice Tryz.underlying52 (by kernel_rfl) (by kernel_rfl) (by omega) (descRd_ok N) ih).le (by omega)
    have hs := ob_struct (tot := 3) Tryz.underlying54 (by kernel_rfl) (obf_cons (s := 1) rfl (by kernel_rfl) (ob_int Tryz.underlying3 N) (obf_cons (s := 1) rfl (by kernel_rfl) (ob_int Tryz.underlying3 N) (obf_one (s := 1) rfl (by kernel_rfl) rfl hk)))
    refine hs.map (fun y => .mk y.1 y.2.1 y.2.2) ?_ ?_
    · rintro w cs ⟨k, n, l⟩ ⟨_, _, rfl, ⟨rfl, h1⟩, _, _, rfl, ⟨rfl, h2⟩, a, m, cap, rfl, h3⟩
      exact ⟨a, m, cap, rfl, h1, h2, h3⟩
    · rintro ⟨k, n, l⟩
      show DescV.nodesL l + 1 ≤ 1 + (1 + ((l.map DescV.nodes).sum + 1)) + 1
      rw [DescV.nodesL_sum]
      omega
end Go.Proofs.YthjcmcgmalnfpaaGreatDoor
/- A row of trees that grows: its own block, and those of its trees. -/
namespace Go.Proofs.YthjcmcgmalnfpaaGreatDoor
open Go.RowKit
set_option linter.unusedVariables false
/-- The blocks from B on. -/
abbrev From (B : Nat) : Foot := fun b => B ≤ b
/-- An append onto the call's own row; where the new row lies. -/
theorem wpl_append_at {P : Program} {w : World} {ops : Array Oper} {rest : List Oper} {o : Oper} {a : Act} {Q : Exit → Act → World → Prop} (hgd : o.guard = none) (s x : Operand) (t : TypeId)
    (ho : o.op = .call { callee := .builtin .append, args := #[s, x], argTypes := #[t, t] })
    {base : Nat} {e : TypeId} {size bytes : Nat} (E : Elem P t e size bytes)
    (v : Value) (n : Nat) (xs : List Value) (hs : a.eval s = v) (ad : Addr) (m c : Nat) (news : List Value) (hx : a.eval x = .slice (some ad) m c)
    (hown : w.ownsRow base e size v n xs) (hsrc : Src w (some ad) m c size news)
    (h63 : n + m ≤ maxLen) (hbytes : (n + m) * bytes ≤ 140737488355328) (hbase : base ≤ w.heap.size)
    (h : ∀ v' w', w'.ownsRow base e size v' (n + m) (xs ++ news) → w.grownBy w' v.ownBlock → (v'.ownBlock = v.ownBlock ∨ v'.ownBlock = some w.heap.size) → wpList P ops Q rest (a.put o.dst v') w') : wpList P ops Q (o :: rest) a w := by
  have hw : Region.wanted o (yielded ops a.tmps) = true := by simp [Region.wanted, hgd]
  simp only [wpList, hw, if_true]
  refine .inl ?_
  obtain ⟨z, hi, hzs⟩ := E.row
  obtain ⟨i, hi, hz0, hz1, hz2⟩ := info_parts hi
  obtain ⟨v', w', hr, h2, h3, h4, h5⟩ := run_append_own_at (P := P) w base t o.type e i z size bytes E.ht hi hz0 hz1 hz2 hzs E.pos v n xs hown ad m c news hsrc.len (hsrc.at_ ad rfl) hsrc.one h63 hbytes hbase
  unfold Oper.wp
  simp [execOp, ho, resolve, invoke, builtin, hs, hx, hr, Result.andThen]
  exact h v' w' h2 h3 h5
theorem descElemG : Elem Tryz.prog 52 54 3 40 := ⟨Tryz.underlying52, ⟨.agg #[.int .i64 0, .int .i64 0, .slice none 0 0], by kernel_rfl, rfl⟩, by omega⟩
/-- A row of the call's own, from block B on, that shows trees: these lie from B on too, and none in the row's block. -/
structure Trees (k B : Nat) (w : World) (v : Value) (l : List DescV) (xs : List Value) : Prop where
  row : w.ownsRow B 54 3 v l.length xs
  at_ : ∀ i d, l[i]? = some d → descRd k (fun b => B ≤ b ∧ some b ≠ v.ownBlock) w ((xs.drop (i * 3)).take 3) d
theorem Trees.nil (k B : Nat) (w : World) : Trees k B w (.slice none 0 0) [] [] := ⟨World.ownsRow_nil w _ _ _, fun i d h => by simp at h⟩
theorem Trees.below {k B : Nat} {w w' : World} {v : Value} {l : List DescV} {xs : List Value} (h : Trees k B w v l xs) (hb : Below w.heap.size w w') : Trees k B w' v l xs :=
  ⟨own_below h.row hb, fun i d hi => (descRd_ok k).keep (h.at_ i d hi) (Fix.of_below hb)⟩
theorem Trees.setCell {k B : Nat} {w : World} {v : Value} {l : List DescV} {xs : List Value} (h : Trees k B w v l xs) {a : Addr} (ha : a.block < B) (u : Value) : Trees k B (w.setCell a u) v l xs :=
  ⟨ownsRow_setCell_below h.row ha u, fun i d hi => (descRd_ok k).keep (h.at_ i d hi) (Fix.setCell w a u fun hf => by have := hf.1; omega)⟩
theorem Trees.add {k B : Nat} {w wm w3 : World} {v v' : Value} {l : List DescV} {xs cs : List Value} {d : DescV} (h : Trees k B w v l xs) (hB : B ≤ w.heap.size) (hb : Below w.heap.size w wm) (hd : descRd k (From w.heap.size) wm cs d)
    (ho : w3.ownsRow B 54 3 v' (l.length + 1) (xs ++ cs)) (hg : wm.grownBy w3 v.ownBlock) (hat : v'.ownBlock = v.ownBlock ∨ v'.ownBlock = some wm.heap.size) : Trees k B w3 v' (l ++ [d]) (xs ++ cs) := by
  have hl := h.row.1
  have hc := (descRd_ok k).len hd
  have hv : ∀ b, v.ownBlock = some b → b < w.heap.size := fun b hb => (h.row.lt b hb).2
  have hsz := hb.size
  have fx : Fix (fun b => some b ≠ v.ownBlock) wm w3 := .of_grown hg fun b _ hf => hf
  have nv : ∀ b, b < wm.heap.size → some b ≠ v.ownBlock → some b ≠ v'.ownBlock := fun b hb hn e => by
    rcases hat with h | h
    · exact hn (e.trans h)
    · rw [h] at e; cases e; omega
  refine ⟨by rw [List.length_append]; exact ho, fun i x hi => ?_⟩
  by_cases hlt : i < l.length
  · rw [List.getElem?_append_left hlt] at hi
    have g := (descRd_ok k).mono (G := fun b => (B ≤ b ∧ some b ≠ v.ownBlock) ∧ b < w.heap.size) (h.at_ i x hi) fun b hb hf => ⟨hf, hb⟩
    have g2 := (descRd_ok k).keep ((descRd_ok k).keep g (Fix.of_below hb)) (fx.mono fun b _ hf => hf.1.2)
    have g3 := (descRd_ok k).mono (G := fun b => B ≤ b ∧ some b ≠ v'.ownBlock) g2 fun b _ hf => ⟨hf.1.1, nv b (by omega) hf.1.2⟩
    have e : ((xs ++ cs).drop (i * 3)).take 3 = (xs.drop (i * 3)).take 3 := by
      rw [List.drop_append_of_le_length (by omega), List.take_append_of_le_length (by rw [List.length_drop]; omega)]
    rw [e]
    exact g3
  · rw [List.getElem?_append_right (by omega)] at hi
    have hi0 : i - l.length = 0 := by have := (List.getElem?_eq_some_iff.1 hi).1; simp at this; omega
    rw [hi0] at hi
    obtain rfl : d = x := by simpa using hi
    obtain rfl : i = l.length := by omega
    have hd' := (descRd_ok k).mono (G := fun b => w.heap.size ≤ b ∧ b < wm.heap.size) hd fun b hb hf => ⟨hf, hb⟩
    have g2 := (descRd_ok k).keep hd' (fx.mono fun b _ hf e => by have := hv b e.symm; omega)
    have g3 := (descRd_ok k).mono (G := fun b => B ≤ b ∧ some b ≠ v'.ownBlock) g2 fun b _ hf => ⟨by omega, nv b hf.2 fun e => by have := hv b e.symm; omega⟩
    have e : ((xs ++ cs).drop (l.length * 3)).take 3 = cs := by
      rw [List.drop_append, List.drop_of_length_le (by omega), List.nil_append, hl, Nat.sub_self, List.drop_zero, List.take_of_length_le (by omega)]
    rw [e]
    exact g3
theorem Trees.rowOf {k B : Nat} {w : World} {v : Value} {l : List DescV} {xs : List Value} (h : Trees k B w v l xs) (hroom : l.length * 40 ≤ 140737488351232) : ∃ a cap, v = .slice a l.length cap ∧ RowOf (descRd k) 3 40 (From B) w a l.length cap l :=
  RowOf.of_owns h.row (by omega) rfl hroom (fun b hb => own_lt h.row b hb) fun i x hx => by
    have g := h.at_ i x hx
    exact ⟨(descRd_ok k).len g, (descRd_ok k).mono g fun b _ hf => hf.1⟩
theorem Trees.slice {k B : Nat} {w : World} {v : Value} {l : List DescV} {xs : List Value} (h : Trees k B w v l xs) : ∃ a c, v = .slice a l.length c := by
  rcases h.row.2 with ⟨q1, q2⟩ | ⟨g, cap, cur, q1, _⟩
  · rw [q2]; exact ⟨_, _, q1⟩
  · exact ⟨_, _, q1⟩
theorem RowOf.desc {k : Nat} {F : Foot} {w : World} {a : Option Addr} {n cap : Nat} {l : List DescV} (h : RowOf (descRd (k + 1)) 3 40 F w a n cap l) (i : Nat) (hi : i < l.length) :
    ∃ b off ax nx cx, a = some ⟨b, off, none⟩ ∧ b < w.heap.size ∧ F b ∧ (Lit.int .i64 (l[i]).kind).wf = true ∧ (Lit.int .i64 (l[i]).n).wf = true ∧ RowOf (descRd k) 3 40 F w ax nx cx (l[i]).kids ∧
      w.cell? ⟨b, off + i * 3, none⟩ = some (.int .i64 (l[i]).kind) ∧ w.cell? ⟨b, off + i * 3 + 1, none⟩ = some (.int .i64 (l[i]).n) ∧ w.cell? ⟨b, off + i * 3 + 2, none⟩ = some (.slice ax nx cx) := by
  obtain ⟨b, off, cs, h1, h2, hf, _, h4, ax, nx, cx, rfl, g1, g2, g3⟩ := h.at_ i _ (List.getElem?_eq_getElem hi)
  exact ⟨b, off, ax, nx, cx, h1, h2, hf, g1, g2, g3, h4 0 _ rfl, h4 1 _ rfl, h4 2 _ rfl⟩
theorem row_no_zero {F : Foot} {w : World} {a : Option Addr} {n cap : Nat} {l : List DescV} (h : RowOf (descRd 0) 3 40 F w a n cap l) : l = [] := by
  cases l with
  | nil => rfl
  | cons d l =>
    obtain ⟨_, _, _, _, _, _, _, _, h5⟩ := h.at_ 0 d rfl
    exact h5.elim
theorem one3 {k n : Int} {a : Option Addr} {m c : Nat} : ∀ u ∈ [Value.int .i64 k, .int .i64 n, .slice a m c], u.oneCell' = true := by
  intro u hu
  simp only [List.mem_cons, List.not_mem_nil, or_false] at hu
  rcases hu with rfl | rfl | rfl <;> rfl
theorem src_new3 {w : World} (news : List Value) (e : TypeId) (n : Nat) (h : news.length = n) (h1 : ∀ u ∈ news, u.oneCell' = true) : Src (w.alloc (.cells news.toArray e)) (some ⟨w.heap.size, 0, none⟩) 1 1 n news := by
  refine ⟨by omega, by simp, fun x hx j u hu => ?_, h1⟩
  cases hx
  rw [Addr.add_lit]
  refine cell_at (heap_alloc_new w _) ?_
  simpa using hu
/-- An append in a region that draws its order; where the new row lies. -/
theorem step_appT {P : Program} {w : World} {ops : Array Oper} {o : Oper} {a : Act} {K : Act → World → Prop} {Q : Exit → Act → World → Prop} {E0 : Prop} (hgd : o.guard = none) (s x : Operand) (t : TypeId)
    (ho : o.op = .call { callee := .builtin .append, args := #[s, x], argTypes := #[t, t] })
    {base : Nat} {e : TypeId} {size bytes : Nat} (E : Elem P t e size bytes)
    (v : Value) (n : Nat) (xs : List Value) (hs : a.eval s = v) (ad : Addr) (m c : Nat) (news : List Value) (hx : a.eval x = .slice (some ad) m c)
    (hown : w.ownsRow base e size v n xs) (hsrc : Src w (some ad) m c size news)
    (h63 : n + m ≤ maxLen) (hbytes : (n + m) * bytes ≤ 140737488355328) (hbase : base ≤ w.heap.size)
    (h : ∀ v' w', w'.ownsRow base e size v' (n + m) (xs ++ news) → w.grownBy w' v.ownBlock → (v'.ownBlock = v.ownBlock ∨ v'.ownBlock = some w.heap.size) → K (a.put o.dst v') w') :
    if Region.wanted o (yielded ops a.tmps) = true then Oper.wp P o a w K Q else E0 := by
  have hw : Region.wanted o (yielded ops a.tmps) = true := by simp [Region.wanted, hgd]
  rw [if_pos hw]
  obtain ⟨z, hi, hzs⟩ := E.row
  obtain ⟨i, hi, hz0, hz1, hz2⟩ := info_parts hi
  obtain ⟨v', w', hr, h2, h3, h4, h5⟩ := run_append_own_at (P := P) w base t o.type e i z size bytes E.ht hi hz0 hz1 hz2 hzs E.pos v n xs hown ad m c news hsrc.len (hsrc.at_ ad rfl) hsrc.one h63 hbytes hbase
  unfold Oper.wp
  simp [execOp, ho, resolve, invoke, builtin, hs, hx, hr, Result.andThen]
  exact h v' w' h2 h3 h5
end Go.Proofs.YthjcmcgmalnfpaaGreatDoor
/- The nodes of a tree, counted by the reference. -/
namespace Go.Proofs.YthjcmcgmalnfpaaGreatDoor
open Go.RowKit
set_option linter.unusedSimpArgs false
set_option linter.unusedVariables false
theorem own_down {w : World} {B B' : Nat} {e : TypeId} {size : Nat} {v : Value} {n : Nat} {xs : List Value} (h : w.ownsRow B e size v n xs) (hb : B' ≤ B) : w.ownsRow B' e size v n xs := by
  refine ⟨h.1, ?_⟩
  rcases h.2 with hn | ⟨g, cap, cur, rfl, hbg, rest⟩
  · exact .inl hn
  · exact .inr ⟨g, cap, cur, rfl, Nat.le_trans hb hbg, rest⟩
theorem own_src {w : World} {B : Nat} {e : TypeId} {size : Nat} {a : Option Addr} {n cap : Nat} {xs : List Value} (h : w.ownsRow B e size (.slice a n cap) n xs) (h1 : ∀ u ∈ xs, u.oneCell' = true) : Src w a n cap size xs := by
  rcases h.2 with ⟨hv, hx⟩ | ⟨g, cap', cur, hv, hb, hg, hn, hm, hs, ht⟩
  · cases hv
    exact ⟨h.1, fun _ => ⟨rfl, rfl⟩, fun x hx => by simp at hx, h1⟩
  · cases hv
    refine ⟨h.1, by simp, fun x hx j u hu => ?_, h1⟩
    cases hx
    exact h.cells (g := g) rfl _ u hu
theorem own_val {w : World} {base : Nat} {e : TypeId} {size n : Nat} {v : Value} {xs : List Value} (h : w.ownsRow base e size v n xs) : ∃ a c, v = .slice a n c := by
  rcases h.2 with ⟨rfl, rfl⟩ | ⟨g, cap, cur, rfl, _⟩
  · exact ⟨_, _, rfl⟩
  · exact ⟨_, _, rfl⟩
theorem descElem : Elem Tryz.prog 52 54 3 40 := ⟨Tryz.underlying52, ⟨.agg #[.int .i64 0, .int .i64 0, .slice none 0 0], by kernel_rfl, rfl⟩, by omega⟩
/-- The kinds and sizes of nodes, in order, in a row's cells. -/
def Heads : List Value → List (Int × Int) → Prop
  | xs, [] => xs = []
  | xs, p :: ps => ∃ a n c r, xs = .int .i64 p.1 :: .int .i64 p.2 :: .slice a n c :: r ∧ Heads r ps
theorem Heads.append : ∀ {xs ys : List Value} {ps qs : List (Int × Int)}, Heads xs ps → Heads ys qs → Heads (xs ++ ys) (ps ++ qs)
  | xs, ys, [], qs, h, k => by rw [show xs = [] from h]; exact k
  | xs, ys, p :: ps, qs, ⟨a, n, c, r, e, h⟩, k => ⟨a, n, c, r ++ ys, by rw [e]; rfl, h.append k⟩
theorem Heads.get : ∀ {xs : List Value} {ps : List (Int × Int)} {i : Nat} {p : Int × Int}, Heads xs ps → ps[i]? = some p → xs[i * 3]? = some (.int .i64 p.1) ∧ xs[i * 3 + 1]? = some (.int .i64 p.2)
  | xs, [], i, p, _, h => by simp at h
  | xs, q :: ps, 0, p, ⟨a, n, c, r, e, hr⟩, h => by
    obtain rfl : q = p := by simpa using h
    subst e
    exact ⟨rfl, rfl⟩
  | xs, q :: ps, i + 1, p, ⟨a, n, c, r, e, hr⟩, h => by
    subst e
    have := hr.get (i := i) (p := p) (by simpa using h)
    rw [Nat.add_mul]
    exact this
namespace DescV
mutual
def heads : DescV → List (Int × Int) | .mk k n l => (k, n) :: headsL l
def headsL : List DescV → List (Int × Int) | [] => [] | d :: l => d.heads ++ headsL l
end
mutual
theorem heads_len : ∀ d : DescV, d.heads.length = d.nodes
  | .mk _ _ l => by rw [heads, nodes, List.length_cons, headsL_len l]
theorem headsL_len : ∀ l : List DescV, (headsL l).length = nodesL l
  | [] => rfl
  | d :: l => by rw [headsL, nodesL, List.length_append, heads_len d, headsL_len l]
end
theorem headsL_snoc (l : List DescV) (d : DescV) : headsL (l ++ [d]) = headsL l ++ d.heads := by
  induction l with
  | nil => simp [headsL]
  | cons a l ih => rw [List.cons_append, headsL, ih, headsL, List.append_assoc]
end DescV
def ListPost (m : Nat) (ps : List (Int × Int)) (w : World) (e : Ending) (w' : World) : Prop := ∃ a cap xs, e = .returned (.slice a m cap) ∧ w'.ownsRow w.heap.size 54 3 (.slice a m cap) m xs ∧ (∀ u ∈ xs, u.oneCell' = true) ∧ Heads xs ps ∧ Below w.heap.size w w'
set_option maxRecDepth 100000 in
set_option maxHeartbeats 4000000 in
theorem list_step (k : Nat) (ih : ∀ j, k = j + 1 → ∀ (F : Foot) (kd nd : Int) (l : List DescV) (a : Option Addr) (n cap : Nat) (w : World), RowOf (descRd j) 3 40 F w a n cap l → DescV.nodesL l < 1048576 →
    Calls Tryz.prog 21 #[.agg #[.int .i64 kd, .int .i64 nd, .slice a n cap]] w (ListPost (1 + DescV.nodesL l) ((kd, nd) :: DescV.headsL l) w)) (F : Foot) (kd nd : Int) (l : List DescV) (a : Option Addr) (n cap : Nat) (w : World) (hl : RowOf (descRd k) 3 40 F w a n cap l) (hm : DescV.nodesL l < 1048576) :
    Calls Tryz.prog 21 #[.agg #[.int .i64 kd, .int .i64 nd, .slice a n cap]] w (ListPost (1 + DescV.nodesL l) ((kd, nd) :: DescV.headsL l) w) := by
  have HL := Lib.hid hl.len
  have hn := hl.room
  have HM := Lib.hid hm
  have HIH := Lib.hid ih
  obtain ⟨W0, hW0⟩ : ∃ W0, W0 = w.alloc (.cells #[.int .i64 kd, .int .i64 nd, .slice a n cap] 54) := ⟨_, rfl⟩
  obtain ⟨W1, hW1⟩ : ∃ W1, W1 = W0.alloc (.cells #[.int .i64 kd, .int .i64 nd, .slice a n cap] 54) := ⟨_, rfl⟩
  have hb0 : Below w.heap.size w W0 := by rw [hW0]; exact (Below.refl _ _).alloc (Nat.le_refl _) _
  have hz0 : W0.heap.size = w.heap.size + 1 := by rw [hW0]; simp
  have hb1 : Below W0.heap.size W0 W1 := by rw [hW1]; exact (Below.refl _ _).alloc (Nat.le_refl _) _
  have g0 : W0.heap[w.heap.size]? = some (.cells #[.int .i64 kd, .int .i64 nd, .slice a n cap] 54 (0, 0)) := by rw [hW0]; exact heap_alloc_new w _
  have t2 := cell_at (o := 2) g0 rfl
  have HT2 := Lib.hid t2
  have ho1 : W1.ownsRow W0.heap.size 54 3 (.slice (some ⟨W0.heap.size, 0, none⟩) 1 1) 1 [.int .i64 kd, .int .i64 nd, .slice a n cap] := by
    rw [hW1]
    exact ⟨rfl, .inr ⟨W0.heap.size, 1, _, rfl, Nat.le_refl _, heap_alloc_new W0 _, Nat.le_refl _, by unfold maxLen; omega, rfl, rfl⟩⟩
  have HO1 := Lib.hid ho1
  have HL0 := Lib.hid (hl.keep (descRd_ok _) (Fix.of_below hb0))
  have HB0 := Lib.hid hb0
  have HB1 := Lib.hid hb1
  have HZ := Lib.hid hz0
  clear hl hm ih hb0 hb1 g0 ho1
  go_enter Tryz.func21, Tryz.ntmps21
  go_wp2_with fail
  rw [← hW0, ← hz0, ← hW1]
  clear hW0 hW1 hz0
  go_loopg [3, 4] n (fun g v iv wr => ∃ i : Nat, i ≤ n ∧ g = n - i ∧ iv = .int .i64 i ∧ (∃ xs, wr.ownsRow W0.heap.size 54 3 v (1 + DescV.nodesL (l.take i)) xs ∧ (∀ u ∈ xs, u.oneCell' = true) ∧ Heads xs ((kd, nd) :: DescV.headsL (l.take i))) ∧ Below W0.heap.size W0 wr)
  case atStart => exact ⟨0, by omega, rfl, rfl, ⟨_, HO1.out, one3, ⟨_, _, _, [], rfl, rfl⟩⟩, HB1.out⟩
  case round =>
    obtain ⟨i, hi, rfl, rfl, ⟨xs, ho, hone, hhd⟩, hB⟩ := hrel
    obtain ⟨wo, rfl⟩ : ∃ wo : World, wo = wr := ⟨_, rfl⟩
    obtain ⟨av, cv, rfl⟩ := own_val ho
    have HO := Lib.hid ho
    have HONE := Lib.hid hone
    have HHD := Lib.hid hhd
    have HBo := Lib.hid hB
    have b2 : wo.cell? ⟨w.heap.size, 2, none⟩ = _ := (hB.cell (p := ⟨w.heap.size, 2, none⟩) (by have := HZ.out; show w.heap.size < _; omega)).trans HT2.out
    clear ho hone hB t2 hhd
    by_cases hlt : i < n
    · obtain ⟨k, rfl⟩ : ∃ j, k = j + 1 := by
        cases k with
        | zero => exact absurd (row_no_zero HL0.out) (fun e => by have := HL.out; rw [e] at this; simp at this; omega)
        | succ j => exact ⟨j, rfl⟩
      obtain ⟨b, off, ax, nx, cx, rfl, hbw, _, _, _, hk, p0, p1, p2⟩ := (HL0.out.keep (descRd_ok _) (Fix.of_below HBo.out)).desc i (by have := HL.out; omega)
      have HTK := Lib.hid (List.take_succ_eq_append_getElem (l := l) (i := i) (by have := HL.out; omega))
      have HSUM := Lib.hid (DescV.nodesL_take_succ (l := l) (i := i) (by have := HL.out; omega))
      have HLE := Lib.hid (DescV.nodesL_take_le l (i + 1))
      have HNK := Lib.hid (DescV.nodes_kids (l[i]'(by have := HL.out; omega)))
      generalize l[i]'_ = d at *
      obtain ⟨dk, dn, dl⟩ := d
      simp only [DescV.kind, DescV.n, DescV.kids] at p0 p1 p2 hk
      have HNK' : Hid ((DescV.mk dk dn dl).nodes = DescV.nodesL dl + 1) := HNK
      have HK := Lib.hid hk
      clear hk
      go_wp2_with fail
      refine (HIH.out k rfl F dk dn dl ax nx cx _ HK.out (by have := HM.out; have := HSUM.out; have := HLE.out; have := HNK'.out; omega)).mono ?_
      rintro e w2 ⟨a2, c2, xs2, rfl, ho2, hone2, hhd2, hb2⟩
      have HO2 := Lib.hid ho2
      have HONE2 := Lib.hid hone2
      have HHD2 := Lib.hid hhd2
      have HB2 := Lib.hid hb2
      clear ho2 hone2 hb2 hhd2
      go_wp2_with (at_builtin; refine wpl_append rfl _ _ 52 rfl descElem _ _ _ rfl _ _ _ _ rfl (own_below HO.out HB2.out) (own_src HO2.out HONE2.out) (by unfold maxLen; have := HM.out; have := HSUM.out; have := HLE.out; have := HNK'.out; omega) (by have := HM.out; have := HSUM.out; have := HLE.out; have := HNK'.out; omega) (by have := HBo.out.size; have := HB2.out.size; omega) ?_; intro v' w3 ho3 hg3 _)
      have HB3 : Hid (Below W0.heap.size W0 w3) := Lib.hid ((HBo.out.trans (HB2.out.mono HBo.out.size)).grown hg3 (by have := HBo.out.size; have := HB2.out.size; omega) (fun q hq => own_lt HO.out q hq))
      have HO3 := Lib.hid ho3
      clear ho3 hg3
      go_wp2_with fail
      go_roundg (n - (i + 1))
      case measure => omega
      case rel =>
        refine ⟨i + 1, by omega, rfl, by go_num, ⟨xs ++ xs2, ?_, ?_, ?_⟩, HB3.out⟩
        · have h3 := HO3.out
          rw [show 1 + DescV.nodesL (l.take i) + (1 + DescV.nodesL dl) = 1 + DescV.nodesL (l.take (i + 1)) by rw [HSUM.out, HNK'.out]; omega] at h3
          exact h3
        · intro u hu
          rcases List.mem_append.1 hu with hu | hu
          · exact HONE.out u hu
          · exact HONE2.out u hu
        · rw [HTK.out, DescV.headsL_snoc, ← List.cons_append]
          exact HHD.out.append HHD2.out
    · obtain rfl : i = n := by omega
      rw [List.take_of_length_le (by have := HL.out; omega)] at HO HHD ⊢
      clear b2
      have b2 : wo.cell? ⟨w.heap.size, 2, none⟩ = _ := (HBo.out.cell (p := ⟨w.heap.size, 2, none⟩) (by have := HZ.out; show w.heap.size < _; omega)).trans HT2.out
      go_wp2_with fail
      go_ret
      exact ⟨_, _, _, rfl, own_down HO.out HB0.out.size, HONE.out, HHD.out, HB0.out.trans (HBo.out.mono HB0.out.size)⟩
theorem list_any : ∀ (k : Nat) (F : Foot) (kd nd : Int) (l : List DescV) (a : Option Addr) (n cap : Nat) (w : World), RowOf (descRd k) 3 40 F w a n cap l → DescV.nodesL l < 1048576 →
    Calls Tryz.prog 21 #[.agg #[.int .i64 kd, .int .i64 nd, .slice a n cap]] w (ListPost (1 + DescV.nodesL l) ((kd, nd) :: DescV.headsL l) w)
  | 0 => list_step 0 fun j h => by omega
  | k + 1 => list_step (k + 1) fun j h => by
    obtain rfl : k = j := by omega
    exact list_any k
set_option maxRecDepth 100000 in
set_option maxHeartbeats 1000000 in
/-- More nodes than statements ask? -/
theorem much_any (k : Nat) (F : Foot) (kd nd : Int) (l : List DescV) (a : Option Addr) (n cap : Nat) (w : World) (hl : RowOf (descRd k) 3 40 F w a n cap l) (hm : DescV.nodesL l < 1048576) :
    Calls Tryz.prog 11 #[.agg #[.int .i64 kd, .int .i64 nd, .slice a n cap]] w fun e w' => e = .returned (.bool (decide (80 < (DescV.mk kd nd l).nodes))) ∧ Below w.heap.size w w' := by
  have hb : Below w.heap.size w (w.alloc (.cells #[.int .i64 kd, .int .i64 nd, .slice a n cap] 54)) := (Below.refl _ _).alloc (Nat.le_refl _) _
  have HL := Lib.hid (hl.keep (descRd_ok _) (Fix.of_below hb))
  have HB := Lib.hid hb
  have HM := Lib.hid hm
  have HN : Hid ((DescV.mk kd nd l).nodes = DescV.nodesL l + 1) := Lib.hid (DescV.nodes_kids _)
  clear hl hb hm
  by_cases hg : 79 < DescV.nodesL l
  · have HT : Hid (decide (80 < (DescV.mk kd nd l).nodes) = true) := Lib.hid (by simp only [decide_eq_true_eq]; have := HN.out; omega)
    go_enter Tryz.func11, Tryz.ntmps11
    go_wp2_with (go_at_call 21; (with_reducible refine (list_any k F kd nd l a n cap _ HL.out HM.out).mono ?_); rintro e w2 ⟨a2, c2, xs2, rfl, _, _, _, hb2⟩; have HB2 := Lib.hid (HB.out.trans (hb2.mono HB.out.size)); clear hb2; have hgt : (80 : Int) < ((1 + DescV.nodesL l : Nat) : Int) := (by omega); have hgt' : 80 < 1 + DescV.nodesL l := (by omega))
    go_ret
    exact ⟨by rw [HT.out]; simp; omega, HB2.out⟩
  · have HT : Hid (decide (80 < (DescV.mk kd nd l).nodes) = false) := Lib.hid (by simp only [decide_eq_false_iff_not]; have := HN.out; omega)
    go_enter Tryz.func11, Tryz.ntmps11
    go_wp2_with (go_at_call 21; (with_reducible refine (list_any k F kd nd l a n cap _ HL.out HM.out).mono ?_); rintro e w2 ⟨a2, c2, xs2, rfl, _, _, _, hb2⟩; have HB2 := Lib.hid (HB.out.trans (hb2.mono HB.out.size)); clear hb2; have hgt : ¬ (80 : Int) < ((1 + DescV.nodesL l : Nat) : Int) := (by omega); have hgt' : ¬ 80 < 1 + DescV.nodesL l := (by omega))
    go_ret
    exact ⟨by rw [HT.out]; simp; omega, HB2.out⟩
end Go.Proofs.YthjcmcgmalnfpaaGreatDoor
/- desc.Clone: a tree of its own. -/
namespace Go.Proofs.YthjcmcgmalnfpaaGreatDoor
open Go.RowKit
set_option linter.unusedSimpArgs false
set_option linter.unusedVariables false
def ClonePost (k : Nat) (kd nd : Int) (n : Nat) (l : List DescV) (w : World) (e : Ending) (w' : World) : Prop :=
  ∃ a c, e = .returned (.agg #[.int .i64 kd, .int .i64 nd, .slice a n c]) ∧ RowOf (descRd k) 3 40 (From w.heap.size) w' a n c l ∧ Below w.heap.size w w'
/-- Between two rounds: the first i kids are cloned. -/
structure ClS (k : Nat) (kd nd : Int) (l : List DescV) (w : World) (i : Nat) (v : Value) (xs : List Value) (wr : World) : Prop where
  box : wr.heap[w.heap.size + 1 + 1]? = some (.cells #[.int .i64 kd, .int .i64 nd, v] 54 (0, 0))
  res : wr.heap[w.heap.size + 1]? = some (.cells #[.int .i64 0, .int .i64 0, .slice none 0 0] 54 (0, 0))
  row : Trees k (w.heap.size + 3) wr v (l.take i) xs
  below : Below w.heap.size w wr
  size : w.heap.size + 3 ≤ wr.heap.size
set_option maxRecDepth 100000 in
set_option maxHeartbeats 4000000 in
theorem clone_step (k : Nat) (ih : ∀ j, k = j + 1 → ∀ (F : Foot) (kd nd : Int) (l : List DescV) (a : Option Addr) (n cap : Nat) (w : World), RowOf (descRd j) 3 40 F w a n cap l →
    Calls Tryz.prog 43 #[.agg #[.int .i64 kd, .int .i64 nd, .slice a n cap]] w (ClonePost j kd nd n l w)) (F : Foot) (kd nd : Int) (l : List DescV) (a : Option Addr) (n cap : Nat) (w : World) (hl : RowOf (descRd k) 3 40 F w a n cap l) :
    Calls Tryz.prog 43 #[.agg #[.int .i64 kd, .int .i64 nd, .slice a n cap]] w (ClonePost k kd nd n l w) := by
  have HLN := Lib.hid hl.len
  have HRM := Lib.hid hl.room
  have hn : n ≤ 3518437208880 := by have := hl.room; omega
  have HL := Lib.hid hl
  have HIH := Lib.hid ih
  clear hl ih
  have HS0 : Hid (ClS k kd nd l w 0 (.slice none 0 0) [] (((w.alloc (.cells #[.int .i64 kd, .int .i64 nd, .slice a n cap] 54)).alloc (.cells #[.int .i64 0, .int .i64 0, .slice none 0 0] 54)).alloc (.cells #[.int .i64 kd, .int .i64 nd, .slice none 0 0] 54))) := Lib.hid (by
    refine ⟨?_, ?_, Trees.nil _ _ _, (((Below.refl _ _).alloc (Nat.le_refl _) _).alloc (by simp) _).alloc (by simp; omega) _, by simp⟩
    · have h2 := heap_alloc_new ((w.alloc (.cells #[.int .i64 kd, .int .i64 nd, .slice a n cap] 54)).alloc (.cells #[.int .i64 0, .int .i64 0, .slice none 0 0] 54)) (.cells #[.int .i64 kd, .int .i64 nd, .slice none 0 0] 54)
      rw [show ((w.alloc (.cells #[.int .i64 kd, .int .i64 nd, .slice a n cap] 54)).alloc (.cells #[.int .i64 0, .int .i64 0, .slice none 0 0] 54)).heap.size = w.heap.size + 1 + 1 by simp] at h2
      exact h2
    · rw [Lib.alloc_old _ _ _ (by simp)]
      have h2 := heap_alloc_new (w.alloc (.cells #[.int .i64 kd, .int .i64 nd, .slice a n cap] 54)) (.cells #[.int .i64 0, .int .i64 0, .slice none 0 0] 54)
      rw [show (w.alloc (.cells #[.int .i64 kd, .int .i64 nd, .slice a n cap] 54)).heap.size = w.heap.size + 1 by simp] at h2
      exact h2)
  go_enter Tryz.func43, Tryz.ntmps43
  go_wp2_with fail
  go_loopg [14] n (fun g iv wr => ∃ (i : Nat) (v : Value) (xs : List Value), i ≤ n ∧ g = n - i ∧ iv = .int .i64 i ∧ ClS k kd nd l w i v xs wr)
  case atStart => exact ⟨0, _, _, by omega, rfl, rfl, HS0.out⟩
  case round =>
    obtain ⟨i, v, xs, hi, rfl, rfl, hst⟩ := hrel
    obtain ⟨wo, rfl⟩ : ∃ wo : World, wo = wr := ⟨_, rfl⟩
    have HST := Lib.hid hst
    have hzo := hst.size
    have hz2 : w.heap.size + 1 + 1 < wo.heap.size := by omega
    have HSL := Lib.hid hst.row.slice
    by_cases hlt : i < n
    · obtain ⟨k, rfl⟩ : ∃ j, k = j + 1 := by
        cases k with
        | zero => exact absurd (row_no_zero HL.out) (fun e => by have := HLN.out; rw [e] at this; simp at this; omega)
        | succ j => exact ⟨j, rfl⟩
      have hil : i < l.length := by have := HLN.out; omega
      obtain ⟨b, off, ax, nx, cx, rfl, hbw, _, wk, wn, hk, p0, p1, p2⟩ := (HL.out.keep (descRd_ok _) (Fix.of_below hst.below)).desc i hil
      have HTK := Lib.hid (List.take_succ_eq_append_getElem hil)
      generalize l[i]'hil = d at *
      obtain ⟨dk, dn, dl⟩ := d
      simp only [DescV.kind, DescV.n, DescV.kids] at p0 p1 p2 hk wk wn
      have HK := Lib.hid hk
      have HWK := Lib.hid wk
      have HWN := Lib.hid wn
      have HBX := Lib.hid hst.box
      clear hk hst wk wn
      go_wp2_with fail
      obtain ⟨W4, hW4⟩ : ∃ W4, W4 = wo.alloc (.cells #[.int .i64 dk, .int .i64 dn, .slice ax nx cx] 54) := ⟨_, rfl⟩
      have hb4 : Below wo.heap.size wo W4 := by rw [hW4]; exact (Below.refl _ _).alloc (Nat.le_refl _) _
      have g4 : W4.heap[wo.heap.size]? = some (.cells #[.int .i64 dk, .int .i64 dn, .slice ax nx cx] 54 (0, 0)) := by rw [hW4]; exact heap_alloc_new wo _
      have hz4 : W4.heap.size = wo.heap.size + 1 := by rw [hW4]; simp
      have HB4 := Lib.hid hb4
      have HSS : Hid (∀ W, Below W4.heap.size W4 W → W.cell? ⟨w.heap.size + 1 + 1, 2, none⟩ = some v ∧ W.cell? ⟨wo.heap.size, 0, none⟩ = some (.int .i64 dk) ∧ W.cell? ⟨wo.heap.size, 1, none⟩ = some (.int .i64 dn) ∧ W.cell? ⟨wo.heap.size, 2, none⟩ = some (.slice ax nx cx)) := Lib.hid fun W hb => by
        have g := (hb.block _ (by omega)).trans g4
        have gx := (hb.block (w.heap.size + 1 + 1) (by omega)).trans ((hb4.block _ hz2).trans HBX.out)
        exact ⟨cell_at gx rfl, cell_at g rfl, cell_at g rfl, cell_at g rfl⟩
      have hbz := Below.refl W4.heap.size W4
      have HT0 := Lib.hid (HSS.out W4.drew hbz.drew)
      have HK4 := Lib.hid (HK.out.keep (descRd_ok _) (Fix.of_below (hb4.drew)))
      rw [← hW4]
      clear hW4 p0 p1 p2
      refine Lex.wp_region_z (fun W => W.cell? ⟨w.heap.size + 1 + 1, 2, none⟩ = some v ∧ W.cell? ⟨wo.heap.size, 0, none⟩ = some (.int .i64 dk) ∧ W.cell? ⟨wo.heap.size, 1, none⟩ = some (.int .i64 dn) ∧ W.cell? ⟨wo.heap.size, 2, none⟩ = some (.slice ax nx cx)) 7 (by kernel_rfl) ?_
      change Lex.wpZ _ _ _ _ _ _ 8 #[false, false, false, false, false, false, false, false] _ W4.drew
      (refine Lex.wpZ_take (i := 0) (v := ?_) rfl (by kernel_rfl) (by kernel_rfl) (by kernel_rfl) (by kernel_rfl) (fun _ _ _ h => h) HT0.out (Or.inl ⟨by rfl, ?_⟩) ?_; rotate_left 1; (focus (intro w0 hw0; (try dsimp only at hw0); obtain ⟨s0, s1, s2, s3⟩ := hw0; go_simp; try with_reducible rfl)); simp only [Act.put, List.getElem_toArray, List.getElem_cons_zero, List.getElem_cons_succ, List.setIfInBounds_toArray, List.set_cons_zero, List.set_cons_succ])
      (refine Lex.wpZ_take (i := 1) (v := ?_) rfl (by kernel_rfl) (by kernel_rfl) (by kernel_rfl) (by kernel_rfl) (fun _ _ _ h => h) HT0.out (Or.inl ⟨by rfl, ?_⟩) ?_; rotate_left 1; (focus (intro w0 hw0; (try dsimp only at hw0); obtain ⟨s0, s1, s2, s3⟩ := hw0; go_simp; try with_reducible rfl)); simp only [Act.put, List.getElem_toArray, List.getElem_cons_zero, List.getElem_cons_succ, List.setIfInBounds_toArray, List.set_cons_zero, List.set_cons_succ])
      (refine Lex.wpZ_take (i := 2) (v := ?_) rfl (by kernel_rfl) (by kernel_rfl) (by kernel_rfl) (by kernel_rfl) (fun _ _ _ h => h) HT0.out (Or.inl ⟨by rfl, ?_⟩) ?_; rotate_left 1; (focus (intro w0 hw0; (try dsimp only at hw0); obtain ⟨s0, s1, s2, s3⟩ := hw0; go_simp; try with_reducible rfl)); simp only [Act.put, List.getElem_toArray, List.getElem_cons_zero, List.getElem_cons_succ, List.setIfInBounds_toArray, List.set_cons_zero, List.set_cons_succ])
      refine Lex.wpZ_ready (rs := [3]) (by kernel_rfl) (by simp) ?_
      refine Lex.ReadyZ.cons rfl (fun K hK => ?_) Lex.ReadyZ.nil
      go_simp
      refine (HIH.out k rfl F dk dn dl ax nx cx _ HK4.out).mono ?_
      rintro e w5 ⟨a5, c5, rfl, hr5, hb5⟩
      have hb5z : Below W4.heap.size W4 w5 := hbz.drew.trans hb5
      have HT5 := Lib.hid (HSS.out w5 hb5z)
      have HR5 := Lib.hid hr5
      refine hK.out _ _ (.inr HT5.out) ?_
      clear hK K hb5 hr5
      try simp only [Act.put, List.getElem_toArray, List.getElem_cons_zero, List.getElem_cons_succ, List.setIfInBounds_toArray, List.set_cons_zero, List.set_cons_succ]
      refine Lex.wpZ_ready (rs := [4]) (by kernel_rfl) (by simp) ?_
      refine Lex.ReadyZ.cons rfl (fun K hK => ?_) Lex.ReadyZ.nil
      go_simp
      obtain ⟨w6, hw6⟩ : ∃ w6, w6 = w5.alloc (.cells #[.int .i64 dk, .int .i64 dn, .slice a5 nx c5] 54) := ⟨_, rfl⟩
      have hb6 : Below w5.heap.size w5 w6 := by rw [hw6]; exact (Below.refl _ _).alloc (Nat.le_refl _) _
      have hb6z : Below W4.heap.size W4 w6 := hb5z.trans (hb6.mono hb5z.size)
      have hsrc : Src w6 (some ⟨w5.heap.size, 0, none⟩) 1 1 3 [.int .i64 dk, .int .i64 dn, .slice a5 nx c5] := by rw [hw6]; exact src_new3 _ 54 3 rfl one3
      have HT6 := Lib.hid (HSS.out w6 hb6z)
      have HSRC := Lib.hid hsrc
      have hB6 : Below wo.heap.size wo w6 := HB4.out.trans (hb6z.mono HB4.out.size)
      have HB6 := Lib.hid hB6
      have HRW := Lib.hid (own_below HST.out.row.row hB6)
      have HR6 : Hid (descRd (k + 1) (From wo.heap.size) w6 [.int .i64 dk, .int .i64 dn, .slice a5 nx c5] (.mk dk dn dl)) := Lib.hid ⟨a5, nx, c5, rfl, HWK.out, HWN.out, (HR5.out.mono (descRd_ok _) (fun q _ hq => by have hq' : W4.drew.heap.size ≤ q := hq; have : W4.drew.heap.size = W4.heap.size := rfl; show wo.heap.size ≤ q; omega)).keep (descRd_ok _) (Fix.of_below hb6)⟩
      rw [← hw6]
      refine hK.out _ _ (.inr HT6.out) ?_
      clear hK K hw6 hb6 hsrc hB6
      try simp only [Act.put, List.getElem_toArray, List.getElem_cons_zero, List.getElem_cons_succ, List.setIfInBounds_toArray, List.set_cons_zero, List.set_cons_succ]
      refine Lex.wpZ_ready (rs := [5]) (by kernel_rfl) (by simp) ?_
      refine Lex.ReadyZ.cons rfl (fun K hK => ?_) Lex.ReadyZ.nil
      have hsz6 := HB6.out.size
      have HLT : Hid (∀ q, v.ownBlock = some q → w.heap.size + 3 ≤ q ∧ q < wo.heap.size) := Lib.hid fun q hq => HST.out.row.row.lt q hq
      refine step_appT rfl _ _ 52 rfl descElemG v _ _ rfl _ _ _ _ rfl HRW.out HSRC.out (by rw [List.length_take]; unfold maxLen; omega) (by rw [List.length_take]; omega) (by omega) ?_
      intro v' w7 ho7 hg7 hat7
      have HTR := Lib.hid (HST.out.row.add (by omega) HB6.out HR6.out ho7 hg7 hat7)
      obtain ⟨a7, c7, hv7⟩ := HTR.out.slice
      rw [List.length_append, List.length_singleton, show (l.take i).length = i by rw [List.length_take]; omega] at hv7
      subst hv7
      have HG7 := Lib.hid hg7
      have n2 : some (w.heap.size + 1 + 1) ≠ v.ownBlock := fun e => by have := (HLT.out _ e.symm).1; omega
      have nw : some wo.heap.size ≠ v.ownBlock := fun e => by have := (HLT.out _ e.symm).2; omega
      have N2 := Lib.hid n2
      have hz64 := hb6z.size
      have HT7 : Hid (w7.cell? ⟨w.heap.size + 1 + 1, 2, none⟩ = some v ∧ w7.cell? ⟨wo.heap.size, 0, none⟩ = some (.int .i64 dk) ∧ w7.cell? ⟨wo.heap.size, 1, none⟩ = some (.int .i64 dn) ∧ w7.cell? ⟨wo.heap.size, 2, none⟩ = some (.slice ax nx cx)) := Lib.hid (by
        obtain ⟨q0, q1, q2, q3⟩ := HT6.out
        have e : ∀ g o, g < w6.heap.size → some g ≠ v.ownBlock → w7.cell? ⟨g, o, none⟩ = w6.cell? ⟨g, o, none⟩ := fun g o h hn => World.cell?_of_block (a := ⟨g, o, none⟩) (hg7.block g h hn)
        rw [e _ _ (by omega) n2, e _ _ (by omega) nw, e _ _ (by omega) nw, e _ _ (by omega) nw]
        exact ⟨q0, q1, q2, q3⟩)
      have HBX7 : Hid (w7.heap[w.heap.size + 1 + 1]? = some (.cells #[.int .i64 kd, .int .i64 nd, v] 54 (0, 0))) := Lib.hid ((hg7.block _ (by omega) n2).trans ((HB6.out.block _ hz2).trans HBX.out))
      have HRS7 : Hid (w7.heap[w.heap.size + 1]? = some (.cells #[.int .i64 0, .int .i64 0, .slice none 0 0] 54 (0, 0))) := Lib.hid ((hg7.block _ (by omega) (fun e => by have := (HLT.out _ e.symm).1; omega)).trans ((HB6.out.block _ (by omega)).trans HST.out.res))
      have HBW7 : Hid (Below w.heap.size w w7) := Lib.hid ((HST.out.below.trans (HB6.out.mono (by omega))).grown hg7 (by omega) (fun q hq => by have := (HLT.out _ hq).1; omega))
      have hz7 : w6.heap.size ≤ w7.heap.size := hg7.size
      refine hK.out _ _ (.inr HT7.out) ?_
      clear hK K ho7 hg7 hat7 n2 nw
      try simp only [Act.put, List.getElem_toArray, List.getElem_cons_zero, List.getElem_cons_succ, List.setIfInBounds_toArray, List.set_cons_zero, List.set_cons_succ]
      (refine Lex.wpZ_take (i := 6) (v := ?_) rfl (by kernel_rfl) (by kernel_rfl) (by kernel_rfl) (by kernel_rfl) (fun _ _ _ h => h) HT7.out (Or.inl ⟨by rfl, ?_⟩) ?_; rotate_left 1; (focus (intro w0 hw0; (try dsimp only at hw0); obtain ⟨s0, s1, s2, s3⟩ := hw0; go_simp; try with_reducible rfl)); simp only [Act.put, List.getElem_toArray, List.getElem_cons_zero, List.getElem_cons_succ, List.setIfInBounds_toArray, List.set_cons_zero, List.set_cons_succ])
      refine Lex.wpZ_ready (rs := [7]) (by kernel_rfl) (by simp) ?_
      refine Lex.ReadyZ.cons rfl (fun K hK => ?_) Lex.ReadyZ.nil
      have f2 := free_at (o := 2) HBX7.out
      have t2 := cell_at (o := 2) HBX7.out rfl
      go_simp
      refine hK.out _ _ (.inl rfl) ?_
      clear hK K f2 t2
      try simp only [Act.put, List.getElem_toArray, List.getElem_cons_zero, List.getElem_cons_succ, List.setIfInBounds_toArray, List.set_cons_zero, List.set_cons_succ]
      refine Lex.wpZ_done (by kernel_rfl) ?_ _
      go_wp2_with fail
      go_roundg (n - (i + 1))
      case measure => omega
      case rel =>
        refine ⟨i + 1, .slice a7 (i + 1) c7, xs ++ [.int .i64 dk, .int .i64 dn, .slice a5 nx c5], by omega, rfl, by go_num, ?_⟩
        have hn2 : w.heap.size + 1 ≠ w.heap.size + 1 + 1 := by omega
        refine ⟨?_, (Below.heap_setCell _ _ _ _ hn2).trans HRS7.out, ?_, HBW7.out.setCell (by show w.heap.size ≤ w.heap.size + 1 + 1; omega) _, by simp [World.setCell]; omega⟩
        · exact heap_set_at _ HBX7.out
        · rw [HTK.out]
          exact HTR.out.setCell (by show w.heap.size + 1 + 1 < w.heap.size + 3; omega) _
    · obtain rfl : i = n := by omega
      obtain ⟨av, cv, hv⟩ := HSL.out
      have hi2 : (l.take i).length = i := by rw [List.length_take, HLN.out, Nat.min_self]
      rw [hi2] at hv
      subst hv
      have b0 := cell_at (o := 0) hst.box rfl
      have b1 := cell_at (o := 1) hst.box rfl
      have b2 := cell_at (o := 2) hst.box rfl
      have r0 := cell_at (o := 0) hst.res rfl
      have r1 := cell_at (o := 1) hst.res rfl
      have r2 := cell_at (o := 2) hst.res rfl
      have f0 := free_at (o := 0) hst.res
      have f1 := free_at (o := 1) hst.res
      have f2 := free_at (o := 2) hst.res
      have HRES := Lib.hid hst.res
      have HTAKE : Hid (l.take i = l) := Lib.hid (List.take_of_length_le (by have := HLN.out; omega))
      clear hst hi2
      go_wp2_with fail
      have hg := heap_set_at (o := 2) (.slice av i cv) (heap_set_at (o := 1) (.int .i64 nd) (heap_set_at (o := 0) (.int .i64 kd) HRES.out))
      have g0 := cell_at (o := 0) hg rfl
      have g1 := cell_at (o := 1) hg rfl
      have g2 := cell_at (o := 2) hg rfl
      clear b0 b1 b2 r0 r1 r2 f0 f1 f2
      refine bodyPost_ret (v := .agg #[.int .i64 kd, .int .i64 nd, .slice av i cv]) (by simp [results, Tryz.results43, go_sem, *]) rfl ?_
      obtain ⟨a', c', hv', hr'⟩ := HST.out.row.rowOf (by rw [HTAKE.out, HLN.out]; exact HRM.out)
      rw [HTAKE.out, HLN.out] at hv' hr'
      cases hv'
      have hb : w.heap.size ≤ w.heap.size + 1 := by omega
      refine ⟨_, _, rfl, ((hr'.mono (descRd_ok _) (fun q _ hq => by have hq' : w.heap.size + 3 ≤ q := hq; exact (⟨by show w.heap.size ≤ q; omega, by omega⟩ : w.heap.size ≤ q ∧ q ≠ w.heap.size + 1)) : RowOf (descRd k) 3 40 (fun q => w.heap.size ≤ q ∧ q ≠ w.heap.size + 1) _ _ _ _ _).keep (descRd_ok _) ?_).mono (descRd_ok _) (fun q _ hq => hq.1), ?_⟩
      · exact ((Fix.setCell _ _ _ (fun h => h.2 rfl)).trans (Fix.setCell _ _ _ (fun h => h.2 rfl))).trans (Fix.setCell _ _ _ (fun h => h.2 rfl))
      · exact ((HST.out.below.setCell hb _).setCell hb _).setCell hb _
theorem clone_any : ∀ (k : Nat) (F : Foot) (kd nd : Int) (l : List DescV) (a : Option Addr) (n cap : Nat) (w : World), RowOf (descRd k) 3 40 F w a n cap l →
    Calls Tryz.prog 43 #[.agg #[.int .i64 kd, .int .i64 nd, .slice a n cap]] w (ClonePost k kd nd n l w)
  | 0 => clone_step 0 fun j h => by omega
  | k + 1 => clone_step (k + 1) fun j h => by
    obtain rfl : k = j := by omega
    exact clone_any k
end Go.Proofs.YthjcmcgmalnfpaaGreatDoor
/- A range over a function whose body always goes on, and is told what holds of each value as it comes. -/
namespace Go.Proofs.YthjcmcgmalnfpaaGreatDoor.Lex
open Go.RowKit
set_option linter.unusedVariables false
/-- How a round must end. -/
def goesOn (Kp : World → World → Prop) (J : Nat → World → Prop) (i : Nat) (W : World) : Exit → Act → World → Prop
  | .normal, _, W' => KeepsOthers W W' ∧ Kp W W' ∧ J (i + 1) W'
  | _, _, _ => False
theorem wp_rangeAll {α : Type} {F : Fence} {n : Nat} {P : Program} {g : Operand} {ps : Array Tmp} {assign body : Code} {Q : Exit → Act → World → Prop} {a : Act} {w : World}
    (hro : F.round = none) (h1 : 1 ≤ n) {gf : Nat} {lb : Array Value} (hg : a.eval g = .func (.func gf) #[] lb) (hFg : F.fn gf) (eg : ∀ args w, (callFunc gf args).run P w = .ok (.enter gf args) w)
    (encs : α → Array Value) (hps : ∀ x, (encs x).size = ps.size) (J : Nat → World → Prop) (Ok : Nat → α → World → Prop) (Kp : World → World → Prop) (skip : Nat → Prop) (N : Nat) (h0 : J 0 w)
    (hKt : ∀ A B C, Kp A B → Kp B C → Kp A C) (hKp : ∀ W l o o', w.heap.size ≤ l → W.heap[l]? = some o → o.isCells = false → Kp W (W.putObj l o')) (hJs : ∀ i W, skip i → J i W → J (i + 1) W)
    (hJb : ∀ i W W', J i W → Below W.heap.size W W' → J i W')
    (hJp : ∀ i W l o o', J i W → w.heap.size ≤ l → W.heap[l]? = some o → o.isCells = false → J i (W.putObj l o'))
    (hOp : ∀ i x W l o o', Ok i x W → w.heap.size ≤ l → W.heap[l]? = some o → o.isCells = false → Ok i x (W.putObj l o'))
    (hseq : ∀ (l : Nat) (K : Nat → World → Prop) (W : World), Below w.heap.size w W → (∀ i W W', K i W → Below W.heap.size W W' → K i W') → (∀ i W, skip i → K i W → K (i + 1) W) →
      (∀ i x W1, i < N → K i W1 → Ok i x W1 → YieldAt F (n - 1 - 1) P l (encs x) W1 fun e W' => e = .returned (.bool true) ∧ K (i + 1) W' ∧ Kp W1 W') → K 0 W →
      CallsIn F (n - 1) P gf (#[.func (.yield l) #[] #[]] ++ lb) W fun e W' => (∃ v, e = .returned v) ∧ K N W')
    (a₁ : α → Act)
    (hassign : ∀ (l : Nat) (x : α) (W : World) (K : Act → World → Prop), K (a₁ x) W →
      assign.wpIn (F.inRound l) (n - 1 - 1) P (Exit.then K (fun _ _ _ => False)) { tmps := (ps.zip (encs x)).foldl (fun t (p, v) => t.setIfInBounds p v) a.tmps, defers := [] } W)
    (hbody : ∀ (l i : Nat) (x : α) (W : World), i < N → J i W → Ok i x W → body.wpIn (F.inRound l) (n - 1 - 1) P (goesOn Kp J i W) (a₁ x) W)
    (hdone : ∀ (D : Nat) (W : World), w.heap.size ≤ D → J N W → W.heap[D]? = some (.deferred (some [])) → Q .normal { a with defers := { target := .collected D, args := #[] } :: a.defers } W) :
    (Code.rangeFunc g ps assign body).wpIn F n P Q a w := by
  refine wpIn_rangeFunc fun fn hfn => ?_
  rw [hro]
  obtain ⟨rec, hrec⟩ : ∃ rec : LoopState → Option Code → Loop, rec = fun st pe => { state := st, pending := pe, fn, tmps := a.tmps, params := ps, assign, body, defers := w.heap.size } := ⟨_, rfl⟩
  obtain ⟨W1, hW1⟩ : ∃ W1, (w.alloc (.deferred (some []))).alloc (.loop (rec .ready none)) = W1 := ⟨_, rfl⟩
  have hbW : Below w.heap.size w W1 := by rw [← hW1]; exact ((Below.refl _ w).alloc (Nat.le_refl _) _).alloc (by simp) _
  have hL1 : W1.heap[w.heap.size + 1]? = some (.loop (rec .ready none)) := by
    rw [← hW1]; have := World.alloc_heap_new (w.alloc (.deferred (some []))) (.loop (rec .ready none)); rwa [World.size_alloc] at this
  have hD1 : W1.heap[w.heap.size]? = some (.deferred (some [])) := by
    rw [← hW1]; exact (Below.heap_alloc _ _ _ (by simp)).trans (World.alloc_heap_new w _)
  refine ⟨w.heap.size + 1, [{ target := .collected w.heap.size, args := #[] }], W1, { target := .fn (.func gf) lb, args := #[.func (.yield (w.heap.size + 1)) #[] #[]] }, W1, gf,
    #[.func (.yield (w.heap.size + 1)) #[] #[]] ++ lb, W1, ?_, ?_, ?_, ?_, fun _ => h1, ?_⟩
  · rw [← hW1, hrec]; exact run_enterLoop_outer _ _ _ _ _
  · simp only [resolve, hg]
    simp [go_sem]
  · intro f' hf'; simp [Target.leads] at hf'; subst hf'; exact hFg
  · simp [invoke, go_sem, eg]
  · have stays : ∀ {k : Nat} {o : Obj} {A B : World}, A.heap[k]? = some o → Below A.heap.size A B → B.heap[k]? = some o := fun hk hb => (hb.block _ (Array.getElem?_eq_some_iff.1 hk).1).trans hk
    refine (hseq (w.heap.size + 1) (fun i W => J i W ∧ W.heap[w.heap.size + 1]? = some (.loop (rec .ready none)) ∧ W.heap[w.heap.size]? = some (.deferred (some []))) W1 hbW
      (fun i A B h hb => ⟨hJb i A B h.1 hb, stays h.2.1 hb, stays h.2.2 hb⟩) (fun i A hs h => ⟨hJs i A hs h.1, h.2⟩) ?_ ⟨hJb 0 w W1 h0 hbW, hL1, hD1⟩).mono ?_
    · rintro i x W hiN ⟨hi, hl, hk⟩ hok
      have hy := run_yield (P := P) (args := encs x) hl (by rw [hrec]; exact hps x)
      rw [hrec] at hy
      refine ⟨fn, _, assign, body, hy, roundIn_of_wpIn hfn (hassign _ x W _ ⟨_, run_beginRound hl (by rw [hrec]), ?_⟩)⟩
      have hlt : w.heap.size + 1 < W.heap.size := (Array.getElem?_eq_some_iff.1 hl).1
      have hl2 : (W.putObj (w.heap.size + 1) (.loop { rec .ready none with state := .busy })).heap[w.heap.size + 1]? = some (.loop { rec .ready none with state := .busy }) := World.putObj_heap_same hlt
      have hk2 : (W.putObj (w.heap.size + 1) (.loop { rec .ready none with state := .busy })).heap[w.heap.size]? = some (.deferred (some [])) := (World.putObj_heap_other (by omega)).trans hk
      refine wpIn_mono (hbody _ i x _ hiN (hJp i W _ _ _ hi (by omega) hl rfl) (hOp i x W _ _ _ hok (by omega) hl rfl)) ?_
      rintro e a3 W3 hp
      cases e with
      | normal =>
        obtain ⟨hk3, hkp, hi3⟩ := hp
        have hl3 := hk3.same _ _ hl2 rfl
        have hend := run_endRound (P := P) none hl3
        refine ⟨_, _, hend, rfl, ⟨hJp _ W3 _ _ _ hi3 (by omega) hl3 rfl, ?_, (World.putObj_heap_other (by omega)).trans (hk3.same _ _ hk2 rfl)⟩, hKt _ _ _ (hKp W _ _ _ (by omega) hl rfl) (hKt _ _ _ hkp (hKp W3 _ _ _ (by omega) hl3 rfl))⟩
        rw [World.putObj_heap_same (Array.getElem?_eq_some_iff.1 hl3).1, hrec]
        rfl
      | ret => exact hp.elim
      | exit id => exact hp.elim
      | goto t => exact hp.elim
      | panic ch => exact hp.elim
      | outgrown => exact hp.elim
    · rintro e W2 ⟨⟨v, rfl⟩, hi, hl, hk⟩
      have hend := run_endLoop (P := P) hl (by rw [hrec]; simp)
      exact ⟨none, _, by rw [hrec] at hend; exact hend, hdone _ _ (Nat.le_refl _) (hJp _ W2 _ _ _ hi (by omega) hl rfl) ((World.putObj_heap_other (by omega)).trans hk)⟩
end Go.Proofs.YthjcmcgmalnfpaaGreatDoor.Lex
/- desc.Nodes: the range over a tree's nodes. -/
namespace Go.Proofs.YthjcmcgmalnfpaaGreatDoor.Lex
open Go.RowKit Go.Shelf
set_option linter.unusedSimpArgs false
set_option linter.unusedVariables false
attribute [local go_sem] Oper.semAt_some
/-- What a round over a tree's nodes keeps: all below block B, and all cells but those of block N. -/
structure KpN (B N : Nat) (W W' : World) : Prop where
  fix : Fix (fun b => b < B) W W'
  cells : ∀ (b : Nat), b ≠ N → ∀ (c : Array Value) (T : TypeId) (f : Nat × Nat), W.heap[b]? = some (.cells c T f) → W'.heap[b]? = some (.cells c T f)
theorem KpN.refl (B N : Nat) (W : World) : KpN B N W W := ⟨Fix.refl _ _, fun _ _ _ _ _ h => h⟩
theorem KpN.trans {B N : Nat} {W W1 W2 : World} (h : KpN B N W W1) (k : KpN B N W1 W2) : KpN B N W W2 := ⟨h.fix.trans k.fix, fun b hb c T f e => k.cells b hb c T f (h.cells b hb c T f e)⟩
theorem KpN.of_below {B N : Nat} {W W' : World} (h : Below W.heap.size W W') : KpN B N W W' := ⟨Fix.of_below h, fun b _ c T f e => (h.block b (Array.getElem?_eq_some_iff.1 e).1).trans e⟩
set_option maxRecDepth 100000 in
set_option maxHeartbeats 4000000 in
theorem all_step (k L N B0 N0 : Nat) (K : Nat → World → Prop) (hKb : ∀ i W W', K i W → Below W.heap.size W W' → K i W')
    (hY : ∀ (m i : Nat) (x : Value) (W1 : World), i < N → K i W1 → YieldAt Fence.wide m Tryz.prog L #[x] W1 fun e W' => e = .returned (.bool true) ∧ K (i + 1) W' ∧ KpN B0 N0 W1 W')
    (ih : ∀ j, k = j + 1 → ∀ (kd nd : Int) (l : List DescV) (a : Option Addr) (n cap i : Nat) (W : World), RowOf (descRd j) 3 40 (fun b => b < B0) W a n cap l → K i W → N0 < W.heap.size → i + 1 + DescV.nodesL l ≤ N →
      Calls Tryz.prog 103 #[.agg #[.int .i64 kd, .int .i64 nd, .slice a n cap], .func (.yield L) #[] #[]] W fun e W' => e = .returned (.bool true) ∧ K (i + 1 + DescV.nodesL l) W' ∧ KpN B0 N0 W W')
    (kd nd : Int) (l : List DescV) (a : Option Addr) (n cap i : Nat) (W : World) (hl : RowOf (descRd k) 3 40 (fun b => b < B0) W a n cap l) (hK : K i W) (hN0 : N0 < W.heap.size) (hi : i + 1 + DescV.nodesL l ≤ N) :
      Calls Tryz.prog 103 #[.agg #[.int .i64 kd, .int .i64 nd, .slice a n cap], .func (.yield L) #[] #[]] W fun e W' => e = .returned (.bool true) ∧ K (i + 1 + DescV.nodesL l) W' ∧ KpN B0 N0 W W' := by
  have HLN := Lib.hid hl.len
  have HRM := Lib.hid hl.room
  have hn : n ≤ 3518437208880 := by have := hl.room; omega
  obtain ⟨W1, hW1⟩ : ∃ W1, W1 = W.alloc (.cells #[.int .i64 kd, .int .i64 nd, .slice a n cap] 54) := ⟨_, rfl⟩
  have hb1 : Below W.heap.size W W1 := by rw [hW1]; exact (Below.refl _ _).alloc (Nat.le_refl _) _
  have g1 : W1.heap[W.heap.size]? = some (.cells #[.int .i64 kd, .int .i64 nd, .slice a n cap] 54 (0, 0)) := by rw [hW1]; exact heap_alloc_new W _
  have hz1 : W.heap.size < W1.heap.size := by rw [hW1]; simp
  have hl1 := hl.keep (descRd_ok _) (Fix.of_below hb1)
  have HCL := Lib.hid (clone_any k _ kd nd l a n cap W1 hl1)
  have HL1 := Lib.hid hl1
  have HB1 := Lib.hid hb1
  have HG1 := Lib.hid g1
  have HK := Lib.hid hK
  have HKB := Lib.hid hKb
  have HY := Lib.hid hY
  have HIH := Lib.hid ih
  have HI := Lib.hid hi
  have c0 := cell_at (o := 0) g1 rfl
  have c1 := cell_at (o := 1) g1 rfl
  have c2 := cell_at (o := 2) g1 rfl
  clear hl hl1 hb1 hK hKb hY ih hi g1
  refine (callsIn_wide (n := 5)).1 ?_
  refine callsIn_of_wp Tryz.func103 rfl trivial ?_ rfl
  simp only [Tryz.ntmps103, List.size_toArray, List.length_cons, List.length_nil, Nat.reduceAdd, Nat.reduceSub, Array.replicate_succ, Array.replicate_zero, List.push_toArray, List.append_toArray, List.nil_append, List.cons_append]
  gi_wp2
  rw [← hW1]
  clear hW1
  refine ⟨trivial, ?_⟩
  refine (callsIn_wide.2 HCL.out).mono ?_
  rintro e w2 ⟨a2, cc2, rfl, hr2, hb2⟩
  have HB2 := Lib.hid hb2
  have hz2 : W.heap.size < w2.heap.size := Nat.lt_of_lt_of_le hz1 hb2.size
  have HB12 := Lib.hid (HB1.out.trans (hb2.mono HB1.out.size))
  obtain ⟨fn, tmps, assign, body, hy, hR⟩ := HY.out (5 - 1) i (.agg #[.int .i64 kd, .int .i64 nd, .slice a2 n cc2]) w2 (by have := HI.out; omega) (HKB.out i W w2 HK.out HB12.out)
  clear hr2 hb2
  gi_wp2
  refine hR.mono ?_
  rintro e w3 ⟨rfl, hK3, hkp3⟩
  have hkp : KpN B0 N0 W w3 := (KpN.of_below HB12.out).trans hkp3
  have g3 := hkp3.cells W.heap.size (by omega) _ _ _ ((HB2.out.block _ hz1).trans HG1.out)
  have d2 := cell_at (o := 2) g3 rfl
  have hz3 : W.heap.size < w3.heap.size := (Array.getElem?_eq_some_iff.1 g3).1
  have HK3 := Lib.hid hK3
  have HKP := Lib.hid hkp
  have HL3 := Lib.hid (HL1.out.keep (descRd_ok _) ((KpN.of_below HB2.out).trans hkp3).fix)
  clear hK3 hkp hkp3 hy hR c0 c1 c2 g3
  gi_wp2
  gi_loopg [15] n (fun gh iv wr => ∃ j : Nat, j ≤ n ∧ gh = n - j ∧ iv = .int .i64 (j : Int) ∧ K (i + 1 + DescV.nodesL (l.take j)) wr ∧ KpN B0 N0 W wr ∧ KpN B0 N0 w3 wr)
  case atStart => exact ⟨0, by omega, rfl, rfl, by simpa [DescV.nodesL] using HK3.out, HKP.out, KpN.refl _ _ _⟩
  case round =>
    obtain ⟨j, hj, rfl, rfl, hKj, hkw, hk3⟩ := hrel
    obtain ⟨wo, rfl⟩ : ∃ wo : World, wo = wr := ⟨_, rfl⟩
    have HKJ := Lib.hid hKj
    have HKW := Lib.hid hkw
    have HK3W := Lib.hid hk3
    clear hKj hkw hk3
    by_cases hlt : j < n
    · obtain ⟨k, rfl⟩ : ∃ q, k = q + 1 := by
        cases k with
        | zero => exact absurd (row_no_zero HL1.out) (fun e => by have := HLN.out; rw [e] at this; simp at this; omega)
        | succ q => exact ⟨q, rfl⟩
      have hil : j < l.length := by have := HLN.out; omega
      obtain ⟨b, off, ax, nx, cx, rfl, hbw, _, _, _, hk, p0, p1, p2⟩ := (HL3.out.keep (descRd_ok _) HK3W.out.fix).desc j hil
      have HSUM := Lib.hid (DescV.nodesL_take_succ hil)
      have HLE := Lib.hid (DescV.nodesL_take_le l (j + 1))
      have HNK := Lib.hid (DescV.nodes_kids (l[j]'hil))
      generalize l[j]'hil = d at *
      obtain ⟨dk, dn, dl⟩ := d
      simp only [DescV.kind, DescV.n, DescV.kids] at p0 p1 p2 hk
      have HNK' : Hid ((DescV.mk dk dn dl).nodes = DescV.nodesL dl + 1) := HNK
      gi_wp2
      obtain ⟨W4, hW4⟩ : ∃ W4, W4 = wo.alloc (.cells #[.int .i64 dk, .int .i64 dn, .slice ax nx cx] 54) := ⟨_, rfl⟩
      have hb4 : Below wo.heap.size wo W4 := by rw [hW4]; exact (Below.refl _ _).alloc (Nat.le_refl _) _
      have HIHC := Lib.hid (HIH.out k rfl dk dn dl ax nx cx (i + 1 + DescV.nodesL (l.take j)) W4 (hk.keep (descRd_ok _) (Fix.of_below hb4)) (HKB.out _ _ _ HKJ.out hb4) (by have := HKW.out.fix.size; have := hb4.size; omega) (by have := HSUM.out; have := HLE.out; have := HNK'.out; have := HI.out; omega))
      have HB4 := Lib.hid hb4
      rw [← hW4]
      clear hW4 hk p0 p1 p2 hb4
      refine ⟨trivial, ?_⟩
      refine (callsIn_wide.2 HIHC.out).mono ?_
      rintro e w5 ⟨rfl, hK5, hkp5⟩
      have HK5 := Lib.hid hK5
      have HKP5 := Lib.hid ((KpN.of_below HB4.out : KpN B0 N0 wo W4).trans hkp5)
      clear hK5 hkp5
      gi_wp2
      gi_roundg (n - (j + 1))
      case measure => omega
      case rel =>
        refine ⟨j + 1, by omega, rfl, by go_num, ?_, HKW.out.trans HKP5.out, HK3W.out.trans HKP5.out⟩
        rw [show i + 1 + DescV.nodesL (l.take (j + 1)) = i + 1 + DescV.nodesL (l.take j) + 1 + DescV.nodesL dl by rw [HSUM.out, HNK'.out]; omega]
        exact HK5.out
    · obtain rfl : j = n := by omega
      rw [List.take_of_length_le (by have := HLN.out; omega)] at HKJ
      gi_wp2
      go_ret
      exact ⟨rfl, HKJ.out, HKW.out⟩
theorem all_any (L N B0 N0 : Nat) (K : Nat → World → Prop) (hKb : ∀ i W W', K i W → Below W.heap.size W W' → K i W')
    (hY : ∀ (m i : Nat) (x : Value) (W1 : World), i < N → K i W1 → YieldAt Fence.wide m Tryz.prog L #[x] W1 fun e W' => e = .returned (.bool true) ∧ K (i + 1) W' ∧ KpN B0 N0 W1 W') :
    ∀ (k : Nat) (kd nd : Int) (l : List DescV) (a : Option Addr) (n cap i : Nat) (W : World), RowOf (descRd k) 3 40 (fun b => b < B0) W a n cap l → K i W → N0 < W.heap.size → i + 1 + DescV.nodesL l ≤ N →
      Calls Tryz.prog 103 #[.agg #[.int .i64 kd, .int .i64 nd, .slice a n cap], .func (.yield L) #[] #[]] W fun e W' => e = .returned (.bool true) ∧ K (i + 1 + DescV.nodesL l) W' ∧ KpN B0 N0 W W'
  | 0 => all_step 0 L N B0 N0 K hKb hY fun j h => by omega
  | k + 1 => all_step (k + 1) L N B0 N0 K hKb hY fun j h => by
    obtain rfl : k = j := by omega
    exact all_any L N B0 N0 K hKb hY k
theorem room_noneN {F : Fence} (hd : F.depth = none) (k : Nat) : F.room k := fun d h => by rw [hd] at h; cases h
theorem roundN {F : Fence} (hd : F.depth = none) {m m' : Nat} {P : Program} {l : Nat} {f : FuncId} {tmps : Array Value} {assign body : Code} {w : World} {R : Ending → World → Prop}
    (h : RoundIn F m P l f tmps assign body w R) : RoundIn F m' P l f tmps assign body w R := ⟨h.1, fun c cs _ => h.2 c cs (room_noneN hd _)⟩
theorem yieldN {F : Fence} (hd : F.depth = none) {m : Nat} (m' : Nat) {P : Program} {l : Nat} {args : Array Value} {W : World} {R : Ending → World → Prop} (h : YieldAt F m P l args W R) : YieldAt F m' P l args W R := by
  obtain ⟨fn, tmps, assign, body, hy, hR⟩ := h
  exact ⟨fn, tmps, assign, body, hy, roundN hd hR⟩
theorem allc_any (kd nd : Int) (a : Option Addr) (n cap : Nat) (w : World) : Calls Tryz.prog 92 #[.agg #[.int .i64 kd, .int .i64 nd, .slice a n cap]] w fun e w' => e = .returned (.func (.func 102) #[] #[.pointer (some ⟨w.heap.size, 0, none⟩)]) ∧ w' = w.alloc (.cells #[.int .i64 kd, .int .i64 nd, .slice a n cap] 54) := by
  go_enter Tryz.func92, Tryz.ntmps92
  go_wp2_with fail
  go_ret
  exact ⟨rfl, rfl⟩
set_option maxRecDepth 100000 in
set_option maxHeartbeats 4000000 in
theorem all1_any (L N B0 N0 : Nat) (K : Nat → World → Prop) (hKb : ∀ i W W', K i W → Below W.heap.size W W' → K i W')
    (hY : ∀ (m i : Nat) (x : Value) (W1 : World), i < N → K i W1 → YieldAt Fence.wide m Tryz.prog L #[x] W1 fun e W' => e = .returned (.bool true) ∧ K (i + 1) W' ∧ KpN B0 N0 W1 W')
    (k m : Nat) (kd nd : Int) (l : List DescV) (a : Option Addr) (n cap B : Nat) (W : World) (hl : RowOf (descRd k) 3 40 (fun b => b < B0) W a n cap l) (hK : K 0 W) (hN0 : N0 < W.heap.size) (hi : 1 + DescV.nodesL l ≤ N) (hB : W.heap[B]? = some (.cells #[.int .i64 kd, .int .i64 nd, .slice a n cap] 54 (0, 0))) :
    CallsIn Fence.wide m Tryz.prog 102 #[.func (.yield L) #[] #[], .pointer (some ⟨B, 0, none⟩)] W fun e W' => (∃ v, e = .returned v) ∧ K (1 + DescV.nodesL l) W' := by
  have HA := Lib.hid (all_any L N B0 N0 K hKb hY k kd nd l a n cap 0 W hl hK hN0 (by omega))
  have c0 := cell_at (o := 0) hB rfl
  have c1 := cell_at (o := 1) hB rfl
  have c2 := cell_at (o := 2) hB rfl
  clear hl hK hKb hY hB
  refine callsIn_of_wp Tryz.func102 rfl trivial ?_ rfl
  simp only [Tryz.ntmps102, List.size_toArray, List.length_cons, List.length_nil, Nat.reduceAdd, Nat.reduceSub, Array.replicate_succ, Array.replicate_zero, List.push_toArray, List.append_toArray, List.nil_append, List.cons_append]
  gi_wp2
  refine ⟨trivial, fun h => (by cases h), ?_⟩
  refine (callsIn_wide.2 HA.out).mono ?_
  rintro e w1 ⟨rfl, hK1, _⟩
  have HK1 := Lib.hid hK1
  clear hK1
  gi_wp2
  go_end0
  exact ⟨⟨_, rfl⟩, by have h := HK1.out; rwa [Nat.zero_add] at h⟩
theorem putN_cells {W : World} {l : Nat} {o o' : Obj} (hl : W.heap[l]? = some o) (ho : o.isCells = false) {k : Nat} {c : Array Value} {T : TypeId} {f : Nat × Nat} (h : W.heap[k]? = some (.cells c T f)) : (W.putObj l o').heap[k]? = some (.cells c T f) := by
  rw [World.putObj_heap_other fun e => ?_]
  · exact h
  · subst e
    rw [hl] at h
    cases h
    cases ho
theorem putN_below {A W : World} {n l : Nat} {o' : Obj} (h : Below n A W) (hl : n ≤ l) (hn : n ≤ W.heap.size) : Below n A (W.putObj l o') := h.grown (grownBy_putObj' W l o') hn (fun k e => by cases e; exact hl)
/-- Between two rounds: so many nodes are counted. -/
structure JN (w : World) (k : Nat) (W : World) : Prop where
  n : W.heap[w.heap.size + 1]? = some (.cells #[.int .i64 (k : Int)] 3 (0, 0))
  below : Below w.heap.size w W
  size : w.heap.size + 3 ≤ W.heap.size
set_option maxRecDepth 100000 in
set_option maxHeartbeats 8000000 in
theorem nodes_any (k : Nat) (F : Foot) (kd nd : Int) (l : List DescV) (a : Option Addr) (n cap : Nat) (w : World) (hl : RowOf (descRd k) 3 40 F w a n cap l) (hm : DescV.nodesL l < 1048576) :
    Calls Tryz.prog 74 #[.agg #[.int .i64 kd, .int .i64 nd, .slice a n cap]] w fun e w' => e = .returned (.int .i64 ((DescV.mk kd nd l).nodes : Int)) ∧ Below w.heap.size w w' := by
  refine (callsIn_wide (n := 5)).1 ?_
  refine callsIn_of_wp_marks Tryz.func74 rfl trivial ?_ rfl
  simp only [Tryz.ntmps74, List.size_toArray, List.length_cons, List.length_nil, Nat.reduceAdd, Nat.reduceSub, Array.replicate_succ, Array.replicate_zero, List.push_toArray, List.append_toArray, List.nil_append, List.cons_append]
  have HL := Lib.hid (hl.mono (G := fun b => b < w.heap.size) (descRd_ok _) fun b hb _ => hb)
  have HM := Lib.hid hm
  clear hl hm
  gi_wp2
  refine ⟨trivial, ?_⟩
  refine (callsIn_wide.2 (allc_any kd nd a n cap _)).mono ?_
  rintro e w1 ⟨rfl, rfl⟩
  gi_wp2
  obtain ⟨W3, hW3⟩ : ∃ W3, W3 = (((w.alloc (.cells #[.int .i64 kd, .int .i64 nd, .slice a n cap] 54)).alloc (.cells #[.int .i64 0] 3)).alloc (.cells #[.int .i64 kd, .int .i64 nd, .slice a n cap] 54)) := ⟨_, rfl⟩
  have hb3 : Below w.heap.size w W3 := by rw [hW3]; exact (((Below.refl _ _).alloc (Nat.le_refl _) _).alloc (by simp) _).alloc (by simp; omega) _
  have hz3 : W3.heap.size = w.heap.size + 3 := by rw [hW3]; simp
  have g1 : W3.heap[w.heap.size + 1]? = some (.cells #[.int .i64 0] 3 (0, 0)) := by
    rw [hW3, Lib.alloc_old _ _ _ (by simp)]
    have h2 := heap_alloc_new (w.alloc (.cells #[.int .i64 kd, .int .i64 nd, .slice a n cap] 54)) (.cells #[.int .i64 0] 3)
    rw [show (w.alloc (.cells #[.int .i64 kd, .int .i64 nd, .slice a n cap] 54)).heap.size = w.heap.size + 1 by simp] at h2
    exact h2
  have g2 : W3.heap[w.heap.size + 1 + 1]? = some (.cells #[.int .i64 kd, .int .i64 nd, .slice a n cap] 54 (0, 0)) := by
    rw [hW3]
    have h2 := heap_alloc_new ((w.alloc (.cells #[.int .i64 kd, .int .i64 nd, .slice a n cap] 54)).alloc (.cells #[.int .i64 0] 3)) (.cells #[.int .i64 kd, .int .i64 nd, .slice a n cap] 54)
    rw [show ((w.alloc (.cells #[.int .i64 kd, .int .i64 nd, .slice a n cap] 54)).alloc (.cells #[.int .i64 0] 3)).heap.size = w.heap.size + 1 + 1 by simp] at h2
    exact h2
  have HL3 := Lib.hid (HL.out.keep (descRd_ok _) (Fix.of_below hb3))
  rw [← hW3]
  clear hW3
  refine wp_rangeAll (α := Value) rfl (by omega) (gf := 102) (lb := #[.pointer (some ⟨w.heap.size + 1 + 1, 0, none⟩)]) rfl trivial (enters_of Tryz.func102 (by kernel_rfl) rfl) (fun x => #[x]) (fun x => rfl)
    (JN w) (fun _ _ _ => True) (KpN w.heap.size (w.heap.size + 1)) (fun _ => False) (1 + DescV.nodesL l) ?h0 ?hKt ?hKp ?hJs ?hJb ?hJp ?hOp ?hseq (fun x => { tmps := #[.agg #[.int .i64 kd, .int .i64 nd, .slice a n cap], .pointer (some ⟨w.heap.size, 0, none⟩), .int .i64 0, .pointer (some ⟨w.heap.size + 1, 0, none⟩), .agg #[.int .i64 kd, .int .i64 nd, .slice a n cap], .func (.func 102) #[] #[.pointer (some ⟨w.heap.size + 1 + 1, 0, none⟩)], x, undef, undef, undef], defers := [] }) ?assign ?body ?done
  case h0 => exact ⟨g1, hb3, by omega⟩
  case hKt => exact fun A B C h1 h2 => h1.trans h2
  case hKp => exact fun W lo o o' hle hl ho => ⟨Fix.of_grown (grownBy_putObj' W lo o') (fun b _ hf e => by cases e; omega), fun b _ c T f e => putN_cells hl ho e⟩
  case hJs => exact fun i W h => h.elim
  case hJb =>
    intro i W W' hj hb
    have hs := hj.size
    exact ⟨(hb.block _ (by omega)).trans hj.n, hj.below.trans (hb.mono (by omega)), Nat.le_trans hs hb.size⟩
  case hJp =>
    intro i W lo o o' hj hl hlo hoc
    have hs := hj.size
    exact ⟨putN_cells hlo hoc hj.n, putN_below hj.below (by omega) (by omega), by rw [World.putObj_size]; exact hs⟩
  case hOp => exact fun _ _ _ _ _ _ _ _ _ _ => trivial
  case hseq =>
    intro L K W hb hKb hKs hY h0
    have hbW := hb3.trans (hb.mono (by omega))
    exact all1_any L _ w.heap.size (w.heap.size + 1) K hKb (fun m i x W1 hi hK => yieldN rfl m (hY i x W1 hi hK trivial)) k _ kd nd l a n cap (w.heap.size + 1 + 1) W (HL.out.keep (descRd_ok _) (Fix.of_below hbW)) h0 (by have := hb.size; omega) (Nat.le_refl _) ((hb.block _ (by omega)).trans g2)
  case assign =>
    intro lo x W K hK
    dsimp only
    gi_wp2
    first
      | exact hK
      | exact (by kernel_rfl : #[(6 : Nat)].zip #[x] = #[(6, x)]) ▸ hK
      | (rw [show #[(6 : Nat)].zip #[x] = #[(6, x)] from rfl]; exact hK)
      | (have e : #[(6 : Nat)].zip #[x] = #[(6, x)] := by simp
         rw [e]; exact hK)
  case body =>
    intro lo i x W hi hj _
    have HJ := Lib.hid hj
    have hM := HM.out
    have hi64 : (i : Int) + 1 ≤ 9223372036854775807 := by omega
    have t0 := cell_at (o := 0) hj.n rfl
    have f0 := free_at (o := 0) hj.n
    clear hj
    gi_wp2
    have hB : Below w.heap.size w (W.setCell ⟨w.heap.size + 1, 0, none⟩ (.int .i64 ((i : Int) + 1))) := HJ.out.below.setCell (by show w.heap.size ≤ w.heap.size + 1; omega) _
    refine ⟨KeepsOthers.setCell _ _ _, ⟨Fix.setCell _ _ _ (fun h => by have h' : w.heap.size + 1 < w.heap.size := h; omega), fun b hb c T f e => (Below.heap_setCell _ _ _ _ hb).trans e⟩, ⟨?_, hB, by have := HJ.out.size; simpa [World.setCell] using this⟩⟩
    have h := heap_set_at (o := 0) (.int .i64 ((i : Int) + 1)) HJ.out.n
    exact h
  case done =>
    intro D W hD hj hdf
    have HJ := Lib.hid hj
    have HD := Lib.hid hdf
    have hsz := hj.size
    have t0 := cell_at (o := 0) hj.n rfl
    clear hj hdf
    gi_wp2
    have hK0 : W.heap[D]? = some (.deferred (some [])) := HD.out
    refine ⟨by simp, .inl ⟨_, _, rfl, run_takeDeferred hK0, ?_⟩⟩
    have hN : (DescV.mk kd nd l).nodes = 1 + DescV.nodesL l := by rw [DescV.nodes_kids]; show DescV.nodesL l + 1 = _; omega
    exact ⟨_, results_tmp rfl _ _ _, by rw [hN, Int.natCast_add]; rfl, putN_below HJ.out.below (by omega) (by omega)⟩
end Go.Proofs.YthjcmcgmalnfpaaGreatDoor.Lex
/- How deep a tree is: the program's count and the reference's. -/
namespace Go.Proofs.YthjcmcgmalnfpaaGreatDoor
open Go.RowKit
set_option linter.unusedSimpArgs false
set_option linter.unusedVariables false
namespace DescV
mutual
def depth : DescV → Nat | .mk _ _ l => depthL l + 1
def depthL : List DescV → Nat | [] => 0 | d :: l => Nat.max d.depth (depthL l)
end
theorem depth_kids (d : DescV) : d.depth = depthL d.kids + 1 := by cases d; rfl
theorem depthL_snoc (l : List DescV) (d : DescV) : depthL (l ++ [d]) = Nat.max (depthL l) d.depth := by
  induction l with
  | nil => simp [depthL]
  | cons a l ih =>
    rw [List.cons_append, depthL, depthL, ih]
    show Nat.max _ (Nat.max _ _) = Nat.max (Nat.max _ _) _
    exact (Nat.max_assoc ..).symm
mutual
theorem depth_nodes : ∀ d : DescV, d.depth ≤ d.nodes
  | .mk _ _ l => by rw [depth, nodes]; have := depthL_nodes l; omega
theorem depthL_nodes : ∀ l : List DescV, depthL l ≤ nodesL l
  | [] => Nat.le_refl _
  | d :: l => by
    rw [depthL, nodesL]
    have h1 := depth_nodes d
    have h2 := depthL_nodes l
    show max _ _ ≤ _
    omega
end
end DescV
/-- Too big? -/
def bigD (d : DescV) : Bool := decide (60 < d.nodes ∨ 12 < d.depth)
set_option maxRecDepth 100000 in
set_option maxHeartbeats 4000000 in
theorem depth_step (k : Nat) (ih : ∀ j, k = j + 1 → ∀ (F : Foot) (kd nd : Int) (l : List DescV) (a : Option Addr) (n cap : Nat) (w : World), RowOf (descRd j) 3 40 F w a n cap l → DescV.nodesL l < 1048576 →
    Calls Tryz.prog 75 #[.agg #[.int .i64 kd, .int .i64 nd, .slice a n cap]] w fun e w' => e = .returned (.int .i64 ((DescV.depthL l + 1 : Nat) : Int)) ∧ Below w.heap.size w w') (F : Foot) (kd nd : Int) (l : List DescV) (a : Option Addr) (n cap : Nat) (w : World) (hl : RowOf (descRd k) 3 40 F w a n cap l) (hm : DescV.nodesL l < 1048576) :
    Calls Tryz.prog 75 #[.agg #[.int .i64 kd, .int .i64 nd, .slice a n cap]] w fun e w' => e = .returned (.int .i64 ((DescV.depthL l + 1 : Nat) : Int)) ∧ Below w.heap.size w w' := by
  have HLN := Lib.hid hl.len
  have hn : n ≤ 3518437208880 := by have := hl.room; omega
  have HL := Lib.hid hl
  have HIH := Lib.hid ih
  have HM := Lib.hid hm
  clear hl ih hm
  go_enter Tryz.func75, Tryz.ntmps75
  go_wp2_with fail
  go_loopg [3, 9] n (fun g dv iv wr => ∃ j : Nat, j ≤ n ∧ g = n - j ∧ iv = .int .i64 (j : Int) ∧ dv = .int .i64 ((DescV.depthL (l.take j) : Nat) : Int) ∧ Below w.heap.size w wr)
  case atStart => exact ⟨0, by omega, rfl, rfl, rfl, (Below.refl _ _).alloc (Nat.le_refl _) _⟩
  case round =>
    obtain ⟨j, hj, rfl, rfl, rfl, hB⟩ := hrel
    obtain ⟨wo, rfl⟩ : ∃ wo : World, wo = wr := ⟨_, rfl⟩
    have HB := Lib.hid hB
    by_cases hlt : j < n
    · obtain ⟨k, rfl⟩ : ∃ q, k = q + 1 := by
        cases k with
        | zero => exact absurd (row_no_zero HL.out) (fun e => by have := HLN.out; rw [e] at this; simp at this; omega)
        | succ q => exact ⟨q, rfl⟩
      have hil : j < l.length := by have := HLN.out; omega
      obtain ⟨b, off, ax, nx, cx, rfl, hbw, _, _, _, hk, p0, p1, p2⟩ := (HL.out.keep (descRd_ok _) (Fix.of_below hB)).desc j hil
      have HTK := Lib.hid (List.take_succ_eq_append_getElem hil)
      have HSUM := Lib.hid (DescV.nodesL_take_succ hil)
      have HLE := Lib.hid (DescV.nodesL_take_le l (j + 1))
      have HNK := Lib.hid (DescV.nodes_kids (l[j]'hil))
      generalize l[j]'hil = d at *
      obtain ⟨dk, dn, dl⟩ := d
      simp only [DescV.kind, DescV.n, DescV.kids] at p0 p1 p2 hk
      have HNK' : Hid ((DescV.mk dk dn dl).nodes = DescV.nodesL dl + 1) := HNK
      have hmd : DescV.nodesL dl < 1048576 := by have := HM.out; have := HSUM.out; have := HLE.out; have := HNK'.out; omega
      have HCX := Lib.hid (fun W hb => HIH.out k rfl F dk dn dl ax nx cx W (hk.keep (descRd_ok _) (Fix.of_below hb)) hmd)
      have HD1 : Hid (DescV.depthL (l.take (j + 1)) = Nat.max (DescV.depthL (l.take j)) (DescV.depthL dl + 1)) := Lib.hid (by rw [HTK.out, DescV.depthL_snoc]; rfl)
      clear hk hB hmd
      generalize DescV.depthL (l.take j) = D at *
      generalize DescV.depthL dl + 1 = E at *
      have HB4 : Hid (Below wo.heap.size wo (wo.alloc (.cells #[.int .i64 dk, .int .i64 dn, .slice ax nx cx] 54))) := Lib.hid ((Below.refl _ _).alloc (Nat.le_refl _) _)
      go_wp2_with (go_at_call 75; (with_reducible refine (HCX.out _ HB4.out).mono ?_); rintro e w5 ⟨rfl, hb5⟩; have HB5 := Lib.hid hb5; clear hb5)
      all_goals
        go_roundg (n - (j + 1))
        case measure => omega
        case rel =>
          refine ⟨j + 1, by omega, rfl, by go_num, ?_, HB.out.trans ((HB4.out.trans (HB5.out.mono HB4.out.size)).mono HB.out.size)⟩
          rw [HD1.out]
          congr 1
          show (_ : Int) = ((max D E : Nat) : Int)
          omega
    · obtain rfl : j = n := by omega
      rw [List.take_of_length_le (by have := HLN.out; omega)]
      have hD : (DescV.depthL l : Int) + 1 ≤ 9223372036854775807 := by have := DescV.depthL_nodes l; have := HM.out; omega
      go_wp2_with fail
      go_ret
      exact ⟨by rw [Int.natCast_add]; rfl, HB.out⟩
theorem depth_any : ∀ (k : Nat) (F : Foot) (kd nd : Int) (l : List DescV) (a : Option Addr) (n cap : Nat) (w : World), RowOf (descRd k) 3 40 F w a n cap l → DescV.nodesL l < 1048576 →
    Calls Tryz.prog 75 #[.agg #[.int .i64 kd, .int .i64 nd, .slice a n cap]] w fun e w' => e = .returned (.int .i64 ((DescV.depthL l + 1 : Nat) : Int)) ∧ Below w.heap.size w w'
  | 0 => depth_step 0 fun j h => by omega
  | k + 1 => depth_step (k + 1) fun j h => by
    obtain rfl : k = j := by omega
    exact depth_any k
set_option maxRecDepth 100000 in
set_option maxHeartbeats 4000000 in
theorem rdepth_step (k : Nat) (ih : ∀ j, k = j + 1 → ∀ (F : Foot) (kd nd : Int) (l : List DescV) (a : Option Addr) (n cap : Nat) (w : World), RowOf (descRd j) 3 40 F w a n cap l → DescV.nodesL l < 1048576 →
    Calls Tryz.prog 91 #[.agg #[.int .i64 kd, .int .i64 nd, .slice a n cap]] w fun e w' => e = .returned (.int .i64 ((DescV.depthL l + 1 : Nat) : Int)) ∧ Below w.heap.size w w') (F : Foot) (kd nd : Int) (l : List DescV) (a : Option Addr) (n cap : Nat) (w : World) (hl : RowOf (descRd k) 3 40 F w a n cap l) (hm : DescV.nodesL l < 1048576) :
    Calls Tryz.prog 91 #[.agg #[.int .i64 kd, .int .i64 nd, .slice a n cap]] w fun e w' => e = .returned (.int .i64 ((DescV.depthL l + 1 : Nat) : Int)) ∧ Below w.heap.size w w' := by
  have HLN := Lib.hid hl.len
  have hn : n ≤ 3518437208880 := by have := hl.room; omega
  obtain ⟨W0, hW0⟩ : ∃ W0, W0 = w.alloc (.cells #[.int .i64 kd, .int .i64 nd, .slice a n cap] 54) := ⟨_, rfl⟩
  have hb0 : Below w.heap.size w W0 := by rw [hW0]; exact (Below.refl _ _).alloc (Nat.le_refl _) _
  have g0 : W0.heap[w.heap.size]? = some (.cells #[.int .i64 kd, .int .i64 nd, .slice a n cap] 54 (0, 0)) := by rw [hW0]; exact heap_alloc_new w _
  have hz0 : w.heap.size < W0.heap.size := by rw [hW0]; simp
  have HL := Lib.hid (hl.keep (descRd_ok _) (Fix.of_below hb0))
  have HB0 := Lib.hid hb0
  have HT2 := Lib.hid (cell_at (o := 2) g0 rfl)
  have HIH := Lib.hid ih
  have HM := Lib.hid hm
  clear hl ih hm hb0 g0
  go_enter Tryz.func91, Tryz.ntmps91
  go_wp2_with fail
  rw [← hW0]
  clear hW0
  go_loopg [3, 4] n (fun g dv iv wr => ∃ j : Nat, j ≤ n ∧ g = n - j ∧ iv = .int .i64 (j : Int) ∧ dv = .int .i64 ((DescV.depthL (l.take j) : Nat) : Int) ∧ Below W0.heap.size W0 wr)
  case atStart => exact ⟨0, by omega, rfl, rfl, rfl, Below.refl _ _⟩
  case round =>
    obtain ⟨j, hj, rfl, rfl, rfl, hB⟩ := hrel
    obtain ⟨wo, rfl⟩ : ∃ wo : World, wo = wr := ⟨_, rfl⟩
    have HB := Lib.hid hB
    have b2 : wo.cell? ⟨w.heap.size, 2, none⟩ = some (.slice a n cap) := (hB.cell (p := ⟨w.heap.size, 2, none⟩) hz0).trans HT2.out
    by_cases hlt : j < n
    · obtain ⟨k, rfl⟩ : ∃ q, k = q + 1 := by
        cases k with
        | zero => exact absurd (row_no_zero HL.out) (fun e => by have := HLN.out; rw [e] at this; simp at this; omega)
        | succ q => exact ⟨q, rfl⟩
      have hil : j < l.length := by have := HLN.out; omega
      obtain ⟨b, off, ax, nx, cx, rfl, hbw, _, _, _, hk, p0, p1, p2⟩ := (HL.out.keep (descRd_ok _) (Fix.of_below hB)).desc j hil
      have HTK := Lib.hid (List.take_succ_eq_append_getElem hil)
      have HSUM := Lib.hid (DescV.nodesL_take_succ hil)
      have HLE := Lib.hid (DescV.nodesL_take_le l (j + 1))
      have HNK := Lib.hid (DescV.nodes_kids (l[j]'hil))
      generalize l[j]'hil = d at *
      obtain ⟨dk, dn, dl⟩ := d
      simp only [DescV.kind, DescV.n, DescV.kids] at p0 p1 p2 hk
      have HNK' : Hid ((DescV.mk dk dn dl).nodes = DescV.nodesL dl + 1) := HNK
      have hmd : DescV.nodesL dl < 1048576 := by have := HM.out; have := HSUM.out; have := HLE.out; have := HNK'.out; omega
      have HCX := Lib.hid (HIH.out k rfl F dk dn dl ax nx cx wo hk hmd)
      have HD1 : Hid (DescV.depthL (l.take (j + 1)) = Nat.max (DescV.depthL (l.take j)) (DescV.depthL dl + 1)) := Lib.hid (by rw [HTK.out, DescV.depthL_snoc]; rfl)
      clear hk hB hmd
      generalize DescV.depthL (l.take j) = D at *
      generalize DescV.depthL dl + 1 = E at *
      by_cases hc : (D : Int) < (E : Int)
      · go_wp2_with (go_at_call 91; (with_reducible refine HCX.out.mono ?_); rintro e w5 ⟨rfl, hb5⟩; have HB5 := Lib.hid hb5; clear hb5)
        go_roundg (n - (j + 1))
        case measure => omega
        case rel =>
          refine ⟨j + 1, by omega, rfl, by go_num, ?_, HB.out.trans (HB5.out.mono HB.out.size)⟩
          rw [HD1.out]
          congr 1
          show (_ : Int) = ((max D E : Nat) : Int)
          omega
      · go_wp2_with (go_at_call 91; (with_reducible refine HCX.out.mono ?_); rintro e w5 ⟨rfl, hb5⟩; have HB5 := Lib.hid hb5; clear hb5)
        go_roundg (n - (j + 1))
        case measure => omega
        case rel =>
          refine ⟨j + 1, by omega, rfl, by go_num, ?_, HB.out.trans (HB5.out.mono HB.out.size)⟩
          rw [HD1.out]
          congr 1
          show (_ : Int) = ((max D E : Nat) : Int)
          omega
    · obtain rfl : j = n := by omega
      rw [List.take_of_length_le (by have := HLN.out; omega)]
      have hD : (DescV.depthL l : Int) + 1 ≤ 9223372036854775807 := by have := DescV.depthL_nodes l; have := HM.out; omega
      go_wp2_with fail
      go_ret
      exact ⟨by rw [Int.natCast_add]; rfl, HB0.out.trans (HB.out.mono HB0.out.size)⟩
theorem rdepth_any : ∀ (k : Nat) (F : Foot) (kd nd : Int) (l : List DescV) (a : Option Addr) (n cap : Nat) (w : World), RowOf (descRd k) 3 40 F w a n cap l → DescV.nodesL l < 1048576 →
    Calls Tryz.prog 91 #[.agg #[.int .i64 kd, .int .i64 nd, .slice a n cap]] w fun e w' => e = .returned (.int .i64 ((DescV.depthL l + 1 : Nat) : Int)) ∧ Below w.heap.size w w'
  | 0 => rdepth_step 0 fun j h => by omega
  | k + 1 => rdepth_step (k + 1) fun j h => by
    obtain rfl : k = j := by omega
    exact rdepth_any k
end Go.Proofs.YthjcmcgmalnfpaaGreatDoor
