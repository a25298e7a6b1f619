/- Reading deep values out of memory, with the blocks that a reading leans on (F): what cells show, as plain lists, numbers and texts. No function of the program. -/
import Derived.Test.YtibabpahpiijgaaGreatDoorMem2
import Derived.Deep.Slices
import Derived.SizedLaws
namespace Go.Proofs.YtibabpahpiijgaaGreatDoor
open Go.RowKit
set_option linter.unusedVariables false
abbrev Foot := Nat → Prop
/-- Blocks of F that were there read as before. -/
structure Fix (F : Foot) (w w' : World) : Prop where
  size : w.heap.size ≤ w'.heap.size
  same : ∀ b, b < w.heap.size → F b → w'.heap[b]? = w.heap[b]?
theorem Fix.refl (F : Foot) (w : World) : Fix F w w := ⟨Nat.le_refl _, fun _ _ _ => rfl⟩
theorem Fix.trans {F : Foot} {a b c : World} (h : Fix F a b) (k : Fix F b c) : Fix F a c :=
  ⟨Nat.le_trans h.size k.size, fun x hx hf => (k.same x (Nat.lt_of_lt_of_le hx h.size) hf).trans (h.same x hx hf)⟩
theorem Fix.mono {F G : Foot} {w w' : World} (h : Fix F w w') (hg : ∀ b, b < w.heap.size → G b → F b) : Fix G w w' := ⟨h.size, fun b hb hf => h.same b hb (hg b hb hf)⟩
theorem Fix.of_below {F : Foot} {w w' : World} (h : Below w.heap.size w w') : Fix F w w' := ⟨h.size, fun b hb _ => h.block b hb⟩
theorem Fix.of_belowB {F : Foot} {B : Nat} {w w' : World} (h : Below B w w') (hF : ∀ b, b < w.heap.size → F b → b < B) : Fix F w w' := ⟨h.size, fun b hb hf => h.block b (hF b hb hf)⟩
theorem Fix.of_grown {F : Foot} {w w' : World} {r : Option Nat} (h : w.grownBy w' r) (hr : ∀ b, b < w.heap.size → F b → some b ≠ r) : Fix F w w' := ⟨h.size, fun b hb hf => h.block b hb (hr b hb hf)⟩
theorem Fix.alloc (F : Foot) (w : World) (o : Obj) : Fix F w (w.alloc o) := .of_below ((Below.refl _ _).alloc (Nat.le_refl _) _)
theorem Fix.drew (F : Foot) (w : World) : Fix F w w.drew := ⟨Nat.le_refl _, fun _ _ _ => rfl⟩
theorem Fix.drewN (F : Foot) (w : World) (n : Nat) : Fix F w (w.drewN n) := ⟨Nat.le_refl _, fun _ _ _ => rfl⟩
theorem Fix.setCell {F : Foot} (w : World) (a : Addr) (v : Value) (h : ¬ F a.block) : Fix F w (w.setCell a v) := .of_grown (grown_setCell w a v) fun b _ hf e => h (by cases e; exact hf)
theorem Fix.cell {F : Foot} {w w' : World} (h : Fix F w w') {b o : Nat} (hb : b < w.heap.size) (hf : F b) : w'.cell? ⟨b, o, none⟩ = w.cell? ⟨b, o, none⟩ := World.cell?_of_block (a := ⟨b, o, none⟩) (h.same b hb hf)
abbrev All : Foot := fun _ => True
/-- A reading: at this world these cells (of one value) show this, by blocks of F. -/
abbrev Rd (α : Type) := Foot → World → List Value → α → Prop
structure Rd.Ok {α : Type} (r : Rd α) (size : Nat) : Prop where
  len : ∀ {F w cs x}, r F w cs x → cs.length = size
  keep : ∀ {F w w' cs x}, r F w cs x → Fix F w w' → r F w' cs x
  mono : ∀ {F G : Foot} {w cs x}, r F w cs x → (∀ b, b < w.heap.size → F b → G b) → r G w cs x
  one : ∀ {F w cs x}, r F w cs x → ∀ u ∈ cs, u.oneCell' = true
def Rd.int (k : IntKind) : Rd Int := fun _ _ cs n => cs = [.int k n] ∧ (Lit.int k n).wf = true
def Rd.bool : Rd Bool := fun _ _ cs b => cs = [.bool b]
def Rd.str : Rd ByteArray := fun _ _ cs s => cs = [.string s] ∧ s.size ≤ 140737488351232
def Rd.pair {α β : Type} (r : Rd α) (q : Rd β) : Rd (α × β) := fun F w cs x => ∃ c1 c2, cs = c1 ++ c2 ∧ r F w c1 x.1 ∧ q F w c2 x.2
/-- What a slice of n elements shows: each so many cells and bytes. -/
structure RowOf {α : Type} (r : Rd α) (size bytes : Nat) (F : Foot) (w : World) (a : Option Addr) (n cap : Nat) (xs : List α) : Prop where
  len : xs.length = n
  le : n ≤ cap
  max : cap ≤ maxLen
  room : n * bytes ≤ 140737488351232
  nil : a = none → cap = 0
  at_ : ∀ i x, xs[i]? = some x → ∃ b off cs, a = some ⟨b, off, none⟩ ∧ b < w.heap.size ∧ F b ∧ cs.length = size ∧ (∀ j u, cs[j]? = some u → w.cell? ⟨b, off + i * size + j, none⟩ = some u) ∧ r F w cs x
def Rd.slice {α : Type} (r : Rd α) (size bytes : Nat) : Rd (List α) := fun F w cs xs => ∃ a n cap, cs = [.slice a n cap] ∧ RowOf r size bytes F w a n cap xs
theorem Rd.int_ok (k : IntKind) : (Rd.int k).Ok 1 := ⟨fun h => by rw [h.1]; rfl, fun h _ => h, fun h _ => h, fun h u hu => by rw [h.1] at hu; simp at hu; subst hu; rfl⟩
theorem Rd.bool_ok : Rd.bool.Ok 1 := ⟨fun h => by rw [show _ = [_] from h]; rfl, fun h _ => h, fun h _ => h, fun h u hu => by rw [show _ = [_] from h] at hu; simp at hu; subst hu; rfl⟩
theorem Rd.str_ok : Rd.str.Ok 1 := ⟨fun h => by rw [h.1]; rfl, fun h _ => h, fun h _ => h, fun h u hu => by rw [h.1] at hu; simp at hu; subst hu; rfl⟩
theorem Rd.pair_ok {α β : Type} {r : Rd α} {q : Rd β} {m n : Nat} (h : r.Ok m) (k : q.Ok n) : (Rd.pair r q).Ok (m + n) :=
  ⟨fun ⟨c1, c2, e, h1, h2⟩ => by rw [e, List.length_append, h.len h1, k.len h2], fun ⟨c1, c2, e, h1, h2⟩ hb => ⟨c1, c2, e, h.keep h1 hb, k.keep h2 hb⟩, fun ⟨c1, c2, e, h1, h2⟩ hb => ⟨c1, c2, e, h.mono h1 hb, k.mono h2 hb⟩,
    fun ⟨c1, c2, e, h1, h2⟩ u hu => by
      rw [e, List.mem_append] at hu
      rcases hu with hu | hu
      · exact h.one h1 u hu
      · exact k.one h2 u hu⟩
theorem RowOf.keep {α : Type} {r : Rd α} {size bytes : Nat} (hr : r.Ok size) {F : Foot} {w w' : World} {a : Option Addr} {n cap : Nat} {xs : List α} (h : RowOf r size bytes F w a n cap xs) (hb : Fix F w w') : RowOf r size bytes F w' a n cap xs := by
  refine ⟨h.len, h.le, h.max, h.room, h.nil, fun i x hx => ?_⟩
  obtain ⟨b, off, cs, h1, h2, hf, h3, h4, h5⟩ := h.at_ i x hx
  exact ⟨b, off, cs, h1, Nat.lt_of_lt_of_le h2 hb.size, hf, h3, fun j u hu => (hb.cell h2 hf).trans (h4 j u hu), hr.keep h5 hb⟩
theorem RowOf.mono {α : Type} {r : Rd α} {size bytes : Nat} (hr : r.Ok size) {F G : Foot} {w : World} {a : Option Addr} {n cap : Nat} {xs : List α} (h : RowOf r size bytes F w a n cap xs) (hg : ∀ b, b < w.heap.size → F b → G b) : RowOf r size bytes G w a n cap xs := by
  refine ⟨h.len, h.le, h.max, h.room, h.nil, fun i x hx => ?_⟩
  obtain ⟨b, off, cs, h1, h2, hf, h3, h4, h5⟩ := h.at_ i x hx
  exact ⟨b, off, cs, h1, h2, hg b h2 hf, h3, h4, hr.mono h5 hg⟩
theorem Rd.slice_ok {α : Type} {r : Rd α} {size : Nat} (hr : r.Ok size) (bytes : Nat) : (Rd.slice r size bytes).Ok 1 :=
  ⟨fun ⟨_, _, _, e, _⟩ => by rw [e]; rfl, fun ⟨a, n, cap, e, h⟩ hb => ⟨a, n, cap, e, h.keep hr hb⟩, fun ⟨a, n, cap, e, h⟩ hg => ⟨a, n, cap, e, h.mono hr hg⟩, fun ⟨a, n, cap, e, h⟩ u hu => by rw [e] at hu; simp at hu; subst hu; rfl⟩
theorem RowOf.empty {α : Type} (r : Rd α) (size bytes : Nat) (F : Foot) (w : World) : RowOf r size bytes F w none 0 0 [] := ⟨rfl, Nat.le_refl _, by simp, by simp, by simp, by simp⟩
/-- A row of integers, its cell. -/
theorem RowOf.int {k : IntKind} {bytes : Nat} {F : Foot} {w : World} {a : Option Addr} {n cap : Nat} {xs : List Int} (h : RowOf (Rd.int k) 1 bytes F w a n cap xs) (i : Nat) (hi : i < xs.length) :
    ∃ b off, a = some ⟨b, off, none⟩ ∧ b < w.heap.size ∧ F b ∧ w.cell? ⟨b, off + i, none⟩ = some (.int k (xs[i]'hi)) ∧ (Lit.int k (xs[i]'hi)).wf = true := by
  obtain ⟨b, off, cs, h1, h2, hf, _, h4, rfl, h5⟩ := h.at_ i (xs[i]'hi) (List.getElem?_eq_getElem hi)
  exact ⟨b, off, h1, h2, hf, by simpa using h4 0 _ rfl, h5⟩
/-- A row of the call's own reads as what it shows. -/
theorem RowOf.of_owns {α : Type} {r : Rd α} {size bytes : Nat} {F : Foot} {w : World} {base : Nat} {e : TypeId} {v : Value} {n : Nat} {cs : List Value} {xs : List α} (h : w.ownsRow base e size v n cs) (hsz : 0 < size) (hx : xs.length = n) (hroom : n * bytes ≤ 140737488351232) (hF : ∀ b, v.ownBlock = some b → F b)
    (hr : ∀ i x, xs[i]? = some x → ((cs.drop (i * size)).take size).length = size ∧ r F w ((cs.drop (i * size)).take size) x) : ∃ a cap, v = .slice a n cap ∧ RowOf r size bytes F w a n cap xs := by
  rcases h.2 with ⟨rfl, rfl⟩ | ⟨g, cap, cur, rfl, hbg, hg, hle, hm, hs, ht⟩
  · obtain rfl : xs = [] := List.eq_nil_of_length_eq_zero hx
    exact ⟨none, 0, rfl, RowOf.empty _ _ _ _ _⟩
  · refine ⟨_, cap, rfl, hx, hle, hm, hroom, by simp, fun i x hxi => ⟨g, 0, _, rfl, (Array.getElem?_eq_some_iff.1 hg).1, hF g rfl, (hr i x hxi).1, fun j u hu => ?_, (hr i x hxi).2⟩⟩
    have hj : j < size := by have := (List.getElem?_eq_some_iff.1 hu).1; rw [(hr i x hxi).1] at this; exact this
    rw [List.getElem?_take_of_lt hj, List.getElem?_drop] at hu
    have := h.cells (g := g) rfl _ u hu
    rw [Addr.add_lit] at this
    rw [← this, Nat.zero_add, Nat.zero_add]
theorem list_choose {β : Type} {Q : Nat → β → Prop} : ∀ n, (∀ i, i < n → ∃ y, Q i y) → ∃ l : List β, l.length = n ∧ ∀ (i : Nat) y, l[i]? = some y → Q i y
  | 0, _ => ⟨[], rfl, by simp⟩
  | n + 1, h => by
    obtain ⟨l, hl, hq⟩ := list_choose n fun i hi => h i (by omega)
    obtain ⟨y, hy⟩ := h n (by omega)
    refine ⟨l ++ [y], by simp [hl], fun i z hz => ?_⟩
    by_cases hi : i < l.length
    · rw [List.getElem?_append_left hi] at hz
      exact hq i z hz
    · rw [List.getElem?_append_right (by omega)] at hz
      have : i - l.length = 0 := by
        have := (List.getElem?_eq_some_iff.1 hz).1
        simp at this
        omega
      rw [this] at hz
      obtain rfl : y = z := by simpa using hz
      rw [show i = n by omega]
      exact hy
/-! ### From the form's own reading -/
/-- Whatever the form reads as a value of type t, reads so. -/
structure Opens {α : Type} (P : Program) (t : TypeId) (r : Rd α) : Prop where
  get : ∀ {H : Type} (enc : TypeId × Value → H) (w : World) (base : Nat) (spare : Nat → Bool) (held : Bool) (fuel : Nat) (cs : List Value) (x : DataW H × List MemPlace),
    DataW.trod enc P w base spare held fuel t cs = some x → (∀ q ∈ DataW.weights P t x.1, q ≤ reachBytes) → ∃ y, r All w cs y
theorem opens_int {P : Program} {t : TypeId} {k : IntKind} (ht : P.underlying t = some (.int k)) : Opens P t (Rd.int k) := by
  constructor
  intro H enc w base spare held fuel cs x h _
  obtain ⟨n, rfl, rfl, hw⟩ := DataW.trod_int ht h
  exact ⟨n, rfl, hw⟩
theorem opens_str {P : Program} {t : TypeId} (ht : P.underlying t = some .string) : Opens P t Rd.str := by
  constructor
  intro H enc w base spare held fuel cs x h hq
  obtain ⟨s, rfl, rfl, hw⟩ := DataW.trod_string ht h
  refine ⟨s, rfl, ?_⟩
  have := hq s.data.toList.length (by simp [DataW.weights])
  have h2 : s.data.toList.length = s.size := by simp
  unfold reachBytes at this
  omega
theorem opens_slice {α : Type} {P : Program} {t e : TypeId} {r : Rd α} {size bytes : Nat} (ht : P.underlying t = some (.slice e)) (hs : P.cellsOf e = size) (hbt : P.bytesOf e = bytes) (h0 : 0 < size) (hr : r.Ok size) (ho : Opens P e r) : Opens P t (Rd.slice r size bytes) := by
  constructor
  intro H enc w base spare held fuel cs x h hq
  rcases Deep.open_slice ht h with ⟨rfl, rfl⟩ | ⟨a, n, cap, m, f, D, Pl, rfl, _, hl, hm, hmm, rfl, hx⟩
  · exact ⟨[], none, 0, 0, rfl, RowOf.empty _ _ _ _ _⟩
  · have hlm : n ≤ m := by rw [hmm]; split <;> omega
    have hw0 : (n + (m - n)) * P.bytesOf e ≤ reachBytes := hq _ (by simp [DataW.weights, ht])
    have each : ∀ i, i < n → ∃ y : α × List Value, w.cells? base (a.add (i * P.cellsOf e)) (P.cellsOf e) = some y.2 ∧ r All w y.2 y.1 := by
      intro i hi
      obtain ⟨cs', h1, h2⟩ := hx i (by omega)
      obtain ⟨y, hy⟩ := ho.get enc w base spare held f cs' _ h2 fun q hq' => hq q (by
        rw [DataW.weights, ht]
        refine List.mem_cons_of_mem _ (List.mem_append_left _ ?_)
        have : ∀ (l : List (DataW H)) (d : DataW H), d ∈ l → q ∈ DataW.weights P e d → q ∈ DataW.weightsAll P e l := by
          intro l
          induction l with
          | nil => intro d hd; simp at hd
          | cons z l ih =>
            intro d hd hqd
            rw [DataW.weightsAll, List.mem_append]
            rcases List.mem_cons.1 hd with rfl | hd
            · exact .inl hqd
            · exact .inr (ih d hd hqd)
        exact this _ (D i) (List.mem_map.2 ⟨i, List.mem_range.2 hi, rfl⟩) hq')
      exact ⟨(y, cs'), h1, hy⟩
    obtain ⟨l, hl2, hg⟩ := list_choose n each
    refine ⟨l.map (·.1), some a, n, cap, rfl, by simpa using hl2, hl, hm, ?_, by simp, fun i x hx => ?_⟩
    · rw [hbt] at hw0
      have : n * bytes ≤ (n + (m - n)) * bytes := Nat.mul_le_mul_right _ (by omega)
      unfold reachBytes at hw0
      omega
    · rw [List.getElem?_map, Option.map_eq_some_iff] at hx
      obtain ⟨g, hgi, rfl⟩ := hx
      obtain ⟨h1, h2⟩ := hg i g hgi
      rw [hs] at h1
      obtain ⟨_, hlen, hcell⟩ := World.cells?_some h1
      obtain ⟨b, off, spot⟩ := a
      obtain rfl : spot = none := by
        have h0l : 0 < l.length := by have := (List.getElem?_eq_some_iff.1 hgi).1; omega
        obtain ⟨k1, _⟩ := hg 0 _ (List.getElem?_eq_getElem h0l)
        rw [hs] at k1
        obtain ⟨_, klen, kcell⟩ := World.cells?_some k1
        have c0 := kcell 0 (by omega)
        rw [Deep.add_add] at c0
        have hsp := World.cell?_spot (c0.trans (List.getElem?_eq_getElem (by omega)))
        simpa [Addr.add] using hsp
      have hcc : ∀ j, j < size → w.cell? ⟨b, off + i * size + j, none⟩ = g.2[j]? := fun j hj => by
        have := hcell j hj
        rw [Deep.add_add, Addr.add_lit] at this
        rw [← this, Nat.add_assoc]
      refine ⟨b, off, g.2, rfl, ?_, trivial, hlen, fun j u hu => ?_, h2⟩
      · have := hcc 0 h0
        rw [List.getElem?_eq_getElem (by omega)] at this
        exact World.block_lt_of_cell? w _ this
      · rw [hcc j (by have := (List.getElem?_eq_some_iff.1 hu).1; omega)]
        exact hu
/-- The fields of a struct from cell o on. -/
structure OpensFs {γ : Type} (P : Program) (fs : List Field) (o tot : Nat) (r : Rd γ) : Prop where
  get : ∀ {H : Type} (enc : TypeId × Value → H) (w : World) (base : Nat) (spare : Nat → Bool) (held : Bool) (n : Nat) (cs : List Value) (xs : List (DataW H × List MemPlace)),
    cs.length = tot → xs.length = fs.length → (∀ (i : Nat) (f : Field), fs[i]? = some f → DataW.trod enc P w base spare held n f.type ((cs.drop f.offset).take (P.cellsOf f.type)) = xs[i]?) →
    (∀ q ∈ DataW.weightsEach P (fs.map (·.type)) (xs.map (·.1)), q ≤ reachBytes) → ∃ y, r All w (cs.drop o) y
theorem fs_one {γ : Type} {P : Program} {f : Field} {o tot s : Nat} {r : Rd γ} (h1 : f.offset = o) (h2 : P.cellsOf f.type = s) (h3 : o + s = tot) (ho : Opens P f.type r) : OpensFs P [f] o tot r := by
  constructor
  intro H enc w base spare held n cs xs hcs hxs hx hq
  match xs, hxs with
  | [x], _ =>
    have e := hx 0 f rfl
    rw [h1, h2, List.take_of_length_le (by rw [List.length_drop]; omega)] at e
    exact ho.get enc w base spare held n _ x e fun q hq' => hq q (by simpa [DataW.weightsEach] using hq')
theorem fs_cons {α γ : Type} {P : Program} {f : Field} {fs : List Field} {o tot s : Nat} {r : Rd α} {q : Rd γ} (h1 : f.offset = o) (h2 : P.cellsOf f.type = s) (ho : Opens P f.type r) (hn : OpensFs P fs (o + s) tot q) : OpensFs P (f :: fs) o tot (Rd.pair r q) := by
  constructor
  intro H enc w base spare held n cs xs hcs hxs hx hq
  match xs, hxs with
  | x :: xs, hl =>
    have e := hx 0 f rfl
    rw [h1, h2] at e
    obtain ⟨y1, hy1⟩ := ho.get enc w base spare held n _ x e fun q hq' => hq q (by rw [List.map_cons, List.map_cons, DataW.weightsEach]; exact List.mem_append_left _ hq')
    obtain ⟨y2, hy2⟩ := hn.get enc w base spare held n cs xs hcs (by simpa using hl) (fun i g hg => by simpa using hx (i + 1) g (by simpa using hg)) fun q hq' => hq q (by rw [List.map_cons, List.map_cons, DataW.weightsEach]; exact List.mem_append_right _ hq')
    refine ⟨(y1, y2), _, _, ?_, hy1, hy2⟩
    rw [← List.drop_drop, List.take_append_drop]
theorem opens_struct {γ : Type} {P : Program} {t : TypeId} {fs : Array Field} {tot : Nat} {r : Rd γ} (ht : P.underlying t = some (.struct fs)) (hc : P.cellsOf t = tot) (ho : OpensFs P fs.toList 0 tot r) : Opens P t r := by
  constructor
  intro H enc w base spare held fuel cs x h hq
  obtain ⟨xs, n, _, rfl, hl, hxs, hx⟩ := DataW.trod_struct ht h
  obtain ⟨y, hy⟩ := ho.get enc w base spare held n cs xs (by omega) (by simpa using hxs) (fun i f hf => hx i f (by simpa using hf)) fun q hq' => hq q (by simpa [DataW.weights, ht] using hq')
  exact ⟨y, by simpa using hy⟩
end Go.Proofs.YtibabpahpiijgaaGreatDoor
