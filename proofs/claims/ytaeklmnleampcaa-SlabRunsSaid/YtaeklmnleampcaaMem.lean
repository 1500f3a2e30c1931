/- What a slice reads as in memory: spans, integers, moves, bytes; a row of cells told by a function; and that all this stays where memory below a bound stays. -/
import Derived.Test.YtaeklmnleampcaaProg
import Derived.Test.YtaeklmnleampcaaPlain
import Derived.Handy
import Derived.Lib.Hide
namespace Go.Proofs.Ytaeklmnleampcaa
open Go.RowKit

theorem bcell {W w1 : World} (hb : Below W.heap.size W w1) : (∀ b o, b < W.heap.size → w1.cell? ⟨b, o, none⟩ = W.cell? ⟨b, o, none⟩) ∧ (∀ b o, b < W.heap.size → w1.frozen? ⟨b, o, none⟩ = W.frozen? ⟨b, o, none⟩) :=
  ⟨fun b o h => hb.cell (p := ⟨b, o, none⟩) h, fun b o h => hb.frozen (p := ⟨b, o, none⟩) h⟩

/-- One step more behind what lies below B. -/
theorem Below.step {B : Nat} {w wr w1 : World} (h : Below B w wr) (hB : B ≤ wr.heap.size) (h1 : Below wr.heap.size wr w1) : Below B w w1 := h.trans (h1.mono hB)

/-- A step that was made behind some new blocks. -/
theorem Below.step' {B : Nat} {w wr wa w1 : World} (h : Below B w wr) (ha : Below B wr wa) (hB : B ≤ wa.heap.size) (h1 : Below wa.heap.size wa w1) : Below B w w1 := (h.trans ha).trans (h1.mono hB)

def inI64 (x : Int) : Prop := -9223372036854775808 ≤ x ∧ x ≤ 9223372036854775807

theorem right_range {e : Int} {l : List (Int × Int)} (h : rightFrom e l = true) : ∀ x ∈ l, inI64 x.1 ∧ inI64 x.2 := by
  induction l generalizing e with
  | nil => simp
  | cons x r ih =>
    rw [rightFrom_cons, singleB_iff] at h
    intro y hy
    rcases List.mem_cons.1 hy with rfl | hy
    · unfold inI64; omega
    · exact ih h.2.2 y hy

/-- A slice of spans. -/
def SpanSl (w : World) (v : Value) (l : List (Int × Int)) : Prop :=
  ∃ ao cap, v = .slice ao l.length cap ∧ l.length ≤ 9223372036854775807 ∧ (∀ x ∈ l, inI64 x.1 ∧ inI64 x.2) ∧
   (l ≠ [] → ∃ b o, ao = some ⟨b, o, none⟩ ∧ b < w.heap.size ∧
     ∀ k (h : k < l.length), w.cell? ⟨b, o + k * 2, none⟩ = some (.int .i64 l[k].1) ∧ w.cell? ⟨b, o + k * 2 + 1, none⟩ = some (.int .i64 l[k].2))

theorem SpanSl.below {w w' : World} {v : Value} {l : List (Int × Int)} (h : SpanSl w v l) (hb : Below w.heap.size w w') : SpanSl w' v l := by
  obtain ⟨ao, cap, h1, h2, h3, h4⟩ := h
  refine ⟨ao, cap, h1, h2, h3, fun hl => ?_⟩
  obtain ⟨b, o, h5, h6, h7⟩ := h4 hl
  refine ⟨b, o, h5, Nat.lt_of_lt_of_le h6 hb.size, fun k hk => ?_⟩
  obtain ⟨h8, h9⟩ := h7 k hk
  exact ⟨(hb.cell (p := ⟨b, _, none⟩) h6).trans h8, (hb.cell (p := ⟨b, _, none⟩) h6).trans h9⟩

theorem SpanSl.range {w : World} {v : Value} {l : List (Int × Int)} (h : SpanSl w v l) : ∀ x ∈ l, inI64 x.1 ∧ inI64 x.2 := by
  obtain ⟨ao, cap, h1, h2, h3, h4⟩ := h
  exact h3

theorem spanSl_nil (w : World) : SpanSl w (.slice none 0 0) [] := ⟨none, 0, rfl, by simp, by simp, fun h => absurd rfl h⟩

/-- A slice of integers of one kind. -/
def IntSl (k : IntKind) (w : World) (v : Value) (l : List Int) : Prop :=
  ∃ ao cap, v = .slice ao l.length cap ∧ l.length ≤ 9223372036854775807 ∧ (∀ x ∈ l, (Lit.int k x).wf = true) ∧
   (l ≠ [] → ∃ b o, ao = some ⟨b, o, none⟩ ∧ b < w.heap.size ∧ ∀ j (h : j < l.length), w.cell? ⟨b, o + j, none⟩ = some (.int k l[j]))

theorem IntSl.below {k : IntKind} {w w' : World} {v : Value} {l : List Int} (h : IntSl k w v l) (hb : Below w.heap.size w w') : IntSl k w' v l := by
  obtain ⟨ao, cap, h1, h2, h3, h4⟩ := h
  refine ⟨ao, cap, h1, h2, h3, fun hl => ?_⟩
  obtain ⟨b, o, h5, h6, h7⟩ := h4 hl
  exact ⟨b, o, h5, Nat.lt_of_lt_of_le h6 hb.size, fun k hk => (hb.cell (p := ⟨b, _, none⟩) h6).trans (h7 k hk)⟩

theorem intSl_nil (k : IntKind) (w : World) : IntSl k w (.slice none 0 0) [] := ⟨none, 0, rfl, by simp, by simp, fun h => absurd rfl h⟩

/-- A row of cells told by a function. -/
def arrOf (n : Nat) (f : Nat → Value) : Array Value := Array.ofFn (n := n) fun i => f i.val

theorem arrOf_size (n : Nat) (f : Nat → Value) : (arrOf n f).size = n := by simp [arrOf]

theorem arrOf_get (n : Nat) (f : Nat → Value) (i : Nat) : (arrOf n f)[i]? = if i < n then some (f i) else none := by
  unfold arrOf
  rw [Array.getElem?_ofFn]
  split <;> rfl

theorem arrOf_set (n : Nat) (f : Nat → Value) (i : Nat) (v : Value) : (arrOf n f).setIfInBounds i v = arrOf n (fun j => if j = i then v else f j) := by
  apply Array.ext_getElem?
  intro j
  rw [Array.getElem?_setIfInBounds, arrOf_get, arrOf_get, arrOf_size]
  by_cases h : i = j
  · subst h; simp
  · rw [if_neg h]
    by_cases hj : j < n
    · simp [hj, Ne.symm h]
    · simp [hj]

theorem arrOf_congr {n : Nat} {f g : Nat → Value} (h : ∀ i, i < n → f i = g i) : arrOf n f = arrOf n g := by
  apply Array.ext_getElem?
  intro j
  rw [arrOf_get, arrOf_get]
  split
  · rw [h j (by assumption)]
  · rfl

theorem arrOf_const (n : Nat) (v : Value) : Array.replicate n v = arrOf n (fun _ => v) := by
  apply Array.ext_getElem?
  intro j
  rw [arrOf_get, Array.getElem?_replicate]

/-- Block b is a row of n cells. -/
def RowAt (w : World) (b : Nat) (t : TypeId) (n : Nat) (f : Nat → Value) : Prop := w.heap[b]? = some (.cells (arrOf n f) t (0, 0))

theorem RowAt.cell {w : World} {b : Nat} {t : TypeId} {n : Nat} {f : Nat → Value} (h : RowAt w b t n f) {i : Nat} (hi : i < n) : w.cell? ⟨b, i, none⟩ = some (f i) := by
  rw [cell_of_row w b i _ t _ h, arrOf_get, if_pos hi]

theorem RowAt.frozen {w : World} {b : Nat} {t : TypeId} {n : Nat} {f : Nat → Value} (h : RowAt w b t n f) (i : Nat) : w.frozen? ⟨b, i, none⟩ = false := frozen_of_row w b i _ t h

theorem RowAt.lt {w : World} {b : Nat} {t : TypeId} {n : Nat} {f : Nat → Value} (h : RowAt w b t n f) : b < w.heap.size := (Array.getElem?_eq_some_iff.1 h).1

theorem RowAt.set {w : World} {b : Nat} {t : TypeId} {n : Nat} {f : Nat → Value} (h : RowAt w b t n f) (i : Nat) (v : Value) : RowAt (w.setCell ⟨b, i, none⟩ v) b t n (fun j => if j = i then v else f j) := by
  unfold RowAt
  rw [heap_setCell_same w b i _ t v h, arrOf_set]

theorem RowAt.below {w w' : World} {b : Nat} {t : TypeId} {n : Nat} {f : Nat → Value} (h : RowAt w b t n f) (hb : Below w.heap.size w w') : RowAt w' b t n f := by
  unfold RowAt
  rw [hb.block b h.lt]
  exact h

theorem RowAt.belowB {B : Nat} {w w' : World} {b : Nat} {t : TypeId} {n : Nat} {f : Nat → Value} (h : RowAt w b t n f) (hb : Below B w w') (hB : b < B) : RowAt w' b t n f := by
  unfold RowAt
  rw [hb.block b hB]
  exact h

theorem RowAt.congr {w : World} {b : Nat} {t : TypeId} {n : Nat} {f g : Nat → Value} (h : RowAt w b t n f) (hfg : ∀ i, i < n → f i = g i) : RowAt w b t n g := by
  unfold RowAt
  rw [← arrOf_congr hfg]
  exact h

theorem RowAt.alloc (w : World) (t : TypeId) (n : Nat) (f : Nat → Value) : RowAt (w.alloc (.cells (arrOf n f) t)) w.heap.size t n f := heap_alloc_new w _

theorem RowAt.alloc_old {w : World} {b : Nat} {t : TypeId} {n : Nat} {f : Nat → Value} (h : RowAt w b t n f) (o : Obj) : RowAt (w.alloc o) b t n f := by
  unfold RowAt
  rw [Below.heap_alloc w o b h.lt]
  exact h

theorem RowAt.set_other {w : World} {b : Nat} {t : TypeId} {n : Nat} {f : Nat → Value} (h : RowAt w b t n f) (a : Addr) (ha : b ≠ a.block) (v : Value) : RowAt (w.setCell a v) b t n f := by
  unfold RowAt
  rw [heap_setCell_other w a b v ha]
  exact h

theorem RowAt.grown {w w' : World} {b : Nat} {t : TypeId} {n : Nat} {f : Nat → Value} {row : Option Nat} (h : RowAt w b t n f) (hg : w.grownBy w' row) (hr : row ≠ some b) : RowAt w' b t n f := by
  unfold RowAt
  rw [hg.block b h.lt (fun e => hr e.symm)]
  exact h

/-- The truth values of a row. -/
def boolsF (f : Nat → Bool) : Nat → Value := fun i => .bool (f i)

theorem zero97 : Try.zeroCells97 = arrOf 4096 (boolsF fun _ => false) := by
  rw [show (boolsF fun _ => false) = (fun _ => Value.bool false) from rfl, ← arrOf_const]
  kernel_rfl

theorem zero60 : Try.zeroCells60 = arrOf 4096 (boolsF fun _ => false) := by
  rw [show (boolsF fun _ => false) = (fun _ => Value.bool false) from rfl, ← arrOf_const]
  kernel_rfl

/-! ### Cells of spans, one behind the other -/

def spanCells : List (Int × Int) → List Value
  | [] => []
  | x :: r => .int .i64 x.1 :: .int .i64 x.2 :: spanCells r

theorem spanCells_length (l : List (Int × Int)) : (spanCells l).length = l.length * 2 := by
  induction l with
  | nil => rfl
  | cons x r ih => simp only [spanCells, List.length_cons, ih]; omega

theorem spanCells_append (l m : List (Int × Int)) : spanCells (l ++ m) = spanCells l ++ spanCells m := by
  induction l with
  | nil => rfl
  | cons x r ih => simp [spanCells, ih]

theorem spanCells_get (l : List (Int × Int)) (k : Nat) (h : k < l.length) : (spanCells l)[k * 2]? = some (.int .i64 l[k].1) ∧ (spanCells l)[k * 2 + 1]? = some (.int .i64 l[k].2) := by
  induction l generalizing k with
  | nil => simp at h
  | cons x r ih =>
    cases k with
    | zero => exact ⟨rfl, rfl⟩
    | succ k =>
      have := ih k (by simpa using h)
      rw [show (k + 1) * 2 = k * 2 + 1 + 1 from by omega]
      simpa [spanCells] using this

theorem spanSl_of_owns {w : World} {base : Nat} {e : TypeId} {v : Value} {l : List (Int × Int)} (h : w.ownsRow base e 2 v l.length (spanCells l)) (hr : ∀ x ∈ l, inI64 x.1 ∧ inI64 x.2) (hl : l.length ≤ 9223372036854775807) : SpanSl w v l := by
  rcases h.2 with ⟨rfl, h0⟩ | ⟨g, cap, cur, rfl, hb, hg, hn, hc, hs, ht⟩
  · have : l = [] := List.eq_nil_of_length_eq_zero h0
    subst this
    exact spanSl_nil w
  · refine ⟨_, cap, rfl, hl, hr, fun _ => ⟨g, 0, rfl, (Array.getElem?_eq_some_iff.1 hg).1, fun k hk => ?_⟩⟩
    have h1 := h.cellAt (k * 2) (by omega)
    have h2 := h.cellAt (k * 2 + 1) (by omega)
    obtain ⟨h3, h4⟩ := spanCells_get l k hk
    rw [h3] at h1
    rw [h4] at h2
    simpa using ⟨h1, h2⟩

theorem intSl_of_owns {k : IntKind} {w : World} {base : Nat} {e : TypeId} {v : Value} {l : List Int} (h : w.ownsRow base e 1 v l.length (l.map (Value.int k))) (hr : ∀ x ∈ l, (Lit.int k x).wf = true) (hl : l.length ≤ 9223372036854775807) : IntSl k w v l := by
  rcases h.2 with ⟨rfl, h0⟩ | ⟨g, cap, cur, rfl, hb, hg, hn, hc, hs, ht⟩
  · have : l = [] := List.eq_nil_of_length_eq_zero h0
    subst this
    exact intSl_nil k w
  · refine ⟨_, cap, rfl, hl, hr, fun _ => ⟨g, 0, rfl, (Array.getElem?_eq_some_iff.1 hg).1, fun j hj => ?_⟩⟩
    have h1 := h.cellAt j (by omega)
    simpa [hj] using h1

theorem Try.info51 : (Try.prog.info? 51).map (fun i => (i.zero, i.size, i.bytes)) = some (some (.agg #[.int .i64 0, .int .i64 0]), 2, 16) := by kernel_rfl
theorem Try.info3 : (Try.prog.info? 3).map (fun i => (i.zero, i.size, i.bytes)) = some (some (.int .i64 0), 1, 8) := by kernel_rfl

theorem ret_bool {a b : Bool} (h : a = b) : Ending.returned (.bool a) = .returned (.bool b) := by rw [h]
theorem ret_int {k : IntKind} {a b : Int} (h : a = b) : Ending.returned (.int k a) = .returned (.int k b) := by rw [h]

/-- The two cells of a span of a list that came in, in a world below whose bound nothing has turned. -/
theorem span_cells {w wr : World} {b o : Nat} {l : List (Int × Int)} (hbs : b < w.heap.size)
    (hcell : ∀ k (h : k < l.length), w.cell? ⟨b, o + k * 2, none⟩ = some (.int .i64 l[k].1) ∧ w.cell? ⟨b, o + k * 2 + 1, none⟩ = some (.int .i64 l[k].2))
    (hbel : Below w.heap.size w wr) {k : Nat} (h : k < l.length) :
    wr.cell? ⟨b, o + k * 2, none⟩ = some (.int .i64 l[k].1) ∧ wr.cell? ⟨b, o + k * 2 + 1, none⟩ = some (.int .i64 l[k].2) :=
  ⟨(hbel.cell (p := ⟨b, o + k * 2, none⟩) hbs).trans (hcell k h).1, (hbel.cell (p := ⟨b, o + k * 2 + 1, none⟩) hbs).trans (hcell k h).2⟩

theorem int_cells {k : IntKind} {w wr : World} {b o : Nat} {l : List Int} (hbs : b < w.heap.size)
    (hcell : ∀ j (h : j < l.length), w.cell? ⟨b, o + j, none⟩ = some (.int k l[j])) (hbel : Below w.heap.size w wr) {j : Nat} (h : j < l.length) :
    wr.cell? ⟨b, o + j, none⟩ = some (.int k l[j]) := (hbel.cell (p := ⟨b, o + j, none⟩) hbs).trans (hcell j h)

end Go.Proofs.Ytaeklmnleampcaa
