/- Moves in memory: a slice of them, and the reference's comparison of two lists of moves. -/
import Derived.Test.YtaeklmnleampcaaWo
namespace Go.Proofs.Ytaeklmnleampcaa
open Go.RowKit

abbrev MoveT := Bool × Int × Int

/-- A slice of moves. -/
def MoveSl (w : World) (v : Value) (l : List MoveT) : Prop :=
  ∃ ao cap, v = .slice ao l.length cap ∧ l.length ≤ 9223372036854775807 ∧ (∀ x ∈ l, inI64 x.2.1 ∧ inI64 x.2.2) ∧
   (l ≠ [] → ∃ b o, ao = some ⟨b, o, none⟩ ∧ b < w.heap.size ∧
     ∀ k (h : k < l.length), w.cell? ⟨b, o + k * 3, none⟩ = some (.bool l[k].1) ∧ w.cell? ⟨b, o + k * 3 + 1, none⟩ = some (.int .i64 l[k].2.1) ∧ w.cell? ⟨b, o + k * 3 + 2, none⟩ = some (.int .i64 l[k].2.2))

theorem MoveSl.below {w w' : World} {v : Value} {l : List MoveT} (h : MoveSl w v l) (hb : Below w.heap.size w w') : MoveSl w' v l := by
  obtain ⟨ao, cap, h1, h2, h3, h4⟩ := h
  refine ⟨ao, cap, h1, h2, h3, fun hl => ?_⟩
  obtain ⟨b, o, h5, h6, h7⟩ := h4 hl
  refine ⟨b, o, h5, Nat.lt_of_lt_of_le h6 hb.size, fun k hk => ?_⟩
  obtain ⟨h8, h9, h10⟩ := h7 k hk
  exact ⟨(hb.cell (p := ⟨b, _, none⟩) h6).trans h8, (hb.cell (p := ⟨b, _, none⟩) h6).trans h9, (hb.cell (p := ⟨b, _, none⟩) h6).trans h10⟩

theorem moveSl_nil (w : World) : MoveSl w (.slice none 0 0) [] := ⟨none, 0, rfl, by simp, by simp, fun h => absurd rfl h⟩

def moveCells : List MoveT → List Value
  | [] => []
  | x :: r => .bool x.1 :: .int .i64 x.2.1 :: .int .i64 x.2.2 :: moveCells r

theorem moveCells_length (l : List MoveT) : (moveCells l).length = l.length * 3 := by
  induction l with
  | nil => rfl
  | cons x r ih => simp only [moveCells, List.length_cons, ih]; omega

theorem moveCells_append (l m : List MoveT) : moveCells (l ++ m) = moveCells l ++ moveCells m := by
  induction l with
  | nil => rfl
  | cons x r ih => simp [moveCells, ih]

theorem moveCells_get (l : List MoveT) (k : Nat) (h : k < l.length) : (moveCells l)[k * 3]? = some (.bool l[k].1) ∧ (moveCells l)[k * 3 + 1]? = some (.int .i64 l[k].2.1) ∧ (moveCells l)[k * 3 + 2]? = some (.int .i64 l[k].2.2) := by
  induction l generalizing k with
  | nil => simp at h
  | cons x r ih =>
    cases k with
    | zero => exact ⟨rfl, rfl, rfl⟩
    | succ k =>
      have := ih k (by simpa using h)
      rw [show (k + 1) * 3 = k * 3 + 1 + 1 + 1 from by omega, show k * 3 + 1 + 1 + 1 + 1 = k * 3 + 1 + 1 + 1 + 1 from rfl, show k * 3 + 1 + 1 + 1 + 2 = k * 3 + 2 + 1 + 1 + 1 from by omega]
      simpa [moveCells] using this

theorem moveSl_of_owns {w : World} {base : Nat} {e : TypeId} {v : Value} {l : List MoveT} (h : w.ownsRow base e 3 v l.length (moveCells l)) (hr : ∀ x ∈ l, inI64 x.2.1 ∧ inI64 x.2.2) (hl : l.length ≤ 9223372036854775807) : MoveSl w v l := by
  rcases h.2 with ⟨rfl, h0⟩ | ⟨g, cap, cur, rfl, hb, hg, hn, hc, hs, ht⟩
  · have : l = [] := List.eq_nil_of_length_eq_zero h0
    subst this
    exact moveSl_nil w
  · refine ⟨_, cap, rfl, hl, hr, fun _ => ⟨g, 0, rfl, (Array.getElem?_eq_some_iff.1 hg).1, fun k hk => ?_⟩⟩
    have h1 := h.cellAt (k * 3) (by omega)
    have h2 := h.cellAt (k * 3 + 1) (by omega)
    have h2' := h.cellAt (k * 3 + 2) (by omega)
    obtain ⟨h3, h4, h5⟩ := moveCells_get l k hk
    rw [h3] at h1
    rw [h4] at h2
    rw [h5] at h2'
    simpa using ⟨h1, h2, h2'⟩

theorem moveSl_lit (w : World) (l : List MoveT) (cs : Array Value) (t : TypeId) (hcs : cs.toList = moveCells l) (hw : ∀ x ∈ l, inI64 x.2.1 ∧ inI64 x.2.2) (hl : l.length ≤ 9223372036854775807) (n cap : Nat) (hn : n = l.length) :
    MoveSl (w.alloc (.cells cs t)) (.slice (some ⟨w.heap.size, 0, none⟩) n cap) l := by
  subst hn
  refine ⟨_, cap, rfl, hl, hw, fun _ => ⟨w.heap.size, 0, rfl, by simp, fun j hj => ?_⟩⟩
  obtain ⟨h1, h2, h3⟩ := moveCells_get l j hj
  rw [Nat.zero_add, World.cell?_alloc_at _ _ _ _ rfl, World.cell?_alloc_at _ _ _ _ rfl, World.cell?_alloc_at _ _ _ _ rfl, ← Array.getElem?_toList, ← Array.getElem?_toList, ← Array.getElem?_toList, hcs]
  exact ⟨h1, h2, h3⟩

theorem move_cells {w wr : World} {b o : Nat} {l : List MoveT} (hbs : b < w.heap.size)
    (hcell : ∀ k (h : k < l.length), w.cell? ⟨b, o + k * 3, none⟩ = some (.bool l[k].1) ∧ w.cell? ⟨b, o + k * 3 + 1, none⟩ = some (.int .i64 l[k].2.1) ∧ w.cell? ⟨b, o + k * 3 + 2, none⟩ = some (.int .i64 l[k].2.2))
    (hbel : Below w.heap.size w wr) {k : Nat} (h : k < l.length) :
    wr.cell? ⟨b, o + k * 3, none⟩ = some (.bool l[k].1) ∧ wr.cell? ⟨b, o + k * 3 + 1, none⟩ = some (.int .i64 l[k].2.1) ∧ wr.cell? ⟨b, o + k * 3 + 2, none⟩ = some (.int .i64 l[k].2.2) :=
  ⟨(hbel.cell (p := ⟨b, o + k * 3, none⟩) hbs).trans (hcell k h).1, (hbel.cell (p := ⟨b, o + k * 3 + 1, none⟩) hbs).trans (hcell k h).2.1, (hbel.cell (p := ⟨b, o + k * 3 + 2, none⟩) hbs).trans (hcell k h).2.2⟩

theorem Try.info99 : (Try.prog.info? 99).map (fun i => (i.zero, i.size, i.bytes)) = some (some (.agg #[.bool false, .int .i64 0, .int .i64 0]), 3, 24) := by kernel_rfl

theorem equal51 (a b c d : Int) (w : World) (n : Nat) :
    (Op.equalIn (n + 2) 51 (.agg #[.int .i64 a, .int .i64 b]) (.agg #[.int .i64 c, .int .i64 d])).run Try.prog w = .ok ((a == c) && (b == d)) w := by
  rw [run_equalIn_struct (P := Try.prog) w (n + 1) 51 _ _ (by kernel_rfl) (by kernel_rfl)]
  have hf : (Try.prog.fieldsOf 51).toList = [{ name := "Start", type := 3, offset := 0, embedded := false, tag := "", pkgPath := "", byteOffset := 0 }, { name := "Len", type := 3, offset := 1, embedded := false, tag := "", pkgPath := "", byteOffset := 8 }] := by kernel_rfl
  rw [hf]
  simp [Op.eqFields, part, Try.isAgg3, Result.andThen, run_equalIn_int w n 3 .i64 .i64 _ _ Try.underlying3]
  by_cases h1 : a = c <;> by_cases h2 : b = d <;> simp [h1, h2]

theorem neq99 (s t : Bool) (a b c d : Int) (r : Bool) (h : (!((s == t) && ((a == c) && (b == d)))) = r) (w : World) :
    (binOp .neq 99 (.agg #[.bool s, .int .i64 a, .int .i64 b]) (.agg #[.bool t, .int .i64 c, .int .i64 d])).run Try.prog w = .ok (.bool r) w := by
  subst h
  have hs : (Op.equal 99 (.agg #[.bool s, .int .i64 a, .int .i64 b]) (.agg #[.bool t, .int .i64 c, .int .i64 d])).run Try.prog w = .ok ((s == t) && ((a == c) && (b == d))) w := by
    unfold Op.equal Op.maxDepth
    rw [run_equalIn_struct (P := Try.prog) w 9999 99 _ _ (by kernel_rfl) (by kernel_rfl)]
    have hf : (Try.prog.fieldsOf 99).toList = [{ name := "Take", type := 4, offset := 0, embedded := false, tag := "", pkgPath := "", byteOffset := 0 }, { name := "At", type := 51, offset := 1, embedded := false, tag := "", pkgPath := "", byteOffset := 8 }] := by kernel_rfl
    have he : (Op.equalIn 9999 51 (.agg #[.int .i64 a, .int .i64 b]) (.agg #[.int .i64 c, .int .i64 d])).run Try.prog w = .ok ((a == c) && (b == d)) w := equal51 a b c d w 9997

    rw [hf]
    simp [Op.eqFields, part, Try.isAgg4, Try.isAgg51, Result.andThen, run_equalIn_bool w 9998 4 _ _ Try.underlying4, he]
    by_cases h1 : s = t <;> by_cases h2 : a = c <;> by_cases h3 : b = d <;> simp [h1, h2, h3]
  simp [binOp, hs, Result.andThen]

end Go.Proofs.Ytaeklmnleampcaa
