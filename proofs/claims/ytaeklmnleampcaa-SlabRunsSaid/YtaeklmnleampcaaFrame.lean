/- The frame of a law's statement: how its arguments open. -/
import Derived.Test.YtaeklmnleampcaaRows
import Derived.Test.YtaeklmnleampcaaMem
import Derived.ProofKit
import Derived.OpenShut
import Derived.ChangeOld
import Derived.Deep.Slices
import Derived.Deep.Strs
import Derived.SizedLaws
namespace Go.Proofs.Ytaeklmnleampcaa
open Go.RowKit Go.Deep Go.ChangeShapes Go.WideShapes Go.ChangeAt

theorem and_mk {a b : Bool} (h : a = true) (g : b = true) : (a && b) = true := by rw [h, g]; rfl

theorem own : ownKnob Try.prog.godebug = none := by kernel_rfl
theorem laidOut : laidOutB Try.prog = true := by kernel_rfl
theorem cells3 : Try.prog.cellsOf 3 = 1 := by kernel_rfl
theorem cells4 : Try.prog.cellsOf 4 = 1 := by kernel_rfl
theorem cells5 : Try.prog.cellsOf 5 = 1 := by kernel_rfl
theorem cells51 : Try.prog.cellsOf 51 = 2 := by kernel_rfl
theorem cells39 : Try.prog.cellsOf 39 = 2 := by kernel_rfl
theorem cells99 : Try.prog.cellsOf 99 = 3 := by kernel_rfl
theorem bytes3 : Try.prog.bytesOf 3 = 8 := by kernel_rfl
theorem bytes51 : Try.prog.bytesOf 51 = 16 := by kernel_rfl

theorem wf_in {x : Int} (h : (Lit.int .i64 x).wf = true) : inI64 x := by
  have := bounds_i64 h
  unfold inI64; omega

section
variable {H : Type} {enc : TypeId × Value → H} {w : World} {base : Nat} {spare : Nat → Bool} {held : Bool} {fuel : Nat}

theorem len_two {α : Type} {l : List α} (h : l.length = 2) : ∃ a b, l = [a, b] := by
  match l, h with
  | [a, b], _ => exact ⟨a, b, rfl⟩

theorem len_three {α : Type} {l : List α} (h : l.length = 3) : ∃ a b c, l = [a, b, c] := by
  match l, h with
  | [a, b, c], _ => exact ⟨a, b, c, rfl⟩

theorem two_ints {t : TypeId} {f0 f1 : Field} (ht : Try.prog.underlying t = some (.struct #[f0, f1])) (h0 : f0.type = 3) (h0o : f0.offset = 0) (h1 : f1.type = 3) (h1o : f1.offset = 1)
    {a : Addr} {cs : List Value} {y : DataW H × List MemPlace} (hcs : w.cells? base a 2 = some cs) (h : DataW.trod enc Try.prog w base spare held fuel t cs = some y) :
    ∃ x : Int × Int, w.cell? a = some (.int .i64 x.1) ∧ w.cell? (a.add 1) = some (.int .i64 x.2) ∧ inI64 x.1 ∧ inI64 x.2 ∧ a.block < w.heap.size ∧ a.spot = none := by
  obtain ⟨_, hlen, hcell⟩ := World.cells?_some hcs
  obtain ⟨y0, y1, n, _, _, e0, e1⟩ := trod_struct2 ht h
  obtain ⟨c0, c1, rfl⟩ := len_two hlen
  rw [h0, h0o, cells3] at e0
  rw [h1, h1o, cells3] at e1
  obtain ⟨x0, g0, _, w0⟩ := DataW.trod_int Try.underlying3 e0
  obtain ⟨x1, g1, _, w1⟩ := DataW.trod_int Try.underlying3 e1
  simp at g0 g1
  subst g0 g1
  have q0 := hcell 0 (by omega)
  have q1 := hcell 1 (by omega)
  rw [show a.add 0 = a from by simp [Addr.add]] at q0
  simp at q0 q1
  exact ⟨(x0, x1), q0, q1, wf_in w0, wf_in w1, block_lt_of_cell q0, World.cell?_spot q0⟩

/-- A slice of structs of two integers, opened. -/
theorem pairs_arg {t e : TypeId} {f0 f1 : Field} (hu : Try.prog.underlying t = some (.slice e)) (ht : Try.prog.underlying e = some (.struct #[f0, f1])) (h0 : f0.type = 3) (h0o : f0.offset = 0) (h1 : f1.type = 3) (h1o : f1.offset = 1) (hc : Try.prog.cellsOf e = 2)
    (hsp : ∀ b, spare b = true) {a : Option Addr} {len cap : Nat} {d : DataW H} {p : List MemPlace} (h : DataW.trod enc Try.prog w base spare held fuel t (Value.slice a len cap).cells.toList = some (d, p)) :
    ∃ l : List (Int × Int), SpanSl w (.slice a len cap) l ∧ ((a = none ∧ len = 0 ∧ cap = 0) ∨ ∃ elems rest x, a = some x ∧ d = .slice elems rest ∧ elems.length = l.length) := by
  rcases open_slice hu h with ⟨hcs, _⟩ | ⟨x, len', cap', m, n, D, Pl, hcs, _, hl, hm, hmm, hx, hel⟩
  · simp [Value.cells] at hcs
    obtain ⟨rfl, rfl, rfl⟩ := hcs
    exact ⟨[], spanSl_nil w, .inl ⟨rfl, rfl, rfl⟩⟩
  · simp [Value.cells] at hcs
    obtain ⟨rfl, rfl, rfl⟩ := hcs
    rw [hsp, if_pos rfl] at hmm
    subst hmm
    rw [hc] at hel
    have hE : ∀ i, i < len → ∃ y : Int × Int, w.cell? (x.add (i * 2)) = some (.int .i64 y.1) ∧ w.cell? ((x.add (i * 2)).add 1) = some (.int .i64 y.2) ∧ inI64 y.1 ∧ inI64 y.2 ∧ (x.add (i * 2)).block < w.heap.size ∧ (x.add (i * 2)).spot = none := by
      intro i hi
      obtain ⟨cs', hc1, hc2⟩ := hel i (by omega)
      exact two_ints ht h0 h0o h1 h1o hc1 hc2
    let F : Nat → Int × Int := fun i => if hi : i < len then Classical.choose (hE i hi) else (0, 0)
    have hF : ∀ i (hi : i < len), w.cell? (x.add (i * 2)) = some (.int .i64 (F i).1) ∧ w.cell? ((x.add (i * 2)).add 1) = some (.int .i64 (F i).2) ∧ inI64 (F i).1 ∧ inI64 (F i).2 ∧ (x.add (i * 2)).block < w.heap.size ∧ (x.add (i * 2)).spot = none := by
      intro i hi
      have := Classical.choose_spec (hE i hi)
      simp only [F, dif_pos hi]
      exact this
    have hlen : ((List.range len).map F).length = len := by simp
    refine ⟨(List.range len).map F, ⟨some x, _, by rw [hlen], by rw [hlen]; unfold maxLen at hm; omega, ?_, ?_⟩, .inr ⟨_, _, x, rfl, (Prod.mk.inj hx).1, by simp⟩⟩
    · intro y hy
      simp only [List.mem_map, List.mem_range] at hy
      obtain ⟨i, hi, rfl⟩ := hy
      exact ⟨(hF i hi).2.2.1, (hF i hi).2.2.2.1⟩
    · intro hne
      have h00 : 0 < len := by
        rcases Nat.eq_zero_or_pos len with h | h
        · subst h; exact absurd rfl hne
        · exact h
      obtain ⟨b, o, sp⟩ := x
      have hs := (hF 0 h00).2.2.2.2
      simp [Addr.add] at hs
      obtain ⟨hs1, rfl⟩ := hs
      refine ⟨b, o, rfl, hs1, fun k hk => ?_⟩
      rw [hlen] at hk
      have := hF k hk
      rw [Addr.add_lit, Addr.add_lit] at this
      simp only [List.getElem_map, List.getElem_range]
      exact ⟨this.1, this.2.1⟩

theorem spans_arg (hsp : ∀ b, spare b = true) {a : Option Addr} {len cap : Nat} {d : DataW H} {p : List MemPlace} (h : DataW.trod enc Try.prog w base spare held fuel 22 (Value.slice a len cap).cells.toList = some (d, p)) :
    ∃ l : List (Int × Int), SpanSl w (.slice a len cap) l ∧ ((a = none ∧ len = 0 ∧ cap = 0) ∨ ∃ elems rest x, a = some x ∧ d = .slice elems rest ∧ elems.length = l.length) :=
  pairs_arg Try.underlying22 Try.underlying51 rfl rfl rfl rfl cells51 hsp h

theorem acts_arg (hsp : ∀ b, spare b = true) {a : Option Addr} {len cap : Nat} {d : DataW H} {p : List MemPlace} (h : DataW.trod enc Try.prog w base spare held fuel 35 (Value.slice a len cap).cells.toList = some (d, p)) :
    ∃ l : List (Int × Int), SpanSl w (.slice a len cap) l ∧ ((a = none ∧ len = 0 ∧ cap = 0) ∨ ∃ elems rest x, a = some x ∧ d = .slice elems rest ∧ elems.length = l.length) :=
  pairs_arg Try.underlying35 Try.underlying39 rfl rfl rfl rfl cells39 hsp h

/-- A slice of integers, opened. -/
theorem ints_arg {k : IntKind} {t e : TypeId} (hu : Try.prog.underlying t = some (.slice e)) (he : Try.prog.underlying e = some (.int k)) (hc : Try.prog.cellsOf e = 1)
    (hsp : ∀ b, spare b = true) {a : Option Addr} {len cap : Nat} {d : DataW H} {p : List MemPlace} (h : DataW.trod enc Try.prog w base spare held fuel t (Value.slice a len cap).cells.toList = some (d, p)) :
    ∃ l : List Int, IntSl k w (.slice a len cap) l ∧ ((a = none ∧ len = 0 ∧ cap = 0) ∨ ∃ elems rest x, a = some x ∧ d = .slice elems rest ∧ elems.length = l.length) := by
  rcases open_slice hu h with ⟨hcs, _⟩ | ⟨x, len', cap', m, n, D, Pl, hcs, _, hl, hm, hmm, hx, hel⟩
  · simp [Value.cells] at hcs
    obtain ⟨rfl, rfl, rfl⟩ := hcs
    exact ⟨[], intSl_nil k w, .inl ⟨rfl, rfl, rfl⟩⟩
  · simp [Value.cells] at hcs
    obtain ⟨rfl, rfl, rfl⟩ := hcs
    rw [hsp, if_pos rfl] at hmm
    subst hmm
    rw [hc] at hel
    have hE : ∀ i, i < len → ∃ y : Int, w.cell? (x.add i) = some (.int k y) ∧ (Lit.int k y).wf = true ∧ (x.add i).block < w.heap.size ∧ (x.add i).spot = none := by
      intro i hi
      obtain ⟨cs', hc1, hc2⟩ := hel i (by omega)
      obtain ⟨y, rfl, _, hw⟩ := DataW.trod_int he hc2
      rw [Nat.mul_one] at hc1
      have hcell := cell_of_cells?_one hc1
      exact ⟨y, hcell, hw, block_lt_of_cell hcell, World.cell?_spot hcell⟩
    let F : Nat → Int := fun i => if hi : i < len then Classical.choose (hE i hi) else 0
    have hF : ∀ i (hi : i < len), w.cell? (x.add i) = some (.int k (F i)) ∧ (Lit.int k (F i)).wf = true ∧ (x.add i).block < w.heap.size ∧ (x.add i).spot = none := by
      intro i hi
      have := Classical.choose_spec (hE i hi)
      simp only [F, dif_pos hi]
      exact this
    have hlen : ((List.range len).map F).length = len := by simp
    refine ⟨(List.range len).map F, ⟨some x, _, by rw [hlen], by rw [hlen]; unfold maxLen at hm; omega, ?_, ?_⟩, .inr ⟨_, _, x, rfl, (Prod.mk.inj hx).1, by simp⟩⟩
    · intro y hy
      simp only [List.mem_map, List.mem_range] at hy
      obtain ⟨i, hi, rfl⟩ := hy
      exact (hF i hi).2.1
    · intro hne
      have h00 : 0 < len := by
        rcases Nat.eq_zero_or_pos len with h | h
        · subst h; exact absurd rfl hne
        · exact h
      obtain ⟨b, o, sp⟩ := x
      have hs := (hF 0 h00).2.2
      simp [Addr.add] at hs
      obtain ⟨hs1, rfl⟩ := hs
      refine ⟨b, o, rfl, hs1, fun j hj => ?_⟩
      rw [hlen] at hj
      have := hF j hj
      rw [Addr.add_lit] at this
      simp only [List.getElem_map, List.getElem_range]
      exact this.1

end

end Go.Proofs.Ytaeklmnleampcaa
