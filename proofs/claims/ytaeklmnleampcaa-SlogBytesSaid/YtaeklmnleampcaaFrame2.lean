/- A list of moves as an argument, opened. -/
import Derived.Test.YtaeklmnleampcaaFrame
import Derived.Test.YtaeklmnleampcaaMv
namespace Go.Proofs.Ytaeklmnleampcaa
open Go.RowKit Go.Deep Go.ChangeShapes Go.WideShapes Go.ChangeAt

section
variable {H : Type} {enc : TypeId × Value → H} {w : World} {base : Nat} {spare : Nat → Bool} {held : Bool} {fuel : Nat}

theorem one_move {a : Addr} {cs : List Value} {y : DataW H × List MemPlace} (hcs : w.cells? base a 3 = some cs) (h : DataW.trod enc Try.prog w base spare held fuel 99 cs = some y) :
    ∃ x : MoveT, w.cell? a = some (.bool x.1) ∧ w.cell? (a.add 1) = some (.int .i64 x.2.1) ∧ w.cell? (a.add 2) = some (.int .i64 x.2.2) ∧ inI64 x.2.1 ∧ inI64 x.2.2 ∧ a.block < w.heap.size ∧ a.spot = none := by
  obtain ⟨_, hlen, hcell⟩ := World.cells?_some hcs
  obtain ⟨y0, y1, n, _, _, e0, e1⟩ := trod_struct2 Try.underlying99 h
  obtain ⟨c0, c1, c2, rfl⟩ := len_three hlen
  simp only [cells4, cells51] at e0 e1
  obtain ⟨x0, g0, _⟩ := DataW.trod_bool Try.underlying4 e0
  obtain ⟨z0, z1, n', _, _, e2, e3⟩ := trod_struct2 Try.underlying51 e1
  simp only [cells3] at e2 e3
  obtain ⟨x1, g1, _, w1⟩ := DataW.trod_int Try.underlying3 e2
  obtain ⟨x2, g2, _, w2⟩ := DataW.trod_int Try.underlying3 e3
  simp at g0 g1 g2
  subst g0 g1 g2
  have q0 := hcell 0 (by omega)
  have q1 := hcell 1 (by omega)
  have q2 := hcell 2 (by omega)
  rw [show a.add 0 = a from by simp [Addr.add]] at q0
  simp at q0 q1 q2
  exact ⟨(x0, x1, x2), q0, q1, q2, wf_in w1, wf_in w2, block_lt_of_cell q0, World.cell?_spot q0⟩

/-- A slice of moves, opened. -/
theorem moves_arg (hsp : ∀ b, spare b = true) {a : Option Addr} {len cap : Nat} {d : DataW H} {p : List MemPlace} (h : DataW.trod enc Try.prog w base spare held fuel 32 (Value.slice a len cap).cells.toList = some (d, p)) :
    ∃ l : List MoveT, MoveSl w (.slice a len cap) l ∧ ((a = none ∧ len = 0 ∧ cap = 0) ∨ ∃ elems rest x, a = some x ∧ d = .slice elems rest ∧ elems.length = l.length) := by
  rcases open_slice Try.underlying32 h with ⟨hcs, _⟩ | ⟨x, len', cap', m, n, D, Pl, hcs, _, hl, hm, hmm, hx, hel⟩
  · simp [Value.cells] at hcs
    obtain ⟨rfl, rfl, rfl⟩ := hcs
    exact ⟨[], moveSl_nil w, .inl ⟨rfl, rfl, rfl⟩⟩
  · simp [Value.cells] at hcs
    obtain ⟨rfl, rfl, rfl⟩ := hcs
    rw [hsp, if_pos rfl] at hmm
    subst hmm
    rw [cells99] at hel
    have hE : ∀ i, i < len → ∃ y : MoveT, w.cell? (x.add (i * 3)) = some (.bool y.1) ∧ w.cell? ((x.add (i * 3)).add 1) = some (.int .i64 y.2.1) ∧ w.cell? ((x.add (i * 3)).add 2) = some (.int .i64 y.2.2) ∧ inI64 y.2.1 ∧ inI64 y.2.2 ∧ (x.add (i * 3)).block < w.heap.size ∧ (x.add (i * 3)).spot = none := by
      intro i hi
      obtain ⟨cs', hc1, hc2⟩ := hel i (by omega)
      exact one_move hc1 hc2
    let F : Nat → MoveT := fun i => if hi : i < len then Classical.choose (hE i hi) else (false, 0, 0)
    have hF : ∀ i (hi : i < len), w.cell? (x.add (i * 3)) = some (.bool (F i).1) ∧ w.cell? ((x.add (i * 3)).add 1) = some (.int .i64 (F i).2.1) ∧ w.cell? ((x.add (i * 3)).add 2) = some (.int .i64 (F i).2.2) ∧ inI64 (F i).2.1 ∧ inI64 (F i).2.2 ∧ (x.add (i * 3)).block < w.heap.size ∧ (x.add (i * 3)).spot = none := by
      intro i hi
      have := Classical.choose_spec (hE i hi)
      simp only [F, dif_pos hi]
      exact this
    have hlen : ((List.range len).map F).length = len := by simp
    refine ⟨(List.range len).map F, ⟨some x, _, by rw [hlen], by rw [hlen]; unfold maxLen at hm; omega, ?_, ?_⟩, .inr ⟨_, _, x, rfl, (Prod.mk.inj hx).1, by simp⟩⟩
    · intro y hy
      simp only [List.mem_map, List.mem_range] at hy
      obtain ⟨i, hi, rfl⟩ := hy
      exact ⟨(hF i hi).2.2.2.1, (hF i hi).2.2.2.2.1⟩
    · intro hne
      have h00 : 0 < len := by
        rcases Nat.eq_zero_or_pos len with h | h
        · subst h; exact absurd rfl hne
        · exact h
      obtain ⟨b, o, sp⟩ := x
      have hs := (hF 0 h00).2.2.2.2.2
      simp [Addr.add] at hs
      obtain ⟨hs1, rfl⟩ := hs
      refine ⟨b, o, rfl, hs1, fun k hk => ?_⟩
      rw [hlen] at hk
      have := hF k hk
      rw [Addr.add_lit, Addr.add_lit, Addr.add_lit] at this
      simp only [List.getElem_map, List.getElem_range]
      exact ⟨this.1, this.2.1, this.2.2.1⟩

end
end Go.Proofs.Ytaeklmnleampcaa
