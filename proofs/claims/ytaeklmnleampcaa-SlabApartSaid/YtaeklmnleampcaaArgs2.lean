/- What a copy by append needs of a list of moves. -/
import Derived.Test.YtaeklmnleampcaaMv
namespace Go.Proofs.Ytaeklmnleampcaa
open Go.RowKit

theorem moveSl_len {w : World} {l : List MoveT} (h : MoveSl w (.slice none 0 0) l) : l = [] := by
  obtain ⟨ao, cap, he, _⟩ := h
  simp only [Value.slice.injEq] at he
  exact List.eq_nil_of_length_eq_zero he.2.1.symm

theorem moveCells_oneCell (l : List MoveT) : ∀ u ∈ moveCells l, u.oneCell' = true := by
  induction l with
  | nil => simp [moveCells]
  | cons x r ih =>
    intro u hu
    simp only [moveCells, List.mem_cons] at hu
    rcases hu with rfl | rfl | rfl | hu
    · rfl
    · rfl
    · rfl
    · exact ih u hu

theorem moveSl_news {w W : World} {a : Addr} {n c : Nat} {l : List MoveT} (h : MoveSl w (.slice (some a) n c) l) (hb : Below w.heap.size w W) :
    n = l.length ∧ ∀ j u, (moveCells l)[j]? = some u → W.cell? (a.add j) = some u := by
  obtain ⟨ao, cap, he, _, _, hc⟩ := h
  simp only [Value.slice.injEq] at he
  obtain ⟨rfl, rfl, rfl⟩ := he
  refine ⟨rfl, fun j u hu => ?_⟩
  by_cases hl : l = []
  · subst hl; simp [moveCells] at hu
  · obtain ⟨b, o, e, hbs, hcell⟩ := hc hl
    obtain rfl := Option.some.inj e
    rw [Addr.add_lit]
    have hj : j < l.length * 3 := by rw [← moveCells_length]; exact (List.getElem?_eq_some_iff.1 hu).1
    obtain ⟨g1, g2, g3⟩ := moveCells_get l (j / 3) (by omega)
    obtain ⟨k1, k2, k3⟩ := hcell (j / 3) (by omega)
    have hm : j % 3 = 0 ∨ j % 3 = 1 ∨ j % 3 = 2 := by omega
    refine (hb.cell (p := ⟨b, o + j, none⟩) hbs).trans ?_
    rcases hm with h0 | h0 | h0
    · rw [show j / 3 * 3 = j from by omega] at g1 k1
      rw [g1] at hu; cases hu; exact k1
    · rw [Nat.add_assoc, show j / 3 * 3 + 1 = j from by omega] at k2
      rw [show j / 3 * 3 + 1 = j from by omega] at g2
      rw [g2] at hu; cases hu; exact k2
    · rw [Nat.add_assoc, show j / 3 * 3 + 2 = j from by omega] at k3
      rw [show j / 3 * 3 + 2 = j from by omega] at g3
      rw [g3] at hu; cases hu; exact k3

end Go.Proofs.Ytaeklmnleampcaa
