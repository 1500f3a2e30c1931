/- What a law's walk asks of its arguments: copies by append. -/
import Derived.Test.YtaeklmnleampcaaWk
import Derived.Laws.AppendOwnNone
namespace Go.Proofs.Ytaeklmnleampcaa
open Go.RowKit

theorem intSl_news {k : IntKind} {w W : World} {a : Addr} {n c : Nat} {l : List Int} (h : IntSl k w (.slice (some a) n c) l) (hb : Below w.heap.size w W) :
    n = l.length ∧ ∀ j u, (l.map (Value.int k))[j]? = some u → W.cell? (a.add j) = some u := by
  obtain ⟨ao, cap, he, _, _, hc⟩ := h
  simp only [Value.slice.injEq] at he
  obtain ⟨rfl, rfl, rfl⟩ := he
  refine ⟨rfl, fun j u hu => ?_⟩
  by_cases hl : l = []
  · subst hl; simp at hu
  · obtain ⟨b, o, e, hbs, hcell⟩ := hc hl
    obtain rfl := Option.some.inj e
    simp only [List.getElem?_map, Option.map_eq_some_iff] at hu
    obtain ⟨x, hx, rfl⟩ := hu
    obtain ⟨hj, rfl⟩ := List.getElem?_eq_some_iff.1 hx
    rw [Addr.add_lit]
    exact (hb.cell (p := ⟨b, o + j, none⟩) hbs).trans (hcell j hj)

theorem intSl_len {k : IntKind} {w : World} {l : List Int} (h : IntSl k w (.slice none 0 0) l) : l = [] := by
  obtain ⟨ao, cap, he, _⟩ := h
  simp only [Value.slice.injEq] at he
  exact List.eq_nil_of_length_eq_zero he.2.1.symm

theorem intSl_wf {k : IntKind} {w : World} {v : Value} {l : List Int} (h : IntSl k w v l) : ∀ x ∈ l, (Lit.int k x).wf = true := by
  obtain ⟨ao, cap, _, _, h3, _⟩ := h
  exact h3

theorem spanSl_news {w W : World} {a : Addr} {n c : Nat} {l : List (Int × Int)} (h : SpanSl w (.slice (some a) n c) l) (hb : Below w.heap.size w W) :
    n = l.length ∧ ∀ j u, (spanCells l)[j]? = some u → W.cell? (a.add j) = some u := by
  obtain ⟨ao, cap, he, _, _, hc⟩ := h
  simp only [Value.slice.injEq] at he
  obtain ⟨rfl, rfl, rfl⟩ := he
  refine ⟨rfl, fun j u hu => ?_⟩
  by_cases hl : l = []
  · subst hl; simp [spanCells] at hu
  · obtain ⟨b, o, e, hbs, hcell⟩ := hc hl
    obtain rfl := Option.some.inj e
    rw [Addr.add_lit]
    have hj : j < l.length * 2 := by rw [← spanCells_length]; exact (List.getElem?_eq_some_iff.1 hu).1
    obtain ⟨g1, g2⟩ := spanCells_get l (j / 2) (by omega)
    obtain ⟨g3, g4⟩ := hcell (j / 2) (by omega)
    rcases Nat.mod_two_eq_zero_or_one j with h0 | h0
    · rw [show j / 2 * 2 = j from by omega] at g1 g3
      rw [g1] at hu; cases hu
      exact (hb.cell (p := ⟨b, o + j, none⟩) hbs).trans g3
    · rw [Nat.add_assoc, show j / 2 * 2 + 1 = j from by omega] at g4
      rw [show j / 2 * 2 + 1 = j from by omega] at g2
      rw [g2] at hu; cases hu
      exact (hb.cell (p := ⟨b, o + j, none⟩) hbs).trans g4

theorem spanSl_len {w : World} {l : List (Int × Int)} (h : SpanSl w (.slice none 0 0) l) : l = [] := by
  obtain ⟨ao, cap, he, _⟩ := h
  simp only [Value.slice.injEq] at he
  exact List.eq_nil_of_length_eq_zero he.2.1.symm

theorem spanCells_oneCell (l : List (Int × Int)) : ∀ u ∈ spanCells l, u.oneCell' = true := by
  induction l with
  | nil => simp [spanCells]
  | cons x r ih =>
    intro u hu
    simp only [spanCells, List.mem_cons] at hu
    rcases hu with rfl | rfl | hu
    · rfl
    · rfl
    · exact ih u hu

end Go.Proofs.Ytaeklmnleampcaa
