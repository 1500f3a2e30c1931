/- The library's own example of a set answers as the document's, and nil is the empty set. -/
import Derived.Test.YtaeklmnleampcaaWo
import Derived.Test.YtaeklmnleampcaaFSpanNames
namespace Go.Proofs.Ytaeklmnleampcaa
open Go.RowKit

set_option maxRecDepth 100000 in
set_option maxHeartbeats 4000000 in
theorem spanNames_walk : SpanNamesWalk := by
  intro w
  have hn : ∀ W : World, SpanSl W (.slice none 0 0) [] := fun W => ⟨none, 0, rfl, by simp, by simp, by simp⟩
  have hB0 := Below.refl w.heap.size w
  go_enter Try.func6, Try.ntmps6
  go_wp2_with fail
  refine (spanAlive_any _).mono ?_
  rintro e w1 ⟨rfl, hb1⟩
  have hB1 := Below.step hB0 hB0.size hb1
  go_wp2_with fail
  refine (right_is true _ [] rfl _ (hn _)).mono ?_
  rintro e w2 ⟨rfl, hb2⟩
  have hB2 := Below.step hB1 hB1.size hb2
  go_wp2_with fail
  refine (count_is 0 _ [] _ rfl (hn _)).mono ?_
  rintro e w3 ⟨rfl, hb3⟩
  have hB3 := Below.step hB2 hB2.size hb3
  go_wp2_with fail
  refine (list_any _ [] _ (hn _)).mono ?_
  rintro e w4 ⟨y, rfl, hy, hb4⟩
  have hB4 := Below.step hB3 hB3.size hb4
  obtain ⟨ao, cap, rfl, hlen, _, _⟩ := hy
  have hl : (listR []).length = 0 := by decide
  rw [hl]
  go_wp2
  go_ret
  exact ⟨rfl, hB4⟩

theorem spanNames_holds : Rows.SpanNamesSaid := spanNames_of spanNames_walk

end Go.Proofs.Ytaeklmnleampcaa
