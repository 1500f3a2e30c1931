/- The example of a log answers as the document's; nothing leads to nothing. -/
import Derived.Test.YtaeklmnleampcaaAl
import Derived.Test.YtaeklmnleampcaaRs
import Derived.Test.YtaeklmnleampcaaFSlogNames
namespace Go.Proofs.Ytaeklmnleampcaa
open Go.RowKit

theorem replay_nothing : replayS [] [] = some [] := by
  unfold replayS
  rw [if_pos (show rightB [] = true from rfl)]
  show some (spansOf (bitsOf [])) = some []
  rw [spansOf_bitsOf rfl]

theorem diff_nothing : diffL [] [] = [] := by
  have h : gone [] [] = [] := gone_is rfl rfl rfl fun n => rfl
  rw [diffL_right rfl rfl h.symm h.symm]
  rfl

set_option maxRecDepth 100000 in
set_option maxHeartbeats 4000000 in
theorem slogNames_walk : SlogNamesWalk := by
  intro w
  have hB0 := Below.refl w.heap.size w
  go_enter Try.func20, Try.ntmps20
  go_wp2_with fail
  refine (replay_any _ _ [] [] _ (spanSl_nil _) (moveSl_nil _)).mono ?_
  rw [replay_nothing]
  rintro e w1 ⟨r, rfl, hr, hb1⟩
  have hB1 := Below.step hB0 hB0.size hb1
  have hco : codeOf (some []) = 0 := rfl
  rw [hco]
  clear hco
  simp only [Option.getD_some] at hr
  obtain ⟨ao, cap, rfl, hlen, _, _⟩ := hr
  clear hlen
  go_wp2_with fail
  refine (slogAlive_any _).mono ?_
  rintro e w2 ⟨rfl, hb2⟩
  have hB2 := Below.step hB1 hB1.size hb2
  go_wp2_with fail
  refine (condense_any _ [] _ (spanSl_nil _)).mono ?_
  rw [diff_nothing]
  rintro e w3 ⟨r, rfl, hr, hb3⟩
  have hB3 := Below.step hB2 hB2.size hb3
  obtain ⟨ao', cap', rfl, hlen, _, _⟩ := hr
  clear hlen
  go_wp2
  go_ret
  exact ⟨rfl, hB3⟩

theorem slogNames_holds : Rows.SlogNamesSaid := slogNames_of slogNames_walk

end Go.Proofs.Ytaeklmnleampcaa
