/- From any list to any other, and from nothing to it: the moves are the document's. No condition. -/
import Derived.Test.YtaeklmnleampcaaAl
import Derived.Test.YtaeklmnleampcaaFSlogDiffs
namespace Go.Proofs.Ytaeklmnleampcaa
open Go.RowKit

set_option maxRecDepth 100000 in
set_option maxHeartbeats 4000000 in
theorem slogDiffs_walk : SlogDiffsWalk := by
  intro w v a u b hv _ _ hu _ _
  have hB0 := Below.refl w.heap.size w
  have HV := Lib.hid hv; clear hv
  have HU := Lib.hid hu; clear hu
  go_enter Try.func4, Try.ntmps4
  go_wp2_with fail
  refine (slogAlive_any _).mono ?_
  rintro e w1 ⟨rfl, hb1⟩
  have hB1 := Below.step hB0 hB0.size hb1
  go_wp2_with fail
  refine (diff_any _ _ a b _ (HV.out.below hB1) (HU.out.below hB1)).mono ?_
  rintro e w2 ⟨x, rfl, hx, hb2⟩
  have hB2 := Below.step hB1 hB1.size hb2
  go_wp2_with fail
  refine (refdiff_any _ _ a b _ (HV.out.below hB2) (HU.out.below hB2)).mono ?_
  rintro e w3 ⟨y, rfl, hy, hb3⟩
  have hB3 := Below.step hB2 hB2.size hb3
  go_wp2_with fail
  refine (msame_is true _ _ _ _ (decide_eq_true rfl) _ (hx.below hb3) hy).mono ?_
  rintro e w4 ⟨rfl, hb4⟩
  have hB4 := Below.step hB3 hB3.size hb4
  clear hx hy
  go_wp2_with fail
  refine (condense_any _ b _ (HU.out.below hB4)).mono ?_
  rintro e w5 ⟨x, rfl, hx, hb5⟩
  have hB5 := Below.step hB4 hB4.size hb5
  go_wp2_with fail
  refine (refdiff_any _ _ [] b _ (spanSl_nil _) (HU.out.below hB5)).mono ?_
  rintro e w6 ⟨y, rfl, hy, hb6⟩
  have hB6 := Below.step hB5 hB5.size hb6
  go_wp2_with fail
  refine (msame_is true _ _ _ _ (decide_eq_true rfl) _ (hx.below hb6) hy).mono ?_
  rintro e w7 ⟨rfl, hb7⟩
  have hB7 := Below.step hB6 hB6.size hb7
  go_wp2
  go_ret
  exact ⟨rfl, hB7⟩

theorem slogDiffs_holds : Rows.SlogDiffsSaid := slogDiffs_of slogDiffs_walk

end Go.Proofs.Ytaeklmnleampcaa
