/- The example of maps answers as the document's; the errors and the limit have their numbers. No condition. -/
import Derived.Test.YtaeklmnleampcaaSk
import Derived.Test.YtaeklmnleampcaaFSlabNames
namespace Go.Proofs.Ytaeklmnleampcaa
open Go.RowKit

set_option maxRecDepth 100000 in
set_option maxHeartbeats 8000000 in
theorem slabNames_walk : SlabNamesWalk := by
  intro w
  have hE : setN (newN 64) 2 = [] := setN_none fun n _ => by rcases newN_01 64 n with h | h <;> rw [h] <;> decide
  have HE := Lib.hid hE; clear hE
  go_enter Try.func10, Try.ntmps10
  go_wp2_with fail
  refine (slabAlive_any _).mono ?_
  rintro e w1 ⟨rfl, hB1⟩
  go_wp2_with fail
  refine (new_any 5000 (by unfold inI64; omega) _).mono ?_
  rintro e w2 ⟨rfl, hm2, hb2⟩
  have hB2 := Below.step hB1 hB1.size hb2
  have HM2 := Lib.hid hm2; clear hm2
  go_wp2_with fail
  refine (count_map _ _ _ HM2.out).mono ?_
  rw [ex_all]
  rintro e w3 ⟨rfl, rfl⟩
  go_wp2_with fail
  refine (new_any 3 (by unfold inI64; omega) _).mono ?_
  rintro e w4 ⟨rfl, hm4, hb4⟩
  have hB4 := Below.step hB2 hB2.size hb4
  have HM4 := Lib.hid hm4; clear hm4
  go_wp2_with fail
  refine (count_map _ _ _ HM4.out).mono ?_
  rw [ex_none]
  rintro e w5 ⟨rfl, rfl⟩
  go_wp2_with fail
  refine (new_any 64 (by unfold inI64; omega) _).mono ?_
  rintro e w6 ⟨rfl, hm6, hb6⟩
  have hB6 := Below.step hB4 hB4.size hb6
  have HM6 := Lib.hid hm6; clear hm6
  go_wp2_with fail
  refine (taken_any _ _ _ HM6.out).mono ?_
  rw [HE.out]
  rintro e w7 ⟨r, rfl, hr, hb7⟩
  have hB7 := Below.step hB6 hB6.size hb7
  obtain ⟨ao, cap, rfl⟩ := own_form hr
  clear hr
  go_wp2
  go_ret
  exact ⟨rfl, hB7⟩

theorem slabNames_holds : Rows.SlabNamesSaid := slabNames_of slabNames_walk

end Go.Proofs.Ytaeklmnleampcaa
