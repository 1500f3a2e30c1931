/- Walk of the example of maps. -/
import Derived.Test.YtaeklmnleampcaaSi
namespace Go.Proofs.Ytaeklmnleampcaa
open Go.RowKit

theorem ex_alloc : allocN (newN 128) = some 64 := by kernel_rfl
theorem ex_count : countN (putN (newN 128) 64 2) = 123 := by kernel_rfl
theorem ex_many : (manyN (putN (newN 128) 64 2) 4).1 = [65, 66, 67, 4] := by kernel_rfl
theorem ex_left : countN (manyN (putN (newN 128) 64 2) 4).2 = 119 := by kernel_rfl
theorem ex_all : countN (newN 5000) = 1020 := by kernel_rfl
theorem ex_none : countN (newN 3) = 0 := by kernel_rfl

set_option maxRecDepth 100000 in
set_option maxHeartbeats 8000000 in
theorem slabAlive_any (w : World) : Calls Try.prog 36 #[] w fun e w' => e = .returned (.bool true) ∧ Below w.heap.size w w' := by
  obtain ⟨e1, e2, e3⟩ := alloc_some ex_alloc
  have hmO : manyO (putN (newN 128) 64 2) 4 = some (manyN (putN (newN 128) 64 2) 4) := by unfold manyO; rw [ex_count]; rfl
  have hmL : manyL (putN (newN 128) 64 2) 4 = [65, 66, 67, 4] := by unfold manyL; rw [hmO]; exact ex_many
  have hmS : countN (manyS (putN (newN 128) 64 2) 4) = 119 := by unfold manyS; rw [hmO]; exact ex_left
  have hmC : codeM (manyO (putN (newN 128) 64 2) 4) = 0 := by rw [hmO]; rfl
  obtain ⟨st, hst⟩ : ∃ st, st = newN 128 := ⟨_, rfl⟩
  rw [← hst] at e1 e2 e3 hmO hmL hmS hmC
  have HST := Lib.hid hst; clear hst hmO
  have E1 := Lib.hid e1; clear e1
  have E2 := Lib.hid e2; clear e2
  have E3 := Lib.hid e3; clear e3
  have ML := Lib.hid hmL; clear hmL
  have MS := Lib.hid hmS; clear hmS
  have MC := Lib.hid hmC; clear hmC
  have hB0 := Below.refl w.heap.size w
  obtain ⟨b, hb⟩ : ∃ b, b = w.heap.size := ⟨_, rfl⟩
  have HB := Lib.hid hb; clear hb
  go_enter Try.func36, Try.ntmps36
  go_wp2_with fail
  refine (new_any 128 (by unfold inI64; omega) _).mono ?_
  rw [← HB.out, ← HST.out]
  rintro e w1 ⟨rfl, hm1, hb1⟩
  have HM1 := Lib.hid hm1; clear hm1
  go_wp2_with fail
  refine (alloc_any b st _ HM1.out).mono ?_
  rw [E1.out, E2.out, E3.out]
  rintro e w2 ⟨rfl, hm2, hb2⟩
  have hB2 := hb1.trans (hb2.below (Nat.le_refl _) (Nat.le_of_lt HM1.out.lt))
  have HM2 := Lib.hid hm2; clear hm2 hb2 hb1
  go_wp2_with fail
  refine (many_any b _ 4 (by unfold inI64; omega) _ HM2.out).mono ?_
  rw [MC.out, ML.out]
  rintro e w3 ⟨v, rfl, hv, hm3, hb3⟩
  have hB3 := hB2.trans (hb3.below (Nat.le_refl _) (Nat.le_of_lt HM2.out.lt))
  have HM3 := Lib.hid hm3; clear hm3 hb3
  have hv3 := owns_nats hv (by decide) (by decide)
  have HV := Lib.hid hv3; clear hv3 hv
  have HS3 : Hid (b ≤ w3.heap.size) := Nat.le_of_lt HM3.out.lt
  go_wp2_with fail
  obtain ⟨w4, hw4⟩ : ∃ W, W = w3.alloc (.cells #[.int .i64 65, .int .i64 66, .int .i64 67, .int .i64 4] 3) := ⟨_, rfl⟩
  have hl : IntSl .i64 w4 (.slice (some ⟨w3.heap.size, 0, none⟩) 4 4) [65, 66, 67, 4] := by rw [hw4]; exact intSl_lit w3 [65, 66, 67, 4] _ _ rfl (by decide) (by decide) _ _ rfl
  have hb4 : Below w3.heap.size w3 w4 := by rw [hw4]; exact (Below.refl _ _).alloc (Nat.le_refl _) _
  rw [← hw4]
  clear hw4
  refine (sameInts_is true _ _ _ _ (decide_eq_true rfl) _ (HV.out.below hb4) hl).mono ?_
  rintro e w5 ⟨rfl, hb5⟩
  have hB5 := hB3.trans ((hb4.trans (hb5.mono hb4.size)).mono HS3.out)
  have HM5 := Lib.hid ((HM3.out.below hb4).below hb5)
  clear hl
  go_wp2_with fail
  refine (count_map b _ _ HM5.out).mono ?_
  rw [MS.out]
  rintro e w6 ⟨rfl, rfl⟩
  go_wp2
  go_ret
  have hbb := HB.out
  subst hbb
  exact ⟨rfl, hB5⟩

end Go.Proofs.Ytaeklmnleampcaa
