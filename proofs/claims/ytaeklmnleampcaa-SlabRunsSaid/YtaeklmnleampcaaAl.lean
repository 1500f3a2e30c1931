/- The library's own example of a log answers as the document's. -/
import Derived.Test.YtaeklmnleampcaaDf
namespace Go.Proofs.Ytaeklmnleampcaa
open Go.RowKit

theorem gone_is {a b c : List (Int × Int)} (ha : rightB a = true) (hb : rightB b = true) (hc : rightB c = true) (h : ∀ n : Int, memB c n = (memB a n && !memB b n)) : gone a b = c := by
  refine right_unique (spansOf_right _) hc (fun n => ?_)
  unfold gone
  rw [Bool.eq_iff_iff, spansOf_mem, bitsR_right ha, bitsR_right hb, h]
  constructor
  · rintro ⟨h1, h2, h3⟩
    have e : ((n.toNat : Nat) : Int) = n := by omega
    unfold bitsOf at h3
    rw [e] at h3
    exact h3
  · intro hm
    have h2 := memB_gt hc (by rw [h]; exact hm)
    have e : ((n.toNat : Nat) : Int) = n := by omega
    refine ⟨h2.2.1, h2.2.2, ?_⟩
    unfold bitsOf
    rw [e]
    exact hm

theorem diff_example : diffL [(1, 3)] [(3, 3)] = [(false, 1, 2), (true, 4, 2)] := by
  have h1 : gone [(1, 3)] [(3, 3)] = [(1, 2)] := gone_is (by decide) (by decide) (by decide) fun n => by
    rw [Bool.eq_iff_iff]; simp [memB]; omega
  have h2 : gone [(3, 3)] [(1, 3)] = [(4, 2)] := gone_is (by decide) (by decide) (by decide) fun n => by
    rw [Bool.eq_iff_iff]; simp [memB]; omega
  rw [diffL_right (by decide) (by decide) h1.symm h2.symm]
  rfl

set_option maxRecDepth 100000 in
set_option maxHeartbeats 4000000 in
theorem slogAlive_any (w : World) : Calls Try.prog 31 #[] w fun e w' => e = .returned (.bool true) ∧ Below w.heap.size w w' := by
  obtain ⟨W0, hW0⟩ : ∃ W, W = w.alloc (.cells #[.int .i64 1, .int .i64 3] 51) := ⟨_, rfl⟩
  have h0 : SpanSl W0 (.slice (some ⟨w.heap.size, 0, none⟩) 1 1) [(1, 3)] := by
    rw [hW0]; exact spanSl_lit w [(1, 3)] _ _ rfl (by simp [inI64]) (by decide) _ _ rfl
  have hs0 : W0.heap.size = w.heap.size + 1 := by rw [hW0]; simp
  have hB0 : Below w.heap.size w W0 := by rw [hW0]; exact (Below.refl _ _).alloc (Nat.le_refl _) _
  obtain ⟨W1, hW1⟩ : ∃ W, W = W0.alloc (.cells #[.int .i64 3, .int .i64 3] 51) := ⟨_, rfl⟩
  have h1 : SpanSl W1 (.slice (some ⟨w.heap.size + 1, 0, none⟩) 1 1) [(3, 3)] := by
    rw [hW1, ← hs0]; exact spanSl_lit W0 [(3, 3)] _ _ rfl (by simp [inI64]) (by decide) _ _ rfl
  have hC1 : Below W0.heap.size W0 W1 := by rw [hW1]; exact (Below.refl _ _).alloc (Nat.le_refl _) _
  have hB1 := Below.step hB0 hB0.size hC1
  go_enter Try.func31, Try.ntmps31
  go_wp2_with fail
  rw [← hW0]
  rw [← hW1]
  refine (diff_any _ _ _ _ _ (h0.below hC1) h1).mono ?_
  rw [diff_example]
  rintro e w2 ⟨r, rfl, hr, hb2⟩
  have hB2 := Below.step hB1 hB1.size hb2
  clear hW0 hW1 h0 h1 hs0 hC1
  go_wp2_with fail
  have hl := moveSl_lit w2 [(false, 1, 2), (true, 4, 2)] #[.bool false, .int .i64 1, .int .i64 2, .bool true, .int .i64 4, .int .i64 2] 99 rfl (by simp [inI64]) (by decide) 2 2 rfl
  have hC3 : Below w2.heap.size w2 (w2.alloc (.cells #[.bool false, .int .i64 1, .int .i64 2, .bool true, .int .i64 4, .int .i64 2] 99)) := (Below.refl _ _).alloc (Nat.le_refl _) _
  have hB3 := Below.step hB2 hB2.size hC3
  refine (msame_is true _ _ _ _ (by decide) _ (hr.below hC3) hl).mono ?_
  rintro e w3 ⟨rfl, hb3⟩
  have hB4 := Below.step hB3 hB3.size hb3
  go_wp2
  go_ret
  exact ⟨rfl, hB4⟩

end Go.Proofs.Ytaeklmnleampcaa
