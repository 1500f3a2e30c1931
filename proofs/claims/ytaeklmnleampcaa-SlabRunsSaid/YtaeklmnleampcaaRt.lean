/- Plain laws of logs: in two parts; from one set to another and back. -/
import Derived.Test.YtaeklmnleampcaaRq
import Derived.Test.YtaeklmnleampcaaAl
namespace Go.Proofs.Ytaeklmnleampcaa

theorem replayF_append (f : Nat → Bool) (ms ns : List MoveT) : replayF f (ms ++ ns) = (replayF f ms).bind fun g => replayF g ns := by
  induction ms generalizing f with
  | nil => rfl
  | cons x r ih =>
    rw [List.cons_append]
    cases hs : singleB x.2.1 x.2.2 with
    | false => rw [replayF_bad hs, replayF_bad hs]; rfl
    | true =>
      cases hcl : clashTo f x.2.1.toNat x.1 x.2.2.toNat with
      | true => rw [replayF_clash hcl, replayF_clash hcl]; rfl
      | false => rw [replayF_step hs hcl, replayF_step hs hcl]; exact ih _

theorem clashTo_congr {f g : Nat → Bool} {s k : Nat} {t : Bool} (h : ∀ n, n < 4096 → f n = g n) (hs : s + k ≤ 4096) : clashTo f s t k = clashTo g s t k := by
  unfold clashTo
  rw [Bool.eq_iff_iff, List.any_eq_true, List.any_eq_true]
  constructor
  · rintro ⟨j, hj, hf⟩
    have hj' := List.mem_range.1 hj
    exact ⟨j, hj, by rw [← h _ (by omega)]; exact hf⟩
  · rintro ⟨j, hj, hf⟩
    have hj' := List.mem_range.1 hj
    exact ⟨j, hj, by rw [h _ (by omega)]; exact hf⟩

theorem replayF_congr {f g : Nat → Bool} (h : ∀ n, n < 4096 → f n = g n) (ms : List MoveT) : (replayF f ms).map spansOf = (replayF g ms).map spansOf := by
  induction ms generalizing f g with
  | nil => simp only [replayF, Option.map_some]; rw [spansOf_congr h]
  | cons x r ih =>
    cases hs : singleB x.2.1 x.2.2 with
    | false => rw [replayF_bad hs, replayF_bad hs]
    | true =>
      have h1 := (singleB_iff _ _).1 hs
      have hc : clashTo f x.2.1.toNat x.1 x.2.2.toNat = clashTo g x.2.1.toNat x.1 x.2.2.toNat := clashTo_congr h (by omega)
      cases hcl : clashTo g x.2.1.toNat x.1 x.2.2.toNat with
      | true => rw [replayF_clash hcl, replayF_clash (hc.trans hcl)]
      | false =>
        rw [replayF_step hs hcl, replayF_step hs (hc.trans hcl)]
        refine ih fun n hn => ?_
        unfold putTo
        rw [h n hn]

theorem replayS_right {l : List (Int × Int)} (h : rightB l = true) (ms : List MoveT) : replayS l ms = (replayF (bitsOf l) ms).map spansOf := by
  unfold replayS; rw [if_pos h]

/-- A log in two parts. -/
theorem replayS_parts {l : List (Int × Int)} (h : rightB l = true) (ms ns : List MoveT) : replayS l (ms ++ ns) = (replayS l ms).bind fun k => replayS k ns := by
  rw [replayS_right h, replayS_right h, replayF_append]
  cases replayF (bitsOf l) ms with
  | none => rfl
  | some g =>
    show (replayF g ns).map spansOf = replayS (spansOf g) ns
    rw [replayS_right (spansOf_right g)]
    exact replayF_congr (fun n hn => (bitsOf_spansOf g hn).symm) ns

end Go.Proofs.Ytaeklmnleampcaa
