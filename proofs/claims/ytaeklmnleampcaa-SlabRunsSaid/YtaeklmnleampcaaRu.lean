/- Plain laws of logs: the moves from one set to another lead there; the shortest log of a set. -/
import Derived.Test.YtaeklmnleampcaaRt
namespace Go.Proofs.Ytaeklmnleampcaa

/-- A right list of spans, all of whose numbers are the other way, is replayed. -/
theorem replayF_all (t : Bool) {C : List (Int × Int)} {e : Int} (he : -1 ≤ e) (hC : rightFrom e C = true) (f : Nat → Bool) (hf : ∀ n : Nat, memB C (n : Int) = true → f n = !t) :
    ∃ g, replayF f (C.map (Prod.mk t)) = some g ∧ ∀ n : Nat, g n = if memB C (n : Int) = true then t else f n := by
  induction C generalizing e f with
  | nil => exact ⟨f, rfl, fun n => by rw [memB_nil, if_neg (by simp)]⟩
  | cons x r ih =>
    have h := (rightFrom_cons _ _ _).1 hC
    have hx := (singleB_iff _ _).1 h.1
    have hcl : clashTo f x.1.toNat t x.2.toNat = false := by
      unfold clashTo
      rw [← Bool.not_eq_true, List.any_eq_true]
      rintro ⟨j, hj, hft⟩
      have hj' := List.mem_range.1 hj
      rw [hf (x.1.toNat + j) ((memB_cons _ _ _).2 (.inl (by omega)))] at hft
      cases t <;> simp at hft
    have hst : replayF f (((x :: r).map (Prod.mk t))) = replayF (putTo f x.1.toNat t x.2.toNat) (r.map (Prod.mk t)) := by
      rw [List.map_cons, replayF_step (x := (t, x)) h.1 hcl]
    obtain ⟨g, hg1, hg2⟩ := ih (e := x.1 + x.2) (by omega) h.2.2 (putTo f x.1.toNat t x.2.toNat) (fun n hn => by
      have := memB_gt h.2.2 hn
      unfold putTo
      rw [if_neg (by omega)]
      exact hf n ((memB_cons _ _ _).2 (.inr hn)))
    refine ⟨g, hst.trans hg1, fun n => ?_⟩
    rw [hg2 n]
    by_cases hr : memB r (n : Int) = true
    · rw [if_pos hr, if_pos ((memB_cons _ _ _).2 (.inr hr))]
    · rw [if_neg hr]
      unfold putTo
      by_cases hin : x.1.toNat ≤ n ∧ n < x.1.toNat + x.2.toNat
      · rw [if_pos hin, if_pos ((memB_cons _ _ _).2 (.inl (by omega)))]
      · rw [if_neg hin, if_neg]
        intro h2
        rcases (memB_cons _ _ _).1 h2 with h3 | h3
        · exact hin (by omega)
        · exact hr h3

/-- The moves from one set to another lead there. -/
theorem replayS_diff {a b : List (Int × Int)} (ha : rightB a = true) (hb : rightB b = true) : replayS a (diffL a b) = some b := by
  rw [replayS_right ha, diffL_right ha hb rfl rfl, replayF_append]
  have m1 : ∀ n : Nat, memB (gone a b) (n : Int) = true ↔ n < 4096 ∧ bitsOf a n = true ∧ bitsOf b n = false := by
    intro n
    unfold gone
    rw [spansOf_mem, bitsR_right ha, bitsR_right hb]
    simp
    intro _ _
    omega
  have m2 : ∀ n : Nat, memB (gone b a) (n : Int) = true ↔ n < 4096 ∧ bitsOf b n = true ∧ bitsOf a n = false := by
    intro n
    unfold gone
    rw [spansOf_mem, bitsR_right ha, bitsR_right hb]
    simp
    intro _ _
    omega
  obtain ⟨g, hg1, hg2⟩ := replayF_all false (C := gone a b) (e := -1) (Int.le_refl _) (spansOf_right _) (bitsOf a) (fun n hn => ((m1 n).1 hn).2.1)
  rw [hg1]
  obtain ⟨k, hk1, hk2⟩ := replayF_all true (C := gone b a) (e := -1) (Int.le_refl _) (spansOf_right _) g (fun n hn => by
    have := (m2 n).1 hn
    rw [hg2 n]
    split
    · rfl
    · exact this.2.2)
  show (replayF g ((gone b a).map (Prod.mk true))).map spansOf = some b
  rw [hk1]
  show some (spansOf k) = some b
  rw [← spansOf_bitsOf hb]
  congr 1
  rw [spansOf_bitsOf hb]
  conv => rhs; rw [← spansOf_bitsOf hb]
  refine spansOf_congr fun n hn => ?_
  rw [hk2 n, hg2 n]
  by_cases h2 : memB (gone b a) (n : Int) = true
  · rw [if_pos h2, ((m2 n).1 h2).2.1]
  · rw [if_neg h2]
    by_cases h1 : memB (gone a b) (n : Int) = true
    · rw [if_pos h1, ((m1 n).1 h1).2.2]
    · rw [if_neg h1]
      have e1 := mt (m1 n).2 h1
      have e2 := mt (m2 n).2 h2
      cases hA : bitsOf a n <;> cases hB : bitsOf b n <;> simp_all

theorem spansOf_none {f : Nat → Bool} (h : ∀ n, n < 4096 → f n = false) : spansOf f = [] := by
  have h2 : spansOf f = spansOf (bitsOf []) := spansOf_congr fun n hn => by rw [h n hn]; rfl
  rw [h2, spansOf_bitsOf rfl]

/-- The shortest log of a set has as many moves as the set has spans. -/
theorem diffL_length {b : List (Int × Int)} (hb : rightB b = true) : (diffL [] b).length = b.length := by
  rw [diffL_right (a := []) rfl hb rfl rfl]
  have h1 : gone [] b = [] := by
    unfold gone
    exact spansOf_none fun n _ => by rw [bitsR_right (l := []) rfl]; rfl
  have h2 : gone b [] = b := by
    unfold gone
    rw [show spansOf (fun n => bitsR b n && !bitsR [] n) = spansOf (bitsOf b) from spansOf_congr fun n _ => by rw [bitsR_right hb, bitsR_right (l := []) rfl]; show (bitsOf b n && !memB [] _) = _; rw [memB_nil]; simp]
    exact spansOf_bitsOf hb
  rw [h1, h2]
  simp

theorem replayS_set {l k : List (Int × Int)} {ms : List MoveT} (h : replayS l ms = some k) : rightB k = true := by
  unfold replayS at h
  split at h
  · obtain ⟨g, _, rfl⟩ := Option.map_eq_some_iff.1 h
    exact spansOf_right g
  · cases h

end Go.Proofs.Ytaeklmnleampcaa
