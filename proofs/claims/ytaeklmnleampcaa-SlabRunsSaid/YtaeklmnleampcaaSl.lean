/- Plain laws on what is given out of a map: what is there, what is given one by one, how many there are of each kind. -/
import Derived.Test.YtaeklmnleampcaaSk
namespace Go.Proofs.Ytaeklmnleampcaa

/-- The sectors from 4 to T are there, and no others. -/
def GoodT (T : Nat) (st : Nat → Nat) : Prop := T ≤ 1024 ∧ (∀ j, j < 1024 → (st j = 0 ↔ ¬ (4 ≤ j ∧ j < T))) ∧ ∀ j, st j ≤ 3

theorem goodT_new {T : Nat} (h : T ≤ 1024) : GoodT T (newN (T : Int)) := by
  refine ⟨h, fun j hj => ?_, newN_le _⟩
  unfold newN
  by_cases h2 : 4 ≤ j ∧ j < T
  · rw [if_pos (by omega)]; simp [h2]
  · rw [if_neg (by omega)]; simp only [true_iff]; exact h2

theorem goodT_put {T : Nat} {st : Nat → Nat} (h : GoodT T st) {i v : Nat} (hi : st i ≠ 0) (hv : v ≠ 0) (hv3 : v ≤ 3) : GoodT T (putN st i v) := by
  refine ⟨h.1, fun j hj => ?_, putN_le h.2.2 hv3⟩
  unfold putN
  by_cases hji : j = i
  · subst hji
    rw [if_pos rfl]
    have := h.2.1 j hj
    constructor
    · exact fun e => absurd e hv
    · exact fun e => absurd (this.2 e) hi
  · rw [if_neg hji]; exact h.2.1 j hj

theorem goodT_many {T : Nat} {st : Nat → Nat} (h : GoodT T st) (k : Nat) : GoodT T (manyN st k).2 := by
  induction k with
  | zero => exact h
  | succ k ih =>
    cases ha : allocN (manyN st k).2 with
    | none => rw [show manyN st (k + 1) = (match allocN (manyN st k).2 with | some i => ((manyN st k).1 ++ [i], putN (manyN st k).2 i 2) | none => manyN st k) from rfl, ha]; exact ih
    | some i =>
      rw [manyN_step st ha]
      exact goodT_put ih (by rw [(allocN_some ha).2.1]; decide) (by decide) (by decide)

theorem goodT_commit {T : Nat} {st : Nat → Nat} (h : GoodT T st) : GoodT T (commitN st) := by
  refine ⟨h.1, fun j hj => ?_, commitN_le h.2.2⟩
  rw [← h.2.1 j hj]
  unfold commitN
  split
  · next h3 => omega
  · exact Iff.rfl

theorem goodT_in {T : Nat} {st : Nat → Nat} (h : GoodT T st) {j : Nat} (hj : j < 1024) (h0 : st j ≠ 0) : 4 ≤ j ∧ j < T := by
  have := h.2.1 j hj
  by_cases h2 : 4 ≤ j ∧ j < T
  · exact h2
  · exact absurd (this.2 h2) h0

/-- What is given at the k-th step. -/
theorem many_get (st : Nat → Nat) {k N : Nat} (hk : k < N) (hN : N ≤ countN st) :
    ∃ x, allocN (manyN st k).2 = some x ∧ (manyN st N).1[k]? = some x ∧ (manyN st (k + 1)).2 = putN (manyN st k).2 x 2 := by
  have h1 := (manyN_count st (k := k) (by omega)).1
  obtain ⟨x, hx⟩ := allocN_pos (st := (manyN st k).2) (by omega)
  refine ⟨x, hx, ?_, by rw [manyN_step st hx]⟩
  induction N with
  | zero => omega
  | succ n ih =>
    obtain ⟨h3, h4⟩ := manyN_count st (k := n) (by omega)
    obtain ⟨y, hy⟩ := allocN_pos (st := (manyN st n).2) (by omega)
    rw [manyN_step st hy]
    by_cases hkn : k = n
    · subst hkn
      rw [hx] at hy
      cases hy
      show ((manyN st k).1 ++ [x])[k]? = some x
      rw [List.getElem?_append_right (by omega), h4]
      simp
    · show ((manyN st n).1 ++ [y])[k]? = some x
      rw [List.getElem?_append_left (by omega)]
      exact ih (by omega) (by omega)

theorem many_three (st : Nat → Nat) (k : Nat) : ∀ j, ((manyN st k).2 j = 3 ↔ st j = 3) := by
  induction k with
  | zero => exact fun _ => Iff.rfl
  | succ k ih =>
    intro j
    cases ha : allocN (manyN st k).2 with
    | none => rw [show manyN st (k + 1) = (match allocN (manyN st k).2 with | some i => ((manyN st k).1 ++ [i], putN (manyN st k).2 i 2) | none => manyN st k) from rfl, ha]; exact ih j
    | some i =>
      rw [manyN_step st ha]
      show putN (manyN st k).2 i 2 j = 3 ↔ _
      unfold putN
      by_cases hji : j = i
      · subst hji
        rw [if_pos rfl, ← ih j, (allocN_some ha).2.1]
        decide
      · rw [if_neg hji]; exact ih j

/-- How many are v among the first k. -/
def lenV' (st : Nat → Nat) (v k : Nat) : Nat := (listTo (fun j => st j == v) k).length

theorem lenV_succ (st : Nat → Nat) (v k : Nat) : lenV' st v (k + 1) = lenV' st v k + if st k = v then 1 else 0 := by
  unfold lenV'
  rw [listTo_succ]
  by_cases h : st k = v
  · rw [if_pos (by simpa using h), if_pos h, List.length_append]; rfl
  · rw [if_neg (by simpa using h), if_neg h]; rfl

theorem cntTo_lenV (st : Nat → Nat) (k : Nat) : cntTo st 0 k = lenV' st 1 k := by
  induction k with
  | zero => rfl
  | succ k ih => rw [cntTo_succ, lenV_succ, ih, Nat.zero_add]

theorem lenV_sum {T : Nat} {st : Nat → Nat} (h : GoodT T st) (h4 : 4 ≤ T) {k : Nat} (hk : k ≤ 1024) : lenV' st 1 k + lenV' st 2 k + lenV' st 3 k = (if k ≤ 4 then 0 else if k ≤ T then k - 4 else T - 4) := by
  induction k with
  | zero => rfl
  | succ k ih =>
    rw [lenV_succ, lenV_succ, lenV_succ]
    have := ih (by omega)
    have h0 := h.2.1 k (by omega)
    have h3 := h.2.2 k
    by_cases hin : 4 ≤ k ∧ k < T
    · have : st k ≠ 0 := fun e => (h0.1 e) hin
      have hs : (if st k = 1 then 1 else 0) + (if st k = 2 then 1 else 0) + (if st k = 3 then 1 else 0) = 1 := by
        have : st k = 1 ∨ st k = 2 ∨ st k = 3 := by omega
        rcases this with e | e | e <;> rw [e] <;> rfl
      have r1 : (if k ≤ 4 then 0 else if k ≤ T then k - 4 else T - 4) = k - 4 := by
        by_cases h5 : k ≤ 4
        · rw [if_pos h5]; omega
        · rw [if_neg h5, if_pos (by omega)]
      have r2 : (if k + 1 ≤ 4 then 0 else if k + 1 ≤ T then k + 1 - 4 else T - 4) = k + 1 - 4 := by rw [if_neg (by omega), if_pos (by omega)]
      rw [r2]
      omega
    · have e : st k = 0 := h0.2 hin
      rw [e]
      simp only [if_neg (show ¬ (0 : Nat) = 1 by decide), if_neg (show ¬ (0 : Nat) = 2 by decide), if_neg (show ¬ (0 : Nat) = 3 by decide)]
      have r1 : (if k ≤ 4 then 0 else if k ≤ T then k - 4 else T - 4) = (if k + 1 ≤ 4 then 0 else if k + 1 ≤ T then k + 1 - 4 else T - 4) := by
        by_cases h5 : k + 1 ≤ 4
        · rw [if_pos h5, if_pos (by omega)]
        · rw [if_neg h5, if_neg (show ¬ k + 1 ≤ T by omega)]
          by_cases h6 : k ≤ 4
          · rw [if_pos h6]; omega
          · rw [if_neg h6]
            by_cases h7 : k ≤ T
            · rw [if_pos h7]; omega
            · rw [if_neg h7]
      rw [← r1]
      omega

theorem lenV_all {T : Nat} {st : Nat → Nat} (h : GoodT T st) (h4 : 4 ≤ T) : lenV' st 2 1024 + lenV' st 3 1024 + countN st = T - 4 := by
  have := lenV_sum h h4 (k := 1024) (Nat.le_refl _)
  have hT := h.1
  rw [countN_eq, cntTo_lenV]
  split at this <;> (try split at this) <;> omega

theorem listTo_beyond {f : Nat → Bool} (h : ∀ n, 1024 ≤ n → f n = false) (m : Nat) : listTo f (1024 + m) = listTo f 1024 := by
  induction m with
  | zero => rfl
  | succ m ih =>
    rw [show 1024 + (m + 1) = (1024 + m) + 1 from rfl, listTo_succ, if_neg (by rw [h _ (by omega)]; simp), ih]

theorem listTo_congr {f g : Nat → Bool} {k : Nat} (h : ∀ n, n < k → f n = g n) : listTo f k = listTo g k := by
  induction k with
  | zero => rfl
  | succ k ih => rw [listTo_succ, listTo_succ, h k (by omega), ih fun n hn => h n (by omega)]

theorem setN_len (st : Nat → Nat) (s : Nat) : (listOf (bitsOf (setN st s))).length = lenV' st s 1024 := by
  have h1 : listOf (bitsOf (setN st s)) = listOf (fun n => decide (n < 1024 ∧ st n = s)) := listOf_congr fun n hn => bitsOf_spansOf _ hn
  rw [h1]
  show (listTo _ (1024 + 3072)).length = _
  rw [listTo_beyond (fun n hn => decide_eq_false (by omega))]
  unfold lenV'
  rw [listTo_congr (g := fun j => st j == s) fun n hn => by
    rw [Bool.eq_iff_iff, decide_eq_true_eq, beq_iff_eq]
    exact ⟨fun h => h.2, fun h => ⟨hn, h⟩⟩]

theorem lenV_le (st : Nat → Nat) (v k : Nat) : lenV' st v k ≤ k := listTo_length_le _ _

end Go.Proofs.Ytaeklmnleampcaa
