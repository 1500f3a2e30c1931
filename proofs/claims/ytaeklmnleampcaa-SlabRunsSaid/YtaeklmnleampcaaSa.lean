/- Plain laws on what each of 1024 sectors is: how many of a slab of 64 are free, which slab has the most room, the first free one there, many of them, one by one. No program is in sight. -/
import Derived.Test.YtaeklmnleampcaaPlain
namespace Go.Proofs.Ytaeklmnleampcaa

/-- How many of the k sectors from s on are free. -/
def cntTo (st : Nat → Nat) (s : Nat) : Nat → Nat
  | 0 => 0
  | k + 1 => cntTo st s k + if st (s + k) = 1 then 1 else 0

def roomN (st : Nat → Nat) (k : Nat) : Nat := cntTo st (64 * k) 64

def putN (st : Nat → Nat) (i v : Nat) : Nat → Nat := fun j => if j = i then v else st j

def sumTo (st : Nat → Nat) : Nat → Nat
  | 0 => 0
  | k + 1 => sumTo st k + roomN st k

def countN (st : Nat → Nat) : Nat := sumTo st 16

def bestTo (st : Nat → Nat) : Nat → Nat
  | 0 => 0
  | k + 1 => if roomN st (bestTo st k) < roomN st k then k else bestTo st k

def bestN (st : Nat → Nat) : Nat := bestTo st 16

def firstFree (st : Nat → Nat) (s : Nat) : Nat → Option Nat
  | 0 => none
  | k + 1 => match firstFree st s k with
    | some i => some i
    | none => if st (s + k) = 1 then some (s + k) else none

def allocN (st : Nat → Nat) : Option Nat := firstFree st (64 * bestN st) 64

/-- The sectors that are taken one by one, and what all are then. -/
def manyN (st : Nat → Nat) : Nat → List Nat × (Nat → Nat)
  | 0 => ([], st)
  | k + 1 => match allocN (manyN st k).2 with
    | some i => ((manyN st k).1 ++ [i], putN (manyN st k).2 i 2)
    | none => manyN st k

def newN (T : Int) : Nat → Nat := fun i => if 4 ≤ i ∧ (i : Int) < T ∧ i < 1024 then 1 else 0

def commitN (st : Nat → Nat) : Nat → Nat := fun i => if st i = 3 then 1 else st i

theorem cntTo_succ (st : Nat → Nat) (s k : Nat) : cntTo st s (k + 1) = cntTo st s k + if st (s + k) = 1 then 1 else 0 := rfl

theorem cntTo_le (st : Nat → Nat) (s k : Nat) : cntTo st s k ≤ k := by
  induction k with
  | zero => exact Nat.le_refl _
  | succ k ih => unfold cntTo; split <;> omega

theorem roomN_le (st : Nat → Nat) (k : Nat) : roomN st k ≤ 64 := cntTo_le _ _ _

theorem cntTo_congr {st st' : Nat → Nat} {s k : Nat} (h : ∀ i, s ≤ i → i < s + k → st i = st' i) : cntTo st s k = cntTo st' s k := by
  induction k with
  | zero => rfl
  | succ k ih =>
    unfold cntTo
    rw [ih fun i h1 h2 => h i h1 (by omega), h (s + k) (by omega) (by omega)]

theorem cntTo_add (st : Nat → Nat) (s k m : Nat) : cntTo st s (k + m) = cntTo st s k + cntTo st (s + k) m := by
  induction m with
  | zero => rfl
  | succ m ih =>
    rw [show k + (m + 1) = (k + m) + 1 from rfl, cntTo_succ, cntTo_succ, ih, Nat.add_assoc s k m]
    omega

theorem putN_same (st : Nat → Nat) (i v : Nat) : putN st i v i = v := by simp [putN]
theorem putN_other (st : Nat → Nat) {i j : Nat} (v : Nat) (h : j ≠ i) : putN st i v j = st j := by simp [putN, h]

theorem putN_self {st : Nat → Nat} {i v : Nat} (h : st i = v) : putN st i v = st := by
  funext j; unfold putN; split
  · next h2 => rw [h2, h]
  · rfl

theorem putN_putN (st : Nat → Nat) (i v u : Nat) : putN (putN st i v) i u = putN st i u := by
  funext j; unfold putN; split <;> rfl

theorem cntTo_put_out (st : Nat → Nat) {i s k : Nat} (v : Nat) (h : ¬ (s ≤ i ∧ i < s + k)) : cntTo (putN st i v) s k = cntTo st s k :=
  cntTo_congr fun j h1 h2 => putN_other st v (by omega)

theorem cntTo_put (st : Nat → Nat) {i s k : Nat} (v : Nat) (h1 : s ≤ i) (h2 : i < s + k) :
    cntTo (putN st i v) s k + (if st i = 1 then 1 else 0) = cntTo st s k + (if v = 1 then 1 else 0) := by
  induction k with
  | zero => omega
  | succ k ih =>
    unfold cntTo
    by_cases hi : i = s + k
    · subst hi
      rw [cntTo_put_out st v (by omega), putN_same]
      omega
    · rw [putN_other st v (by omega)]
      have := ih (by omega)
      omega

theorem roomN_put_out (st : Nat → Nat) {i k : Nat} (v : Nat) (h : i / 64 ≠ k) : roomN (putN st i v) k = roomN st k :=
  cntTo_put_out st v (by omega)

theorem roomN_put (st : Nat → Nat) {i k : Nat} (v : Nat) (h : i / 64 = k) :
    roomN (putN st i v) k + (if st i = 1 then 1 else 0) = roomN st k + (if v = 1 then 1 else 0) :=
  cntTo_put st v (by omega) (by omega)

theorem sumTo_eq (st : Nat → Nat) (k : Nat) : sumTo st k = cntTo st 0 (64 * k) := by
  induction k with
  | zero => rfl
  | succ k ih =>
    unfold sumTo
    rw [ih, show 64 * (k + 1) = 64 * k + 64 from by omega, cntTo_add, Nat.zero_add]
    rfl

theorem countN_eq (st : Nat → Nat) : countN st = cntTo st 0 1024 := sumTo_eq st 16

theorem sumTo_le (st : Nat → Nat) (k : Nat) : sumTo st k ≤ 64 * k := by rw [sumTo_eq]; exact cntTo_le _ _ _

theorem countN_put (st : Nat → Nat) {i : Nat} (v : Nat) (h : i < 1024) :
    countN (putN st i v) + (if st i = 1 then 1 else 0) = countN st + (if v = 1 then 1 else 0) := by
  rw [countN_eq, countN_eq]; exact cntTo_put st v (by omega) (by omega)

theorem bestTo_lt (st : Nat → Nat) {k : Nat} (hk : 0 < k) : bestTo st k < k := by
  induction k with
  | zero => omega
  | succ k ih =>
    unfold bestTo
    split
    · omega
    · rcases Nat.eq_zero_or_pos k with rfl | h
      · exact Nat.lt_succ_self _
      · have := ih h; omega

theorem bestN_lt (st : Nat → Nat) : bestN st < 16 := bestTo_lt st (by omega)

theorem bestTo_max (st : Nat → Nat) (k : Nat) : ∀ j, j < k → roomN st j ≤ roomN st (bestTo st k) ∧ (j < bestTo st k → roomN st j < roomN st (bestTo st k)) := by
  induction k with
  | zero => omega
  | succ k ih =>
    intro j hj
    unfold bestTo
    by_cases hlt : roomN st (bestTo st k) < roomN st k
    · rw [if_pos hlt]
      by_cases hjk : j = k
      · subst hjk; omega
      · have := ih j (by omega); omega
    · rw [if_neg hlt]
      by_cases hjk : j = k
      · subst hjk
        refine ⟨by omega, fun h => ?_⟩
        rcases Nat.eq_zero_or_pos j with rfl | h0
        · simp [bestTo] at h
        · have := bestTo_lt st h0; omega
      · exact ih j (by omega)

theorem bestN_max (st : Nat → Nat) {j : Nat} (h : j < 16) : roomN st j ≤ roomN st (bestN st) := (bestTo_max st 16 j h).1
theorem bestN_first (st : Nat → Nat) {j : Nat} (h : j < bestN st) : roomN st j < roomN st (bestN st) :=
  (bestTo_max st 16 j (by have := bestN_lt st; omega)).2 h

theorem firstFree_some {st : Nat → Nat} {s k i : Nat} (h : firstFree st s k = some i) : s ≤ i ∧ i < s + k ∧ st i = 1 ∧ ∀ j, s ≤ j → j < i → st j ≠ 1 := by
  have hn : ∀ m, firstFree st s m = none → ∀ j, s ≤ j → j < s + m → st j ≠ 1 := by
    intro m
    induction m with
    | zero => intro _ j h1 h2; omega
    | succ m ih =>
      intro h j h1 h2
      unfold firstFree at h
      split at h
      · cases h
      · next hm =>
        split at h
        · cases h
        · next hne =>
          by_cases hj : j = s + m
          · subst hj; exact hne
          · exact ih hm j h1 (by omega)
  induction k with
  | zero => cases h
  | succ k ih =>
    unfold firstFree at h
    split at h
    · next i' hi' =>
      cases h
      have := ih hi'
      exact ⟨this.1, by omega, this.2.2.1, this.2.2.2⟩
    · next hm =>
      split at h
      · next h1 =>
        cases h
        exact ⟨by omega, by omega, h1, fun j h2 h3 => hn k hm j h2 h3⟩
      · cases h

theorem firstFree_none {st : Nat → Nat} {s k : Nat} (h : firstFree st s k = none) : cntTo st s k = 0 := by
  induction k with
  | zero => rfl
  | succ k ih =>
    unfold firstFree at h
    split at h
    · cases h
    · next hm =>
      split at h
      · cases h
      · next hne =>
        unfold cntTo
        rw [ih hm, if_neg hne]

theorem cntTo_pos {st : Nat → Nat} {s k i : Nat} (h1 : s ≤ i) (h2 : i < s + k) (h : st i = 1) : 0 < cntTo st s k := by
  induction k with
  | zero => omega
  | succ k ih =>
    unfold cntTo
    by_cases hi : i = s + k
    · subst hi; rw [if_pos h]; omega
    · have := ih (by omega); omega

/-- What the round at k of the search finds. -/
theorem firstFree_at {st : Nat → Nat} {s k : Nat} (hn : ∀ j, j < k → st (s + j) ≠ 1) (h : st (s + k) = 1) (m : Nat) (hm : k < m) : firstFree st s m = some (s + k) := by
  have h0 : firstFree st s k = none := by
    cases hf : firstFree st s k with
    | none => rfl
    | some i =>
      have := firstFree_some hf
      have h2 := hn (i - s) (by omega)
      rw [show s + (i - s) = i from by omega] at h2
      exact absurd this.2.2.1 h2
  induction m with
  | zero => omega
  | succ m ih =>
    unfold firstFree
    by_cases hkm : k = m
    · subst hkm; rw [h0]; simp [h]
    · rw [ih (by omega)]

theorem firstFree_no {st : Nat → Nat} {s k : Nat} (hn : ∀ j, j < k → st (s + j) ≠ 1) : firstFree st s k = none := by
  cases hf : firstFree st s k with
  | none => rfl
  | some i =>
    have := firstFree_some hf
    have h2 := hn (i - s) (by omega)
    rw [show s + (i - s) = i from by omega] at h2
    exact absurd this.2.2.1 h2

theorem allocN_some {st : Nat → Nat} {i : Nat} (h : allocN st = some i) : i < 1024 ∧ st i = 1 ∧ i / 64 = bestN st ∧ ∀ j, 64 * bestN st ≤ j → j < i → st j ≠ 1 := by
  have := firstFree_some h
  have hb := bestN_lt st
  exact ⟨by omega, this.2.2.1, by omega, this.2.2.2⟩

theorem allocN_none_iff (st : Nat → Nat) : allocN st = none ↔ countN st = 0 := by
  constructor
  · intro h
    have h0 : roomN st (bestN st) = 0 := firstFree_none h
    have hs : ∀ k, k ≤ 16 → sumTo st k = 0 := by
      intro k
      induction k with
      | zero => intro _; rfl
      | succ k ih =>
        intro hk
        unfold sumTo
        have := bestN_max st (j := k) (by omega)
        rw [ih (by omega)]
        omega
    exact hs 16 (Nat.le_refl _)
  · intro h
    cases ha : allocN st with
    | none => rfl
    | some i =>
      have := allocN_some ha
      rw [countN_eq] at h
      have := cntTo_pos (st := st) (s := 0) (k := 1024) (i := i) (by omega) (by omega) this.2.1
      omega

theorem allocN_pos {st : Nat → Nat} (h : 0 < countN st) : ∃ i, allocN st = some i := by
  cases ha : allocN st with
  | none => have := (allocN_none_iff st).1 ha; omega
  | some i => exact ⟨i, rfl⟩

theorem countN_alloc {st : Nat → Nat} {i : Nat} (h : allocN st = some i) : countN (putN st i 2) + 1 = countN st := by
  have := allocN_some h
  have h2 := countN_put st 2 this.1
  rw [if_pos this.2.1] at h2
  simpa using h2

theorem manyN_step (st : Nat → Nat) {k i : Nat} (h : allocN (manyN st k).2 = some i) : manyN st (k + 1) = ((manyN st k).1 ++ [i], putN (manyN st k).2 i 2) := by
  rw [show manyN st (k + 1) = (match allocN (manyN st k).2 with | some i => ((manyN st k).1 ++ [i], putN (manyN st k).2 i 2) | none => manyN st k) from rfl, h]

theorem manyN_count (st : Nat → Nat) {k : Nat} (h : k ≤ countN st) : countN (manyN st k).2 + k = countN st ∧ (manyN st k).1.length = k := by
  induction k with
  | zero => exact ⟨rfl, rfl⟩
  | succ k ih =>
    obtain ⟨h1, h2⟩ := ih (by omega)
    obtain ⟨i, hi⟩ := allocN_pos (st := (manyN st k).2) (by omega)
    have := countN_alloc hi
    rw [manyN_step st hi]
    refine ⟨?_, by simp [h2]⟩
    simp only
    omega

theorem putN_le {st : Nat → Nat} {i v : Nat} (h : ∀ j, st j ≤ 3) (hv : v ≤ 3) : ∀ j, putN st i v j ≤ 3 := by
  intro j; unfold putN; split
  · exact hv
  · exact h j

theorem manyN_le {st : Nat → Nat} (h : ∀ j, st j ≤ 3) (k : Nat) : ∀ j, (manyN st k).2 j ≤ 3 := by
  induction k with
  | zero => exact h
  | succ k ih =>
    cases ha : allocN (manyN st k).2 with
    | none => rw [show manyN st (k + 1) = (match allocN (manyN st k).2 with | some i => ((manyN st k).1 ++ [i], putN (manyN st k).2 i 2) | none => manyN st k) from rfl, ha]; exact ih
    | some i => rw [manyN_step st ha]; exact putN_le ih (by omega)

theorem newN_le (T : Int) : ∀ j, newN T j ≤ 3 := by intro j; unfold newN; split <;> omega

theorem commitN_le {st : Nat → Nat} (h : ∀ j, st j ≤ 3) : ∀ j, commitN st j ≤ 3 := by
  intro j; unfold commitN; split
  · omega
  · exact h j

end Go.Proofs.Ytaeklmnleampcaa
