/- Plain laws on sets of numbers below 4096 as lists of spans: a list of spans that is a set is told by its numbers, and the set of some numbers is the one list with just these. No program is in sight. -/
namespace Go.Proofs.Ytaeklmnleampcaa

def singleB (s l : Int) : Bool := decide (0 ≤ s ∧ s < 4096 ∧ 1 ≤ l ∧ l ≤ 4096 - s)

def rightFrom (e : Int) : List (Int × Int) → Bool
  | [] => true
  | x :: r => singleB x.1 x.2 && decide (e < x.1) && rightFrom (x.1 + x.2) r

def rightB (l : List (Int × Int)) : Bool := rightFrom (-1) l

def memB (l : List (Int × Int)) (n : Int) : Bool := l.any fun x => decide (x.1 ≤ n ∧ n < x.1 + x.2)

def bitsOf (l : List (Int × Int)) : Nat → Bool := fun n => memB l (n : Int)

def pushS (l : List (Int × Int)) (k : Nat) : List (Int × Int) :=
  match l.getLast? with
  | some x => if x.1 + x.2 = (k : Int) then l.dropLast ++ [(x.1, x.2 + 1)] else l ++ [((k : Int), 1)]
  | none => [((k : Int), 1)]

def spansTo (f : Nat → Bool) : Nat → List (Int × Int)
  | 0 => []
  | k + 1 => if f k then pushS (spansTo f k) k else spansTo f k

def spansOf (f : Nat → Bool) : List (Int × Int) := spansTo f 4096

def endFrom (e : Int) : List (Int × Int) → Int
  | [] => e
  | x :: r => endFrom (x.1 + x.2) r

theorem singleB_iff (s l : Int) : singleB s l = true ↔ (0 ≤ s ∧ s < 4096 ∧ 1 ≤ l ∧ l ≤ 4096 - s) := by simp [singleB]

theorem rightFrom_cons (e : Int) (x : Int × Int) (r : List (Int × Int)) :
    rightFrom e (x :: r) = true ↔ singleB x.1 x.2 = true ∧ e < x.1 ∧ rightFrom (x.1 + x.2) r = true := by
  simp [rightFrom, and_assoc]

theorem rightFrom_append (e : Int) (l m : List (Int × Int)) : rightFrom e (l ++ m) = (rightFrom e l && rightFrom (endFrom e l) m) := by
  induction l generalizing e with
  | nil => simp [rightFrom, endFrom]
  | cons x r ih => simp [rightFrom, endFrom, ih, Bool.and_assoc]

theorem endFrom_append (e : Int) (l m : List (Int × Int)) : endFrom e (l ++ m) = endFrom (endFrom e l) m := by
  induction l generalizing e with
  | nil => rfl
  | cons x r ih => simp [endFrom, ih]

theorem rightFrom_mono {e e' : Int} {l : List (Int × Int)} (h : rightFrom e l = true) (he : e' ≤ e) : rightFrom e' l = true := by
  cases l with
  | nil => rfl
  | cons x r =>
    rw [rightFrom_cons] at h ⊢
    exact ⟨h.1, by omega, h.2.2⟩

theorem memB_cons (x : Int × Int) (r : List (Int × Int)) (n : Int) : memB (x :: r) n = true ↔ (x.1 ≤ n ∧ n < x.1 + x.2) ∨ memB r n = true := by
  simp [memB]

theorem memB_append (l m : List (Int × Int)) (n : Int) : memB (l ++ m) n = (memB l n || memB m n) := by simp [memB]

theorem memB_nil (n : Int) : memB [] n = false := rfl

theorem memB_gt {e : Int} {l : List (Int × Int)} (h : rightFrom e l = true) {n : Int} (hn : memB l n = true) : e < n ∧ 0 ≤ n ∧ n < 4096 := by
  induction l generalizing e with
  | nil => simp [memB] at hn
  | cons x r ih =>
    rw [rightFrom_cons, singleB_iff] at h
    rw [memB_cons] at hn
    rcases hn with hn | hn
    · omega
    · have := ih h.2.2 hn; omega

theorem right_unique {e e' : Int} {l m : List (Int × Int)} (hl : rightFrom e l = true) (hm : rightFrom e' m = true) (h : ∀ n, memB l n = memB m n) : l = m := by
  induction l generalizing e e' m with
  | nil =>
    cases m with
    | nil => rfl
    | cons y s =>
      rw [rightFrom_cons, singleB_iff] at hm
      have := h y.1
      rw [memB_nil] at this
      have h2 : memB (y :: s) y.1 = true := (memB_cons _ _ _).2 (.inl ⟨by omega, by omega⟩)
      rw [h2] at this; cases this
  | cons x r ih =>
    cases m with
    | nil =>
      rw [rightFrom_cons, singleB_iff] at hl
      have := h x.1
      rw [memB_nil] at this
      have h2 : memB (x :: r) x.1 = true := (memB_cons _ _ _).2 (.inl ⟨by omega, by omega⟩)
      rw [h2] at this; cases this
    | cons y s =>
      rw [rightFrom_cons, singleB_iff] at hl hm
      have hx : memB (y :: s) x.1 = true := by rw [← h]; exact (memB_cons _ _ _).2 (.inl ⟨by omega, by omega⟩)
      have hy : memB (x :: r) y.1 = true := by rw [h]; exact (memB_cons _ _ _).2 (.inl ⟨by omega, by omega⟩)
      have h1 : x.1 = y.1 := by
        rw [memB_cons] at hx hy
        rcases hx with hx | hx
        · rcases hy with hy | hy
          · omega
          · have := memB_gt hl.2.2 hy; omega
        · have := memB_gt hm.2.2 hx
          rcases hy with hy | hy
          · omega
          · have := memB_gt hl.2.2 hy; omega
      have hxe : memB (x :: r) (x.1 + x.2) ≠ true := by
        rw [ne_eq, memB_cons]
        rintro (hh | hh)
        · omega
        · have := memB_gt hl.2.2 hh; omega
      have hye : memB (y :: s) (y.1 + y.2) ≠ true := by
        rw [ne_eq, memB_cons]
        rintro (hh | hh)
        · omega
        · have := memB_gt hm.2.2 hh; omega
      have h2 : x.2 = y.2 := by
        rcases Int.lt_trichotomy x.2 y.2 with hlt | heq | hgt
        · exact absurd (by rw [h]; exact (memB_cons _ _ _).2 (.inl ⟨by omega, by omega⟩)) hxe
        · exact heq
        · exact absurd (by rw [← h]; exact (memB_cons _ _ _).2 (.inl ⟨by omega, by omega⟩)) hye
      have hxy : x = y := Prod.ext h1 h2
      subst hxy
      congr 1
      refine ih hl.2.2 hm.2.2 (fun n => ?_)
      have hn := h n
      rw [Bool.eq_iff_iff, memB_cons, memB_cons] at hn
      rw [Bool.eq_iff_iff]
      constructor
      · intro hr
        have := memB_gt hl.2.2 hr
        rcases hn.1 (.inr hr) with hh | hh
        · omega
        · exact hh
      · intro hr
        have := memB_gt hm.2.2 hr
        rcases hn.2 (.inr hr) with hh | hh
        · omega
        · exact hh

/-! ### The set of some numbers -/

theorem pushS_nil (k : Nat) : pushS [] k = [((k : Int), 1)] := rfl

theorem pushS_snoc (l : List (Int × Int)) (x : Int × Int) (k : Nat) :
    pushS (l ++ [x]) k = if x.1 + x.2 = (k : Int) then l ++ [(x.1, x.2 + 1)] else (l ++ [x]) ++ [((k : Int), 1)] := by
  simp [pushS]

theorem snoc_cases {α : Type} (l : List α) : l = [] ∨ ∃ m x, l = m ++ [x] := by
  rcases List.eq_nil_or_concat l with h | ⟨m, x, h⟩
  · exact .inl h
  · exact .inr ⟨m, x, by simpa using h⟩

theorem spansTo_good (f : Nat → Bool) (k : Nat) (hk : k ≤ 4096) :
    rightFrom (-1) (spansTo f k) = true ∧ endFrom (-1) (spansTo f k) ≤ k ∧ (∀ n, memB (spansTo f k) n = true ↔ (0 ≤ n ∧ n < k ∧ f n.toNat = true)) := by
  induction k with
  | zero => exact ⟨rfl, by simp [spansTo, endFrom], fun n => by simp [spansTo, memB]; omega⟩
  | succ k ih =>
    obtain ⟨h1, h2, h3⟩ := ih (by omega)
    unfold spansTo
    by_cases hf : f k = true
    · rw [if_pos hf]
      have key : ∀ n : Int, (0 ≤ n ∧ n < ((k + 1 : Nat) : Int) ∧ f n.toNat = true) ↔ ((0 ≤ n ∧ n < (k : Int) ∧ f n.toNat = true) ∨ n = (k : Int)) := by
        intro n
        constructor
        · rintro ⟨a, b, c⟩
          by_cases hn : n = (k : Int)
          · exact .inr hn
          · exact .inl ⟨a, by omega, c⟩
        · rintro (⟨a, b, c⟩ | rfl)
          · exact ⟨a, by omega, c⟩
          · exact ⟨by omega, by omega, by simpa using hf⟩
      rcases snoc_cases (spansTo f k) with he | ⟨m, x, he⟩
      · rw [he, pushS_nil]
        rw [he] at h3
        refine ⟨by simp [rightFrom, singleB]; omega, by simp [endFrom], fun n => ?_⟩
        rw [key, ← h3, memB_cons]
        simp [memB]
        omega
      · rw [he, pushS_snoc]
        rw [he] at h1 h2 h3
        rw [rightFrom_append] at h1
        rw [endFrom_append] at h2
        simp only [Bool.and_eq_true, rightFrom_cons, singleB_iff] at h1
        simp only [endFrom] at h2
        by_cases hx : x.1 + x.2 = (k : Int)
        · rw [if_pos hx]
          refine ⟨?_, ?_, fun n => ?_⟩
          · rw [rightFrom_append]
            simp only [Bool.and_eq_true, rightFrom_cons, singleB_iff]
            exact ⟨h1.1, by omega, by omega, rfl⟩
          · rw [endFrom_append]; simp only [endFrom]; omega
          · rw [key, ← h3, memB_append, memB_append, Bool.or_eq_true, Bool.or_eq_true, memB_cons, memB_cons]
            simp only [memB_nil]
            constructor
            · rintro (hh | hh | hh)
              · exact .inl (.inl hh)
              · by_cases hn : n = (k : Int)
                · exact .inr hn
                · exact .inl (.inr (.inl ⟨hh.1, by omega⟩))
              · cases hh
            · rintro ((hh | hh | hh) | hh)
              · exact .inl hh
              · exact .inr (.inl ⟨hh.1, by omega⟩)
              · cases hh
              · exact .inr (.inl ⟨by omega, by omega⟩)
        · rw [if_neg hx]
          refine ⟨?_, ?_, fun n => ?_⟩
          · rw [rightFrom_append, rightFrom_append, endFrom_append]
            simp only [Bool.and_eq_true, rightFrom_cons, singleB_iff, endFrom]
            exact ⟨⟨h1.1, h1.2.1, h1.2.2.1, rfl⟩, by omega, by omega, rfl⟩
          · rw [endFrom_append]; simp only [endFrom]; omega
          · rw [key, ← h3, memB_append, Bool.or_eq_true, memB_cons]
            simp only [memB_nil]
            constructor
            · rintro (hh | hh | hh)
              · exact .inl hh
              · exact .inr (by omega)
              · cases hh
            · rintro (hh | hh)
              · exact .inl hh
              · exact .inr (.inl ⟨by omega, by omega⟩)
    · rw [if_neg hf]
      refine ⟨h1, by omega, fun n => ?_⟩
      rw [h3]
      constructor
      · rintro ⟨a, b, c⟩; exact ⟨a, by omega, c⟩
      · rintro ⟨a, b, c⟩
        refine ⟨a, ?_, c⟩
        rcases Int.lt_or_le n k with hn | hn
        · exact hn
        · have : n = (k : Int) := by omega
          subst this
          exact absurd (by simpa using c) hf

theorem spansOf_right (f : Nat → Bool) : rightB (spansOf f) = true := (spansTo_good f 4096 (Nat.le_refl _)).1

theorem spansOf_mem (f : Nat → Bool) (n : Int) : memB (spansOf f) n = true ↔ (0 ≤ n ∧ n < 4096 ∧ f n.toNat = true) := (spansTo_good f 4096 (Nat.le_refl _)).2.2 n

theorem bitsOf_spansOf (f : Nat → Bool) {n : Nat} (hn : n < 4096) : bitsOf (spansOf f) n = f n := by
  rw [Bool.eq_iff_iff]
  unfold bitsOf
  rw [spansOf_mem]
  simp
  omega

theorem spansTo_congr {f g : Nat → Bool} {k : Nat} (h : ∀ n, n < k → f n = g n) : spansTo f k = spansTo g k := by
  induction k with
  | zero => rfl
  | succ k ih => simp only [spansTo, h k (Nat.lt_succ_self k), ih fun n hn => h n (Nat.lt_succ_of_lt hn)]

theorem spansOf_congr {f g : Nat → Bool} (h : ∀ n, n < 4096 → f n = g n) : spansOf f = spansOf g := spansTo_congr h

theorem spansOf_bitsOf {l : List (Int × Int)} (h : rightB l = true) : spansOf (bitsOf l) = l := by
  refine right_unique (spansOf_right _) h (fun n => ?_)
  rw [Bool.eq_iff_iff, spansOf_mem]
  constructor
  · rintro ⟨a, b, c⟩
    have : ((n.toNat : Nat) : Int) = n := by omega
    simpa [bitsOf, this] using c
  · intro hm
    have := memB_gt h hm
    refine ⟨this.2.1, this.2.2, ?_⟩
    have h2 : ((n.toNat : Nat) : Int) = n := by omega
    simpa [bitsOf, h2] using hm

/-- What the program's own test for 'it goes on' and the reference's say is the same. -/
theorem spansTo_last (f : Nat → Bool) (k : Nat) : (∃ m x, spansTo f k = m ++ [x] ∧ x.1 + x.2 = (k : Int)) ↔ (0 < k ∧ f (k - 1) = true) := by
  cases k with
  | zero => simp [spansTo]
  | succ k =>
    have hend : ∀ (j : Nat), ∀ x ∈ spansTo f j, x.1 + x.2 ≤ (j : Int) := by
      intro j
      induction j with
      | zero => simp [spansTo]
      | succ j ih =>
        unfold spansTo
        split
        · rcases snoc_cases (spansTo f j) with he | ⟨m, x, he⟩
          · rw [he, pushS_nil]; simp
          · rw [he, pushS_snoc]
            rw [he] at ih
            split
            · intro y hy
              rcases List.mem_append.1 hy with h | h
              · have := ih y (List.mem_append.2 (.inl h)); omega
              · simp at h; subst h; simp; omega
            · intro y hy
              rcases List.mem_append.1 hy with h | h
              · have := ih y h; omega
              · simp at h; subst h; simp
        · intro y hy; have := ih y hy; omega
    unfold spansTo
    by_cases hf : f k = true
    · rw [if_pos hf]
      simp only [Nat.add_sub_cancel, hf, and_true]
      refine ⟨fun _ => by omega, fun _ => ?_⟩
      rcases snoc_cases (spansTo f k) with he | ⟨m, x, he⟩
      · rw [he, pushS_nil]; exact ⟨[], _, rfl, by simp⟩
      · rw [he, pushS_snoc]
        split
        · exact ⟨_, _, rfl, by simp; omega⟩
        · exact ⟨_, _, rfl, by simp⟩
    · rw [if_neg hf]
      constructor
      · rintro ⟨m, x, he, hx⟩
        have := hend k x (by rw [he]; simp)
        omega
      · rintro ⟨_, h⟩
        exact absurd (by simpa using h) hf

theorem spansTo_length_le (f : Nat → Bool) (k : Nat) : (spansTo f k).length ≤ k := by
  induction k with
  | zero => simp [spansTo]
  | succ k ih =>
    unfold spansTo
    split
    · rcases snoc_cases (spansTo f k) with he | ⟨m, x, he⟩
      · rw [he, pushS_nil]; simp
      · rw [he, pushS_snoc]
        rw [he] at ih
        split <;> simp at ih ⊢ <;> omega
    · omega

/-! ### The numbers of a set, rising -/

def numsOf (l : List (Int × Int)) : List Int := l.flatMap fun x => (List.range x.2.toNat).map fun (k : Nat) => x.1 + (k : Int)

theorem mem_numsOf (l : List (Int × Int)) (n : Int) : n ∈ numsOf l ↔ memB l n = true := by
  induction l with
  | nil => simp [numsOf, memB]
  | cons x r ih =>
    rw [memB_cons, ← ih]
    simp only [numsOf, List.flatMap_cons, List.mem_append, List.mem_map, List.mem_range]
    constructor
    · rintro (⟨k, hk, rfl⟩ | h)
      · exact .inl ⟨by omega, by omega⟩
      · exact .inr h
    · rintro (⟨h1, h2⟩ | h)
      · exact .inl ⟨(n - x.1).toNat, by omega, by omega⟩
      · exact .inr h

theorem numsOf_rise {e : Int} {l : List (Int × Int)} (h : rightFrom e l = true) : (numsOf l).Pairwise (· < ·) := by
  induction l generalizing e with
  | nil => exact List.Pairwise.nil
  | cons x r ih =>
    rw [rightFrom_cons] at h
    simp only [numsOf, List.flatMap_cons]
    rw [List.pairwise_append]
    refine ⟨?_, ih h.2.2, ?_⟩
    · rw [List.pairwise_map]
      exact List.pairwise_lt_range.imp (by intro a b hab; omega)
    · intro a ha b hb
      have hb' : memB r b = true := (mem_numsOf r b).1 hb
      have := memB_gt h.2.2 hb'
      simp only [List.mem_map, List.mem_range] at ha
      obtain ⟨k, hk, rfl⟩ := ha
      omega

theorem rise_unique {l m : List Int} (hl : l.Pairwise (· < ·)) (hm : m.Pairwise (· < ·)) (h : ∀ n, n ∈ l ↔ n ∈ m) : l = m := by
  induction l generalizing m with
  | nil =>
    cases m with
    | nil => rfl
    | cons y s => exact absurd ((h y).2 (by simp)) (by simp)
  | cons x r ih =>
    cases m with
    | nil => exact absurd ((h x).1 (by simp)) (by simp)
    | cons y s =>
      rw [List.pairwise_cons] at hl hm
      have hxy : x = y := by
        rcases List.mem_cons.1 ((h x).1 (by simp)) with h1 | h1
        · exact h1
        · rcases List.mem_cons.1 ((h y).2 (by simp)) with h2 | h2
          · exact h2.symm
          · have := hl.1 y h2; have := hm.1 x h1; omega
      subst hxy
      congr 1
      refine ih hl.2 hm.2 (fun n => ?_)
      constructor
      · intro hn
        rcases List.mem_cons.1 ((h n).1 (List.mem_cons_of_mem _ hn)) with h1 | h1
        · have := hl.1 n hn; omega
        · exact h1
      · intro hn
        rcases List.mem_cons.1 ((h n).2 (List.mem_cons_of_mem _ hn)) with h1 | h1
        · have := hm.1 n hn; omega
        · exact h1

def listTo (f : Nat → Bool) (k : Nat) : List Int := ((List.range k).filter f).map fun (n : Nat) => (n : Int)

def listOf (f : Nat → Bool) : List Int := listTo f 4096

theorem listTo_succ (f : Nat → Bool) (k : Nat) : listTo f (k + 1) = if f k then listTo f k ++ [(k : Int)] else listTo f k := by
  simp only [listTo, List.range_succ, List.filter_append, List.map_append]
  split <;> simp [*]

theorem listTo_length_le (f : Nat → Bool) (k : Nat) : (listTo f k).length ≤ k := by
  simp only [listTo, List.length_map]
  exact Nat.le_trans (List.length_filter_le _ _) (by simp)

theorem mem_listTo (f : Nat → Bool) (k : Nat) (n : Int) : n ∈ listTo f k ↔ (0 ≤ n ∧ n < (k : Int) ∧ f n.toNat = true) := by
  simp only [listTo, List.mem_map, List.mem_filter, List.mem_range]
  constructor
  · rintro ⟨m, ⟨h1, h2⟩, rfl⟩; exact ⟨by omega, by omega, by simpa using h2⟩
  · rintro ⟨h1, h2, h3⟩; exact ⟨n.toNat, ⟨by omega, h3⟩, by omega⟩

theorem listTo_rise (f : Nat → Bool) (k : Nat) : (listTo f k).Pairwise (· < ·) := by
  rw [listTo, List.pairwise_map]
  exact (List.pairwise_lt_range.filter _).imp (by intro a b h; omega)

theorem numsOf_eq {l : List (Int × Int)} (h : rightB l = true) : numsOf l = listOf (bitsOf l) := by
  refine rise_unique (numsOf_rise h) (listTo_rise _ _) (fun n => ?_)
  rw [mem_numsOf, listOf, mem_listTo]
  constructor
  · intro hm
    have := memB_gt h hm
    have h2 : ((n.toNat : Nat) : Int) = n := by omega
    exact ⟨this.2.1, this.2.2, by simpa [bitsOf, h2] using hm⟩
  · rintro ⟨h1, h2, h3⟩
    have h4 : ((n.toNat : Nat) : Int) = n := by omega
    simpa [bitsOf, h4] using h3

theorem listOf_congr {f g : Nat → Bool} (h : ∀ n, n < 4096 → f n = g n) : listOf f = listOf g := by
  simp only [listOf, listTo]
  rw [List.filter_congr (fun n hn => h n (List.mem_range.1 hn))]

def countS (l : List (Int × Int)) : Int := (l.map (·.2)).sum

theorem countS_nil : countS [] = 0 := rfl
theorem countS_cons (x : Int × Int) (r : List (Int × Int)) : countS (x :: r) = x.2 + countS r := by simp [countS]
theorem countS_append (l m : List (Int × Int)) : countS (l ++ m) = countS l + countS m := by simp [countS]

theorem countS_eq {e : Int} {l : List (Int × Int)} (h : rightFrom e l = true) : countS l = ((numsOf l).length : Int) := by
  induction l generalizing e with
  | nil => rfl
  | cons x r ih =>
    rw [rightFrom_cons, singleB_iff] at h
    rw [countS_cons, ih h.2.2]
    simp only [numsOf, List.flatMap_cons, List.length_append, List.length_map, List.length_range]
    omega

/-- The end of a part of a set, and how many numbers it has. -/
theorem countS_bound {e : Int} {l : List (Int × Int)} (h : rightFrom e l = true) (he : -1 ≤ e) : 0 ≤ countS l ∧ countS l + e ≤ endFrom e l ∧ (l ≠ [] → endFrom e l ≤ 4096) := by
  induction l generalizing e with
  | nil => simp [countS, endFrom]
  | cons x r ih =>
    rw [rightFrom_cons, singleB_iff] at h
    have := ih h.2.2 (by omega)
    rw [countS_cons]
    simp only [endFrom]
    refine ⟨by omega, by omega, fun _ => ?_⟩
    by_cases hr : r = []
    · subst hr; simp [endFrom]; omega
    · exact this.2.2 hr

/-! ### The first so many -/

def firstS (many : Int) : List (Int × Int) → (Int × Int) × Bool
  | [] => ((0, 0), false)
  | x :: r => if 1 ≤ many ∧ many ≤ x.2 then ((x.1, many), true) else firstS many r

theorem firstS_small {many : Int} (h : many < 1) (l : List (Int × Int)) : firstS many l = ((0, 0), false) := by
  induction l with
  | nil => rfl
  | cons x r ih => rw [firstS, if_neg (by omega), ih]

theorem firstS_no {many : Int} {l : List (Int × Int)} (h : (firstS many l).2 = false) : (firstS many l).1 = (0, 0) ∧ ∀ x ∈ l, ¬ (1 ≤ many ∧ many ≤ x.2) := by
  induction l with
  | nil => simp [firstS]
  | cons x r ih =>
    rw [firstS] at h ⊢
    split at h
    · cases h
    · rename_i hx
      rw [if_neg hx]
      obtain ⟨h1, h2⟩ := ih h
      refine ⟨h1, fun y hy => ?_⟩
      rcases List.mem_cons.1 hy with rfl | hy
      · exact hx
      · exact h2 y hy

theorem firstS_yes {many : Int} {l : List (Int × Int)} (h : (firstS many l).2 = true) :
    1 ≤ many ∧ ∃ m x r, l = m ++ x :: r ∧ many ≤ x.2 ∧ (firstS many l).1 = (x.1, many) ∧ ∀ y ∈ m, ¬ (1 ≤ many ∧ many ≤ y.2) := by
  induction l with
  | nil => simp [firstS] at h
  | cons x r ih =>
    rw [firstS] at h ⊢
    by_cases hx : 1 ≤ many ∧ many ≤ x.2
    · rw [if_pos hx] at h ⊢
      exact ⟨hx.1, [], x, r, rfl, hx.2, rfl, by simp⟩
    · rw [if_neg hx] at h ⊢
      obtain ⟨h0, m, y, s, h1, h2, h3, h4⟩ := ih h
      refine ⟨h0, x :: m, y, s, by simp [h1], h2, h3, fun z hz => ?_⟩
      rcases List.mem_cons.1 hz with rfl | hz
      · exact hx
      · exact h4 z hz

theorem firstS_none {many : Int} {l : List (Int × Int)} (h : ∀ x ∈ l, ¬ (1 ≤ many ∧ many ≤ x.2)) : firstS many l = ((0, 0), false) := by
  induction l with
  | nil => rfl
  | cons x r ih => rw [firstS, if_neg (h x (by simp)), ih fun y hy => h y (List.mem_cons_of_mem _ hy)]

/-- The part of a set that lies below one of its spans is the set of the spans ahead. -/
theorem below_part {m r : List (Int × Int)} {x : Int × Int} (h : rightB (m ++ x :: r) = true) :
    spansOf (fun n => bitsOf (m ++ x :: r) n && decide ((n : Int) < x.1)) = m := by
  unfold rightB at h
  rw [rightFrom_append, Bool.and_eq_true, rightFrom_cons] at h
  obtain ⟨h1, h2, h3, h4⟩ := h
  have hm : ∀ n, memB m n = true → n < x.1 := by
    intro n hn
    have : ∀ (e : Int) (l : List (Int × Int)), rightFrom e l = true → memB l n = true → n < endFrom e l := by
      intro e l
      induction l generalizing e with
      | nil => intro _ h; simp [memB] at h
      | cons y s ih =>
        intro h h'
        rw [rightFrom_cons] at h
        rw [memB_cons] at h'
        simp only [endFrom]
        rcases h' with h' | h'
        · have : ∀ (e : Int) (l : List (Int × Int)), rightFrom e l = true → e ≤ endFrom e l := by
            intro e l
            induction l generalizing e with
            | nil => intro _; simp [endFrom]
            | cons y s ih =>
              intro h
              rw [rightFrom_cons, singleB_iff] at h
              have := ih _ h.2.2
              simp only [endFrom]; omega
          have := this _ _ h.2.2
          omega
        · exact ih _ h.2.2 h'
    have := this _ _ h1 hn
    omega
  refine right_unique (spansOf_right _) h1 (fun n => ?_)
  rw [Bool.eq_iff_iff, spansOf_mem]
  constructor
  · rintro ⟨a, b, c⟩
    have e : ((n.toNat : Nat) : Int) = n := by omega
    rw [Bool.and_eq_true, decide_eq_true_eq] at c
    unfold bitsOf at c
    rw [e, memB_append, Bool.or_eq_true, memB_cons] at c
    rcases c.1 with c1 | c1 | c1
    · exact c1
    · omega
    · have := memB_gt h4 c1
      rw [singleB_iff] at h2
      omega
  · intro hn
    have h5 := hm n hn
    have h6 := memB_gt h1 hn
    have e : ((n.toNat : Nat) : Int) = n := by omega
    refine ⟨h6.2.1, h6.2.2, ?_⟩
    rw [Bool.and_eq_true, decide_eq_true_eq, e]
    refine ⟨?_, h5⟩
    unfold bitsOf
    rw [e, memB_append, hn, Bool.true_or]

/-! ### The numbers of a set as an iterator hands them out -/

def finOf (x : Int) : Fin 4096 := Fin.ofNat 4096 x.toNat

theorem finOf_val {x : Int} (h0 : 0 ≤ x) (h1 : x < 4096) : ((finOf x).val : Int) = x := by
  have : (finOf x).val = x.toNat % 4096 := rfl
  rw [this, Nat.mod_eq_of_lt (by omega)]
  omega

def seqOf (l : List (Int × Int)) : List (Fin 4096) := if rightB l = true then (numsOf l).map finOf else []

theorem seqOf_right {l : List (Int × Int)} (h : rightB l = true) : seqOf l = (numsOf l).map finOf := by rw [seqOf, if_pos h]
theorem seqOf_wrong {l : List (Int × Int)} (h : rightB l = false) : seqOf l = [] := by rw [seqOf, if_neg (by simp [h])]

theorem seqOf_vals {l : List (Int × Int)} (h : rightB l = true) : (seqOf l).map (fun x => (x.val : Int)) = numsOf l := by
  rw [seqOf_right h, List.map_map]
  conv => rhs; rw [← List.map_id (numsOf l)]
  apply List.map_congr_left
  intro x hx
  have := memB_gt h ((mem_numsOf l x).1 hx)
  simpa using finOf_val this.2.1 this.2.2

/-- How many numbers the first i spans have. -/
def aheadN (l : List (Int × Int)) (i : Nat) : Nat := (numsOf (l.take i)).length

theorem numsOf_append (l m : List (Int × Int)) : numsOf (l ++ m) = numsOf l ++ numsOf m := by simp [numsOf]
theorem numsOf_cons (x : Int × Int) (r : List (Int × Int)) : numsOf (x :: r) = ((List.range x.2.toNat).map fun (k : Nat) => x.1 + (k : Int)) ++ numsOf r := by simp [numsOf]

theorem aheadN_succ {l : List (Int × Int)} {i : Nat} (h : i < l.length) : aheadN l (i + 1) = aheadN l i + l[i].2.toNat := by
  unfold aheadN
  rw [List.take_succ_eq_append_getElem h, numsOf_append, List.length_append, numsOf_cons]
  simp [numsOf]

theorem aheadN_all (l : List (Int × Int)) {i : Nat} (h : l.length ≤ i) : aheadN l i = (numsOf l).length := by
  unfold aheadN
  rw [List.take_of_length_le h]

theorem aheadN_zero (l : List (Int × Int)) : aheadN l 0 = 0 := by simp [aheadN, numsOf]

theorem numsOf_at {l : List (Int × Int)} {i j : Nat} (h : i < l.length) (hj : j < l[i].2.toNat) : (numsOf l)[aheadN l i + j]? = some (l[i].1 + (j : Int)) := by
  have h1 : l = l.take i ++ l[i] :: l.drop (i + 1) := by
    rw [← List.drop_eq_getElem_cons h, List.take_append_drop]
  have h2 : numsOf l = numsOf (l.take i) ++ (((List.range l[i].2.toNat).map fun (k : Nat) => l[i].1 + (k : Int)) ++ numsOf (l.drop (i + 1))) := by
    conv => lhs; rw [h1]
    rw [numsOf_append, numsOf_cons]
  rw [h2, List.getElem?_append_right (by unfold aheadN; omega)]
  unfold aheadN
  rw [Nat.add_sub_cancel_left, List.getElem?_append_left (by simpa using hj)]
  simp [hj]

/-- The number that the iterator hands out next. -/
theorem seqOf_at {l : List (Int × Int)} (hr : rightB l = true) {i j : Nat} (h : i < l.length) (hj : j < l[i].2.toNat) :
    ∃ x : Fin 4096, (x.val : Int) = l[i].1 + (j : Int) ∧ aheadN l i + j < (seqOf l).length ∧ (seqOf l).take (aheadN l i + j) ++ [x] = (seqOf l).take (aheadN l i + (j + 1)) := by
  have h1 := numsOf_at h hj
  obtain ⟨hlt, h2⟩ := List.getElem?_eq_some_iff.1 h1
  have h3 : aheadN l i + j < (seqOf l).length := by rw [seqOf_right hr, List.length_map]; exact hlt
  refine ⟨(seqOf l)[aheadN l i + j], ?_, h3, ?_⟩
  · have h4 : (seqOf l)[aheadN l i + j] = finOf (numsOf l)[aheadN l i + j] := by simp [seqOf_right hr]
    rw [h4, h2]
    have h5 := memB_gt hr ((mem_numsOf l _).1 (h2 ▸ List.getElem_mem hlt))
    exact finOf_val h5.2.1 h5.2.2
  · rw [← Nat.add_assoc, List.take_succ_eq_append_getElem h3]

theorem seqOf_mem {l : List (Int × Int)} (hr : rightB l = true) (n : Fin 4096) : n ∈ seqOf l ↔ bitsOf l n.val = true := by
  unfold bitsOf
  rw [← mem_numsOf, ← seqOf_vals hr, List.mem_map]
  constructor
  · intro h; exact ⟨n, h, rfl⟩
  · rintro ⟨m, h, e⟩
    have : m = n := Fin.ext (by omega)
    exact this ▸ h

/-- The truth values of a list that may be no set: none has a number then. -/
def bitsR (l : List (Int × Int)) : Nat → Bool := fun n => rightB l && bitsOf l n

theorem bitsR_right {l : List (Int × Int)} (h : rightB l = true) : bitsR l = bitsOf l := by funext n; simp [bitsR, h]

theorem seqOf_bitsR (l : List (Int × Int)) {n : Nat} (hn : n < 4096) : (⟨n, hn⟩ : Fin 4096) ∈ seqOf l ↔ bitsR l n = true := by
  cases h : rightB l with
  | true => rw [seqOf_mem h, bitsR_right h]
  | false => rw [seqOf_wrong h]; simp [bitsR, h]

theorem right_at {e : Int} {l : List (Int × Int)} (h : rightFrom e l = true) {i : Nat} (hi : i < l.length) : singleB l[i].1 l[i].2 = true := by
  induction l generalizing e i with
  | nil => simp at hi
  | cons x r ih =>
    rw [rightFrom_cons] at h
    cases i with
    | zero => exact h.1
    | succ i => exact ih h.2.2 (by simpa using hi)

end Go.Proofs.Ytaeklmnleampcaa
