/- Plain laws of a log replayed, and the walks of right on both sides. -/
import Derived.Test.YtaeklmnleampcaaDf
namespace Go.Proofs.Ytaeklmnleampcaa
open Go.RowKit

/-- Is a number of the span what the move would make it? -/
def clashTo (f : Nat → Bool) (s : Nat) (t : Bool) (k : Nat) : Bool := (List.range k).any fun j => f (s + j) == t

/-- The numbers behind the first k steps of a move. -/
def putTo (f : Nat → Bool) (s : Nat) (t : Bool) (k : Nat) : Nat → Bool := fun n => if s ≤ n ∧ n < s + k then t else f n

def replayF : (Nat → Bool) → List MoveT → Option (Nat → Bool)
  | f, [] => some f
  | f, x :: r => if (singleB x.2.1 x.2.2 && !clashTo f x.2.1.toNat x.1 x.2.2.toNat) = true then replayF (putTo f x.2.1.toNat x.1 x.2.2.toNat) r else none

/-- The set that a log leads to, and whether it leads anywhere. -/
def replayS (l : List (Int × Int)) (ms : List MoveT) : Option (List (Int × Int)) :=
  if rightB l = true then (replayF (bitsOf l) ms).map spansOf else none

theorem clashTo_succ (f : Nat → Bool) (s : Nat) (t : Bool) (k : Nat) : clashTo f s t (k + 1) = (clashTo f s t k || (f (s + k) == t)) := by
  unfold clashTo
  rw [List.range_succ, List.any_append]
  simp

theorem clashTo_mono {f : Nat → Bool} {s : Nat} {t : Bool} {k m : Nat} (h : clashTo f s t k = true) (hkm : k ≤ m) : clashTo f s t m = true := by
  unfold clashTo at h ⊢
  rw [List.any_eq_true] at h ⊢
  obtain ⟨j, hj, hf⟩ := h
  exact ⟨j, List.mem_range.2 (Nat.lt_of_lt_of_le (List.mem_range.1 hj) hkm), hf⟩

theorem putTo_at (f : Nat → Bool) (s : Nat) (t : Bool) (k : Nat) : putTo f s t k (s + k) = f (s + k) := by
  unfold putTo; rw [if_neg (by omega)]

theorem putTo_zero (f : Nat → Bool) (s : Nat) (t : Bool) (n : Nat) : putTo f s t 0 n = f n := by
  unfold putTo; rw [if_neg (by omega)]

theorem putTo_next (f : Nat → Bool) (s : Nat) (t : Bool) (k n : Nat) : putTo f s t (k + 1) n = if n = s + k then t else putTo f s t k n := by
  unfold putTo
  by_cases h : n = s + k
  · rw [if_pos h, if_pos (by omega)]
  · rw [if_neg h]
    by_cases h2 : s ≤ n ∧ n < s + k
    · rw [if_pos h2, if_pos (by omega)]
    · rw [if_neg h2, if_neg (by omega)]

theorem right_one (s l : Int) : rightB [(s, l)] = singleB s l := by
  rw [Bool.eq_iff_iff]
  unfold rightB
  rw [rightFrom_cons]
  constructor
  · exact fun h => h.1
  · intro h
    have h' := (singleB_iff _ _).1 h
    exact ⟨h, by simp only; omega, rfl⟩

theorem replayF_bad {f : Nat → Bool} {x : MoveT} {r : List MoveT} (h : singleB x.2.1 x.2.2 = false) : replayF f (x :: r) = none := by
  unfold replayF; rw [h]; rfl

theorem replayF_clash {f : Nat → Bool} {x : MoveT} {r : List MoveT} (h : clashTo f x.2.1.toNat x.1 x.2.2.toNat = true) : replayF f (x :: r) = none := by
  unfold replayF; rw [h]; simp

theorem replayF_step {f : Nat → Bool} {x : MoveT} {r : List MoveT} (hs : singleB x.2.1 x.2.2 = true) (h : clashTo f x.2.1.toNat x.1 x.2.2.toNat = false) : replayF f (x :: r) = replayF (putTo f x.2.1.toNat x.1 x.2.2.toNat) r := by
  conv => lhs; unfold replayF
  rw [hs, h]; rfl

set_option maxRecDepth 100000 in
theorem mright_any (t : Bool) (s l : Int) (hs : inI64 s ∧ inI64 l) (w : World) :
    Calls Try.prog 84 #[.agg #[.bool t, .int .i64 s, .int .i64 l]] w fun e w' => e = .returned (.bool (singleB s l)) ∧ Below w.heap.size w w' := by
  have HS := Lib.hid hs; clear hs
  obtain ⟨b, hb⟩ : ∃ b, singleB s l = b := ⟨_, rfl⟩
  rw [hb]
  have HB : Hid (rightB [(s, l)] = b) := (right_one s l).trans hb
  clear hb
  obtain ⟨W0, hW0⟩ : ∃ W, W = w.alloc (.cells #[.bool t, .int .i64 s, .int .i64 l] 99) := ⟨_, rfl⟩
  have hs0 : W0.heap.size = w.heap.size + 1 := by rw [hW0]; simp
  have hB0 : Below w.heap.size w W0 := by rw [hW0]; exact (Below.refl _ _).alloc (Nat.le_refl _) _
  have hl : SpanSl (W0.alloc (.cells #[.int .i64 s, .int .i64 l] 51)) (.slice (some ⟨W0.heap.size, 0, none⟩) 1 1) [(s, l)] :=
    spanSl_lit W0 [(s, l)] _ _ rfl (by simpa using HS.out) (by simp) _ _ rfl
  have HL := Lib.hid hl; clear hl
  go_enter Try.func84, Try.ntmps84
  go_wp2_with fail
  rw [← hW0]
  try rw [← hs0]
  have hB1 := hB0.alloc hB0.size (.cells #[.int .i64 s, .int .i64 l] 51)
  refine (right_is b _ _ HB.out _ HL.out).mono ?_
  rintro e w2 ⟨rfl, hb2⟩
  have hB2 := Below.step hB1 hB1.size hb2
  go_wp2
  go_ret
  exact ⟨rfl, hB2⟩

set_option maxRecDepth 100000 in
theorem refmright_any (t : Bool) (s l : Int) (hs : inI64 s ∧ inI64 l) (w : World) :
    Calls Try.prog 85 #[.agg #[.bool t, .int .i64 s, .int .i64 l]] w fun e w' => e = .returned (.bool (singleB s l)) ∧ Below w.heap.size w w' := by
  have HS := Lib.hid hs; clear hs
  obtain ⟨b, hb⟩ : ∃ b, singleB s l = b := ⟨_, rfl⟩
  rw [hb]
  have HB : Hid (rightB [(s, l)] = b) := (right_one s l).trans hb
  clear hb
  obtain ⟨W0, hW0⟩ : ∃ W, W = w.alloc (.cells #[.bool t, .int .i64 s, .int .i64 l] 99) := ⟨_, rfl⟩
  have hs0 : W0.heap.size = w.heap.size + 1 := by rw [hW0]; simp
  have hB0 : Below w.heap.size w W0 := by rw [hW0]; exact (Below.refl _ _).alloc (Nat.le_refl _) _
  have hl : SpanSl (W0.alloc (.cells #[.int .i64 s, .int .i64 l] 51)) (.slice (some ⟨W0.heap.size, 0, none⟩) 1 1) [(s, l)] :=
    spanSl_lit W0 [(s, l)] _ _ rfl (by simpa using HS.out) (by simp) _ _ rfl
  have HL := Lib.hid hl; clear hl
  go_enter Try.func85, Try.ntmps85
  go_wp2_with fail
  rw [← hW0]
  try rw [← hs0]
  have hB1 := hB0.alloc hB0.size (.cells #[.int .i64 s, .int .i64 l] 51)
  refine (refright_is b _ _ HB.out _ HL.out).mono ?_
  rintro e w2 ⟨rfl, hb2⟩
  have hB2 := Below.step hB1 hB1.size hb2
  go_wp2
  go_ret
  exact ⟨rfl, hB2⟩

end Go.Proofs.Ytaeklmnleampcaa
