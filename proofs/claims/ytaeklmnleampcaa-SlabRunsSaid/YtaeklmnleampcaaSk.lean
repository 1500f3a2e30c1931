/- What the laws of maps need of the contracts: results by name. -/
import Derived.Test.YtaeklmnleampcaaSj
import Derived.Test.YtaeklmnleampcaaRu
namespace Go.Proofs.Ytaeklmnleampcaa
open Go.RowKit

theorem roomR_nat (st : Nat → Nat) {k : Nat} (h : k < 16) : roomR st (k : Int) = (roomN st k : Nat) := by
  unfold roomR; rw [if_pos (by omega), Int.toNat_natCast]

theorem room_is (r : Int) (b : Nat) (st : Nat → Nat) (k : Int) (h : roomR st k = r) (w : World) (hm : MapAt w b st) :
    Calls Try.prog 42 #[.pointer (some ⟨b, 0, none⟩), .int .i64 k] w fun e w' => e = .returned (.int .i64 r) ∧ w = w' := by
  subst h; exact room_any b st k w hm

theorem isB_nat (st : Nat → Nat) {k : Nat} (h : k < 1024) (s : Nat) : isB st (k : Int) s = decide (st k = s) := by
  unfold isB
  rw [Bool.eq_iff_iff, decide_eq_true_eq, decide_eq_true_eq, Int.toNat_natCast]
  exact ⟨fun h2 => h2.2.2, fun h2 => ⟨by omega, by omega, h2⟩⟩

theorem turn_yes {st : Nat → Nat} {k : Nat} (h : k < 1024) {s v : Nat} (hs : st k = s) : turnC st (k : Int) s = 0 ∧ turnN st (k : Int) s v = putN st k v := by
  unfold turnC turnN
  rw [isB_nat st h, decide_eq_true hs, if_pos rfl, if_pos rfl, Int.toNat_natCast]
  exact ⟨rfl, rfl⟩

theorem turn_no {st : Nat → Nat} {i : Int} {s v : Nat} (h : isB st i s = false) : turnC st i s = 72 ∧ turnN st i s v = st := by
  unfold turnC turnN
  rw [h]
  exact ⟨rfl, rfl⟩

theorem turn_cases (st : Nat → Nat) (i : Int) (s v : Nat) : (∃ k : Nat, i = (k : Int) ∧ k < 1024 ∧ st k = s ∧ turnC st i s = 0 ∧ turnN st i s v = putN st k v) ∨ (isB st i s = false ∧ turnC st i s = 72 ∧ turnN st i s v = st) := by
  cases h : isB st i s with
  | false => exact .inr ⟨rfl, turn_no h⟩
  | true =>
    have h' := of_decide_eq_true h
    refine .inl ⟨i.toNat, by omega, by omega, h'.2.2, ?_⟩
    have hi : i = (i.toNat : Int) := by omega
    have := turn_yes (st := st) (k := i.toNat) (by omega) (s := s) (v := v) h'.2.2
    rw [← hi] at this
    exact this

/-- The cells of a struct of two integers in a new block. -/
theorem two_new (w : World) (x y : Value) (t : TypeId) : (w.alloc (.cells #[x, y] t)).cell? ⟨w.heap.size, 0, none⟩ = some x ∧ (w.alloc (.cells #[x, y] t)).cell? ⟨w.heap.size, 1, none⟩ = some y :=
  ⟨World.cell?_alloc_at _ _ _ _ rfl, World.cell?_alloc_at _ _ _ _ rfl⟩

theorem setN_none {st : Nat → Nat} {s : Nat} (h : ∀ n, n < 1024 → st n ≠ s) : setN st s = [] := by
  unfold setN
  exact spansOf_none fun n _ => decide_eq_false fun h2 => h n h2.1 h2.2

theorem setN_one {st : Nat → Nat} {s i : Nat} (hi : i < 1024) (h : ∀ n, n < 1024 → (st n = s ↔ n = i)) : setN st s = [((i : Int), 1)] := by
  have hr : rightB [((i : Int), 1)] = true := by rw [right_one, singleB_iff]; omega
  rw [← spansOf_bitsOf hr]
  unfold setN
  refine spansOf_congr fun n hn => ?_
  unfold bitsOf
  rw [Bool.eq_iff_iff, decide_eq_true_eq, memB_cons]
  constructor
  · rintro ⟨h1, h2⟩
    have := (h n h1).1 h2
    exact .inl (by simp only; omega)
  · rintro (h1 | h1)
    · simp only at h1
      exact ⟨by omega, (h n (by omega)).2 (by omega)⟩
    · simp [memB] at h1

theorem newN_01 (T : Int) (n : Nat) : newN T n = 0 ∨ newN T n = 1 := by unfold newN; split <;> simp

end Go.Proofs.Ytaeklmnleampcaa
