/- The reference's map as a value: a struct of 1025 cells; and how a function with such a result ends. -/
import Derived.Test.YtaeklmnleampcaaSl
namespace Go.Proofs.Ytaeklmnleampcaa
open Go.RowKit

/-- The cells of the reference's map: how many sectors there are, and what each is. -/
def refF (T : Nat) (st : Nat → Nat) : Nat → Value := fun i => if i = 0 then .int .i64 (T : Nat) else .int .u8 ((st (i - 1) - 1 : Nat) : Nat)

theorem refF_zero (T : Nat) (st : Nat → Nat) : refF T st 0 = .int .i64 (T : Nat) := rfl
theorem refF_at (T : Nat) (st : Nat → Nat) (i : Nat) : refF T st (1 + i) = .int .u8 ((st i - 1 : Nat) : Nat) := by
  unfold refF; rw [if_neg (by omega), show 1 + i - 1 = i from by omega]

theorem refF_one (T : Nat) (st : Nat → Nat) : ∀ i, (refF T st i).oneCell' = true := by
  intro i; unfold refF; split <;> rfl

theorem refF_congr {T : Nat} {st st' : Nat → Nat} (h : ∀ j, j < 1024 → st j - 1 = st' j - 1) : ∀ i, i < 1025 → refF T st i = refF T st' i := by
  intro i hi
  unfold refF
  by_cases h0 : i = 0
  · rw [if_pos h0, if_pos h0]
  · rw [if_neg h0, if_neg h0, h (i - 1) (by omega)]

theorem refF_put (T : Nat) (st : Nat → Nat) {i v : Nat} : ∀ j, (if j = 1 + i then (.int .u8 ((v - 1 : Nat) : Nat) : Value) else refF T st j) = refF T (putN st i v) j := by
  intro j
  by_cases h : j = 1 + i
  · subst h; rw [if_pos rfl, refF_at, putN_same]
  · rw [if_neg h]
    unfold refF
    by_cases h0 : j = 0
    · rw [if_pos h0, if_pos h0]
    · rw [if_neg h0, if_neg h0, putN_other st v (by omega)]

theorem size67 : (Try.prog.info? 67).map (·.size) = some 1025 := by kernel_rfl

theorem arrOf_ref (T s : Nat) : arrOf 1025 (refF T (fun _ => s)) = #[.int .i64 (T : Nat)] ++ Array.replicate 1024 (.int .u8 ((s - 1 : Nat) : Nat)) := by
  apply Array.ext_getElem?
  intro j
  rw [arrOf_get, Array.getElem?_append]
  simp only [Array.getElem?_replicate, List.size_toArray, List.length_cons, List.length_nil]
  unfold refF
  by_cases h : j = 0
  · subst h; simp
  · by_cases h2 : j < 1025
    · rw [if_pos h2, if_neg h, if_neg (by omega), if_pos (by omega)]
    · rw [if_neg h2, if_neg (by omega), if_neg (by omega)]

theorem zero67 : Try.zeroCells67 = arrOf 1025 (refF 0 (fun _ => 0)) := by
  rw [arrOf_ref]
  kernel_rfl

theorem ret_row_two {P : Program} {fn : Func} {p q : Tmp} {ty : TypeId} {tmps : Array Value} {w : World} {g : Nat} {t : TypeId} {n : Nat} {f : Nat → Value} {d : TypeDesc} (h : fn.results = #[.cell p ty, .tmp q]) (hp : tmps.getD p undef = .pointer (some ⟨g, 0, none⟩))
    (hg : RowAt w g t n f) (hu : P.underlying ty = some d) (hd : (match d with | .struct _ | .array _ _ => true | _ => false) = true) (hi : (P.info? ty).map (·.size) = some n) :
    (results fn tmps).run P w = .ok (.tuple #[.agg (arrOf n f), tmps.getD q undef]) w := by
  have hp' : tmps[p]?.getD undef = .pointer (some ⟨g, 0, none⟩) := by simpa using hp
  simp [results, h, hp', asAddr, run_loadVar_row w g t ty (arrOf n f) (0, 0) d hg hu hd (by rw [arrOf_size]; exact hi), Result.andThen]

theorem ret_row_three {P : Program} {fn : Func} {p q r : Tmp} {ty : TypeId} {tmps : Array Value} {w : World} {g : Nat} {t : TypeId} {n : Nat} {f : Nat → Value} {d : TypeDesc} (h : fn.results = #[.cell p ty, .tmp q, .tmp r]) (hp : tmps.getD p undef = .pointer (some ⟨g, 0, none⟩))
    (hg : RowAt w g t n f) (hu : P.underlying ty = some d) (hd : (match d with | .struct _ | .array _ _ => true | _ => false) = true) (hi : (P.info? ty).map (·.size) = some n) :
    (results fn tmps).run P w = .ok (.tuple #[.agg (arrOf n f), tmps.getD q undef, tmps.getD r undef]) w := by
  have hp' : tmps[p]?.getD undef = .pointer (some ⟨g, 0, none⟩) := by simpa using hp
  simp [results, h, hp', asAddr, run_loadVar_row w g t ty (arrOf n f) (0, 0) d hg hu hd (by rw [arrOf_size]; exact hi), Result.andThen]

end Go.Proofs.Ytaeklmnleampcaa
