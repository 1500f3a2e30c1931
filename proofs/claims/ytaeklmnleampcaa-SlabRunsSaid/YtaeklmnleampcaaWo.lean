/- What the laws on spans use: the contracts with their answers named, and the plain laws between the program's answers and the reference's, of a set. -/
import Derived.Test.YtaeklmnleampcaaWn
import Derived.Test.YtaeklmnleampcaaArgs
namespace Go.Proofs.Ytaeklmnleampcaa
open Go.RowKit

theorem listR_right {l : List (Int × Int)} (h : rightB l = true) : listR l = listOf (bitsOf l) := by
  unfold listR; rw [seqOf_vals h, numsOf_eq h]

theorem hasR_right {l : List (Int × Int)} (h : rightB l = true) (n : Int) : hasR l n = memB l n := by
  unfold hasR listR
  rw [seqOf_vals h, Bool.eq_iff_iff, decide_eq_true_eq, mem_numsOf]

theorem firstR_right {l : List (Int × Int)} (h : rightB l = true) (many : Int) : firstR many l = firstS many l := by
  unfold firstR; rw [if_pos h]

theorem countR_right {l : List (Int × Int)} (h : rightB l = true) : countR l = ((listOf (bitsOf l)).length : Int) := by
  unfold countR; rw [if_pos h, countS_eq h, numsOf_eq h]

theorem refright_is (b : Bool) (v : Value) (l : List (Int × Int)) (h : rightB l = b) (w : World) (hv : SpanSl w v l) :
    Calls Try.prog 26 #[v] w fun e w' => e = .returned (.bool b) ∧ Below w.heap.size w w' := by
  subst h; exact refright_any v l w hv

theorem has_is (b : Bool) (v : Value) (l : List (Int × Int)) (n : Int) (h : hasR l n = b) (w : World) (hv : SpanSl w v l) :
    Calls Try.prog 46 #[v, .int .i64 n] w fun e w' => e = .returned (.bool b) ∧ Below w.heap.size w w' := by
  subst h; exact has_any v l n w hv

theorem refhas_is (b : Bool) (v : Value) (l : List (Int × Int)) (n : Int) (h : memB l n = b) (w : World) (hv : SpanSl w v l) (hr : rightB l = true) :
    Calls Try.prog 50 #[v, .int .i64 n] w fun e w' => e = .returned (.bool b) ∧ Below w.heap.size w w' := by
  subst h; exact refhas_any v l n w hv hr

theorem first_is (x y : Int) (b : Bool) (v : Value) (l : List (Int × Int)) (many : Int) (h : firstR many l = ((x, y), b)) (w : World) (hv : SpanSl w v l) :
    Calls Try.prog 45 #[v, .int .i64 many] w fun e w' => e = .returned (.tuple #[.agg #[.int .i64 x, .int .i64 y], .bool b]) ∧ Below w.heap.size w w' := by
  have := first_any v l many w hv
  rw [h] at this
  exact this

theorem reffirst_is (x y : Int) (b : Bool) (v : Value) (l : List (Int × Int)) (many : Int) (h : firstS many l = ((x, y), b)) (w : World) (hv : SpanSl w v l) :
    Calls Try.prog 49 #[v, .int .i64 many] w fun e w' => e = .returned (.tuple #[.agg #[.int .i64 x, .int .i64 y], .bool b]) ∧ Below w.heap.size w w' := by
  have := reffirst_any v l many w hv
  rw [h] at this
  exact this

end Go.Proofs.Ytaeklmnleampcaa
