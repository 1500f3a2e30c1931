/- Walks of the reference's comparisons of two lists: of spans, of integers. -/
import Derived.Test.YtaeklmnleampcaaWa
namespace Go.Proofs.Ytaeklmnleampcaa
open Go.RowKit

theorem neq51 (a b c d : Int) (r : Bool) (h : (!((a == c) && (b == d))) = r) (w : World) :
    (binOp .neq 51 (.agg #[.int .i64 a, .int .i64 b]) (.agg #[.int .i64 c, .int .i64 d])).run Try.prog w = .ok (.bool r) w := by
  subst h
  have hs : (Op.equal 51 (.agg #[.int .i64 a, .int .i64 b]) (.agg #[.int .i64 c, .int .i64 d])).run Try.prog w = .ok ((a == c) && (b == d)) w := by
    unfold Op.equal Op.maxDepth
    rw [run_equalIn_struct (P := Try.prog) w 9999 51 _ _ (by kernel_rfl) (by kernel_rfl)]
    have hf : (Try.prog.fieldsOf 51).toList = [{ name := "Start", type := 3, offset := 0, embedded := false, tag := "", pkgPath := "", byteOffset := 0 }, { name := "Len", type := 3, offset := 1, embedded := false, tag := "", pkgPath := "", byteOffset := 8 }] := by kernel_rfl
    rw [hf]
    simp [Op.eqFields, part, Try.isAgg3, Result.andThen, run_equalIn_int w 9998 3 .i64 .i64 _ _ Try.underlying3]
    by_cases h1 : a = c <;> by_cases h2 : b = d <;> simp [h1, h2]
  simp [binOp, hs, Result.andThen]

theorem not_take_eq {α : Type} {l m : List α} {k : Nat} (hl : k < l.length) (hm : k < m.length) (h : l[k] ≠ m[k]) : l ≠ m := by
  rintro rfl
  exact h rfl

theorem eq_of_all {α : Type} {l m : List α} (hlen : l.length = m.length) (h : ∀ j (hl : j < l.length) (hm : j < m.length), l[j] = m[j]) : l = m :=
  List.ext_getElem hlen h

set_option maxHeartbeats 800000 in
/-- The reference's Same: are two lists of spans one? -/
theorem same_any (v u : Value) (l m : List (Int × Int)) (w : World) (hv : SpanSl w v l) (hu : SpanSl w u m) :
    Calls Try.prog 27 #[v, u] w fun e w' => e = .returned (.bool (decide (l = m))) ∧ Below w.heap.size w w' := by
  obtain ⟨ao, cap, rfl, hlen, _, hc⟩ := hv
  obtain ⟨bo, cap', rfl, hlen', _, hc'⟩ := hu
  have HC := Lib.hid hc; clear hc
  have HC' := Lib.hid hc'; clear hc'
  by_cases hll : l.length = m.length
  · have HL := Lib.hid hll
    have hn : ((l.length : Int) != (m.length : Int)) = false := by simp [hll]
    clear hll
    go_enter Try.func27, Try.ntmps27
    go_wp2_with (fail)
    go_loopw [13] (fun i wr => ∃ (k : Nat), k ≤ l.length ∧ i = .int .i64 k ∧ Hid (∀ j (hj : j < k) (hl : j < l.length) (hm : j < m.length), l[j] = m[j]) ∧ Below w.heap.size w wr)
      (fun i _ => l.length - (intOf i).toNat)
    case atStart => exact ⟨0, Nat.zero_le _, rfl, fun j hj => absurd hj (Nat.not_lt_zero _), Below.refl _ _⟩
    case round =>
      obtain ⟨k, hk, rfl, HR, hbel⟩ := hrel
      by_cases hlt : k < l.length
      · have hlt' : k < m.length := by have := HL.out; omega
        obtain ⟨b, o, rfl, hbs, hcell⟩ := HC.out (by intro h; simp [h] at hlt)
        obtain ⟨b', o', rfl, hbs', hcell'⟩ := HC'.out (by intro h; simp [h] at hlt')
        obtain ⟨h1, h2⟩ := span_cells hbs hcell hbel hlt
        obtain ⟨h3, h4⟩ := span_cells hbs' hcell' hbel hlt'
        clear hcell hcell'
        have hi1 : (k : Int) < (l.length : Int) := by omega
        have hi2 : (k : Int) < (m.length : Int) := by omega
        by_cases he : l[k] = m[k]
        · have HE := Lib.hid he
          have hq := neq51 l[k].1 l[k].2 m[k].1 m[k].2 false (by rw [he]; simp)
          clear he
          go_wp2_with (go_quiet (fail))
          go_roundw
          case rel =>
            refine ⟨k + 1, by omega, by go_num, fun j hj hl hm => ?_, by refine below_drewN ?_ _; go_grown⟩
            by_cases hjk : j = k
            · subst hjk; exact HE.out
            · exact HR.out j (by omega) hl hm
          case measure => simp [intOf]; omega
        · have HE := Lib.hid he
          have hq := neq51 l[k].1 l[k].2 m[k].1 m[k].2 true (by
            have : ¬ (l[k].1 = m[k].1 ∧ l[k].2 = m[k].2) := fun h => he (Prod.ext h.1 h.2)
            simp; omega)
          clear he
          go_wp2_with (go_quiet (fail))
          go_ret
          exact ⟨ret_bool (by rw [decide_eq_false (not_take_eq hlt hlt' HE.out)]), by refine below_drewN ?_ _; go_grown⟩
      · go_wp2
        go_ret
        exact ⟨ret_bool (by rw [decide_eq_true (eq_of_all HL.out (fun j hl hm => HR.out j (by omega) hl hm))]), hbel⟩
  · have HL := Lib.hid hll
    have hn : ((l.length : Int) != (m.length : Int)) = true := by rw [bne_iff_ne]; omega
    clear hll
    go_enter Try.func27, Try.ntmps27
    go_wp2
    go_ret
    exact ⟨ret_bool (by rw [decide_eq_false (fun h => HL.out (by rw [h]))]), Below.refl _ _⟩

theorem same_is (r : Bool) (v u : Value) (l m : List (Int × Int)) (h : decide (l = m) = r) (w : World) (hv : SpanSl w v l) (hu : SpanSl w u m) :
    Calls Try.prog 27 #[v, u] w fun e w' => e = .returned (.bool r) ∧ Below w.heap.size w w' := by
  subst h; exact same_any v u l m w hv hu

set_option maxHeartbeats 800000 in
/-- The reference's SameInts. -/
theorem sameInts_any (v u : Value) (l m : List Int) (w : World) (hv : IntSl .i64 w v l) (hu : IntSl .i64 w u m) :
    Calls Try.prog 30 #[v, u] w fun e w' => e = .returned (.bool (decide (l = m))) ∧ Below w.heap.size w w' := by
  obtain ⟨ao, cap, rfl, hlen, _, hc⟩ := hv
  obtain ⟨bo, cap', rfl, hlen', _, hc'⟩ := hu
  have HC := Lib.hid hc; clear hc
  have HC' := Lib.hid hc'; clear hc'
  by_cases hll : l.length = m.length
  · have HL := Lib.hid hll
    have hn : ((l.length : Int) != (m.length : Int)) = false := by simp [hll]
    clear hll
    go_enter Try.func30, Try.ntmps30
    go_wp2_with (fail)
    go_loopw [13] (fun i wr => ∃ (k : Nat), k ≤ l.length ∧ i = .int .i64 k ∧ Hid (∀ j (hj : j < k) (hl : j < l.length) (hm : j < m.length), l[j] = m[j]) ∧ Below w.heap.size w wr)
      (fun i _ => l.length - (intOf i).toNat)
    case atStart => exact ⟨0, Nat.zero_le _, rfl, fun j hj => absurd hj (Nat.not_lt_zero _), Below.refl _ _⟩
    case round =>
      obtain ⟨k, hk, rfl, HR, hbel⟩ := hrel
      by_cases hlt : k < l.length
      · have hlt' : k < m.length := by have := HL.out; omega
        obtain ⟨b, o, rfl, hbs, hcell⟩ := HC.out (by intro h; simp [h] at hlt)
        obtain ⟨b', o', rfl, hbs', hcell'⟩ := HC'.out (by intro h; simp [h] at hlt')
        have h1 := int_cells hbs hcell hbel hlt
        have h3 := int_cells hbs' hcell' hbel hlt'
        clear hcell hcell'
        have hi1 : (k : Int) < (l.length : Int) := by omega
        have hi2 : (k : Int) < (m.length : Int) := by omega
        by_cases he : l[k] = m[k]
        · have HE := Lib.hid he
          have hq : (l[k] != m[k]) = false := by simp [he]
          clear he
          go_wp2_with (go_quiet (fail))
          go_roundw
          case rel =>
            refine ⟨k + 1, by omega, by go_num, fun j hj hl hm => ?_, by refine below_drewN ?_ _; go_grown⟩
            by_cases hjk : j = k
            · subst hjk; exact HE.out
            · exact HR.out j (by omega) hl hm
          case measure => simp [intOf]; omega
        · have HE := Lib.hid he
          have hq : (l[k] != m[k]) = true := by simp [he]
          clear he
          go_wp2_with (go_quiet (fail))
          go_ret
          exact ⟨ret_bool (by rw [decide_eq_false (not_take_eq hlt hlt' HE.out)]), by refine below_drewN ?_ _; go_grown⟩
      · go_wp2
        go_ret
        exact ⟨ret_bool (by rw [decide_eq_true (eq_of_all HL.out (fun j hl hm => HR.out j (by omega) hl hm))]), hbel⟩
  · have HL := Lib.hid hll
    have hn : ((l.length : Int) != (m.length : Int)) = true := by rw [bne_iff_ne]; omega
    clear hll
    go_enter Try.func30, Try.ntmps30
    go_wp2
    go_ret
    exact ⟨ret_bool (by rw [decide_eq_false (fun h => HL.out (by rw [h]))]), Below.refl _ _⟩

theorem sameInts_is (r : Bool) (v u : Value) (l m : List Int) (h : decide (l = m) = r) (w : World) (hv : IntSl .i64 w v l) (hu : IntSl .i64 w u m) :
    Calls Try.prog 30 #[v, u] w fun e w' => e = .returned (.bool r) ∧ Below w.heap.size w w' := by
  subst h; exact sameInts_any v u l m w hv hu

end Go.Proofs.Ytaeklmnleampcaa
