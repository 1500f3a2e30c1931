/- Walks of the reference's First and Has. -/
import Derived.Test.YtaeklmnleampcaaWl
namespace Go.Proofs.Ytaeklmnleampcaa
open Go.RowKit

set_option maxHeartbeats 2000000 in
/-- The reference's First. -/
theorem reffirst_any (v : Value) (l : List (Int × Int)) (many : Int) (w : World) (hv : SpanSl w v l) :
    Calls Try.prog 49 #[v, .int .i64 many] w fun e w' => e = .returned (.tuple #[spanV (firstS many l).1, .bool (firstS many l).2]) ∧ Below w.heap.size w w' := by
  obtain ⟨ao, cap, rfl, hlen, hb, hc⟩ := hv
  have HC := Lib.hid hc; clear hc
  clear hb
  obtain ⟨W0, hW0⟩ : ∃ W0, W0 = w.alloc (.cells #[.int .i64 0, .int .i64 0] 51) := ⟨_, rfl⟩
  have hs0 : W0.heap.size = w.heap.size + 1 := by rw [hW0]; simp
  have hB0 : Below w.heap.size w W0 := by rw [hW0]; exact (Below.refl _ _).alloc (Nat.le_refl _) _
  have hz0 : W0.cell? ⟨w.heap.size, 0, none⟩ = some (.int .i64 0) := by rw [hW0]; exact World.cell?_alloc_at _ _ _ _ rfl
  have hz1 : W0.cell? ⟨w.heap.size, 1, none⟩ = some (.int .i64 0) := by rw [hW0]; exact World.cell?_alloc_at _ _ _ _ rfl
  have hy0 : W0.frozen? ⟨w.heap.size, 0, none⟩ = false := by rw [hW0]; exact World.frozen?_alloc_at _ _ _ _ rfl
  have hy1 : W0.frozen? ⟨w.heap.size, 1, none⟩ = false := by rw [hW0]; exact World.frozen?_alloc_at _ _ _ _ rfl
  go_enter Try.func49, Try.ntmps49
  go_wp2_with fail
  rw [← hW0]
  clear hW0
  go_loopw [10] (fun i wr => ∃ k : Nat, k ≤ l.length ∧ i = .int .i64 k ∧ Hid (∀ j (hj : j < k) (hl : j < l.length), ¬ (1 ≤ many ∧ many ≤ l[j].2)) ∧ Below (w.heap.size + 1) W0 wr)
    (fun i _ => l.length - (intOf i).toNat)
  case atStart => exact ⟨0, Nat.zero_le _, rfl, fun j hj => absurd hj (Nat.not_lt_zero _), Below.refl _ _⟩
  case round =>
    obtain ⟨k, hk, rfl, HJ, hbel⟩ := hrel
    have hbs0 := hbel.size
    have hbelw : Below w.heap.size w wr := hB0.trans (hbel.mono (by omega))
    have q0 := (hbel.cell (p := ⟨w.heap.size, 0, none⟩) (by show w.heap.size < w.heap.size + 1; omega)).trans hz0
    have q1 := (hbel.cell (p := ⟨w.heap.size, 1, none⟩) (by show w.heap.size < w.heap.size + 1; omega)).trans hz1
    have q2 := (hbel.frozen (p := ⟨w.heap.size, 0, none⟩) (by show w.heap.size < w.heap.size + 1; omega)).trans hy0
    have q3 := (hbel.frozen (p := ⟨w.heap.size, 1, none⟩) (by show w.heap.size < w.heap.size + 1; omega)).trans hy1
    have hwr : w.heap.size < wr.heap.size := by omega
    clear hz0 hz1 hy0 hy1
    by_cases hlt : k < l.length
    · obtain ⟨b, o, rfl, hbs, hcell⟩ := HC.out (by intro h; simp [h] at hlt)
      obtain ⟨h1, h2⟩ := span_cells hbs hcell hbelw hlt
      clear hcell
      by_cases hm : 0 < many
      · by_cases hx : many ≤ l[k].2
        · have HX : Hid (firstS many l = ((l[k].1, many), true)) := firstS_hit hlt HJ.out ⟨by omega, hx⟩
          go_wp2
          refine bodyPost_ret (v := .tuple #[spanV (l[k].1, many), .bool true]) (by simp [results, Try.results49, go_sem, spanV, q0, q1, hwr]) rfl ⟨by rw [HX.out], ?_⟩
          go_grown
        · have HN : Hid (∀ j (hj : j < k + 1) (hl : j < l.length), ¬ (1 ≤ many ∧ many ≤ l[j].2)) := by
            intro j hj hl
            by_cases hjk : j = k
            · subst hjk; omega
            · exact HJ.out j (by omega) hl
          go_wp2
          go_roundw
          case rel => exact ⟨k + 1, by omega, by go_num, HN, by go_grown⟩
          case measure => simp [intOf]; omega
      · have HN : Hid (∀ j (hj : j < k + 1) (hl : j < l.length), ¬ (1 ≤ many ∧ many ≤ l[j].2)) := by
          intro j hj hl; omega
        go_wp2
        go_roundw
        case rel => exact ⟨k + 1, by omega, by go_num, HN, by go_grown⟩
        case measure => simp [intOf]; omega
    · have HX : Hid (firstS many l = ((0, 0), false)) := by
        unfold Hid; rw [firstS_skip HJ.out, List.drop_of_length_le (by omega)]; rfl
      go_wp2
      refine bodyPost_ret (v := .tuple #[spanV (0, 0), .bool false]) (by simp [results, Try.results49, go_sem, spanV, q0, q1]) rfl ⟨by rw [HX.out], ?_⟩
      go_grown

theorem memB_skip {l : List (Int × Int)} {n : Int} {k : Nat} (h : ∀ j (_hj : j < k) (hl : j < l.length), ¬ (l[j].1 ≤ n ∧ n < l[j].1 + l[j].2)) : memB l n = memB (l.drop k) n := by
  induction k generalizing l with
  | zero => rfl
  | succ k ih =>
    cases l with
    | nil => rfl
    | cons x r =>
      have h0 : ¬ (x.1 ≤ n ∧ n < x.1 + x.2) := h 0 (by omega) (by simp)
      rw [List.drop_succ_cons, ← ih fun j hj hl => h (j + 1) (by omega) (by simpa using hl), Bool.eq_iff_iff, memB_cons]
      exact ⟨fun hh => hh.resolve_left h0, .inr⟩

theorem memB_at {l : List (Int × Int)} {n : Int} {k : Nat} (hk : k < l.length) (h : l[k].1 ≤ n ∧ n < l[k].1 + l[k].2) : memB l n = true := by
  unfold memB
  rw [List.any_eq_true]
  exact ⟨l[k], List.getElem_mem _, by simpa using h⟩

set_option maxHeartbeats 2000000 in
/-- The reference's Has, of a set. -/
theorem refhas_any (v : Value) (l : List (Int × Int)) (n : Int) (w : World) (hv : SpanSl w v l) (hr : rightB l = true) :
    Calls Try.prog 50 #[v, .int .i64 n] w fun e w' => e = .returned (.bool (memB l n)) ∧ Below w.heap.size w w' := by
  obtain ⟨ao, cap, rfl, hlen, hb, hc⟩ := hv
  have HC := Lib.hid hc; clear hc
  clear hb
  have HR := Lib.hid hr; clear hr
  go_enter Try.func50, Try.ntmps50
  go_wp2_with fail
  go_loopw [9] (fun i wr => ∃ k : Nat, k ≤ l.length ∧ i = .int .i64 k ∧ Hid (∀ j (hj : j < k) (hl : j < l.length), ¬ (l[j].1 ≤ n ∧ n < l[j].1 + l[j].2)) ∧ Below w.heap.size w wr)
    (fun i _ => l.length - (intOf i).toNat)
  case atStart => exact ⟨0, Nat.zero_le _, rfl, fun j hj => absurd hj (Nat.not_lt_zero _), Below.refl _ _⟩
  case round =>
    obtain ⟨k, hk, rfl, HJ, hbel⟩ := hrel
    have hbs0 := hbel.size
    by_cases hlt : k < l.length
    · obtain ⟨b, o, rfl, hbs, hcell⟩ := HC.out (by intro h; simp [h] at hlt)
      obtain ⟨h1, h2⟩ := span_cells hbs hcell hbel hlt
      clear hcell
      have hs := (singleB_iff _ _).1 (right_at HR.out hlt)
      have hnext : ¬ (l[k].1 ≤ n ∧ n < l[k].1 + l[k].2) → Hid (∀ j (hj : j < k + 1) (hl : j < l.length), ¬ (l[j].1 ≤ n ∧ n < l[j].1 + l[j].2)) := by
        intro hx j hj hl
        by_cases hjk : j = k
        · subst hjk; exact hx
        · exact HJ.out j (by omega) hl
      by_cases hm : l[k].1 ≤ n
      · by_cases hx : n < l[k].1 + l[k].2
        · have HX : Hid (memB l n = true) := memB_at hlt ⟨hm, hx⟩
          clear hnext
          go_wp2
          go_ret
          exact ⟨ret_bool (by rw [HX.out]), by go_grown⟩
        · have HN := hnext (by omega)
          clear hnext
          go_wp2
          go_roundw
          case rel => exact ⟨k + 1, by omega, by go_num, HN, by go_grown⟩
          case measure => simp [intOf]; omega
      · have HN := hnext (by omega)
        clear hnext
        go_wp2
        go_roundw
        case rel => exact ⟨k + 1, by omega, by go_num, HN, by go_grown⟩
        case measure => simp [intOf]; omega
    · have HX : Hid (memB l n = false) := by
        unfold Hid; rw [memB_skip HJ.out, List.drop_of_length_le (by omega)]; rfl
      go_wp2
      go_ret
      exact ⟨ret_bool (by rw [HX.out]), hbel⟩

end Go.Proofs.Ytaeklmnleampcaa
