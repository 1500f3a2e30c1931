/- Walks of First, and of the reference's First and Has. -/
import Derived.Test.YtaeklmnleampcaaWh
namespace Go.Proofs.Ytaeklmnleampcaa
open Go.RowKit

def firstR (many : Int) (l : List (Int × Int)) : (Int × Int) × Bool := if rightB l = true then firstS many l else ((0, 0), false)

def spanV (x : Int × Int) : Value := .agg #[.int .i64 x.1, .int .i64 x.2]

theorem firstS_skip {many : Int} {l : List (Int × Int)} {k : Nat} (h : ∀ j (_hj : j < k) (hl : j < l.length), ¬ (1 ≤ many ∧ many ≤ l[j].2)) : firstS many l = firstS many (l.drop k) := by
  induction k generalizing l with
  | zero => rfl
  | succ k ih =>
    cases l with
    | nil => rfl
    | cons x r =>
      have h0 : ¬ (1 ≤ many ∧ many ≤ x.2) := h 0 (by omega) (by simp)
      rw [firstS, if_neg h0, List.drop_succ_cons]
      exact ih fun j hj hl => h (j + 1) (by omega) (by simpa using hl)

theorem firstS_hit {many : Int} {l : List (Int × Int)} {k : Nat} (hk : k < l.length) (h : ∀ j (_hj : j < k) (hl : j < l.length), ¬ (1 ≤ many ∧ many ≤ l[j].2)) (hx : 1 ≤ many ∧ many ≤ l[k].2) : firstS many l = ((l[k].1, many), true) := by
  rw [firstS_skip h, List.drop_eq_getElem_cons hk, firstS, if_pos hx]

set_option maxHeartbeats 2000000 in
theorem first_any (v : Value) (l : List (Int × Int)) (many : Int) (w : World) (hv : SpanSl w v l) :
    Calls Try.prog 45 #[v, .int .i64 many] w fun e w' => e = .returned (.tuple #[spanV (firstR many l).1, .bool (firstR many l).2]) ∧ Below w.heap.size w w' := by
  have HV := Lib.hid hv
  obtain ⟨ao, cap, rfl, hlen, hb, hc⟩ := hv
  have HC := Lib.hid hc; clear hc
  clear hb
  have hvW : ∀ W', Below w.heap.size w W' → SpanSl W' (.slice ao l.length cap) l := fun W' hb => HV.out.below hb
  have HVW := Lib.hid hvW; clear hvW
  obtain ⟨W0, hW0⟩ : ∃ W0, W0 = w.alloc (.cells #[.int .i64 0, .int .i64 0] 51) := ⟨_, rfl⟩
  have hs0 : W0.heap.size = w.heap.size + 1 := by rw [hW0]; simp
  have hB0 : Below w.heap.size w W0 := by rw [hW0]; exact (Below.refl _ _).alloc (Nat.le_refl _) _
  have hz0 : W0.cell? ⟨w.heap.size, 0, none⟩ = some (.int .i64 0) := by rw [hW0]; exact World.cell?_alloc_at _ _ _ _ rfl
  have hz1 : W0.cell? ⟨w.heap.size, 1, none⟩ = some (.int .i64 0) := by rw [hW0]; exact World.cell?_alloc_at _ _ _ _ rfl
  have hy0 : W0.frozen? ⟨w.heap.size, 0, none⟩ = false := by rw [hW0]; exact World.frozen?_alloc_at _ _ _ _ rfl
  have hy1 : W0.frozen? ⟨w.heap.size, 1, none⟩ = false := by rw [hW0]; exact World.frozen?_alloc_at _ _ _ _ rfl
  by_cases hm : many < 1
  · have HF : Hid (firstR many l = ((0, 0), false)) := by
      unfold Hid firstR
      rw [firstS_small hm]
      split <;> rfl
    clear hz0 hz1 hy0 hy1 hs0 hB0 hW0
    go_enter Try.func45, Try.ntmps45
    go_wp2
    refine bodyPost_ret (v := .tuple #[spanV (0, 0), .bool false]) (by simp [results, Try.results45, go_sem, spanV]) rfl ⟨by rw [HF.out], by go_grown⟩
  · by_cases hr : rightB l = true
    · have HR := Lib.hid hr
      have HF : Hid (firstR many l = firstS many l) := by unfold Hid firstR; rw [if_pos hr]
      clear hr
      go_enter Try.func45, Try.ntmps45
      go_wp2_with ((go_at_call 25; rw [← hW0]; refine (right_is true _ _ HR.out _ (HVW.out _ hB0)).mono ?_; rintro e w1 ⟨rfl, hb1⟩))
      have hb1s := hb1.size
      have hbW : Below (w.heap.size + 1) W0 w1 := hb1.mono (by omega)
      go_loopw [18] (fun i wr => ∃ k : Nat, k ≤ l.length ∧ i = .int .i64 k ∧ Hid (∀ j (hj : j < k) (hl : j < l.length), ¬ (1 ≤ many ∧ many ≤ l[j].2)) ∧ Below (w.heap.size + 1) W0 wr)
        (fun i _ => l.length - (intOf i).toNat)
      case atStart => exact ⟨0, Nat.zero_le _, rfl, fun j hj => absurd hj (Nat.not_lt_zero _), hbW⟩
      case round =>
        obtain ⟨k, hk, rfl, HJ, hbel⟩ := hrel
        have hbs0 := hbel.size
        have hbelw : Below w.heap.size w wr := hB0.trans (hbel.mono (by omega))
        have q0 := (hbel.cell (p := ⟨w.heap.size, 0, none⟩) (by show w.heap.size < w.heap.size + 1; omega)).trans hz0
        have q1 := (hbel.cell (p := ⟨w.heap.size, 1, none⟩) (by show w.heap.size < w.heap.size + 1; omega)).trans hz1
        have q2 := (hbel.frozen (p := ⟨w.heap.size, 0, none⟩) (by show w.heap.size < w.heap.size + 1; omega)).trans hy0
        have q3 := (hbel.frozen (p := ⟨w.heap.size, 1, none⟩) (by show w.heap.size < w.heap.size + 1; omega)).trans hy1
        have hwr : w.heap.size < wr.heap.size := by omega
        clear hz0 hz1 hy0 hy1
        by_cases hlt : k < l.length
        · obtain ⟨b, o, rfl, hbs, hcell⟩ := HC.out (by intro h; simp [h] at hlt)
          obtain ⟨h1, h2⟩ := span_cells hbs hcell hbelw hlt
          clear hcell
          by_cases hx : many ≤ l[k].2
          · have HX : Hid (firstR many l = ((l[k].1, many), true)) := by
              unfold Hid; rw [HF.out]; exact firstS_hit hlt HJ.out ⟨by omega, hx⟩
            go_wp2
            refine bodyPost_ret (v := .tuple #[spanV (l[k].1, many), .bool true]) (by simp [results, Try.results45, go_sem, spanV, q0, q1, hwr]) rfl ⟨by rw [HX.out], ?_⟩
            go_grown
          · have HN : Hid (∀ j (hj : j < k + 1) (hl : j < l.length), ¬ (1 ≤ many ∧ many ≤ l[j].2)) := by
              intro j hj hl
              by_cases hjk : j = k
              · subst hjk; omega
              · exact HJ.out j (by omega) hl
            go_wp2
            go_roundw
            case rel => exact ⟨k + 1, by omega, by go_num, HN, by go_grown⟩
            case measure => simp [intOf]; omega
        · have HX : Hid (firstR many l = ((0, 0), false)) := by
            unfold Hid; rw [HF.out, firstS_skip HJ.out, List.drop_of_length_le (by omega)]; rfl
          go_wp2
          refine bodyPost_ret (v := .tuple #[spanV (0, 0), .bool false]) (by simp [results, Try.results45, go_sem, spanV, q0, q1]) rfl ⟨by rw [HX.out], ?_⟩
          go_grown
    · have HR := Lib.hid (show rightB l = false by simpa using hr)
      have HF : Hid (firstR many l = ((0, 0), false)) := by unfold Hid firstR; rw [if_neg hr]
      clear hr
      go_enter Try.func45, Try.ntmps45
      go_wp2_with ((go_at_call 25; rw [← hW0]; refine (right_is false _ _ HR.out _ (HVW.out _ hB0)).mono ?_; rintro e w1 ⟨rfl, hb1⟩; have q0 := (hb1.cell (p := ⟨w.heap.size, 0, none⟩) (by show w.heap.size < W0.heap.size; omega)).trans hz0; have q1 := (hb1.cell (p := ⟨w.heap.size, 1, none⟩) (by show w.heap.size < W0.heap.size; omega)).trans hz1; have q2 := (hb1.frozen (p := ⟨w.heap.size, 0, none⟩) (by show w.heap.size < W0.heap.size; omega)).trans hy0; have q3 := (hb1.frozen (p := ⟨w.heap.size, 1, none⟩) (by show w.heap.size < W0.heap.size; omega)).trans hy1))
      have hbw1 : Below w.heap.size w w1 := hB0.trans (hb1.mono (by omega))
      refine bodyPost_ret (v := .tuple #[spanV (0, 0), .bool false]) (by simp [results, Try.results45, go_sem, spanV, q0, q1]) rfl ⟨by rw [HF.out], ?_⟩
      go_grown

end Go.Proofs.Ytaeklmnleampcaa
