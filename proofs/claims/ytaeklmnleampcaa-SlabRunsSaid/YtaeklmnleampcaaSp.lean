/- Walk of the reference's Turn. -/
import Derived.Test.YtaeklmnleampcaaSo
namespace Go.Proofs.Ytaeklmnleampcaa
open Go.RowKit

/-- Only at this operation. -/
theorem at_op {P : Program} {ops : Array Oper} {Q : Exit → Act → World → Prop} {rest : List Oper} {a : Act} {w : World} (o : Oper) (h : wpList P ops Q (o :: rest) a w) : wpList P ops Q (o :: rest) a w := h

set_option maxRecDepth 100000 in
set_option maxHeartbeats 8000000 in
theorem refturn_any (T : Nat) (st : Nat → Nat) (hgood : GoodT T st) (i : Int) (hi : inI64 i) (s v : Nat) (hs : 1 ≤ s ∧ s ≤ 3) (a c : Nat) (ha : a = s - 1) (hc : c = v - 1) (A : Array Value) (hA : A = arrOf 1025 (refF T st)) (w : World) :
    Calls Try.prog 64 #[.agg A, .int .i64 i, .int .u8 (a : Nat), .int .u8 (c : Nat)] w fun e w' => ∃ A', e = .returned (.tuple #[.agg A', .int .i64 (turnC st i s)]) ∧ A' = arrOf 1025 (refF T (turnN st i s v)) ∧ Below w.heap.size w w' := by
  unfold inI64 at hi
  obtain ⟨g, hg⟩ : ∃ g, g = w.heap.size := ⟨_, rfl⟩
  obtain ⟨w0, hw0⟩ : ∃ W, W = w.alloc (.cells A 67) := ⟨_, rfl⟩
  have hr0 : RowAt w0 g 67 1025 (refF T st) := by rw [hg, hw0, hA]; exact RowAt.alloc _ _ _ _
  have hb0 : Below w.heap.size w w0 := by rw [hw0]; exact (Below.refl _ _).alloc (Nat.le_refl _) _
  have hse : w0.heap.size = w.heap.size + 1 := by rw [hw0]; simp
  obtain ⟨w2, hw2⟩ : ∃ W, W = w0.alloc (.cells Try.zeroCells67 67) := ⟨_, rfl⟩
  have hr2 : RowAt w2 g 67 1025 (refF T st) := by rw [hw2]; exact RowAt.alloc_old hr0 _
  have hz2 : RowAt w2 (g + 1) 67 1025 (refF 0 (fun _ => 0)) := by rw [hw2, zero67, hg, ← hse]; exact RowAt.alloc _ _ _ _
  have hb2 : Below w.heap.size w w2 := by rw [hw2]; exact hb0.alloc hb0.size _
  have hw2' : w2 = (w.alloc (.cells A 67)).alloc (.cells Try.zeroCells67 67) := by rw [hw2, hw0]
  clear hw2 hr0 hb0 hse hw0
  have hgl : w.heap.size ≤ g := by omega
  have HG := Lib.hid hg; clear hg
  have HW2 := Lib.hid hw2'; clear hw2'
  have HA := Lib.hid hA; clear hA
  have HR2 := Lib.hid hr2; clear hr2
  have HZ2 := Lib.hid hz2; clear hz2
  have HAA := Lib.hid ha; clear ha
  have HCC := Lib.hid hc; clear hc
  have HRL : Hid (RowAt ((w.alloc (.cells A 67)).alloc (.cells Try.zeroCells67 67)) w.heap.size 67 1025 (refF T st)) := by unfold Hid; rw [← HW2.out, ← HG.out]; exact HR2.out
  have hT := hgood.1
  have cT := RowAt.cell HR2.out (i := 0) (by omega)
  rw [refF_zero, HW2.out, HG.out] at cT
  by_cases hin : 4 ≤ i ∧ i < (T : Int)
  case neg =>
    have hno : isB st i s = false := by
      refine decide_eq_false fun h => ?_
      have h4 := goodT_in hgood (j := i.toNat) (by omega) (by rw [h.2.2]; omega)
      omega
    obtain ⟨t1, t2⟩ := turn_no (v := v) hno
    rw [t1, t2]
    clear t1 t2 hno
    by_cases h4 : i < 4
    · clear cT hin
      go_enter Try.func64, Try.ntmps64
      go_wp2_with (
          ((with_reducible refine at_op ⟨some 26, .load 67 (.tmp 4), _, _, _, none⟩ ?_); refine wpList_load_arr (o := ⟨some 26, .load 67 (.tmp 4), _, _, _, none⟩) rfl 67 (.tmp 4) rfl w.heap.size rfl 1025 67 _ HRL.out _ Try.underlying67 rfl size67 ?_; rw [← HA.out, ← HW2.out, ← HG.out]);
          (refine wpList_store_row (o := ⟨none, .store 67 (.tmp 8) (.tmp 26), _, _, _, none⟩) rfl 67 (.tmp 8) (.tmp 26) rfl (g + 1) rfl 1025 (refF T st) A rfl HA.out 67 (refF 0 (fun _ => 0)) HZ2.out size67 (refF_one _ _) ?_; rw [← HA.out]))
      rw [HA.out]
      refine bodyPost_ret (ret_row_two (p := 8) (q := 9) (ty := 67) rfl rfl (RowAt.setRow HZ2.out (refF T st)) Try.underlying67 rfl size67) rfl ⟨_, rfl, rfl, Below.setRow hb2 (by omega) _⟩
    · have h4' : decide (i < 4) = false := decide_eq_false h4
      have hTi : (T : Int) ≤ i := by omega
      have hTi' : decide ((T : Int) ≤ i) = true := decide_eq_true hTi
      clear hin
      go_enter Try.func64, Try.ntmps64
      go_wp2_with (
          ((with_reducible refine at_op ⟨some 26, .load 67 (.tmp 4), _, _, _, none⟩ ?_); refine wpList_load_arr (o := ⟨some 26, .load 67 (.tmp 4), _, _, _, none⟩) rfl 67 (.tmp 4) rfl w.heap.size rfl 1025 67 _ HRL.out _ Try.underlying67 rfl size67 ?_; rw [← HA.out, ← HW2.out, ← HG.out]);
          (refine wpList_store_row (o := ⟨none, .store 67 (.tmp 8) (.tmp 26), _, _, _, none⟩) rfl 67 (.tmp 8) (.tmp 26) rfl (g + 1) rfl 1025 (refF T st) A rfl HA.out 67 (refF 0 (fun _ => 0)) HZ2.out size67 (refF_one _ _) ?_; rw [← HA.out]))
      rw [HA.out]
      refine bodyPost_ret (ret_row_two (p := 8) (q := 9) (ty := 67) rfl rfl (RowAt.setRow HZ2.out (refF T st)) Try.underlying67 rfl size67) rfl ⟨_, rfl, rfl, Below.setRow hb2 (by omega) _⟩
  case pos =>
    obtain ⟨q, rfl⟩ : ∃ q : Nat, i = (q : Int) := ⟨i.toNat, by omega⟩
    have h4' : decide ((q : Int) < 4) = false := decide_eq_false (by omega)
    have h4 : ¬ (q : Int) < 4 := by omega
    have hTi : ¬ (T : Int) ≤ (q : Int) := by omega
    have hTi' : decide ((T : Int) ≤ (q : Int)) = false := decide_eq_false hTi
    have hq : q < 1024 := by omega
    have hq1 : (q : Int) < 1024 := by omega
    have hq0 : (0 : Int) ≤ (q : Int) := by omega
    have hne0 : st q ≠ 0 := fun h => ((hgood.2.1 q hq).1 h) (by omega)
    have cq := RowAt.cell HR2.out (i := 1 + q) (by omega)
    rw [refF_at, HW2.out, HG.out] at cq
    obtain ⟨x, hx⟩ : ∃ x, st q - 1 = x := ⟨_, rfl⟩
    rw [hx] at cq
    by_cases heq : st q = s
    · obtain ⟨t1, t2⟩ := turn_yes (st := st) (v := v) hq heq
      rw [t1, t2]
      clear t1 t2
      have hxa : ((x : Int) == (a : Int)) = true := by rw [beq_iff_eq]; have := HAA.out; omega
      have hxa' : ((x : Int) != (a : Int)) = false := by rw [bne_eq_false_iff_eq]; have := HAA.out; omega
      have cf := RowAt.frozen HR2.out (1 + q)
      rw [HW2.out, HG.out] at cf
      obtain ⟨B, hB⟩ : ∃ B, B = arrOf 1025 (refF T (putN st q v)) := ⟨_, rfl⟩
      have hAB : A.setIfInBounds (1 + q) (.int .u8 (c : Int)) = B := by
        rw [hB, HA.out, arrOf_set, HCC.out]
        exact arrOf_congr fun j _ => refF_put T st j
      obtain ⟨w1, hw1⟩ : ∃ W, W = w.alloc (.cells B 67) := ⟨_, rfl⟩
      have hr1 : RowAt w1 g 67 1025 (refF T (putN st q v)) := by rw [HG.out, hw1, hB]; exact RowAt.alloc _ _ _ _
      have hb1 : Below w.heap.size w w1 := by rw [hw1]; exact (Below.refl _ _).alloc (Nat.le_refl _) _
      have hse1 : w1.heap.size = w.heap.size + 1 := by rw [hw1]; simp
      obtain ⟨w3, hw3⟩ : ∃ W, W = w1.alloc (.cells Try.zeroCells67 67) := ⟨_, rfl⟩
      have hr3 : RowAt w3 g 67 1025 (refF T (putN st q v)) := by rw [hw3]; exact RowAt.alloc_old hr1 _
      have hz3 : RowAt w3 (g + 1) 67 1025 (refF 0 (fun _ => 0)) := by rw [hw3, zero67, HG.out, ← hse1]; exact RowAt.alloc _ _ _ _
      have hb3 : Below w.heap.size w w3 := by rw [hw3]; exact hb1.alloc hb1.size _
      have hw3' : (w.alloc (.cells B 67)).alloc (.cells Try.zeroCells67 67) = w3 := by rw [hw3, hw1]
      clear hw3 hr1 hb1 hse1 hw1
      have HB := Lib.hid hB; clear hB
      have HAB := Lib.hid hAB; clear hAB
      have HR3 := Lib.hid hr3; clear hr3
      have HZ3 := Lib.hid hz3; clear hz3
      have HW3 := Lib.hid hw3'; clear hw3'
      clear hin hne0 hx heq
      go_enter Try.func64, Try.ntmps64
      go_wp2_with (
        ((with_reducible refine at_op ⟨some 31, .load 67 (.tmp 4), _, _, _, none⟩ ?_); rw [HAB.out, HW3.out, ← HG.out]; refine wpList_load_arr (o := ⟨some 31, .load 67 (.tmp 4), _, _, _, none⟩) rfl 67 (.tmp 4) rfl g rfl 1025 67 _ HR3.out _ Try.underlying67 rfl size67 ?_; rw [← HB.out]);
        (refine wpList_store_row (o := ⟨none, .store 67 (.tmp 8) (.tmp 31), _, _, _, none⟩) rfl 67 (.tmp 8) (.tmp 31) rfl (g + 1) rfl 1025 (refF T (putN st q v)) B rfl HB.out 67 (refF 0 (fun _ => 0)) HZ3.out size67 (refF_one _ _) ?_; rw [← HB.out]))
      rw [HB.out]
      refine bodyPost_ret (ret_row_two (p := 8) (q := 9) (ty := 67) rfl rfl (RowAt.setRow HZ3.out (refF T (putN st q v))) Try.underlying67 rfl size67) rfl ⟨_, rfl, rfl, Below.setRow hb3 (by omega) _⟩
    · have hno : isB st (q : Int) s = false := by rw [isB_nat st hq]; exact decide_eq_false heq
      obtain ⟨t1, t2⟩ := turn_no (v := v) hno
      rw [t1, t2]
      clear t1 t2 hno
      have hxa : ((x : Int) == (a : Int)) = false := by rw [beq_eq_false_iff_ne]; have := HAA.out; omega
      have hxa' : ((x : Int) != (a : Int)) = true := by rw [bne_iff_ne]; have := HAA.out; omega
      clear hin hne0 hx heq
      go_enter Try.func64, Try.ntmps64
      go_wp2_with (
          ((with_reducible refine at_op ⟨some 26, .load 67 (.tmp 4), _, _, _, none⟩ ?_); refine wpList_load_arr (o := ⟨some 26, .load 67 (.tmp 4), _, _, _, none⟩) rfl 67 (.tmp 4) rfl w.heap.size rfl 1025 67 _ HRL.out _ Try.underlying67 rfl size67 ?_; rw [← HA.out, ← HW2.out, ← HG.out]);
          (refine wpList_store_row (o := ⟨none, .store 67 (.tmp 8) (.tmp 26), _, _, _, none⟩) rfl 67 (.tmp 8) (.tmp 26) rfl (g + 1) rfl 1025 (refF T st) A rfl HA.out 67 (refF 0 (fun _ => 0)) HZ2.out size67 (refF_one _ _) ?_; rw [← HA.out]))
      rw [HA.out]
      refine bodyPost_ret (ret_row_two (p := 8) (q := 9) (ty := 67) rfl rfl (RowAt.setRow HZ2.out (refF T st)) Try.underlying67 rfl size67) rfl ⟨_, rfl, rfl, Below.setRow hb2 (by omega) _⟩

end Go.Proofs.Ytaeklmnleampcaa
