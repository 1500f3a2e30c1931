/- Walk of the reference's Many. -/
import Derived.Test.YtaeklmnleampcaaSr
namespace Go.Proofs.Ytaeklmnleampcaa
open Go.RowKit

theorem owns_setRow {w : World} {base b m : Nat} {e t : TypeId} {size : Nat} {v : Value} {n : Nat} {xs : List Value} {f : Nat → Value} (he : e ≠ t) (h : w.ownsRow base e size v n xs) (hm : RowAt w b t m f) (cs : Array Value) : (w.setRow b cs).ownsRow base e size v n xs := by
  refine ⟨h.1, h.2.imp id fun ⟨g, cap, cur, h1, h2, hg, r⟩ => ⟨g, cap, cur, h1, h2, ?_, r⟩⟩
  have hne : g ≠ b := by
    rintro rfl
    unfold RowAt at hm
    rw [hg] at hm
    exact he (Obj.cells.inj (Option.some.inj hm)).2.1
  rw [Go.setRow_other w b g cs hne]
  exact hg

theorem owns_mono {w : World} {base base' : Nat} {e : TypeId} {size : Nat} {v : Value} {n : Nat} {xs : List Value} (h : w.ownsRow base e size v n xs) (hb : base' ≤ base) : w.ownsRow base' e size v n xs :=
  ⟨h.1, h.2.imp id fun ⟨g, cap, cur, h1, h2, r⟩ => ⟨g, cap, cur, h1, Nat.le_trans hb h2, r⟩⟩

set_option maxRecDepth 100000 in
set_option maxHeartbeats 16000000 in
theorem refmany_any (T : Nat) (st : Nat → Nat) (hgood : GoodT T st) (n : Int) (hn : inI64 n) (A : Array Value) (hA : A = arrOf 1025 (refF T st)) (w : World) :
    Calls Try.prog 63 #[.agg A, .int .i64 n] w fun e w' => ∃ A' v, e = .returned (.tuple #[.agg A', v, .int .i64 (codeM (manyO st n))]) ∧ A' = arrOf 1025 (refF T (manyS st n)) ∧ w'.ownsRow w.heap.size 3 1 v (manyL st n).length (natsV (manyL st n)) ∧ Below w.heap.size w w' := by
  obtain ⟨i0, hi, hz0, hz1', hz2'⟩ := info_parts Try.info3
  unfold inI64 at hn
  obtain ⟨g, hg⟩ : ∃ g, g = w.heap.size := ⟨_, rfl⟩
  obtain ⟨w0, hw0⟩ : ∃ W, W = w.alloc (.cells A 67) := ⟨_, rfl⟩
  have hr0 : RowAt w0 g 67 1025 (refF T st) := by rw [hg, hw0, hA]; exact RowAt.alloc _ _ _ _
  have hb0 : Below w.heap.size w w0 := by rw [hw0]; exact (Below.refl _ _).alloc (Nat.le_refl _) _
  have hse : w0.heap.size = w.heap.size + 1 := by rw [hw0]; simp
  obtain ⟨w2, hw2⟩ : ∃ W, W = w0.alloc (.cells Try.zeroCells67 67) := ⟨_, rfl⟩
  have hr2 : RowAt w2 g 67 1025 (refF T st) := by rw [hw2]; exact RowAt.alloc_old hr0 _
  have hz2 : RowAt w2 (g + 1) 67 1025 (refF 0 (fun _ => 0)) := by rw [hw2, zero67, hg, ← hse]; exact RowAt.alloc _ _ _ _
  have hb2 : Below w.heap.size w w2 := by rw [hw2]; exact hb0.alloc hb0.size _
  have hs2 : w2.heap.size = g + 2 := by rw [hw2, hg]; simp [hse]
  have hw2' : (w.alloc (.cells A 67)).alloc (.cells Try.zeroCells67 67) = w2 := by rw [hw2, hw0]
  clear hw2 hr0 hb0 hse hw0
  have hgl : w.heap.size ≤ g := by omega
  have HG := Lib.hid hg; clear hg
  have HW2 := Lib.hid hw2'; clear hw2'
  have HA := Lib.hid hA; clear hA
  have HR2 := Lib.hid hr2; clear hr2
  have HZ2 := Lib.hid hz2; clear hz2
  have hcl : countN st ≤ 1024 := by rw [countN_eq]; exact cntTo_le _ _ _
  have hown0 := World.ownsRow_nil w w.heap.size 3 1
  obtain ⟨C, hC⟩ : ∃ C, countN st = C := ⟨_, rfl⟩
  rw [hC] at hcl
  have HC := Lib.hid hC; clear hC
  by_cases hbig : ¬ n ≤ (C : Nat)
  · have h1 : manyO st n = none := if_neg (by rw [HC.out]; exact hbig)
    have h2 : manyL st n = [] := by unfold manyL; rw [h1]; rfl
    have h3 : manyS st n = st := by unfold manyS; rw [h1]; rfl
    rw [h1, h2, h3]
    have hc : codeM (none : Option (List Nat × (Nat → Nat))) = 71 := rfl
    rw [hc]
    clear h1 h2 h3 hc hown0
    have hbig' : ((C : Nat) : Int) < n := by omega
    go_enter Try.func63, Try.ntmps63
    go_wp2_with ((with_reducible refine at_op ⟨some 13, .load 67 (.tmp 2), _, _, _, none⟩ ?_); rw [HW2.out, ← HG.out]; refine wpList_load_arr (o := ⟨some 13, .load 67 (.tmp 2), _, _, _, none⟩) rfl 67 (.tmp 2) rfl g rfl 1025 67 _ HR2.out _ Try.underlying67 rfl size67 ?_; rw [← HA.out])
    refine (refcount_any T st hgood A HA.out _).mono ?_
    rw [HC.out]
    rintro e w1 ⟨rfl, hb1⟩
    have hr1 := RowAt.below HR2.out hb1
    have hz1 := RowAt.below HZ2.out hb1
    have hB1 := Below.step hb2 hb2.size hb1
    have HR1 := Lib.hid hr1; clear hr1
    have HZ1 := Lib.hid hz1; clear hz1 hb1 hb2 hs2
    go_wp2_with (
      ((with_reducible refine at_op ⟨some 16, .load 67 (.tmp 2), _, _, _, none⟩ ?_); refine wpList_load_arr (o := ⟨some 16, .load 67 (.tmp 2), _, _, _, none⟩) rfl 67 (.tmp 2) rfl g rfl 1025 67 _ HR1.out _ Try.underlying67 rfl size67 ?_; rw [← HA.out]);
      (refine wpList_store_row (o := ⟨none, .store 67 (.tmp 4) (.tmp 16), _, _, _, none⟩) rfl 67 (.tmp 4) (.tmp 16) rfl (g + 1) rfl 1025 (refF T st) A rfl HA.out 67 (refF 0 (fun _ => 0)) HZ1.out size67 (refF_one _ _) ?_; rw [← HA.out]))
    rw [HA.out]
    refine bodyPost_ret (ret_row_three (p := 4) (q := 5) (r := 6) (ty := 67) rfl rfl (RowAt.setRow HZ1.out (refF T st)) Try.underlying67 rfl size67) rfl ⟨_, _, rfl, rfl, World.ownsRow_nil _ w.heap.size 3 1, Below.setRow hB1 (by omega) _⟩
  have hsm : n ≤ (C : Nat) := by omega
  have h1 : manyO st n = some (manyN st n.toNat) := if_pos (by rw [HC.out]; exact hsm)
  have h2 : manyL st n = (manyN st n.toNat).1 := by unfold manyL; rw [h1]; rfl
  have h3 : manyS st n = (manyN st n.toNat).2 := by unfold manyS; rw [h1]; rfl
  rw [h1, h2, h3]
  have hc : codeM (some (manyN st n.toNat)) = 0 := rfl
  rw [hc]
  clear h1 h2 h3 hc hbig hown0
  obtain ⟨N, hN⟩ : ∃ N, n.toNat = N := ⟨_, rfl⟩
  rw [hN]
  have hNC : N ≤ C := by omega
  have hNn : ∀ k : Nat, k ≤ N → ((k : Int) < n ↔ k < N) := by intro k _; omega
  have HNN := Lib.hid hNn; clear hNn
  have hsm' : ¬ ((C : Nat) : Int) < n := by omega
  clear hN
  go_enter Try.func63, Try.ntmps63
  go_wp2_with ((with_reducible refine at_op ⟨some 13, .load 67 (.tmp 2), _, _, _, none⟩ ?_); rw [HW2.out, ← HG.out]; refine wpList_load_arr (o := ⟨some 13, .load 67 (.tmp 2), _, _, _, none⟩) rfl 67 (.tmp 2) rfl g rfl 1025 67 _ HR2.out _ Try.underlying67 rfl size67 ?_; rw [← HA.out])
  refine (refcount_any T st hgood A HA.out _).mono ?_
  rw [HC.out]
  rintro e w1 ⟨rfl, hb1⟩
  have hr1 := RowAt.below HR2.out hb1
  have hz1 := RowAt.below HZ2.out hb1
  have hB1 := Below.step hb2 hb2.size hb1
  have hs1 : g + 2 ≤ w1.heap.size := by have := hb1.size; omega
  clear hb1 hb2 hs2 HR2 HZ2
  have hown0 : (w1.alloc (.cells #[] 3)).ownsRow (g + 2) 3 1 (.slice (some ⟨w1.heap.size, 0, none⟩) 0 0) 0 (natsV (manyN st 0).1) := World.ownsRow_lit (e := 3) (size := 1) (base := g + 2) w1 #[] 0 hs1 (by simp) rfl
  have hB2 : Below w.heap.size w (w1.alloc (.cells #[] 3)) := hB1.alloc hB1.size _
  have HR2 : Hid (RowAt (w1.alloc (.cells #[] 3)) g 67 1025 (refF T (manyN st 0).2)) := RowAt.alloc_old hr1 _
  have HZ2 : Hid (RowAt (w1.alloc (.cells #[] 3)) (g + 1) 67 1025 (refF 0 (fun _ => 0))) := RowAt.alloc_old hz1 _
  clear hr1 hz1 hB1
  go_wp2_with fail
  go_loopw [7, 8, 9, 10, 11] (fun v i _ _ _ wr => ∃ (k c : Nat) (a : Option Addr), k ≤ N ∧ i = .int .i64 k ∧ v = .slice a k c ∧ wr.ownsRow (g + 2) 3 1 (.slice a k c) k (natsV (manyN st k).1) ∧ Hid (RowAt wr g 67 1025 (refF T (manyN st k).2)) ∧ Hid (RowAt wr (g + 1) 67 1025 (refF 0 (fun _ => 0))) ∧ Below w.heap.size w wr)
    (fun _ i _ _ _ _ => N - (intOf i).toNat)
  case atStart => exact ⟨0, 0, _, Nat.zero_le _, rfl, rfl, hown0, HR2, HZ2, hB2⟩
  case round =>
    clear hown0 hB2 HR2 HZ2
    obtain ⟨k, c, a, hk, rfl, rfl, hown, HRK, HZ, hbel⟩ := hrel
    have hsz := hbel.size
    obtain ⟨AK, hAK⟩ : ∃ B, B = arrOf 1025 (refF T (manyN st k).2) := ⟨_, rfl⟩
    have HAK := Lib.hid hAK; clear hAK
    by_cases hlt : k < N
    · have hlt' : (k : Int) < n := (HNN.out k hk).2 hlt
      obtain ⟨h1, h2⟩ := manyN_count st (k := k) (by have := HC.out; omega)
      obtain ⟨j, hj⟩ := allocN_pos (st := (manyN st k).2) (by have := HC.out; omega)
      have hstep := manyN_step st hj
      obtain ⟨e1, e2, e3⟩ := alloc_some hj
      have hj4 := (allocN_some hj).1
      have HST := Lib.hid hstep; clear hstep
      have HE1 := Lib.hid e1; clear e1
      have HE2 := Lib.hid e2; clear e2
      have HE3 := Lib.hid e3; clear e3
      clear h1 h2 hj
      go_wp2_with ((with_reducible refine at_op ⟨some 24, .load 67 (.tmp 2), _, _, _, none⟩ ?_); refine wpList_load_arr (o := ⟨some 24, .load 67 (.tmp 2), _, _, _, none⟩) rfl 67 (.tmp 2) rfl g rfl 1025 67 _ HRK.out _ Try.underlying67 rfl size67 ?_; rw [← HAK.out])
      refine (refalloc_any T _ (goodT_many hgood k) AK HAK.out _).mono ?_
      rw [HE1.out, HE2.out, HE3.out]
      rintro e w5 ⟨A5, rfl, hA5, hb5⟩
      have hown5 := owns_below hown hb5
      have hm5 := RowAt.below HRK.out hb5
      have hz5 := RowAt.below HZ.out hb5
      have hB5 := Below.step hbel hbel.size hb5
      have hs5 : g + 1 < w5.heap.size := hz5.lt
      have hs6 : (w5.alloc (.cells Try.zeroCells67 67)).heap.size = w5.heap.size + 1 := by simp
      have hr6 : RowAt (w5.alloc (.cells Try.zeroCells67 67)) w5.heap.size 67 1025 (refF 0 (fun _ => 0)) := by rw [zero67]; exact RowAt.alloc _ _ _ _
      have hm6 : RowAt (w5.alloc (.cells Try.zeroCells67 67)) g 67 1025 _ := RowAt.alloc_old hm5 _
      have hz6 : RowAt (w5.alloc (.cells Try.zeroCells67 67)) (g + 1) 67 1025 (refF 0 (fun _ => 0)) := RowAt.alloc_old hz5 _
      have hb6 : Below w.heap.size w (w5.alloc (.cells Try.zeroCells67 67)) := hB5.alloc hB5.size _
      have hown6 := hown5.alloc (.cells Try.zeroCells67 67)
      have hr7 : RowAt ((w5.alloc (.cells Try.zeroCells67 67)).setRow w5.heap.size A5) w5.heap.size 67 1025 (refF T (putN (manyN st k).2 j 2)) := by rw [hA5]; exact RowAt.setRow hr6 _
      have hm7 := RowAt.setRow_other hm6 (g := w5.heap.size) (by omega) A5
      have hz7 := RowAt.setRow_other hz6 (g := w5.heap.size) (by omega) A5
      have hb7 := Below.setRow hb6 (g := w5.heap.size) (by omega) A5
      have hown7 := owns_setRow (by decide) hown6 hr6 A5
      obtain ⟨w7, hw7⟩ : ∃ W, (w5.alloc (.cells Try.zeroCells67 67)).setRow w5.heap.size A5 = W := ⟨_, rfl⟩
      rw [hw7] at hr7 hm7 hz7 hb7 hown7
      have hr8 : RowAt (w7.setRow g A5) g 67 1025 (refF T (putN (manyN st k).2 j 2)) := by rw [hA5]; exact RowAt.setRow hm7 _
      have hz8 := RowAt.setRow_other hz7 (g := g) (by omega) A5
      have hb8 := Below.setRow hb7 (g := g) (by omega) A5
      have hown8 := owns_setRow (by decide) hown7 hm7 A5
      obtain ⟨w8, hw8⟩ : ∃ W, w7.setRow g A5 = W := ⟨_, rfl⟩
      rw [hw8] at hr8 hz8 hb8 hown8
      have hs8 : g + 2 ≤ w8.heap.size := by have := hz8.lt; rw [← hw8, setRow_size, ← hw7, setRow_size]; omega
      have HA5 := Lib.hid hA5; clear hA5
      have HR6 := Lib.hid hr6; clear hr6
      have HW7 := Lib.hid hw7; clear hw7
      have HW8 := Lib.hid hw8; clear hw8
      have HR7 := Lib.hid hr7; clear hr7
      have HM7 := Lib.hid hm7; clear hm7
      have HR8 := Lib.hid hr8; clear hr8
      have HZ8 := Lib.hid hz8; clear hz8
      clear hm5 hz5 hm6 hz6 hb6 hb5 hB5 hz7 hb7 hown hown5 hown6 hown7 hs6
      have HLT := Lib.hid hown8.lt
      have hsz8 := hb8.size
      go_wp2_with (first
        | ((with_reducible refine at_op ⟨none, .store 67 (.tmp 9) (.tmp 26), _, _, _, none⟩ ?_); refine wpList_store_row (o := ⟨none, .store 67 (.tmp 9) (.tmp 26), _, _, _, none⟩) rfl 67 (.tmp 9) (.tmp 26) rfl w5.heap.size rfl 1025 (refF T (putN (manyN st k).2 j 2)) A5 rfl HA5.out 67 (refF 0 (fun _ => 0)) HR6.out size67 (refF_one _ _) ?_; rw [← HA5.out, HW7.out])
        | ((with_reducible refine at_op ⟨some 29, .load 67 (.tmp 9), _, _, _, none⟩ ?_); refine wpList_load_arr (o := ⟨some 29, .load 67 (.tmp 9), _, _, _, none⟩) rfl 67 (.tmp 9) rfl w5.heap.size rfl 1025 67 _ HR7.out _ Try.underlying67 rfl size67 ?_; rw [← HA5.out])
        | ((with_reducible refine at_op ⟨none, .store 67 (.tmp 2) (.tmp 29), _, _, _, none⟩ ?_); refine wpList_store_row (o := ⟨none, .store 67 (.tmp 2) (.tmp 29), _, _, _, none⟩) rfl 67 (.tmp 2) (.tmp 29) rfl g rfl 1025 (refF T (putN (manyN st k).2 j 2)) A5 rfl HA5.out 67 _ HM7.out size67 (refF_one _ _) ?_; rw [← HA5.out, HW8.out])
        | (at_builtin; refine wpList_append_own _ rfl (.tmp 30) (.tmp 32) 23 rfl (g + 2) 3 i0 (.int .i64 0) 1 8 Try.underlying23 hi hz0 hz1' hz2' rfl (by decide) _ _ _ rfl (hown8.alloc _) ⟨w8.heap.size, 0, none⟩ 1 1 [.int .i64 j] rfl rfl (cell_one_new _ _ _) (by simp [Value.oneCell']) (by unfold maxLen; omega) (by omega) (by simp; omega) ?_; intro v' w9 hown9 hgrow9 _))
      have hb9 := (hb8.alloc (by omega) (.cells #[.int .i64 j] 3)).grown hgrow9 (by simp; omega) (fun k h => by have := (HLT.out k h).1; omega)
      have hr9 := RowAt.grown (RowAt.alloc_old HR8.out (.cells #[.int .i64 j] 3)) hgrow9 (by
        intro h
        have := (HLT.out g h).1
        omega)
      have hz9 := RowAt.grown (RowAt.alloc_old HZ8.out (.cells #[.int .i64 j] 3)) hgrow9 (by
        intro h
        have := (HLT.out (g + 1) h).1
        omega)
      have HR9 := Lib.hid hr9; clear hr9
      have HZ9 := Lib.hid hz9; clear hz9 hgrow9
      obtain ⟨a', c', rfl⟩ : ∃ a c, v' = .slice a (k + 1) c := by
        rcases owns_shape hown9 with ⟨_, h0⟩ | ⟨g', cap, h, _⟩
        · omega
        · exact ⟨_, _, h⟩
      go_roundw
      case rel =>
        refine ⟨k + 1, c', a', by omega, by go_num, rfl, ?_, ?_, HZ9, hb9⟩
        · rw [HST.out]
          show w9.ownsRow (g + 2) 3 1 _ _ (natsV ((manyN st k).1 ++ [j]))
          unfold natsV
          rw [List.map_append]
          exact hown9
        · rw [HST.out]
          exact HR9
      case measure => simp [intOf]; omega
    · obtain rfl : k = N := by omega
      have hlt' : ¬ (k : Int) < n := fun h => hlt ((HNN.out k hk).1 h)
      have hkl : Hid ((manyN st k).1.length = k) := (manyN_count st (k := k) (by have := HC.out; omega)).2
      have hownE := owns_setRow (by decide) hown HZ.out (arrOf 1025 (refF T (manyN st k).2))
      have HOWN := Lib.hid (owns_mono hownE (base' := w.heap.size) (by omega)); clear hown hownE
      go_wp2_with (first
        | ((with_reducible refine at_op ⟨some 34, .load 67 (.tmp 2), _, _, _, none⟩ ?_); refine wpList_load_arr (o := ⟨some 34, .load 67 (.tmp 2), _, _, _, none⟩) rfl 67 (.tmp 2) rfl g rfl 1025 67 _ HRK.out _ Try.underlying67 rfl size67 ?_; rw [← HAK.out])
        | ((with_reducible refine at_op ⟨none, .store 67 (.tmp 4) (.tmp 34), _, _, _, none⟩ ?_); refine wpList_store_row (o := ⟨none, .store 67 (.tmp 4) (.tmp 34), _, _, _, none⟩) rfl 67 (.tmp 4) (.tmp 34) rfl (g + 1) rfl 1025 (refF T (manyN st k).2) AK rfl HAK.out 67 (refF 0 (fun _ => 0)) HZ.out size67 (refF_one _ _) ?_; rw [← HAK.out]))
      rw [HAK.out]
      refine bodyPost_ret (ret_row_three (p := 4) (q := 5) (r := 6) (ty := 67) rfl rfl (RowAt.setRow HZ.out (refF T (manyN st k).2)) Try.underlying67 rfl size67) rfl ⟨_, _, rfl, rfl, by rw [hkl.out]; exact HOWN.out, Below.setRow hbel (by omega) _⟩

end Go.Proofs.Ytaeklmnleampcaa
