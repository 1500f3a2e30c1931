/- Walks of the reference's New, Commit and Set. -/
import Derived.Test.YtaeklmnleampcaaSp
namespace Go.Proofs.Ytaeklmnleampcaa
open Go.RowKit

/-- A number of sectors that can be. -/
def clampN (t : Int) : Nat := if t < 0 then 0 else if 1024 < t then 1024 else t.toNat

theorem clampN_le (t : Int) : clampN t ≤ 1024 := by
  unfold clampN
  split
  · omega
  · split <;> omega

theorem newN_clamp (t : Int) : newN t = newN (clampN t : Nat) := by
  funext i
  unfold newN clampN
  by_cases h : t < 0
  · rw [if_pos h, if_neg (by omega), if_neg (by omega)]
  · rw [if_neg h]
    by_cases h2 : 1024 < t
    · rw [if_pos h2]
      by_cases h3 : 4 ≤ i ∧ i < 1024
      · rw [if_pos (by omega), if_pos (by omega)]
      · rw [if_neg (by omega), if_neg (by omega)]
    · rw [if_neg h2]
      by_cases h3 : 4 ≤ i ∧ (i : Int) < t ∧ i < 1024
      · rw [if_pos h3, if_pos (by omega)]
      · rw [if_neg h3, if_neg (by omega)]

theorem size_z67 : Try.zeroCells67.size = 1025 := by rw [zero67]; exact arrOf_size _ _

theorem set_z67 (n : Nat) (v : Int) (hv : v = (n : Int)) : Try.zeroCells67.setIfInBounds 0 (.int .i64 v) = arrOf 1025 (refF n (fun _ => 0)) := by
  rw [zero67, arrOf_set, hv]
  exact arrOf_congr fun j _ => by unfold refF; by_cases h : j = 0 <;> simp [h]

theorem refF_new (n : Nat) (T : Int) : arrOf 1025 (refF n (fun _ => 0)) = arrOf 1025 (refF n (newN T)) :=
  arrOf_congr (refF_congr fun j _ => by have := newN_01 T j; omega)

theorem ret_row_one {P : Program} {fn : Func} {p : Tmp} {ty : TypeId} {tmps : Array Value} {w : World} {g : Nat} {t : TypeId} {n : Nat} {f : Nat → Value} {d : TypeDesc} (h : fn.results = #[.cell p ty]) (hp : tmps.getD p undef = .pointer (some ⟨g, 0, none⟩))
    (hg : RowAt w g t n f) (hu : P.underlying ty = some d) (hd : (match d with | .struct _ | .array _ _ => true | _ => false) = true) (hi : (P.info? ty).map (·.size) = some n) :
    (results fn tmps).run P w = .ok (.agg (arrOf n f)) w := by
  have hp' : tmps[p]?.getD undef = .pointer (some ⟨g, 0, none⟩) := by simpa using hp
  simp [results, h, hp', asAddr, run_loadVar_row w g t ty (arrOf n f) (0, 0) d hg hu hd (by rw [arrOf_size]; exact hi)]

set_option maxRecDepth 100000 in
set_option maxHeartbeats 8000000 in
theorem refnew_any (t : Int) (w : World) :
    Calls Try.prog 61 #[.int .i64 t] w fun e w' => ∃ A', e = .returned (.agg A') ∧ A' = arrOf 1025 (refF (clampN t) (newN t)) ∧ Below w.heap.size w w' := by
  obtain ⟨w0, hw0⟩ : ∃ W, W = w.alloc (.cells Try.zeroCells67 67) := ⟨_, rfl⟩
  obtain ⟨g, hg⟩ : ∃ g, g = w.heap.size := ⟨_, rfl⟩
  have hr0 : RowAt w0 g 67 1025 (refF 0 (fun _ => 0)) := by rw [hg, hw0, zero67]; exact RowAt.alloc _ _ _ _
  have hb0 : Below w.heap.size w w0 := by rw [hw0]; exact (Below.refl _ _).alloc (Nat.le_refl _) _
  have hgl : w.heap.size ≤ g := by omega
  have HG := Lib.hid hg; clear hg
  have HW0 := Lib.hid hw0; clear hw0
  have HR0 := Lib.hid hr0; clear hr0
  have HRL : Hid (RowAt (w.alloc (.cells Try.zeroCells67 67)) w.heap.size 67 1025 (refF 0 (fun _ => 0))) := by unfold Hid; rw [← HW0.out, ← HG.out]; exact HR0.out
  obtain ⟨n, hn⟩ : ∃ n, clampN t = n := ⟨_, rfl⟩
  have hres := refF_new n t
  rw [hn, ← hres]
  clear hres
  by_cases h0 : t < 0
  · have HN : Hid ((0 : Int) = (n : Int)) := by unfold Hid; unfold clampN at hn; rw [if_pos h0] at hn; omega
    clear hn
    go_enter Try.func61, Try.ntmps61
    go_wp2_with (refine wpList_store_row (o := ⟨none, .store 67 (.tmp 2) (.tmp 10), _, _, _, none⟩) rfl 67 (.tmp 2) (.tmp 10) rfl w.heap.size rfl 1025 (refF n (fun _ => 0)) _ rfl (set_z67 n _ HN.out) 67 (refF 0 (fun _ => 0)) HRL.out size67 (refF_one _ _) ?_; rw [← HW0.out, ← HG.out])
    refine bodyPost_ret (ret_row_one (p := 2) (ty := 67) rfl rfl (RowAt.setRow HR0.out (refF n (fun _ => 0))) Try.underlying67 rfl size67) rfl ⟨_, rfl, rfl, Below.setRow hb0 hgl _⟩
  by_cases h1 : 1024 < t
  · have HN : Hid ((1024 : Int) = (n : Int)) := by unfold Hid; unfold clampN at hn; rw [if_neg h0, if_pos h1] at hn; omega
    clear hn
    go_enter Try.func61, Try.ntmps61
    go_wp2_with (refine wpList_store_row (o := ⟨none, .store 67 (.tmp 2) (.tmp 10), _, _, _, none⟩) rfl 67 (.tmp 2) (.tmp 10) rfl w.heap.size rfl 1025 (refF n (fun _ => 0)) _ rfl (set_z67 n _ HN.out) 67 (refF 0 (fun _ => 0)) HRL.out size67 (refF_one _ _) ?_; rw [← HW0.out, ← HG.out])
    refine bodyPost_ret (ret_row_one (p := 2) (ty := 67) rfl rfl (RowAt.setRow HR0.out (refF n (fun _ => 0))) Try.underlying67 rfl size67) rfl ⟨_, rfl, rfl, Below.setRow hb0 hgl _⟩
  have HN : Hid (t = (n : Int)) := by unfold Hid; unfold clampN at hn; rw [if_neg h0, if_neg h1] at hn; omega
  clear hn
  go_enter Try.func61, Try.ntmps61
  go_wp2_with (refine wpList_store_row (o := ⟨none, .store 67 (.tmp 2) (.tmp 10), _, _, _, none⟩) rfl 67 (.tmp 2) (.tmp 10) rfl w.heap.size rfl 1025 (refF n (fun _ => 0)) _ rfl (set_z67 n _ HN.out) 67 (refF 0 (fun _ => 0)) HRL.out size67 (refF_one _ _) ?_; rw [← HW0.out, ← HG.out])
  refine bodyPost_ret (ret_row_one (p := 2) (ty := 67) rfl rfl (RowAt.setRow HR0.out (refF n (fun _ => 0))) Try.underlying67 rfl size67) rfl ⟨_, rfl, rfl, Below.setRow hb0 hgl _⟩

theorem arr_commit (T : Nat) (st : Nat → Nat) : arrOf 1025 (refF T (commitTo st 1024)) = arrOf 1025 (refF T (commitN st)) :=
  arrOf_congr (refF_congr fun j hj => by
    unfold commitTo commitN
    by_cases h3 : st j = 3
    · rw [if_pos ⟨hj, h3⟩, if_pos h3]
    · rw [if_neg (fun h4 => h3 h4.2), if_neg h3])

set_option maxRecDepth 100000 in
set_option maxHeartbeats 8000000 in
theorem refcommit_any (T : Nat) (st : Nat → Nat) (hgood : GoodT T st) (A : Array Value) (hA : A = arrOf 1025 (refF T st)) (w : World) :
    Calls Try.prog 65 #[.agg A] w fun e w' => ∃ A', e = .returned (.agg A') ∧ A' = arrOf 1025 (refF T (commitN st)) ∧ Below w.heap.size w w' := by
  obtain ⟨g, hg⟩ : ∃ g, g = w.heap.size := ⟨_, rfl⟩
  obtain ⟨w0, hw0⟩ : ∃ W, W = w.alloc (.cells A 67) := ⟨_, rfl⟩
  have hr0 : RowAt w0 g 67 1025 (refF T st) := by rw [hg, hw0, hA]; exact RowAt.alloc _ _ _ _
  have hb0 : Below w.heap.size w w0 := by rw [hw0]; exact (Below.refl _ _).alloc (Nat.le_refl _) _
  have hse : w0.heap.size = w.heap.size + 1 := by rw [hw0]; simp
  obtain ⟨w2, hw2⟩ : ∃ W, W = w0.alloc (.cells Try.zeroCells67 67) := ⟨_, rfl⟩
  have hr2 : RowAt w2 g 67 1025 (refF T st) := by rw [hw2]; exact RowAt.alloc_old hr0 _
  have hz2 : RowAt w2 (g + 1) 67 1025 (refF 0 (fun _ => 0)) := by rw [hw2, zero67, hg, ← hse]; exact RowAt.alloc _ _ _ _
  have hb2 : Below w.heap.size w w2 := by rw [hw2]; exact hb0.alloc hb0.size _
  have hs2 : w2.heap.size = g + 2 := by rw [hw2, hg]; simp [hse]
  have hw2' : (w.alloc (.cells A 67)).alloc (.cells Try.zeroCells67 67) = w2 := by rw [hw2, hw0]
  clear hw2 hr0 hb0 hse hw0
  have hgl : w.heap.size ≤ g := by omega
  have HG := Lib.hid hg; clear hg
  have HW2 := Lib.hid hw2'; clear hw2'
  have HA := Lib.hid hA; clear hA
  have HR2 := Lib.hid hr2; clear hr2
  have HZ2 := Lib.hid hz2; clear hz2
  have HR0 : Hid (RowAt w2 g 67 1025 (refF T (commitTo st 0))) := by unfold Hid; rw [commitTo_zero]; exact HR2.out
  clear HR2
  go_enter Try.func65, Try.ntmps65
  go_wp2_with fail
  rw [HW2.out, ← HG.out]
  go_loopw [3] (fun i wr => ∃ k : Nat, k ≤ 1024 ∧ i = .int .i64 k ∧ Hid (RowAt wr g 67 1025 (refF T (commitTo st k))) ∧ Hid (RowAt wr (g + 1) 67 1025 (refF 0 (fun _ => 0))) ∧ Below w.heap.size w wr)
    (fun i _ => 1024 - (intOf i).toNat)
  case atStart => exact ⟨0, by omega, rfl, HR0, HZ2, hb2⟩
  case round =>
    clear HR0 HZ2 hb2
    obtain ⟨k, hk, rfl, HR, HZ, hbel⟩ := hrel
    by_cases hlt : k < 1024
    · have hi1 : (k : Int) < 1024 := by omega
      have hi0 : (0 : Int) ≤ (k : Int) := by omega
      have c1 := RowAt.cell HR.out (i := 1 + k) (by omega)
      rw [refF_at, commitTo_at] at c1
      have h3 := hgood.2.2 k
      obtain ⟨x, hx⟩ : ∃ x, st k - 1 = x := ⟨_, rfl⟩
      rw [hx] at c1
      by_cases hs : st k = 3
      · have hx2 : ((x : Int) == 2) = true := by rw [beq_iff_eq]; omega
        have cf := RowAt.frozen HR.out (1 + k)
        have hr3 : RowAt (wr.setCell ⟨g, 1 + k, none⟩ (.int .u8 0)) g 67 1025 (refF T (commitTo st (k + 1))) := by
          rw [← commitTo_yes hs]
          exact (RowAt.set HR.out (1 + k) _).congr fun j _ => refF_put T _ (v := 1) j
        have hz3 := RowAt.set_other HZ.out ⟨g, 1 + k, none⟩ (by show g + 1 ≠ g; omega) (.int .u8 0)
        have hb3 := hbel.setCell (p := ⟨g, 1 + k, none⟩) (by show w.heap.size ≤ g; omega) (.int .u8 0)
        have HR3 := Lib.hid hr3; clear hr3
        have HZ3 := Lib.hid hz3; clear hz3
        have HB3 := Lib.hid hb3; clear hb3
        clear hx hs h3
        go_wp2
        go_roundw
        case rel => exact ⟨k + 1, by omega, by go_num, HR3.out, HZ3.out, HB3.out⟩
        case measure => simp [intOf]; omega
      · have hx2 : ((x : Int) == 2) = false := by rw [beq_eq_false_iff_ne]; omega
        have hr3 := HR.out
        rw [commitTo_no hs] at hr3
        have HR3 := Lib.hid hr3; clear hr3
        clear hx hs h3
        go_wp2
        go_roundw
        case rel => exact ⟨k + 1, by omega, by go_num, HR3.out, HZ, hbel⟩
        case measure => simp [intOf]; omega
    · obtain rfl : k = 1024 := by omega
      have hge : ¬ ((1024 : Nat) : Int) < 1024 := by omega
      obtain ⟨B, hB⟩ : ∃ B, B = arrOf 1025 (refF T (commitTo st 1024)) := ⟨_, rfl⟩
      have HB := Lib.hid hB; clear hB
      go_wp2_with (
        ((with_reducible refine at_op ⟨some 16, .load 67 (.tmp 1), _, _, _, none⟩ ?_); refine wpList_load_arr (o := ⟨some 16, .load 67 (.tmp 1), _, _, _, none⟩) rfl 67 (.tmp 1) rfl g rfl 1025 67 _ HR.out _ Try.underlying67 rfl size67 ?_; rw [← HB.out]);
        (refine wpList_store_row (o := ⟨none, .store 67 (.tmp 2) (.tmp 16), _, _, _, none⟩) rfl 67 (.tmp 2) (.tmp 16) rfl (g + 1) rfl 1025 (refF T (commitTo st 1024)) B rfl HB.out 67 (refF 0 (fun _ => 0)) HZ.out size67 (refF_one _ _) ?_; rw [← HB.out]))
      rw [HB.out]
      refine bodyPost_ret (ret_row_one (p := 2) (ty := 67) rfl rfl (RowAt.setRow HZ.out (refF T (commitTo st 1024))) Try.underlying67 rfl size67) rfl ⟨_, rfl, arr_commit T st, Below.setRow hbel (by omega) _⟩

theorem spans_kind {T : Nat} {st : Nat → Nat} (h : GoodT T st) {s k : Nat} (hs : s ≠ 0) (hk : T ≤ k) : spansOf (fun n => decide (4 ≤ n ∧ n < k ∧ st n = s ∧ n < 1024)) = setN st s := by
  unfold setN
  refine spansOf_congr fun n _ => ?_
  rw [Bool.eq_iff_iff, decide_eq_true_eq, decide_eq_true_eq]
  constructor
  · rintro ⟨_, _, h3, h4⟩; exact ⟨h4, h3⟩
  · rintro ⟨h1, h2⟩
    have := goodT_in h h1 (by rw [h2]; exact hs)
    exact ⟨this.1, by omega, h2, h1⟩

set_option maxRecDepth 100000 in
set_option maxHeartbeats 8000000 in
theorem refset67_any (T : Nat) (st : Nat → Nat) (hgood : GoodT T st) (s : Nat) (hs : 2 ≤ s) (c : Int) (hc : c = ((s - 1 : Nat) : Int)) (A : Array Value) (hA : A = arrOf 1025 (refF T st)) (w : World) :
    Calls Try.prog 68 #[.agg A, .int .u8 c] w fun e w' => ∃ r, e = .returned r ∧ OwnSp w' w.heap.size r (setN st s) ∧ Below w.heap.size w w' := by
  obtain ⟨g, hg⟩ : ∃ g, g = w.heap.size := ⟨_, rfl⟩
  obtain ⟨w0, hw0⟩ : ∃ W, W = w.alloc (.cells A 67) := ⟨_, rfl⟩
  have hr0 : RowAt w0 g 67 1025 (refF T st) := by rw [hg, hw0, hA]; exact RowAt.alloc _ _ _ _
  have hb0 : Below w.heap.size w w0 := by rw [hw0]; exact (Below.refl _ _).alloc (Nat.le_refl _) _
  have hse : w0.heap.size = w.heap.size + 1 := by rw [hw0]; simp
  obtain ⟨w2, hw2⟩ : ∃ W, W = w0.alloc (.cells Try.zeroCells60 60) := ⟨_, rfl⟩
  have hr2 : RowAt w2 g 67 1025 (refF T st) := by rw [hw2]; exact RowAt.alloc_old hr0 _
  have hz2 : RowAt w2 (g + 1) 60 4096 (boolsF fun _ => false) := by rw [hw2, zero60, hg, ← hse]; exact RowAt.alloc _ _ _ _
  have hb2 : Below w.heap.size w w2 := by rw [hw2]; exact hb0.alloc hb0.size _
  have hs2 : w2.heap.size = g + 2 := by rw [hw2, hg]; simp [hse]
  have hw2' : (w.alloc (.cells A 67)).alloc (.cells Try.zeroCells60 60) = w2 := by rw [hw2, hw0]
  clear hw2 hr0 hb0 hse hw0
  have hgl : w.heap.size ≤ g := by omega
  have HG := Lib.hid hg; clear hg
  have HW2 := Lib.hid hw2'; clear hw2'
  have HA := Lib.hid hA; clear hA
  have HR2 := Lib.hid hr2; clear hr2
  have HZ2 := Lib.hid hz2; clear hz2
  have HRL : Hid (RowAt ((w.alloc (.cells A 67)).alloc (.cells Try.zeroCells60 60)) (w.heap.size + 1) 60 4096 (boolsF fun _ => false)) := by unfold Hid; rw [HW2.out, ← HG.out]; exact HZ2.out
  have HC := Lib.hid hc; clear hc
  have hr3 : RowAt (w2.setRow (g + 1) (arrOf 4096 (boolsF fun _ => false))) g 67 1025 (refF T st) := RowAt.setRow_other HR2.out (by omega) _
  have hz3 : RowAt (w2.setRow (g + 1) (arrOf 4096 (boolsF fun _ => false))) (g + 1) 60 4096 (boolsF fun n => decide (4 ≤ n ∧ n < 4 ∧ st n = s ∧ n < 1024)) := by
    refine RowAt.congr (RowAt.setRow HZ2.out (boolsF fun _ => false)) fun j _ => ?_
    simp only [boolsF]
    rw [decide_eq_false (by omega)]
  have hb3 : Below w.heap.size w (w2.setRow (g + 1) (arrOf 4096 (boolsF fun _ => false))) := Below.setRow hb2 (by omega) _
  obtain ⟨w3, hw3⟩ : ∃ W, w2.setRow (g + 1) (arrOf 4096 (boolsF fun _ => false)) = W := ⟨_, rfl⟩
  rw [hw3] at hr3 hz3 hb3
  have HW3 := Lib.hid hw3; clear hw3
  have HR3 := Lib.hid hr3; clear hr3
  have HZ3 := Lib.hid hz3; clear hz3
  clear HR2 HZ2 hb2 hs2
  have hT := hgood.1
  go_enter Try.func68, Try.ntmps68
  go_wp2_with ((with_reducible refine at_op ⟨none, .store 60 (.tmp 5) (.tmp 7), _, _, _, none⟩ ?_); refine wpList_store_row (o := ⟨none, .store 60 (.tmp 5) (.tmp 7), _, _, _, none⟩) rfl 60 (.tmp 5) (.tmp 7) rfl (w.heap.size + 1) rfl 4096 (boolsF fun _ => false) Try.zeroCells60 rfl zero60 60 (boolsF fun _ => false) HRL.out size60 (boolsF_one _) ?_; rw [HW2.out, ← HG.out, HW3.out])
  go_loopw [6] (fun i wr => ∃ k : Nat, 4 ≤ k ∧ k ≤ 1024 ∧ i = .int .i64 k ∧ Hid (RowAt wr g 67 1025 (refF T st)) ∧ Hid (RowAt wr (g + 1) 60 4096 (boolsF fun n => decide (4 ≤ n ∧ n < k ∧ st n = s ∧ n < 1024))) ∧ Below w.heap.size w wr)
    (fun i _ => 1024 - (intOf i).toNat)
  case atStart => exact ⟨4, by omega, by omega, rfl, HR3, HZ3, hb3⟩
  case round =>
    clear HR3 HZ3 hb3
    obtain ⟨k, hk4, hk, rfl, HR, HZ, hbel⟩ := hrel
    have cT := RowAt.cell HR.out (i := 0) (by omega)
    rw [refF_zero] at cT
    by_cases hlt : k < T
    · have hi1 : (k : Int) < (T : Int) := by omega
      have hi0 : (0 : Int) ≤ (k : Int) := by omega
      have hi2 : (k : Int) < 1024 := by omega
      have hi3 : (k : Int) < 4096 := by omega
      have c1 := RowAt.cell HR.out (i := 1 + k) (by omega)
      rw [refF_at] at c1
      have hne : st k ≠ 0 := fun h => ((hgood.2.1 k (by omega)).1 h) (by omega)
      have cf := RowAt.frozen HZ.out k
      have cz := RowAt.cell HZ.out (i := k) (by omega)
      simp only [boolsF] at cz
      rw [decide_eq_false (by omega)] at cz
      obtain ⟨b, hb⟩ : ∃ b, decide (st k = s) = b := ⟨_, rfl⟩
      have hxc : ((((st k - 1 : Nat) : Int)) == c) = b := by
        rw [← hb, HC.out, Bool.eq_iff_iff, beq_iff_eq, decide_eq_true_eq]; omega
      have hz3 : RowAt (wr.setCell ⟨g + 1, k, none⟩ (.bool b)) (g + 1) 60 4096 (boolsF fun n => decide (4 ≤ n ∧ n < k + 1 ∧ st n = s ∧ n < 1024)) := by
        refine RowAt.setBool HZ.out k b fun z _ => ?_
        by_cases hz : z = k
        · subst hz
          rw [if_pos rfl, ← hb, Bool.eq_iff_iff, decide_eq_true_eq, decide_eq_true_eq]
          exact ⟨fun h => h.2.2.1, fun h => ⟨hk4, by omega, h, by omega⟩⟩
        · rw [if_neg hz, Bool.eq_iff_iff, decide_eq_true_eq, decide_eq_true_eq]
          constructor
          · rintro ⟨a1, a2, a3⟩; exact ⟨a1, by omega, a3⟩
          · rintro ⟨a1, a2, a3⟩; exact ⟨a1, by omega, a3⟩
      have hr3 := RowAt.set_other HR.out ⟨g + 1, k, none⟩ (by show g ≠ g + 1; omega) (.bool b)
      have hb3 := hbel.setCell (p := ⟨g + 1, k, none⟩) (by show w.heap.size ≤ g + 1; omega) (.bool b)
      have HR3 := Lib.hid hr3; clear hr3
      have HZ3 := Lib.hid hz3; clear hz3
      have HB3 := Lib.hid hb3; clear hb3
      obtain ⟨x, hx⟩ : ∃ x, st k - 1 = x := ⟨_, rfl⟩
      rw [hx] at c1 hxc
      clear hx hb hne
      go_wp2
      go_roundw
      case rel => exact ⟨k + 1, by omega, by omega, by go_num, HR3.out, HZ3.out, HB3.out⟩
      case measure => simp [intOf]; omega
    · have hge : ¬ (k : Int) < (T : Int) := by omega
      obtain ⟨f, hf⟩ : ∃ f, (fun n => decide (4 ≤ n ∧ n < k ∧ st n = s ∧ n < 1024)) = f := ⟨_, rfl⟩
      have hsp := spans_kind hgood (s := s) (k := k) (by omega) (by omega)
      have hzf := HZ.out
      rw [hf] at hsp hzf
      obtain ⟨B, hB⟩ : ∃ B, B = arrOf 4096 (boolsF f) := ⟨_, rfl⟩
      have HB := Lib.hid hB; clear hB
      have HSP := Lib.hid hsp; clear hsp
      have HZF := Lib.hid hzf; clear hzf hf HZ
      go_wp2_with ((with_reducible refine at_op ⟨some 22, .load 60 (.tmp 5), _, _, _, none⟩ ?_); refine wpList_load_arr (o := ⟨some 22, .load 60 (.tmp 5), _, _, _, none⟩) rfl 60 (.tmp 5) rfl (g + 1) rfl 4096 60 _ HZF.out _ Try.underlying60 rfl size60 ?_; rw [← HB.out])
      rw [HB.out]
      refine (refset_own f _).mono ?_
      rw [HSP.out]
      rintro e w5 ⟨y, rfl, hy, hb5⟩
      have hB5 := Below.step hbel hbel.size hb5
      have HY := Lib.hid (hy.mono hbel.size); clear hy hb5
      go_wp2
      go_ret
      exact ⟨y, rfl, HY.out, hB5⟩

end Go.Proofs.Ytaeklmnleampcaa
