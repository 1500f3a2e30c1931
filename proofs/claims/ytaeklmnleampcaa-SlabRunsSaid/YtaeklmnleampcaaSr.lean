/- Walk of the reference's Alloc. -/
import Derived.Test.YtaeklmnleampcaaSq
import Derived.Deep.MidRow
import Derived.Deep.RegionLaw
namespace Go.Proofs.Ytaeklmnleampcaa
open Go.RowKit

theorem row_range_any {w : World} {g n : Nat} {t : TypeId} {f : Nat → Value} (h : RowAt w g t n f) : w.rangeAt g 0 (arrOf n f).toList := by
  intro j v hv
  rw [Array.getElem?_toList, arrOf_get] at hv
  split at hv
  · next hj => cases hv; rw [Nat.zero_add]; exact h.cell hj
  · cases hv

/-- A whole row, in a region that draws its order: it is loaded first. -/
theorem held_load_row {P : Program} {ops : Array Oper} {S : World → Prop} {op : Oper} {a : Act} (hw : Region.wanted op (yielded ops a.tmps) = true) (ty : TypeId) (x : Operand) (ho : op.op = .load ty x)
    (g n : Nat) (t : TypeId) (f : Nat → Value) (hx : a.eval x = .pointer (some ⟨g, 0, none⟩)) (A : Array Value) (hA : A = arrOf n f) (d : TypeDesc) (hS : ∀ w, S w → RowAt w g t n f)
    (hu : P.underlying ty = some d) (hd : d.isRow = true) (hi : (P.info? ty).map (·.size) = some n) : YieldsIf P ops S op (.agg A) a := by
  subst hA
  have h := yieldsIf_load_mid (P := P) (S := S) hw ty x ho g 0 hx (arrOf n f).toList d (fun w h => row_range_any (hS w h)) hu hd (by rw [Array.length_toList, arrOf_size]; exact hi)
  simpa using h

theorem roomR_at (st : Nat → Nat) {k r : Nat} (h : k < 16) (hr : roomN st k = r) : roomR st (k : Int) = (r : Nat) := by rw [roomR_nat st h, hr]

theorem refroom_is (r : Int) (T : Nat) (st : Nat → Nat) (hgood : GoodT T st) (k : Int) (h : roomR st k = r) (A : Array Value) (hA : A = arrOf 1025 (refF T st)) (w : World) :
    Calls Try.prog 67 #[.agg A, .int .i64 k] w fun e w' => e = .returned (.int .i64 r) ∧ Below w.heap.size w w' := by
  subst h; exact refroom_any T st hgood k A hA w

theorem refturn_is (T : Nat) (st : Nat → Nat) (hgood : GoodT T st) (i : Int) (hi : inI64 i) (s v : Nat) (hs : 1 ≤ s ∧ s ≤ 3) (a c : Int) (ha : a = ((s - 1 : Nat) : Int)) (hc : c = ((v - 1 : Nat) : Int))
    (C : Int) (hC : turnC st i s = C) (st' : Nat → Nat) (hS : turnN st i s v = st') (A : Array Value) (hA : A = arrOf 1025 (refF T st)) (w : World) :
    Calls Try.prog 64 #[.agg A, .int .i64 i, .int .u8 a, .int .u8 c] w fun e w' => ∃ A', e = .returned (.tuple #[.agg A', .int .i64 C]) ∧ A' = arrOf 1025 (refF T st') ∧ Below w.heap.size w w' := by
  subst hC hS ha hc
  exact refturn_any T st hgood i hi s v hs (s - 1) (v - 1) rfl rfl A hA w

set_option maxRecDepth 100000 in
set_option maxHeartbeats 16000000 in
theorem refalloc_any (T : Nat) (st : Nat → Nat) (hgood : GoodT T st) (A : Array Value) (hA : A = arrOf 1025 (refF T st)) (w : World) :
    Calls Try.prog 62 #[.agg A] w fun e w' => ∃ A', e = .returned (.tuple #[.agg A', .int .i64 (allocI st), .int .i64 (allocC st)]) ∧ A' = arrOf 1025 (refF T (allocS st)) ∧ Below w.heap.size w w' := by
  obtain ⟨g, hg⟩ : ∃ g, g = w.heap.size := ⟨_, rfl⟩
  obtain ⟨w0, hw0⟩ : ∃ W, W = w.alloc (.cells A 67) := ⟨_, rfl⟩
  have hr0 : RowAt w0 g 67 1025 (refF T st) := by rw [hg, hw0, hA]; exact RowAt.alloc _ _ _ _
  have hb0 : Below w.heap.size w w0 := by rw [hw0]; exact (Below.refl _ _).alloc (Nat.le_refl _) _
  have hse : w0.heap.size = w.heap.size + 1 := by rw [hw0]; simp
  obtain ⟨w2, hw2⟩ : ∃ W, W = w0.alloc (.cells Try.zeroCells67 67) := ⟨_, rfl⟩
  have hr2 : RowAt w2 g 67 1025 (refF T st) := by rw [hw2]; exact RowAt.alloc_old hr0 _
  have hz2 : RowAt w2 (g + 1) 67 1025 (refF 0 (fun _ => 0)) := by rw [hw2, zero67, hg, ← hse]; exact RowAt.alloc _ _ _ _
  have hb2 : Below w.heap.size w w2 := by rw [hw2]; exact hb0.alloc hb0.size _
  have hs2 : w2.heap.size = g + 2 := by rw [hw2, hg]; simp [hse]
  have hw2' : (w.alloc (.cells A 67)).alloc (.cells Try.zeroCells67 67) = w2 := by rw [hw2, hw0]
  clear hw2 hr0 hb0 hse hw0
  have hgl : w.heap.size ≤ g := by omega
  have HG := Lib.hid hg; clear hg
  have HW2 := Lib.hid hw2'; clear hw2'
  have HA := Lib.hid hA; clear hA
  have HR2 := Lib.hid hr2; clear hr2
  have HZ2 := Lib.hid hz2; clear hz2
  obtain ⟨R, hR⟩ : ∃ R, allocN st = R := ⟨_, rfl⟩
  have HR := Lib.hid hR; clear hR
  go_enter Try.func62, Try.ntmps62
  go_wp2_with fail
  rw [HW2.out, ← HG.out]
  go_loopw [5, 6] (fun v i wr => ∃ k s : Nat, 1 ≤ k ∧ k ≤ 16 ∧ i = .int .i64 k ∧ v = .int .i64 s ∧ s < 16 ∧ Hid (s = bestTo st k) ∧ Hid (RowAt wr g 67 1025 (refF T st)) ∧ Hid (RowAt wr (g + 1) 67 1025 (refF 0 (fun _ => 0))) ∧ Below w.heap.size w wr)
    (fun _ i _ => 16 - (intOf i).toNat)
  case atStart => exact ⟨1, 0, by omega, by omega, rfl, rfl, by omega, by unfold Hid bestTo bestTo; simp, HR2, HZ2, hb2⟩
  case round =>
    clear HR2 HZ2 hb2
    obtain ⟨k, s, hk1, hk, rfl, rfl, hs, HS, HM, HZ, hbel⟩ := hrel
    by_cases hlt : k < 16
    · have hi1 : (k : Int) < 16 := by omega
      have HS2 : Hid (bestTo st (k + 1) = if roomN st s < roomN st k then k else s) := by unfold Hid; rw [HS.out]; rfl
      obtain ⟨r, hr⟩ : ∃ r, roomN st k = r := ⟨_, rfl⟩
      obtain ⟨q, hq⟩ : ∃ r, roomN st s = r := ⟨_, rfl⟩
      have HRK := Lib.hid (roomR_at st hlt hr)
      have HRS := Lib.hid (roomR_at st hs hq)
      rw [hr, hq] at HS2
      clear hr hq
      go_wp2_with fail
      obtain ⟨wd, hwd⟩ : ∃ W, W = wr.drew := ⟨_, rfl⟩
      have hm0 : RowAt wr.drew g 67 1025 (refF T st) := HM.out
      have hz0 : RowAt wr.drew (g + 1) 67 1025 (refF 0 (fun _ => 0)) := HZ.out
      have hbd : Below w.heap.size w wr.drew := hbel.drew
      refine wp_region_held_drew (S := fun W => RowAt W g 67 1025 (refF T st) ∧ RowAt W (g + 1) 67 1025 (refF 0 (fun _ => 0)) ∧ Below w.heap.size w W) (by kernel_rfl) ⟨hm0, hz0, hbd⟩ (fun hS0 => ?_)
      refine wpAnyH_take (i := 0) (v := .agg A) rfl (by kernel_rfl) (by kernel_rfl) (by kernel_rfl) (fun _ _ _ h => h) (held_load_row (by rfl) 67 (.tmp 1) rfl g 1025 67 (refF T st) rfl A HA.out _ (fun w h => h.1) Try.underlying67 rfl size67) hS0 ?_
      refine wpAnyH_take (i := 1) (v := .int .i64 k) rfl (by kernel_rfl) (by kernel_rfl) (by kernel_rfl) (fun _ _ _ h => h) (Or.inl ⟨by rfl, fun w _ => by go_simp⟩) hS0 ?_
      refine wpAnyH_take (i := 3) (v := .agg A) rfl (by kernel_rfl) (by kernel_rfl) (by kernel_rfl) (fun _ _ _ h => h) (held_load_row (by rfl) 67 (.tmp 1) rfl g 1025 67 (refF T st) rfl A HA.out _ (fun w h => h.1) Try.underlying67 rfl size67) hS0 ?_
      refine wpAnyH_take (i := 4) (v := .int .i64 s) rfl (by kernel_rfl) (by kernel_rfl) (by kernel_rfl) (fun _ _ _ h => h) (Or.inl ⟨by rfl, fun w _ => by go_simp⟩) hS0 ?_
      simp only [Act.put, List.setIfInBounds_toArray]
      refine wpAnyH_ready (rs := [2]) (by kernel_rfl) (by simp) ?_
      refine AllReadyH.cons rfl (fun K hK => ?_) AllReadyH.nil
      have HS0 := Lib.hid hS0; clear hS0 hm0 hz0 hbd hwd
      go_simp
      refine (refroom_is r T st hgood k HRK.out A HA.out _).mono ?_
      rintro e w6 ⟨rfl, hb6⟩
      have hS1 : RowAt w6 g 67 1025 (refF T st) ∧ RowAt w6 (g + 1) 67 1025 (refF 0 (fun _ => 0)) ∧ Below w.heap.size w w6 := ⟨RowAt.below HS0.out.1 hb6, RowAt.below HS0.out.2.1 hb6, Below.step HS0.out.2.2 HS0.out.2.2.size hb6⟩
      have HS1 := Lib.hid hS1; clear hS1 hb6
      go_wp2_with fail
      refine hK.out _ _ HS1.out (fun _ => ?_)
      clear hK K
      refine wpAnyH_ready (rs := [5]) (by kernel_rfl) (by simp) ?_
      refine AllReadyH.cons rfl (fun K hK => ?_) AllReadyH.nil
      go_simp
      refine (refroom_is q T st hgood s HRS.out A HA.out _).mono ?_
      rintro e w7 ⟨rfl, hb7⟩
      have hS2 : RowAt w7 g 67 1025 (refF T st) ∧ RowAt w7 (g + 1) 67 1025 (refF 0 (fun _ => 0)) ∧ Below w.heap.size w w7 := ⟨RowAt.below HS1.out.1 hb7, RowAt.below HS1.out.2.1 hb7, Below.step HS1.out.2.2 HS1.out.2.2.size hb7⟩
      have HSS := Lib.hid hS2; clear hS2 hb7
      go_wp2_with fail
      refine hK.out _ _ HSS.out (fun hS2 => ?_)
      clear hK K
      refine wpAnyH_take (i := 6) (v := .bool (decide ((q : Int) < (r : Int)))) rfl (by kernel_rfl) (by kernel_rfl) (by kernel_rfl) (fun _ _ _ h => h) (Or.inl ⟨by rfl, fun w _ => by go_simp⟩) hS2 ?_
      refine ⟨by kernel_rfl, ?_⟩
      clear hS2
      have hB7 := HSS.out.2.2
      have HM7 := Lib.hid HSS.out.1
      have HZ7 := Lib.hid HSS.out.2.1
      clear HS0 HS1 HSS hbel HM HZ
      by_cases hqr : q < r
      · have hqr' : decide ((q : Int) < (r : Int)) = true := decide_eq_true (by omega)
        have HS3 : Hid (k = bestTo st (k + 1)) := by unfold Hid; rw [HS2.out, if_pos hqr]
        rw [hqr']
        go_wp2
        go_roundw
        case rel => exact ⟨k + 1, k, by omega, by omega, by go_num, rfl, hlt, HS3.out, HM7, HZ7, hB7⟩
        case measure => simp [intOf]; omega
      · have hqr' : decide ((q : Int) < (r : Int)) = false := decide_eq_false (by omega)
        have HS3 : Hid (s = bestTo st (k + 1)) := by unfold Hid; rw [HS2.out, if_neg hqr]
        rw [hqr']
        go_wp2
        go_roundw
        case rel => exact ⟨k + 1, s, by omega, by omega, by go_num, rfl, hs, HS3.out, HM7, HZ7, hB7⟩
        case measure => simp [intOf]; omega
    · obtain rfl : k = 16 := by omega
      have HBS : Hid (s = bestN st) := HS.out
      have hge : ¬ ((16 : Nat) : Int) < 16 := by omega
      go_wp2_with fail
      go_loopw [7, 8, 9] (fun i _ _ wr2 => ∃ (p j : Nat), p = 64 * s + j ∧ j ≤ 64 ∧ i = .int .i64 p ∧ Hid (∀ j', j' < j → st (64 * s + j') ≠ 1) ∧ Hid (RowAt wr2 g 67 1025 (refF T st)) ∧ Hid (RowAt wr2 (g + 1) 67 1025 (refF 0 (fun _ => 0))) ∧ Below w.heap.size w wr2)
        (fun i _ _ _ => 64 * s + 64 - (intOf i).toNat)
      case atStart => exact ⟨64 * s, 0, rfl, by omega, by go_num, fun j' h => absurd h (Nat.not_lt_zero _), HM, HZ, hbel⟩
      case round =>
        clear HM HZ hbel
        obtain ⟨p, j, hp, hj, rfl, HN, HM, HZ, hbel⟩ := hrel
        by_cases hjl : j < 64
        · have hp1 : (p : Int) < 64 * (s : Int) + 64 := by omega
          have hp2 : p < 1024 := by omega
          have HP := Lib.hid hp; clear hp
          have hpi : inI64 (p : Int) := by unfold inI64; omega
          by_cases hf : st p = 1
          · have hRR : allocN st = some p := by
              unfold allocN
              rw [← HBS.out, HP.out]
              exact firstFree_at HN.out (by rw [← HP.out]; exact hf) 64 hjl
            obtain ⟨e1, e2, e3⟩ := alloc_some hRR
            have HRR : Hid (allocI st = p ∧ allocC st = 0 ∧ allocS st = putN st p 2) := ⟨e1, e2, e3⟩
            obtain ⟨t1, t2⟩ := turn_yes (st := st) (v := 2) hp2 hf
            have T1 := Lib.hid t1; clear t1
            have T2 := Lib.hid t2; clear t2
            clear hRR e1 e2 e3 hf
            go_wp2_with ((with_reducible refine at_op ⟨some 32, .load 67 (.tmp 1), _, _, _, none⟩ ?_); refine wpList_load_arr (o := ⟨some 32, .load 67 (.tmp 1), _, _, _, none⟩) rfl 67 (.tmp 1) rfl g rfl 1025 67 _ HM.out _ Try.underlying67 rfl size67 ?_; rw [← HA.out])
            refine (refturn_is T st hgood p hpi 1 2 ⟨by omega, by omega⟩ 0 1 rfl rfl _ T1.out _ T2.out A HA.out _).mono ?_
            rintro e w5 ⟨A5, rfl, hA5, hb5⟩
            have hz5 := RowAt.below HZ.out hb5
            have hB5 := Below.step hbel hbel.size hb5
            have hm5 := RowAt.below HM.out hb5
            have hs5 : g + 1 < w5.heap.size := hz5.lt
            have hr6 : RowAt (w5.alloc (.cells Try.zeroCells67 67)) w5.heap.size 67 1025 (refF 0 (fun _ => 0)) := by rw [zero67]; exact RowAt.alloc _ _ _ _
            have hm6 : RowAt (w5.alloc (.cells Try.zeroCells67 67)) g 67 1025 (refF T st) := RowAt.alloc_old hm5 _
            have hz6 : RowAt (w5.alloc (.cells Try.zeroCells67 67)) (g + 1) 67 1025 (refF 0 (fun _ => 0)) := RowAt.alloc_old hz5 _
            have hb6 : Below w.heap.size w (w5.alloc (.cells Try.zeroCells67 67)) := hB5.alloc hB5.size _
            have hr7 : RowAt ((w5.alloc (.cells Try.zeroCells67 67)).setRow w5.heap.size A5) w5.heap.size 67 1025 (refF T (putN st p 2)) := by rw [hA5]; exact RowAt.setRow hr6 (refF T (putN st p 2))
            have hm7 := RowAt.setRow_other hm6 (g := w5.heap.size) (by omega) A5
            have hz7 := RowAt.setRow_other hz6 (g := w5.heap.size) (by omega) A5
            have hb7 := Below.setRow hb6 (g := w5.heap.size) (by omega) A5
            obtain ⟨w7, hw7⟩ : ∃ W, (w5.alloc (.cells Try.zeroCells67 67)).setRow w5.heap.size A5 = W := ⟨_, rfl⟩
            rw [hw7] at hr7 hm7 hz7 hb7
            have HA5 := Lib.hid hA5; clear hA5
            have HR6 := Lib.hid hr6; clear hr6
            have HW7 := Lib.hid hw7; clear hw7
            have HR7 := Lib.hid hr7; clear hr7
            have HM7 := Lib.hid hm7; clear hm7
            have HZ7 := Lib.hid hz7; clear hz7
            clear hm5 hz5 hm6 hz6 hb6 hb5 hB5
            go_wp2_with (first
              | ((with_reducible refine at_op ⟨none, .store 67 (.tmp 8) (.tmp 35), _, _, _, none⟩ ?_); refine wpList_store_row (o := ⟨none, .store 67 (.tmp 8) (.tmp 35), _, _, _, none⟩) rfl 67 (.tmp 8) (.tmp 35) rfl w5.heap.size rfl 1025 (refF T (putN st p 2)) A5 rfl HA5.out 67 (refF 0 (fun _ => 0)) HR6.out size67 (refF_one _ _) ?_; rw [← HA5.out, HW7.out])
              | (((with_reducible refine at_op ⟨some 39, .load 67 (.tmp 8), _, _, _, none⟩ ?_); refine wpList_load_arr (o := ⟨some 39, .load 67 (.tmp 8), _, _, _, none⟩) rfl 67 (.tmp 8) rfl w5.heap.size rfl 1025 67 _ HR7.out _ Try.underlying67 rfl size67 ?_; rw [← HA5.out]))
              | ((with_reducible refine at_op ⟨none, .store 67 (.tmp 2) (.tmp 39), _, _, _, none⟩ ?_); refine wpList_store_row (o := ⟨none, .store 67 (.tmp 2) (.tmp 39), _, _, _, none⟩) rfl 67 (.tmp 2) (.tmp 39) rfl (g + 1) rfl 1025 (refF T (putN st p 2)) A5 rfl HA5.out 67 (refF 0 (fun _ => 0)) HZ7.out size67 (refF_one _ _) ?_; rw [← HA5.out]))
            rw [HA5.out]
            refine bodyPost_ret (ret_row_three (p := 2) (q := 3) (r := 4) (ty := 67) rfl rfl (RowAt.setRow HZ7.out (refF T (putN st p 2))) Try.underlying67 rfl size67) rfl (by
              rw [HRR.out.1, HRR.out.2.1, HRR.out.2.2]
              exact ⟨_, rfl, rfl, Below.setRow hb7 (by omega) _⟩)
          · have hno : isB st (p : Int) 1 = false := by rw [isB_nat st hp2]; exact decide_eq_false hf
            obtain ⟨t1, t2⟩ := turn_no (v := 2) hno
            have T1 := Lib.hid t1; clear t1
            have T2 := Lib.hid t2; clear t2 hno
            have HN2 : Hid (∀ j', j' < j + 1 → st (64 * s + j') ≠ 1) := by
              intro j' hj'
              by_cases hjj : j' = j
              · subst hjj; rw [← HP.out]; exact hf
              · exact HN.out j' (by omega)
            clear hf
            go_wp2_with ((with_reducible refine at_op ⟨some 32, .load 67 (.tmp 1), _, _, _, none⟩ ?_); refine wpList_load_arr (o := ⟨some 32, .load 67 (.tmp 1), _, _, _, none⟩) rfl 67 (.tmp 1) rfl g rfl 1025 67 _ HM.out _ Try.underlying67 rfl size67 ?_; rw [← HA.out])
            refine (refturn_is T st hgood p hpi 1 2 ⟨by omega, by omega⟩ 0 1 rfl rfl _ T1.out _ T2.out A HA.out _).mono ?_
            rintro e w5 ⟨A5, rfl, hA5, hb5⟩
            have hz5 := RowAt.below HZ.out hb5
            have hB5 := Below.step hbel hbel.size hb5
            have hm5 := RowAt.below HM.out hb5
            have hs5 : g + 1 < w5.heap.size := hz5.lt
            have hr6 : RowAt (w5.alloc (.cells Try.zeroCells67 67)) w5.heap.size 67 1025 (refF 0 (fun _ => 0)) := by rw [zero67]; exact RowAt.alloc _ _ _ _
            have hm6 : RowAt (w5.alloc (.cells Try.zeroCells67 67)) g 67 1025 (refF T st) := RowAt.alloc_old hm5 _
            have hz6 : RowAt (w5.alloc (.cells Try.zeroCells67 67)) (g + 1) 67 1025 (refF 0 (fun _ => 0)) := RowAt.alloc_old hz5 _
            have hb6 : Below w.heap.size w (w5.alloc (.cells Try.zeroCells67 67)) := hB5.alloc hB5.size _
            have hr7 : RowAt ((w5.alloc (.cells Try.zeroCells67 67)).setRow w5.heap.size A5) w5.heap.size 67 1025 (refF T st) := by rw [hA5]; exact RowAt.setRow hr6 (refF T st)
            have hm7 := RowAt.setRow_other hm6 (g := w5.heap.size) (by omega) A5
            have hz7 := RowAt.setRow_other hz6 (g := w5.heap.size) (by omega) A5
            have hb7 := Below.setRow hb6 (g := w5.heap.size) (by omega) A5
            obtain ⟨w7, hw7⟩ : ∃ W, (w5.alloc (.cells Try.zeroCells67 67)).setRow w5.heap.size A5 = W := ⟨_, rfl⟩
            rw [hw7] at hr7 hm7 hz7 hb7
            have HA5 := Lib.hid hA5; clear hA5
            have HR6 := Lib.hid hr6; clear hr6
            have HW7 := Lib.hid hw7; clear hw7
            have HR7 := Lib.hid hr7; clear hr7
            have HM7 := Lib.hid hm7; clear hm7
            have HZ7 := Lib.hid hz7; clear hz7
            clear hm5 hz5 hm6 hz6 hb6 hb5 hB5
            go_wp2_with ((with_reducible refine at_op ⟨none, .store 67 (.tmp 8) (.tmp 35), _, _, _, none⟩ ?_); refine wpList_store_row (o := ⟨none, .store 67 (.tmp 8) (.tmp 35), _, _, _, none⟩) rfl 67 (.tmp 8) (.tmp 35) rfl w5.heap.size rfl 1025 (refF T st) A5 rfl HA5.out 67 (refF 0 (fun _ => 0)) HR6.out size67 (refF_one _ _) ?_; rw [← HA5.out, HW7.out])
            go_roundw
            case rel => exact ⟨p + 1, j + 1, by have := HP.out; omega, by omega, by go_num, HN2.out, HM7, HZ7, hb7⟩
            case measure => simp [intOf]; have := HP.out; omega
        · have hj64 : j = 64 := by omega
          have hp1 : ¬ (p : Int) < 64 * (s : Int) + 64 := by omega
          have hRR : allocN st = none := by
            unfold allocN
            rw [← HBS.out]
            exact firstFree_no (fun j' h => HN.out j' (by omega))
          obtain ⟨e1, e2, e3⟩ := alloc_none hRR
          have HRR : Hid (allocI st = 0 ∧ allocC st = 71 ∧ allocS st = st) := ⟨e1, e2, e3⟩
          clear hp hRR e1 e2 e3
          go_wp2_with (
            ((with_reducible refine at_op ⟨some 41, .load 67 (.tmp 1), _, _, _, none⟩ ?_); refine wpList_load_arr (o := ⟨some 41, .load 67 (.tmp 1), _, _, _, none⟩) rfl 67 (.tmp 1) rfl g rfl 1025 67 _ HM.out _ Try.underlying67 rfl size67 ?_; rw [← HA.out]);
            (refine wpList_store_row (o := ⟨none, .store 67 (.tmp 2) (.tmp 41), _, _, _, none⟩) rfl 67 (.tmp 2) (.tmp 41) rfl (g + 1) rfl 1025 (refF T st) A rfl HA.out 67 (refF 0 (fun _ => 0)) HZ.out size67 (refF_one _ _) ?_; rw [← HA.out]))
          rw [HA.out]
          refine bodyPost_ret (ret_row_three (p := 2) (q := 3) (r := 4) (ty := 67) rfl rfl (RowAt.setRow HZ.out (refF T st)) Try.underlying67 rfl size67) rfl (by
            rw [HRR.out.1, HRR.out.2.1, HRR.out.2.2]
            exact ⟨_, rfl, rfl, Below.setRow hbel (by omega) _⟩)

end Go.Proofs.Ytaeklmnleampcaa
