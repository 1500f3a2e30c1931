/- Walks of the reference's Room and Count. -/
import Derived.Test.YtaeklmnleampcaaSn
namespace Go.Proofs.Ytaeklmnleampcaa
open Go.RowKit

set_option maxRecDepth 100000 in
set_option maxHeartbeats 8000000 in
theorem refroom_any (T : Nat) (st : Nat → Nat) (hgood : GoodT T st) (k : Int) (A : Array Value) (hA : A = arrOf 1025 (refF T st)) (w : World) :
    Calls Try.prog 67 #[.agg A, .int .i64 k] w fun e w' => e = .returned (.int .i64 (roomR st k)) ∧ Below w.heap.size w w' := by
  obtain ⟨w0, hw0⟩ : ∃ W, W = w.alloc (.cells A 67) := ⟨_, rfl⟩
  have hr0 : RowAt w0 w.heap.size 67 1025 (refF T st) := by rw [hw0, hA]; exact RowAt.alloc _ _ _ _
  have hb0 : Below w.heap.size w w0 := by rw [hw0]; exact (Below.refl _ _).alloc (Nat.le_refl _) _
  have HW0 := Lib.hid hw0; clear hw0 hA
  by_cases h0 : k < 0
  · have hd : roomR st k = 0 := if_neg (by omega)
    rw [hd]
    clear hd hr0
    go_enter Try.func67, Try.ntmps67
    go_wp2
    rw [← HW0.out]
    go_ret
    exact ⟨rfl, hb0⟩
  by_cases h1 : 15 < k
  · have hd : roomR st k = 0 := if_neg (by omega)
    rw [hd]
    clear hd hr0
    go_enter Try.func67, Try.ntmps67
    go_wp2
    rw [← HW0.out]
    go_ret
    exact ⟨rfl, hb0⟩
  obtain ⟨q, rfl⟩ : ∃ q : Nat, k = (q : Int) := ⟨k.toNat, by omega⟩
  have hq : q < 16 := by omega
  rw [roomR_nat st hq]
  have h0' : ¬ (q : Int) < 0 := by omega
  obtain ⟨g, hg⟩ : ∃ g, g = w.heap.size := ⟨_, rfl⟩
  rw [← hg] at hr0
  have HG := Lib.hid hg; clear hg
  have hT := hgood.1
  have HR0 := Lib.hid hr0; clear hr0
  go_enter Try.func67, Try.ntmps67
  go_wp2_with fail
  rw [← HW0.out, ← HG.out]
  go_loop [5, 6] (fun v i => ∃ (j p s : Nat), j ≤ 64 ∧ p = 64 * q + j ∧ i = .int .i64 p ∧ v = .int .i64 s ∧ Hid (s = cntTo st (64 * q) j))
    (fun _ i => 64 * q + 64 - (intOf i).toNat)
  case atStart => exact ⟨0, 64 * q, 0, by omega, rfl, by go_num, rfl, rfl⟩
  case round =>
    obtain ⟨j, p, s, hj, hp, rfl, rfl, HS⟩ := hrel
    by_cases hlt : j < 64
    · have hp1 : (p : Int) < 64 * (q : Int) + 64 := by omega
      have hp2 : p < 1024 := by omega
      have hs64 : s ≤ 64 := by have := HS.out; have h2 := cntTo_le st (64 * q) j; omega
      have HP := Lib.hid hp; clear hp
      have HS2 : Hid (cntTo st (64 * q) (j + 1) = s + if st p = 1 then 1 else 0) := by unfold Hid; rw [cntTo_succ, ← HS.out, ← HP.out]
      have cT := RowAt.cell HR0.out (i := 0) (by omega)
      rw [refF_zero] at cT
      have cs := RowAt.cell HR0.out (i := 1 + p) (by omega)
      rw [refF_at] at cs
      have hin := hgood.2.1 p hp2
      have hp0 : (0 : Int) ≤ (p : Int) := by omega
      have hp3 : (p : Int) < 1024 := by omega
      by_cases hrng : 4 ≤ p ∧ p < T
      · have g1 : (4 : Int) ≤ (p : Int) := by omega
        have g2 : (p : Int) < (T : Int) := by omega
        have hne : st p ≠ 0 := fun e => (hin.1 e) hrng
        clear hin hrng
        by_cases hs1 : st p = 1
        · rw [hs1] at cs
          have HS3 : Hid (s + 1 = cntTo st (64 * q) (j + 1)) := by unfold Hid; rw [HS2.out, if_pos hs1]
          clear hs1 hne
          go_wp2
          go_round
          case rel => exact ⟨j + 1, p + 1, s + 1, by omega, by have := HP.out; omega, by go_num, by go_num, HS3.out⟩
          case measure => simp [intOf]; have := HP.out; omega
        · obtain ⟨x, hx, hx0⟩ : ∃ x, st p - 1 = x ∧ x ≠ 0 := ⟨_, rfl, by omega⟩
          rw [hx] at cs
          have hx' : ((x : Int) == 0) = false := by rw [beq_eq_false_iff_ne]; omega
          have HS3 : Hid (s = cntTo st (64 * q) (j + 1)) := by unfold Hid; rw [HS2.out, if_neg hs1]; rfl
          clear hs1 hne hx hx0
          go_wp2
          go_round
          case rel => exact ⟨j + 1, p + 1, s, by omega, by have := HP.out; omega, by go_num, rfl, HS3.out⟩
          case measure => simp [intOf]; have := HP.out; omega
      · have hz := hin.2 hrng
        have HS3 : Hid (s = cntTo st (64 * q) (j + 1)) := by unfold Hid; rw [HS2.out, if_neg (by rw [hz]; decide)]; rfl
        clear hz hin
        by_cases g1 : 4 ≤ p
        · have g1' : (4 : Int) ≤ (p : Int) := by omega
          have g2 : decide ((p : Int) < (T : Int)) = false := decide_eq_false (by omega)
          have g2' : ¬ (p : Int) < (T : Int) := by omega
          clear hrng
          go_wp2
          go_round
          case rel => exact ⟨j + 1, p + 1, s, by omega, by have := HP.out; omega, by go_num, rfl, HS3.out⟩
          case measure => simp [intOf]; have := HP.out; omega
        · have g1' : decide ((4 : Int) ≤ (p : Int)) = false := decide_eq_false (by omega)
          have g1'' : ¬ (4 : Int) ≤ (p : Int) := by omega
          clear hrng
          go_wp2
          go_round
          case rel => exact ⟨j + 1, p + 1, s, by omega, by have := HP.out; omega, by go_num, rfl, HS3.out⟩
          case measure => simp [intOf]; have := HP.out; omega
    · obtain rfl : j = 64 := by omega
      have hge : ¬ (p : Int) < 64 * (q : Int) + 64 := by omega
      clear hp
      go_wp2
      go_ret
      exact ⟨by rw [HS.out]; rfl, hb0⟩

set_option maxRecDepth 100000 in
set_option maxHeartbeats 8000000 in
theorem refcount_any (T : Nat) (st : Nat → Nat) (hgood : GoodT T st) (A : Array Value) (hA : A = arrOf 1025 (refF T st)) (w : World) :
    Calls Try.prog 66 #[.agg A] w fun e w' => e = .returned (.int .i64 (countN st : Nat)) ∧ Below w.heap.size w w' := by
  obtain ⟨w0, hw0⟩ : ∃ W, W = w.alloc (.cells A 67) := ⟨_, rfl⟩
  have hr0 : RowAt w0 w.heap.size 67 1025 (refF T st) := by rw [hw0, hA]; exact RowAt.alloc _ _ _ _
  have hb0 : Below w.heap.size w w0 := by rw [hw0]; exact (Below.refl _ _).alloc (Nat.le_refl _) _
  have HW0 := Lib.hid hw0; clear hw0
  have HA := Lib.hid hA; clear hA
  obtain ⟨g, hg⟩ : ∃ g, g = w.heap.size := ⟨_, rfl⟩
  rw [← hg] at hr0
  have HG := Lib.hid hg; clear hg
  have HR0 := Lib.hid hr0; clear hr0
  go_enter Try.func66, Try.ntmps66
  go_wp2_with fail
  rw [← HW0.out, ← HG.out]
  go_loopw [3, 4] (fun v i wr => ∃ (q s : Nat), q ≤ 16 ∧ i = .int .i64 q ∧ v = .int .i64 s ∧ Hid (s = sumTo st q) ∧ Hid (RowAt wr g 67 1025 (refF T st)) ∧ Below w.heap.size w wr)
    (fun _ i _ => 16 - (intOf i).toNat)
  case atStart => exact ⟨0, 0, by omega, rfl, rfl, rfl, HR0, hb0⟩
  case round =>
    clear HR0 hb0
    obtain ⟨q, s, hq, rfl, rfl, HS, HR, hbel⟩ := hrel
    by_cases hlt : q < 16
    · have hi1 : (q : Int) < 16 := by omega
      have hsm : s ≤ 1024 := by have h1 := HS.out; have h2 := sumTo_le st q; omega
      have hrl := roomN_le st q
      have hrq := roomR_nat st hlt
      have HS2 : Hid (s + roomN st q = sumTo st (q + 1)) := by unfold Hid; rw [HS.out]; rfl
      obtain ⟨r, hr⟩ : ∃ r, roomN st q = r := ⟨_, rfl⟩
      rw [hr] at hrq HS2 hrl
      have HRQ := Lib.hid hrq; clear hrq hr
      go_wp2_with (refine wpList_load_arr (o := ⟨some 10, .load 67 (.tmp 1), _, _, _, none⟩) rfl 67 (.tmp 1) rfl g rfl 1025 67 _ HR.out _ Try.underlying67 rfl size67 ?_; rw [← HA.out])
      refine (refroom_any T st hgood q A HA.out _).mono ?_
      rw [HRQ.out]
      rintro e w5 ⟨rfl, hb5⟩
      have hB5 := Below.step hbel hbel.size hb5
      have HR5 := Lib.hid (RowAt.below HR.out hb5)
      clear hb5
      go_wp2
      go_roundw
      case rel => exact ⟨q + 1, s + r, by omega, by go_num, by go_num, HS2.out, HR5, hB5⟩
      case measure => simp [intOf]; omega
    · obtain rfl : q = 16 := by omega
      have hge : ¬ ((16 : Nat) : Int) < 16 := by omega
      go_wp2
      go_ret
      exact ⟨by rw [HS.out]; rfl, hbel⟩

end Go.Proofs.Ytaeklmnleampcaa
