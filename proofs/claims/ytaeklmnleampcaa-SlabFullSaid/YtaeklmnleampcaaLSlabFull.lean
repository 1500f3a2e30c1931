/- All sectors that are free can be had, one by one or at once, and no more; slab by slab they are all. No condition. -/
import Derived.Test.YtaeklmnleampcaaSk
import Derived.Test.YtaeklmnleampcaaFSlabFull
namespace Go.Proofs.Ytaeklmnleampcaa
open Go.RowKit

set_option maxRecDepth 100000 in
set_option maxHeartbeats 16000000 in
theorem slabFull_walk : SlabFullWalk := by
  intro w T v l hT hv _ _
  have HT := Lib.hid hT; clear hT
  obtain ⟨ao, acap, rfl, hlen, hrng, hcc⟩ := hv
  have HC := Lib.hid hcc; clear hcc
  have HRNG := Lib.hid hrng; clear hrng
  go_enter Try.func16, Try.ntmps16
  go_wp2_with fail
  refine (slabAlive_any _).mono ?_
  rintro e w1 ⟨rfl, hB1⟩
  have hz1 := hB1.size
  go_wp2_with fail
  refine (new_any T HT.out _).mono ?_
  rintro e w2 ⟨rfl, hm2, hb2⟩
  have hB2 := Below.step hB1 hB1.size hb2
  obtain ⟨b, hb⟩ : ∃ b, b = w1.heap.size := ⟨_, rfl⟩
  rw [← hb] at hm2 hz1 ⊢
  clear hb hb2
  have HM2 := Lib.hid hm2; clear hm2
  by_cases hlong : 200 < l.length
  · have hlong' : (200 : Int) < (l.length : Int) := by omega
    go_wp2
    go_ret
    exact ⟨rfl, hB2⟩
  have hlong' : ¬ (200 : Int) < (l.length : Int) := by omega
  go_wp2_with fail
  go_loopw [35] (fun i wr => ∃ (k : Nat) (st : Nat → Nat), k ≤ l.length ∧ i = .int .i64 k ∧ Hid (MapAt wr b st) ∧ Below w.heap.size w wr)
    (fun i _ => l.length - (intOf i).toNat)
  case atStart => exact ⟨0, _, Nat.zero_le _, rfl, HM2, hB2⟩
  case round =>
    clear HM2 hB2
    obtain ⟨k, st, hk, rfl, HM, hbel⟩ := hrel
    by_cases hlt : k < l.length
    · obtain ⟨g, o, rfl, hbs, hcell⟩ := HC.out (by intro h; simp [h] at hlt)
      obtain ⟨h1, h2⟩ := span_cells hbs hcell hbel hlt
      clear hcell
      have hr := HRNG.out _ (List.getElem_mem hlt)
      obtain ⟨x, hx⟩ : ∃ x, l[k].1 = x := ⟨_, rfl⟩
      obtain ⟨n, hn⟩ : ∃ x, l[k].2 = x := ⟨_, rfl⟩
      rw [hx] at h1
      rw [hn] at h2 hr
      have HN : Hid (inI64 n) := hr.2
      clear hr hx hn
      obtain ⟨We, hWe⟩ : ∃ W, W = wr.alloc (.cells #[.int .i64 x, .int .i64 n] 39) := ⟨_, rfl⟩
      have hmE : MapAt We b st := by rw [hWe]; exact RowAt.alloc_old HM.out _
      have hBE : Below w.heap.size w We := by rw [hWe]; exact hbel.alloc hbel.size _
      have HME := Lib.hid hmE; clear hmE
      have HWE := Lib.hid hWe
      obtain ⟨p0, p1⟩ := two_new wr (.int .i64 x) (.int .i64 n) 39
      rw [← hWe] at p0 p1
      have hse : We.heap.size = wr.heap.size + 1 := by rw [hWe]; simp
      clear hWe
      go_wp2_with fail
      rw [← HWE.out]
      clear HWE
      obtain ⟨E, hE⟩ : ∃ E, E = wr.heap.size := ⟨_, rfl⟩
      have hbE : b ≠ E := by have := HM.out.lt; omega
      rw [← hE] at p0 p1 hse ⊢
      clear hE
      refine (take_any b st n HN.out _ HME.out).mono ?_
      rintro e w3 ⟨rfl, hm3, hb3⟩
      have hB3 := hBE.trans (hb3.below hz1 hBE.size)
      have q0 : w3.cell? ⟨E, 0, none⟩ = some (.int .i64 x) := (World.cell?_of_block (hb3.block E (by omega) (Ne.symm hbE))).trans p0
      have q1 : w3.cell? ⟨E, 1, none⟩ = some (.int .i64 n) := (World.cell?_of_block (hb3.block E (by omega) (Ne.symm hbE))).trans p1
      have HM3 := Lib.hid hm3; clear hm3 hb3
      clear h1 h2 p0 p1 hse
      obtain ⟨tc, htc⟩ : ∃ t, turnC st n 1 = t := ⟨_, rfl⟩
      rw [htc]
      clear htc
      by_cases hx4 : x = 4
      · have hx4' : ((x : Int) == 4) = true := by rw [beq_iff_eq]; exact hx4
        have HX4 := Lib.hid hx4; clear hx4
        go_wp2_with fail
        refine (later_any b _ n HN.out _ HM3.out).mono ?_
        rintro e w4 ⟨rfl, hm4, hb4⟩
        have hB4 := hB3.trans (hb4.below hz1 hB3.size)
        have HM4 := Lib.hid hm4; clear hm4 hb4 q0 q1
        obtain ⟨td, htd⟩ : ∃ t, turnC (turnN st n 1 2) n 2 = t := ⟨_, rfl⟩
        rw [htd]
        clear htd
        go_wp2
        go_roundw
        case rel => exact ⟨k + 1, _, by omega, by go_num, HM4, hB4⟩
        case measure => simp [intOf]; omega
      · have hx4' : ((x : Int) == 4) = false := by rw [beq_eq_false_iff_ne]; exact hx4
        clear hx4
        go_wp2
        go_roundw
        case rel => exact ⟨k + 1, _, by omega, by go_num, HM3, hB3⟩
        case measure => simp [intOf]; omega
    · have hle : ¬ (k : Int) < (l.length : Int) := by omega
      clear hlt
      have hzr := hbel.size
      have hblt : b < wr.heap.size := HM.out.lt
      have hcl : countN st ≤ 1024 := by rw [countN_eq]; exact cntTo_le _ _ _
      obtain ⟨N, hN⟩ : ∃ N, N = countN st := ⟨_, rfl⟩
      rw [← hN] at hcl
      have HNN := Lib.hid hN; clear hN
      go_wp2_with fail
      refine (count_map b st _ HM.out).mono ?_
      rw [← HNN.out]
      rintro e w3 ⟨rfl, rfl⟩
      go_wp2_with fail
      go_loop [9, 10] (fun v i => ∃ (q s : Nat), q ≤ 16 ∧ i = .int .i64 q ∧ v = .int .i64 s ∧ Hid (s = sumTo st q)) (fun _ i => 16 - (intOf i).toNat)
      case atStart => exact ⟨0, 0, by omega, rfl, rfl, rfl⟩
      case round =>
        obtain ⟨q, s, hq, rfl, rfl, HS⟩ := hrel
        by_cases hlt : q < 16
        · have hi1 : (q : Int) < 16 := by omega
          have hsm : s ≤ 1024 := by have h1 := HS.out; have h2 := sumTo_le st q; omega
          have hrl := roomN_le st q
          have hrq := roomR_nat st hlt
          have HS2 : Hid (s + roomN st q = sumTo st (q + 1)) := by unfold Hid; rw [HS.out]; rfl
          obtain ⟨r, hr⟩ : ∃ r, roomN st q = r := ⟨_, rfl⟩
          rw [hr] at hrq HS2 hrl
          have HRQ := Lib.hid hrq; clear hrq hr
          go_wp2_with fail
          refine (room_is (r : Int) b st _ HRQ.out _ HM.out).mono ?_
          rintro e w5 ⟨rfl, rfl⟩
          go_wp2
          go_round
          case rel => exact ⟨q + 1, s + r, by omega, by go_num, by go_num, HS2.out⟩
          case measure => simp [intOf]; omega
        · obtain rfl : q = 16 := by omega
          have hge : ¬ ((16 : Nat) : Int) < 16 := by omega
          obtain rfl : s = N := by rw [HS.out, HNN.out]; rfl
          obtain ⟨mc1, mc2⟩ := manyN_count st (k := s) (by rw [← HNN.out]; exact Nat.le_refl _)
          have hO : manyO st (s : Nat) = some (manyN st s) := by unfold manyO; rw [if_pos (by rw [← HNN.out]; exact Int.le_refl _), Int.toNat_natCast]
          have hL : manyL st (s : Nat) = (manyN st s).1 := by unfold manyL; rw [hO]; rfl
          have hS : manyS st (s : Nat) = (manyN st s).2 := by unfold manyS; rw [hO]; rfl
          have hC : codeM (manyO st (s : Nat)) = 0 := by rw [hO]; rfl
          obtain ⟨st2, hst2⟩ : ∃ x, (manyN st s).2 = x := ⟨_, rfl⟩
          rw [hst2] at hS mc1
          have hc0 : countN st2 = 0 := by have := HNN.out; omega
          have hno : allocN st2 = none := (allocN_none_iff st2).2 hc0
          obtain ⟨e1, e2, e3⟩ := alloc_none hno
          have hO2 : manyO st2 1 = none := by unfold manyO; rw [if_neg (by rw [hc0]; decide)]
          have hS2 : manyS st2 1 = st2 := by unfold manyS; rw [hO2]; rfl
          have hC2 : codeM (manyO st2 1) = 71 := by rw [hO2]; rfl
          have ST2 := Lib.hid hst2; clear hst2
          have ML := Lib.hid hL; clear hL
          have MS := Lib.hid hS; clear hS
          have MC := Lib.hid hC; clear hC hO
          have MC2 := Lib.hid hC2; clear hC2 hO2
          have MS2 := Lib.hid hS2; clear hS2
          have E1 := Lib.hid e1; clear e1
          have E2 := Lib.hid e2; clear e2
          have E3 := Lib.hid e3; clear e3 hno
          have HC0 := Lib.hid hc0; clear hc0 mc1
          have MLEN := Lib.hid mc2; clear mc2
          clear HS
          go_wp2_with fail
          refine (copy_any b st _ HM.out).mono ?_
          rintro e w4 ⟨rfl, hm4, hb4⟩
          have hB4 := Below.step hbel hzr hb4
          obtain ⟨c, hc⟩ : ∃ c, c = wr.heap.size := ⟨_, rfl⟩
          rw [← hc] at hm4 hblt ⊢
          have hcw : w.heap.size ≤ c := by omega
          have HMC := Lib.hid hm4; clear hm4 hc
          have HMB := Lib.hid (HM.out.below hb4)
          clear hb4 HM hbel
          go_wp2_with fail
          refine (many_any c st (s : Nat) (by unfold inI64; omega) _ HMC.out).mono ?_
          rw [MC.out, ML.out, MS.out, MLEN.out]
          rintro e w5 ⟨v, rfl, hv, hm5, hb5⟩
          have hB5 := hB4.trans (hb5.below hcw hB4.size)
          have HMB5 := Lib.hid (HMB.out.of_but hb5 (by omega))
          have HMC5 := Lib.hid hm5; clear hm5 hb5 HMB HMC hB4
          obtain ⟨va, vc, rfl⟩ : ∃ a c, v = .slice a s c := by
            rcases owns_shape hv with ⟨h, h0⟩ | ⟨g, cap, h, _⟩
            · subst h0; exact ⟨_, _, h⟩
            · exact ⟨_, _, h⟩
          clear hv
          go_wp2_with fail
          refine (count_map c st2 _ HMC5.out).mono ?_
          rw [HC0.out]
          rintro e w6 ⟨rfl, rfl⟩
          go_wp2_with fail
          refine (count_map b st _ HMB5.out).mono ?_
          rw [← HNN.out]
          rintro e w7 ⟨rfl, rfl⟩
          have HMB0 : Hid (MapAt w5 b (manyN st 0).2) := HMB5.out
          clear HMB5
          go_wp2_with fail
          go_loopw [96] (fun i wr2 => ∃ j : Nat, j ≤ s ∧ i = .int .i64 j ∧ Hid (MapAt wr2 b (manyN st j).2) ∧ Hid (MapAt wr2 c st2) ∧ Below w.heap.size w wr2) (fun i _ => s - (intOf i).toNat)
          case atStart => exact ⟨0, Nat.zero_le _, rfl, HMB0, HMC5, hB5⟩
          case round =>
            clear HMB0 HMC5 hB5
            obtain ⟨j, hj, rfl, HMJ, HMC, hB6⟩ := hrel
            by_cases hjl : j < s
            · have hjl' : (j : Int) < (s : Int) := by omega
              obtain ⟨h1, _⟩ := manyN_count st (k := j) (by have := HNN.out; omega)
              obtain ⟨x, hx⟩ := allocN_pos (st := (manyN st j).2) (by have := HNN.out; omega)
              have hstep : (manyN st (j + 1)).2 = putN (manyN st j).2 x 2 := by rw [manyN_step st hx]
              obtain ⟨f1, f2, f3⟩ := alloc_some hx
              have F1 := Lib.hid f1; clear f1
              have F2 := Lib.hid f2; clear f2
              have F3 := Lib.hid (f3.trans hstep.symm); clear f3 hstep hx h1
              go_wp2_with fail
              refine (alloc_any b _ _ HMJ.out).mono ?_
              rw [F1.out, F2.out, F3.out]
              rintro e w8 ⟨rfl, hm8, hb8⟩
              have hB8 := hB6.trans (hb8.below hz1 hB6.size)
              have HMC8 := Lib.hid (HMC.out.of_but hb8 (by omega))
              have HM8 := Lib.hid hm8; clear hm8 hb8
              go_wp2
              go_roundw
              case rel => exact ⟨j + 1, by omega, by go_num, HM8, HMC8, hB8⟩
              case measure => simp [intOf]; omega
            · obtain rfl : j = s := by omega
              have hjl' : ¬ (j : Int) < (j : Int) := by omega
              have hmj := HMJ.out
              rw [ST2.out] at hmj
              have HMK := Lib.hid hmj; clear hmj
              go_wp2_with fail
              refine (alloc_any b st2 _ HMK.out).mono ?_
              rw [E1.out, E2.out, E3.out]
              rintro e w8 ⟨rfl, hm8, hb8⟩
              have hB8 := hB6.trans (hb8.below hz1 hB6.size)
              have HMC8 := Lib.hid (HMC.out.of_but hb8 (by omega))
              have HM8 := Lib.hid hm8; clear hm8 hb8
              go_wp2_with fail
              refine (many_any c st2 1 (by unfold inI64; omega) _ HMC8.out).mono ?_
              rw [MC2.out, MS2.out]
              rintro e w9 ⟨v9, rfl, _, hm9, hb9⟩
              have hB9 := hB8.trans (hb9.below hcw hB8.size)
              have HM9 := Lib.hid (HM8.out.of_but hb9 (by omega))
              have HMC9 := Lib.hid hm9; clear hm9 hb9
              go_wp2_with fail
              refine (taken_any b st2 _ HM9.out).mono ?_
              rintro e w10 ⟨r10, rfl, hr10, hb10⟩
              have hB10 := Below.step hB9 hB9.size hb10
              have HMC10 := Lib.hid (HMC9.out.below hb10)
              have HR10 := Lib.hid hr10; clear hr10 hb10
              go_wp2_with fail
              refine (taken_any c st2 _ HMC10.out).mono ?_
              rintro e w11 ⟨r11, rfl, hr11, hb11⟩
              have hB11 := Below.step hB10 hB10.size hb11
              have HR := Lib.hid (show OwnSp w11 _ r10 _ from owns_below HR10.out hb11)
              have HR11 := Lib.hid hr11; clear hr11 hb11
              go_wp2_with fail
              refine (same_is true _ _ _ _ (decide_eq_true rfl) _ (setN_own HR.out) (setN_own HR11.out)).mono ?_
              rintro e w12 ⟨rfl, hb12⟩
              have hB12 := Below.step hB11 hB11.size hb12
              go_wp2
              go_ret
              exact ⟨rfl, hB12⟩

theorem slabFull_holds : Rows.SlabFullSaid := slabFull_of slabFull_walk

end Go.Proofs.Ytaeklmnleampcaa
