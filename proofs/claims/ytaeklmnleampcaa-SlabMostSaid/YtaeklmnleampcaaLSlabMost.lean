/- What a map gives lies in a slab that had the most room, and is the lowest that was free there. No condition. -/
import Derived.Test.YtaeklmnleampcaaSk
import Derived.Test.YtaeklmnleampcaaFSlabMost
namespace Go.Proofs.Ytaeklmnleampcaa
open Go.RowKit

set_option maxRecDepth 100000 in
set_option maxHeartbeats 8000000 in
theorem slabMost_walk : SlabMostWalk := by
  intro w T v l hT hv _ _
  have HT := Lib.hid hT; clear hT
  obtain ⟨ao, acap, rfl, hlen, hrng, hcc⟩ := hv
  have HC := Lib.hid hcc; clear hcc
  have HRNG := Lib.hid hrng; clear hrng
  go_enter Try.func5, Try.ntmps5
  go_wp2_with fail
  refine (slabAlive_any _).mono ?_
  rintro e w1 ⟨rfl, hB1⟩
  have hz1 := hB1.size
  go_wp2_with fail
  refine (new_any T HT.out _).mono ?_
  rintro e w2 ⟨rfl, hm2, hb2⟩
  have hB2 := Below.step hB1 hB1.size hb2
  obtain ⟨b, hb⟩ : ∃ b, b = w1.heap.size := ⟨_, rfl⟩
  rw [← hb] at hm2 hz1 ⊢
  clear hb hb2
  have HM2 := Lib.hid hm2; clear hm2
  by_cases hlong : 100 < l.length
  · have hlong' : (100 : Int) < (l.length : Int) := by omega
    go_wp2
    go_ret
    exact ⟨rfl, hB2⟩
  have hlong' : ¬ (100 : Int) < (l.length : Int) := by omega
  go_wp2_with fail
  go_loopw [28] (fun i wr => ∃ (k : Nat) (st : Nat → Nat), k ≤ l.length ∧ i = .int .i64 k ∧ Hid (MapAt wr b st) ∧ Below w.heap.size w wr)
    (fun i _ => l.length - (intOf i).toNat)
  case atStart => exact ⟨0, _, Nat.zero_le _, rfl, HM2, hB2⟩
  case round =>
    clear HM2 hB2
    obtain ⟨k, st, hk, rfl, HM, hbel⟩ := hrel
    by_cases hlt : k < l.length
    · obtain ⟨g, o, rfl, hbs, hcell⟩ := HC.out (by intro h; simp [h] at hlt)
      obtain ⟨h1, h2⟩ := span_cells hbs hcell hbel hlt
      clear hcell
      have hr := HRNG.out _ (List.getElem_mem hlt)
      obtain ⟨x, hx⟩ : ∃ x, l[k].1 = x := ⟨_, rfl⟩
      obtain ⟨n, hn⟩ : ∃ x, l[k].2 = x := ⟨_, rfl⟩
      rw [hx] at h1
      rw [hn] at h2 hr
      have HN : Hid (inI64 n) := hr.2
      clear hr hx hn
      obtain ⟨We, hWe⟩ : ∃ W, W = wr.alloc (.cells #[.int .i64 x, .int .i64 n] 39) := ⟨_, rfl⟩
      have hmE : MapAt We b st := by rw [hWe]; exact RowAt.alloc_old HM.out _
      have hBE : Below w.heap.size w We := by rw [hWe]; exact hbel.alloc hbel.size _
      have HME := Lib.hid hmE; clear hmE
      have HWE := Lib.hid hWe; clear hWe
      go_wp2_with fail
      rw [← HWE.out]
      refine (take_any b st n HN.out _ HME.out).mono ?_
      rintro e w3 ⟨rfl, hm3, hb3⟩
      have hB3 := hBE.trans (hb3.below hz1 hBE.size)
      have HM3 := Lib.hid hm3; clear hm3 hb3
      clear h1 h2 HWE
      obtain ⟨tc, htc⟩ : ∃ t, turnC st n 1 = t := ⟨_, rfl⟩
      rw [htc]
      clear htc
      go_wp2
      go_roundw
      case rel => exact ⟨k + 1, _, by omega, by go_num, HM3, hB3⟩
      case measure => simp [intOf]; omega
    · have hle : ¬ (k : Int) < (l.length : Int) := by omega
      clear hlt
      have hzr := hbel.size
      have hblt : b < wr.heap.size := HM.out.lt
      go_wp2_with fail
      refine (copy_any b st _ HM.out).mono ?_
      rintro e w3 ⟨rfl, hm3, hb3⟩
      have hB3 := Below.step hbel hzr hb3
      obtain ⟨c, hc⟩ : ∃ c, c = wr.heap.size := ⟨_, rfl⟩
      rw [← hc] at hm3 hblt ⊢
      have HCW := Lib.hid hc; clear hc
      have hcw : w.heap.size ≤ c := by have := HCW.out; omega
      have HMC := Lib.hid hm3; clear hm3
      have HMB := Lib.hid (HM.out.below hb3)
      have hclt : c < w3.heap.size := HMC.out.lt
      clear hb3 HM hbel
      obtain ⟨R, hR⟩ : ∃ R, allocN st = R := ⟨_, rfl⟩
      have HR := Lib.hid hR; clear hR
      cases R with
      | none =>
        obtain ⟨e1, e2, e3⟩ := alloc_none HR.out
        have hcn : countN st = 0 := (allocN_none_iff st).1 HR.out
        have E1 := Lib.hid e1; clear e1
        have E2 := Lib.hid e2; clear e2
        have E3 := Lib.hid e3; clear e3
        have HCN := Lib.hid hcn; clear hcn
        go_wp2_with fail
        refine (alloc_any b st _ HMB.out).mono ?_
        rw [E1.out, E2.out, E3.out]
        rintro e w4 ⟨rfl, hm4, hb4⟩
        have hB4 := hB3.trans (hb4.below hz1 hB3.size)
        have HMC4 := Lib.hid (HMC.out.of_but hb4 (by omega))
        clear hm4 hb4
        go_wp2_with fail
        refine (count_map c st _ HMC4.out).mono ?_
        rw [HCN.out]
        rintro e w5 ⟨rfl, rfl⟩
        go_wp2
        go_ret
        exact ⟨rfl, hB4⟩
      | some i =>
        obtain ⟨e1, e2, e3⟩ := alloc_some HR.out
        obtain ⟨hi1, hi2, hi3, hi4⟩ := allocN_some HR.out
        have E1 := Lib.hid e1; clear e1
        have E2 := Lib.hid e2; clear e2
        have E3 := Lib.hid e3; clear e3
        have HI2 := Lib.hid hi2; clear hi2
        have HI3 := Lib.hid hi3; clear hi3
        have HI4 := Lib.hid hi4; clear hi4
        go_wp2_with fail
        refine (alloc_any b st _ HMB.out).mono ?_
        rw [E1.out, E2.out, E3.out]
        rintro e w4 ⟨rfl, hm4, hb4⟩
        have hB4 := hB3.trans (hb4.below hz1 hB3.size)
        have HMC4 := Lib.hid (HMC.out.of_but hb4 (by omega))
        have hc4 : c < w4.heap.size := HMC4.out.lt
        clear hm4 hb4 HMC HMB hB3
        have hq16 : i / 64 < 16 := by omega
        have hrb : roomR st ((i : Int) / 64) = (roomN st (i / 64) : Nat) := by
          rw [show (i : Int) / 64 = ((i / 64 : Nat) : Int) from by omega]; exact roomR_nat st hq16
        obtain ⟨rb, hrbb⟩ : ∃ r, roomN st (i / 64) = r := ⟨_, rfl⟩
        rw [hrbb] at hrb
        have HRB := Lib.hid hrb; clear hrb
        have HRBB := Lib.hid hrbb; clear hrbb
        go_wp2_with fail
        go_loop [11] (fun x => ∃ k : Nat, k ≤ 16 ∧ x = .int .i64 k) (fun x => 16 - (intOf x).toNat)
        case atStart => exact ⟨0, by omega, rfl⟩
        case round =>
          obtain ⟨k, hk, rfl⟩ := hrel
          by_cases hlt : k < 16
          · have hk16 : (k : Int) < 16 := by omega
            have hrk := roomR_nat st hlt
            have hmx := bestN_max st (j := k) hlt
            have hft := bestN_first st (j := k)
            rw [← HI3.out, HRBB.out] at hmx
            rw [← HI3.out, HRBB.out] at hft
            obtain ⟨rk, hrkk⟩ : ∃ r, roomN st k = r := ⟨_, rfl⟩
            rw [hrkk] at hrk hmx hft
            have HRK := Lib.hid hrk; clear hrk hrkk
            have hgt : ¬ (rb : Int) < (rk : Int) := by omega
            have HFT := Lib.hid hft; clear hft hmx
            by_cases heq : rk = rb
            · have hnl : ¬ (k : Int) < (i : Int) / 64 := by
                intro h
                have := HFT.out (by omega)
                omega
              have heq' : ((rk : Int) == (rb : Int)) = true := by rw [beq_iff_eq]; omega
              have HEQ := Lib.hid heq; clear heq
              go_wp2_with fail
              refine (room_is (rk : Int) c st _ HRK.out _ HMC4.out).mono ?_
              rintro e w5 ⟨rfl, rfl⟩
              go_wp2_with fail
              refine (room_is (rb : Int) c st _ HRB.out _ HMC4.out).mono ?_
              rintro e w5 ⟨rfl, rfl⟩
              go_wp2_with fail
              refine (room_is (rk : Int) c st _ HRK.out _ HMC4.out).mono ?_
              rintro e w5 ⟨rfl, rfl⟩
              go_wp2_with fail
              refine (room_is (rb : Int) c st _ HRB.out _ HMC4.out).mono ?_
              rintro e w5 ⟨rfl, rfl⟩
              go_wp2
              go_round
              case rel => exact ⟨k + 1, by omega, by go_num⟩
              case measure => simp [intOf]; omega
            · have heq' : ((rk : Int) == (rb : Int)) = false := by rw [beq_eq_false_iff_ne]; omega
              clear heq
              go_wp2_with fail
              refine (room_is (rk : Int) c st _ HRK.out _ HMC4.out).mono ?_
              rintro e w5 ⟨rfl, rfl⟩
              go_wp2_with fail
              refine (room_is (rb : Int) c st _ HRB.out _ HMC4.out).mono ?_
              rintro e w5 ⟨rfl, rfl⟩
              go_wp2_with fail
              refine (room_is (rk : Int) c st _ HRK.out _ HMC4.out).mono ?_
              rintro e w5 ⟨rfl, rfl⟩
              go_wp2_with fail
              refine (room_is (rb : Int) c st _ HRB.out _ HMC4.out).mono ?_
              rintro e w5 ⟨rfl, rfl⟩
              go_wp2
              go_round
              case rel => exact ⟨k + 1, by omega, by go_num⟩
              case measure => simp [intOf]; omega
          · obtain rfl : k = 16 := by omega
            have hge : ¬ ((16 : Nat) : Int) < 16 := by omega
            go_wp2_with fail
            go_loopw [12] (fun x wr => ∃ p : Nat, 64 * (i / 64) ≤ p ∧ p ≤ i ∧ x = .int .i64 p ∧ Hid (MapAt wr c st) ∧ Below w.heap.size w wr) (fun x _ => i - (intOf x).toNat)
            case atStart => exact ⟨64 * (i / 64), Nat.le_refl _, by omega, by go_num, HMC4, hB4⟩
            case round =>
              clear HMC4 hB4 hc4
              obtain ⟨p, hp0, hpi, rfl, HM5, hB5⟩ := hrel
              have hz5 := hB5.size
              have hc5 : c < wr.heap.size := HM5.out.lt
              by_cases hplt : p < i
              · have hpn : isB st (p : Int) 1 = false := by
                  rw [isB_nat st (by omega)]
                  exact decide_eq_false (HI4.out p (by rw [← HI3.out]; exact hp0) hplt)
                obtain ⟨t1, t2⟩ := turn_no (v := 2) hpn
                have TT1 := Lib.hid t1; clear t1
                have TT2 := Lib.hid t2; clear t2 hpn
                have hplt' : (p : Int) < (i : Int) := by omega
                go_wp2_with fail
                refine (copy_any c st _ HM5.out).mono ?_
                rintro e w6 ⟨rfl, hm6, hb6⟩
                have hB6 := Below.step hB5 hz5 hb6
                have HMC6 := Lib.hid (HM5.out.below hb6)
                obtain ⟨d, hd⟩ : ∃ d, d = wr.heap.size := ⟨_, rfl⟩
                rw [← hd] at hm6 hc5 ⊢
                have hdz : w.heap.size ≤ d := by omega
                clear hd hb6
                have HMD := Lib.hid hm6; clear hm6
                go_wp2_with fail
                refine (take_any d st p (by unfold inI64; omega) _ HMD.out).mono ?_
                rw [TT1.out]
                rintro e w7 ⟨rfl, hm7, hb7⟩
                have hB7 := hB6.trans (hb7.below hdz hB6.size)
                have HMC7 := Lib.hid (HMC6.out.of_but hb7 (by omega))
                clear hm7 hb7 HMC6 hB6
                go_wp2
                go_roundw
                case rel => exact ⟨p + 1, by omega, by omega, by go_num, HMC7, hB7⟩
                case measure => simp [intOf]; omega
              · obtain rfl : p = i := by omega
                have hplt' : ¬ (p : Int) < (p : Int) := by omega
                obtain ⟨t1, t2⟩ := turn_yes (v := 2) hi1 HI2.out
                have TT1 := Lib.hid t1; clear t1 t2
                go_wp2_with fail
                refine (take_any c st p (by unfold inI64; omega) _ HM5.out).mono ?_
                rw [TT1.out]
                rintro e w7 ⟨rfl, hm7, hb7⟩
                have hB7 := hB5.trans (hb7.below hcw hB5.size)
                clear hm7 hb7
                go_wp2
                go_ret
                exact ⟨rfl, hB7⟩

theorem slabMost_holds : Rows.SlabMostSaid := slabMost_of slabMost_walk

end Go.Proofs.Ytaeklmnleampcaa
