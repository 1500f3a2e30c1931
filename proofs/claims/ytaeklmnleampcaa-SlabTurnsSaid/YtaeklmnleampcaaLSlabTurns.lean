/- What is taken and freed leaves all as it was; what is freed for later and committed, too. No condition. -/
import Derived.Test.YtaeklmnleampcaaSk
import Derived.Test.YtaeklmnleampcaaFSlabTurns
namespace Go.Proofs.Ytaeklmnleampcaa
open Go.RowKit

theorem turnN_no3 {st : Nat → Nat} (h : ∀ j, st j ≠ 3) {i : Int} {s v : Nat} (hv : v ≠ 3) : ∀ j, turnN st i s v j ≠ 3 := by
  intro j
  unfold turnN
  split
  · unfold putN
    split
    · exact hv
    · exact h j
  · exact h j

set_option maxRecDepth 100000 in
set_option maxHeartbeats 16000000 in
theorem slabTurns_walk : SlabTurnsWalk := by
  intro w T v l n hT hv _ _ hn
  have HNI := Lib.hid hn; clear hn
  have HT := Lib.hid hT; clear hT
  obtain ⟨ao, acap, rfl, hlen, hrng, hcc⟩ := hv
  have HC := Lib.hid hcc; clear hcc
  have HRNG := Lib.hid hrng; clear hrng
  go_enter Try.func15, Try.ntmps15
  go_wp2_with fail
  refine (slabAlive_any _).mono ?_
  rintro e w1 ⟨rfl, hB1⟩
  have hz1 := hB1.size
  go_wp2_with fail
  refine (new_any T HT.out _).mono ?_
  rintro e w2 ⟨rfl, hm2, hb2⟩
  have hB2 := Below.step hB1 hB1.size hb2
  obtain ⟨b, hb⟩ : ∃ b, b = w1.heap.size := ⟨_, rfl⟩
  rw [← hb] at hm2 hz1 ⊢
  clear hb hb2
  have HM2 := Lib.hid hm2; clear hm2
  by_cases hlong : 100 < l.length
  · have hlong' : (100 : Int) < (l.length : Int) := by omega
    go_wp2
    go_ret
    exact ⟨rfl, hB2⟩
  have hlong' : ¬ (100 : Int) < (l.length : Int) := by omega
  go_wp2_with fail
  go_loopw [28] (fun i wr => ∃ (k : Nat) (st : Nat → Nat), k ≤ l.length ∧ i = .int .i64 k ∧ Hid (MapAt wr b st) ∧ Hid (∀ j, st j ≠ 3) ∧ Below w.heap.size w wr)
    (fun i _ => l.length - (intOf i).toNat)
  case atStart => exact ⟨0, _, Nat.zero_le _, rfl, HM2, fun j => by rcases newN_01 T j with h | h <;> rw [h] <;> decide, hB2⟩
  case round =>
    clear HM2 hB2
    obtain ⟨k, st, hk, rfl, HM, H3, hbel⟩ := hrel
    by_cases hlt : k < l.length
    · obtain ⟨g, o, rfl, hbs, hcell⟩ := HC.out (by intro h; simp [h] at hlt)
      obtain ⟨h1, h2⟩ := span_cells hbs hcell hbel hlt
      clear hcell
      have hr := HRNG.out _ (List.getElem_mem hlt)
      obtain ⟨x, hx⟩ : ∃ x, l[k].1 = x := ⟨_, rfl⟩
      obtain ⟨y, hn⟩ : ∃ x, l[k].2 = x := ⟨_, rfl⟩
      rw [hx] at h1
      rw [hn] at h2 hr
      have HN : Hid (inI64 y) := hr.2
      clear hr hx hn
      obtain ⟨We, hWe⟩ : ∃ W, W = wr.alloc (.cells #[.int .i64 x, .int .i64 y] 39) := ⟨_, rfl⟩
      have hmE : MapAt We b st := by rw [hWe]; exact RowAt.alloc_old HM.out _
      have hBE : Below w.heap.size w We := by rw [hWe]; exact hbel.alloc hbel.size _
      have HME := Lib.hid hmE; clear hmE
      have HWE := Lib.hid hWe; clear hWe
      go_wp2_with fail
      rw [← HWE.out]
      refine (take_any b st y HN.out _ HME.out).mono ?_
      rintro e w3 ⟨rfl, hm3, hb3⟩
      have hB3 := hBE.trans (hb3.below hz1 hBE.size)
      have HM3 := Lib.hid hm3; clear hm3 hb3
      clear h1 h2 HWE
      obtain ⟨tc, htc⟩ : ∃ t, turnC st y 1 = t := ⟨_, rfl⟩
      rw [htc]
      clear htc
      go_wp2
      go_roundw
      case rel => exact ⟨k + 1, _, by omega, by go_num, HM3, turnN_no3 H3.out (by decide), hB3⟩
      case measure => simp [intOf]; omega
    · have hle : ¬ (k : Int) < (l.length : Int) := by omega
      clear hlt
      go_wp2_with fail
      refine (taken_any b st _ HM.out).mono ?_
      rintro e w3 ⟨was, rfl, hw3, hb3⟩
      have hB3 := Below.step hbel hbel.size hb3
      have HM3 := Lib.hid (HM.out.below hb3)
      have HW3 := Lib.hid hw3; clear hw3 hb3 HM
      clear hbel
      have hcl : countN st ≤ 1024 := by rw [countN_eq]; exact cntTo_le _ _ _
      obtain ⟨C, hC⟩ : ∃ C, countN st = C := ⟨_, rfl⟩
      rw [hC] at hcl
      have HCC := Lib.hid hC; clear hC
      go_wp2_with fail
      refine (count_map b st _ HM3.out).mono ?_
      rw [HCC.out]
      rintro e w4 ⟨rfl, rfl⟩
      rcases turn_cases st n 1 2 with ⟨q, rfl, hq, hs, t1, t2⟩ | ⟨hno, t1, t2⟩
      · -- it was free
        obtain ⟨f1, f2⟩ := turn_yes (st := putN st q 2) (k := q) (s := 2) (v := 1) hq (putN_same st q 2)
        obtain ⟨l1, l2⟩ := turn_yes (st := putN st q 2) (k := q) (s := 2) (v := 3) hq (putN_same st q 2)
        have hc1 := countN_put st (i := q) 2 hq
        have hc3 := countN_put st (i := q) 3 hq
        rw [if_pos hs, if_neg (by decide)] at hc1 hc3
        rw [HCC.out] at hc1 hc3
        have hback : putN (putN st q 2) q 1 = st := by rw [putN_putN]; exact putN_self hs
        have hthree : putN (putN st q 2) q 3 = putN st q 3 := putN_putN _ _ _ _
        have hcom : commitN (putN st q 3) = st := by
          funext j
          unfold commitN putN
          by_cases hj : j = q
          · subst hj; simp [hs]
          · simp only [if_neg hj]
            rw [if_neg (H3.out j)]
        have hw1 : setN (putN st q 3) 3 = [((q : Int), 1)] := setN_one hq (fun m hm => by
          unfold putN
          by_cases hmq : m = q
          · simp [hmq]
          · simp only [if_neg hmq]
            exact ⟨fun h => absurd h (H3.out m), fun h => absurd h hmq⟩)
        have hw0 : setN st 3 = [] := setN_none fun m _ => H3.out m
        obtain ⟨C', hC'⟩ : ∃ C', countN (putN st q 2) = C' := ⟨_, rfl⟩
        obtain ⟨C3, hC3⟩ : ∃ C', countN (putN st q 3) = C' := ⟨_, rfl⟩
        rw [hC'] at hc1
        rw [hC3] at hc3
        have T1 := Lib.hid t1; clear t1
        have T2 := Lib.hid t2; clear t2
        have F1 := Lib.hid f1; clear f1
        have F2 := Lib.hid (f2.trans hback); clear f2 hback
        have L1 := Lib.hid l1; clear l1
        have L2 := Lib.hid (l2.trans hthree); clear l2 hthree
        have HCOM := Lib.hid hcom; clear hcom
        have HW1 := Lib.hid hw1; clear hw1
        have HW0 := Lib.hid hw0; clear hw0
        have HCN := Lib.hid hC'; clear hC'
        have HCN3 := Lib.hid hC3; clear hC3
        have hs := Lib.hid hs
        have n1 : ((C' : Int) != (C : Int) - 1) = false := by rw [bne_eq_false_iff_eq]; omega
        have n2 : ((C3 : Int) != (C : Int) - 1) = false := by rw [bne_eq_false_iff_eq]; omega
        have hqi : inI64 (q : Int) := by unfold inI64; omega
        have HQI := Lib.hid hqi; clear hqi hc1 hc3
        go_wp2_with fail
        refine (take_any b st q HQI.out _ HM3.out).mono ?_
        rw [T1.out, T2.out]
        rintro e w5 ⟨rfl, hm5, hb5⟩
        have hB5 := hB3.trans (hb5.below hz1 hB3.size)
        have HW5 := Lib.hid (HW3.out.but HM3.out hb5)
        have HM5 := Lib.hid hm5; clear hm5 hb5
        go_wp2_with fail
        refine (count_map b _ _ HM5.out).mono ?_
        rw [HCN.out]
        rintro e w6 ⟨rfl, rfl⟩
        go_wp2_with fail
        refine (free_any b _ q HQI.out _ HM5.out).mono ?_
        rw [F1.out, F2.out]
        rintro e w7 ⟨rfl, hm7, hb7⟩
        have hB7 := hB5.trans (hb7.below hz1 hB5.size)
        have HW7 := Lib.hid (HW5.out.but HM5.out hb7)
        have HM7 := Lib.hid hm7; clear hm7 hb7
        go_wp2_with fail
        refine (count_map b _ _ HM7.out).mono ?_
        rw [HCC.out]
        rintro e w8 ⟨rfl, rfl⟩
        go_wp2_with fail
        refine (taken_any b _ _ HM7.out).mono ?_
        rintro e w9 ⟨r9, rfl, hr9, hb9⟩
        have hB9 := Below.step hB7 hB7.size hb9
        have HM9 := Lib.hid (HM7.out.below hb9)
        have HW9 := Lib.hid (show OwnSp w9 _ was _ from owns_below HW7.out hb9)
        have HR9 := Lib.hid hr9; clear hr9 hb9
        go_wp2_with fail
        refine (same_is true _ _ _ _ (decide_eq_true rfl) _ (setN_own HR9.out) (setN_own HW9.out)).mono ?_
        rintro e w10 ⟨rfl, hb10⟩
        have hB10 := Below.step hB9 hB9.size hb10
        have HM10 := Lib.hid (HM9.out.below hb10)
        have HW10 := Lib.hid (show OwnSp w10 _ was _ from owns_below HW9.out hb10)
        clear hb10
        go_wp2_with fail
        refine (take_any b st q HQI.out _ HM10.out).mono ?_
        rw [T1.out, T2.out]
        rintro e w11 ⟨rfl, hm11, hb11⟩
        have hB11 := hB10.trans (hb11.below hz1 hB10.size)
        have HW11 := Lib.hid (HW10.out.but HM10.out hb11)
        have HM11 := Lib.hid hm11; clear hm11 hb11
        go_wp2_with fail
        refine (later_any b _ q HQI.out _ HM11.out).mono ?_
        rw [L1.out, L2.out]
        rintro e w12 ⟨rfl, hm12, hb12⟩
        have hB12 := hB11.trans (hb12.below hz1 hB11.size)
        have HW12 := Lib.hid (HW11.out.but HM11.out hb12)
        have HM12 := Lib.hid hm12; clear hm12 hb12
        go_wp2_with fail
        refine (count_map b _ _ HM12.out).mono ?_
        rw [HCN3.out]
        rintro e w13 ⟨rfl, rfl⟩
        go_wp2_with fail
        refine (waiting_any b _ _ HM12.out).mono ?_
        rw [HW1.out]
        rintro e w14 ⟨r14, rfl, hr14, hb14⟩
        have hB14 := Below.step hB12 hB12.size hb14
        have HM14 := Lib.hid (HM12.out.below hb14)
        have HW14 := Lib.hid (show OwnSp w14 _ was _ from owns_below HW12.out hb14)
        obtain ⟨a14, c14, rfl⟩ := own_form hr14
        clear hr14 hb14
        go_wp2_with fail
        refine (commit_any b _ _ HM14.out).mono ?_
        rw [HCOM.out]
        rintro e w15 ⟨rfl, hm15, hb15⟩
        have hB15 := hB14.trans (hb15.below hz1 hB14.size)
        have HW15 := Lib.hid (HW14.out.but HM14.out hb15)
        have HM15 := Lib.hid hm15; clear hm15 hb15
        go_wp2_with fail
        refine (count_map b _ _ HM15.out).mono ?_
        rw [HCC.out]
        rintro e w16 ⟨rfl, rfl⟩
        go_wp2_with fail
        refine (taken_any b _ _ HM15.out).mono ?_
        rintro e w17 ⟨r17, rfl, hr17, hb17⟩
        have hB17 := Below.step hB15 hB15.size hb17
        have HM17 := Lib.hid (HM15.out.below hb17)
        have HW17 := Lib.hid (show OwnSp w17 _ was _ from owns_below HW15.out hb17)
        have HR17 := Lib.hid hr17; clear hr17 hb17
        go_wp2_with fail
        refine (same_is true _ _ _ _ (decide_eq_true rfl) _ (setN_own HR17.out) (setN_own HW17.out)).mono ?_
        rintro e w18 ⟨rfl, hb18⟩
        have hB18 := Below.step hB17 hB17.size hb18
        have HM18 := Lib.hid (HM17.out.below hb18)
        clear hb18
        go_wp2_with fail
        refine (waiting_any b _ _ HM18.out).mono ?_
        rw [HW0.out]
        rintro e w19 ⟨r19, rfl, hr19, hb19⟩
        have hB19 := Below.step hB18 hB18.size hb19
        obtain ⟨a19, c19, rfl⟩ := own_form hr19
        clear hr19 hb19
        go_wp2
        go_ret
        exact ⟨rfl, hB19⟩
      · have T1 := Lib.hid t1; clear t1
        have T2 := Lib.hid t2; clear t2
        clear hno
        go_wp2_with fail
        refine (take_any b st n HNI.out _ HM3.out).mono ?_
        rw [T1.out, T2.out]
        rintro e w5 ⟨rfl, hm5, hb5⟩
        have hB5 := hB3.trans (hb5.below hz1 hB3.size)
        have HW5 := Lib.hid (HW3.out.but HM3.out hb5)
        have HM5 := Lib.hid hm5; clear hm5 hb5
        go_wp2_with fail
        refine (count_map b _ _ HM5.out).mono ?_
        rw [HCC.out]
        rintro e w6 ⟨rfl, rfl⟩
        go_wp2_with fail
        refine (taken_any b _ _ HM5.out).mono ?_
        rintro e w9 ⟨r9, rfl, hr9, hb9⟩
        have hB9 := Below.step hB5 hB5.size hb9
        have HW9 := Lib.hid (show OwnSp w9 _ was _ from owns_below HW5.out hb9)
        have HR9 := Lib.hid hr9; clear hr9 hb9
        go_wp2_with fail
        refine (same_is true _ _ _ _ (decide_eq_true rfl) _ (setN_own HR9.out) (setN_own HW9.out)).mono ?_
        rintro e w10 ⟨rfl, hb10⟩
        have hB10 := Below.step hB9 hB9.size hb10
        go_wp2
        go_ret
        exact ⟨rfl, hB10⟩

theorem slabTurns_holds : Rows.SlabTurnsSaid := slabTurns_of slabTurns_walk

end Go.Proofs.Ytaeklmnleampcaa
