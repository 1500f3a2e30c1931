/- Walks of a map's Alloc, New, Copy and Commit. -/
import Derived.Test.YtaeklmnleampcaaSd
namespace Go.Proofs.Ytaeklmnleampcaa
open Go.RowKit

def allocI (st : Nat → Nat) : Int := match allocN st with | some i => (i : Nat) | none => 0
def allocC (st : Nat → Nat) : Int := match allocN st with | some _ => 0 | none => 71
def allocS (st : Nat → Nat) : Nat → Nat := match allocN st with | some i => putN st i 2 | none => st

theorem alloc_some {st : Nat → Nat} {i : Nat} (h : allocN st = some i) : allocI st = (i : Nat) ∧ allocC st = 0 ∧ allocS st = putN st i 2 := by
  unfold allocI allocC allocS; rw [h]; exact ⟨rfl, rfl, rfl⟩

theorem alloc_none {st : Nat → Nat} (h : allocN st = none) : allocI st = 0 ∧ allocC st = 71 ∧ allocS st = st := by
  unfold allocI allocC allocS; rw [h]; exact ⟨rfl, rfl, rfl⟩

set_option maxRecDepth 100000 in
set_option maxHeartbeats 8000000 in
theorem alloc_any (b : Nat) (st : Nat → Nat) (w : World) (hm : MapAt w b st) :
    Calls Try.prog 40 #[.pointer (some ⟨b, 0, none⟩)] w fun e w' => e = .returned (.tuple #[.int .i64 (allocI st), .int .i64 (allocC st)]) ∧ MapAt w' b (allocS st) ∧ But b w w' := by
  have HM := Lib.hid hm
  have hrg := rooms_range hm
  have HRG := Lib.hid hrg; clear hrg hm
  have hA : ∀ k, k < 16 → (arrOf 16 (roomsF st))[k]? = some (.int .i64 (roomN st k : Nat)) := by intro k hk; rw [arrOf_get, if_pos hk]; rfl
  have hAs : (arrOf 16 (roomsF st)).size = 16 := arrOf_size _ _
  obtain ⟨A, hAA⟩ : ∃ A, A = arrOf 16 (roomsF st) := ⟨_, rfl⟩
  rw [← hAA] at HRG hA hAs
  clear hAA
  have hAt : A.toList.toArray = A := by simp
  have HA := Lib.hid hA; clear hA
  obtain ⟨R, hR⟩ : ∃ R, allocN st = R := ⟨_, rfl⟩
  have HR := Lib.hid hR; clear hR
  go_enter Try.func40, Try.ntmps40
  go_wp2_with (refine wpList_load_mid (op := ⟨some 11, .load 102 (.tmp 10), _, _, _, none⟩) rfl 102 (.tmp 10) rfl b 1024 rfl A.toList _ HRG.out Try.underlying102 rfl (by rw [Array.length_toList, hAs]; exact size102) ?_; rw [hAt])
  clear hAs hAt
  go_loop [4, 12] (fun v i => ∃ (k s : Nat), k ≤ 16 ∧ i = .int .i64 k ∧ v = .int .i64 s ∧ s < 16 ∧ Hid (s = bestTo st k))
    (fun _ i => 16 - (intOf i).toNat)
  case atStart => exact ⟨0, 0, by omega, rfl, rfl, by omega, rfl⟩
  case round =>
    obtain ⟨k, s, hk, rfl, rfl, hs, HS⟩ := hrel
    by_cases hlt : k < 16
    · have hi1 : (k : Int) < 16 := by omega
      have hi2 : (s : Int) < 16 := by omega
      have hi3 : (0 : Int) ≤ (s : Int) := by omega
      have HAk := HA.out k hlt
      have hc := MapAt.room HM.out hs
      have HS2 : Hid (bestTo st (k + 1) = if roomN st s < roomN st k then k else s) := by unfold Hid; rw [HS.out]; rfl
      obtain ⟨r, hr⟩ : ∃ r, roomN st k = r := ⟨_, rfl⟩
      obtain ⟨q, hq⟩ : ∃ r, roomN st s = r := ⟨_, rfl⟩
      rw [hr, hq] at HS2
      rw [hr] at HAk
      rw [hq] at hc
      clear hr hq
      have hix := index102 A k r hlt HAk
      clear HAk
      by_cases hqr : q < r
      · have hqr' : (q : Int) < (r : Int) := by omega
        have HS3 : Hid (k = bestTo st (k + 1)) := by unfold Hid; rw [HS2.out, if_pos hqr]
        go_wp2
        go_round
        case rel => exact ⟨k + 1, k, by omega, by go_num, rfl, hlt, HS3.out⟩
        case measure => simp [intOf]; omega
      · have hqr' : ¬ (q : Int) < (r : Int) := by omega
        have HS3 : Hid (s = bestTo st (k + 1)) := by unfold Hid; rw [HS2.out, if_neg hqr]
        go_wp2
        go_round
        case rel => exact ⟨k + 1, s, by omega, by go_num, rfl, hs, HS3.out⟩
        case measure => simp [intOf]; omega
    · obtain rfl : k = 16 := by omega
      have HBS : Hid (s = bestN st) := HS.out
      have hge : ¬ ((16 : Nat) : Int) < 16 := by omega
      go_wp2_with fail
      go_loop [7] (fun i => ∃ (p j : Nat), p = 64 * s + j ∧ j ≤ 64 ∧ i = .int .i64 p ∧ Hid (∀ j', j' < j → st (64 * s + j') ≠ 1))
        (fun i => 64 * s + 64 - (intOf i).toNat)
      case atStart => exact ⟨64 * s, 0, rfl, by omega, by go_num, fun j' h => absurd h (Nat.not_lt_zero _)⟩
      case round =>
        obtain ⟨p, j, hp, hj, rfl, HN⟩ := hrel
        by_cases hjl : j < 64
        · have hp1 : (p : Int) < ((s : Int) + 1) * 64 := by omega
          have hp2 : p < 1024 := by omega
          have HP := Lib.hid hp; clear hp
          have hpi : inI64 (p : Int) := by unfold inI64; omega
          by_cases hf : st p = 1
          · have HRR : Hid (R = some p) := by
              unfold Hid
              rw [← HR.out, HP.out]
              unfold allocN
              rw [← HBS.out]
              exact firstFree_at HN.out (by rw [← HP.out]; exact hf) 64 hjl
            have hd : decide (0 ≤ (p : Int) ∧ (p : Int) < 1024 ∧ st (p : Int).toNat = 1) = true := decide_eq_true ⟨by omega, by omega, by rw [Int.toNat_natCast]; exact hf⟩
            have HD := Lib.hid hd; clear hd hf
            go_wp2_with fail
            refine (is_any b st p 1 _ HM.out hpi).mono ?_
            rw [HD.out]
            rintro e w1 ⟨rfl, rfl⟩
            go_wp2_with fail
            refine (set_any b st p 2 hp2 _ HM.out).mono ?_
            rintro e w2 ⟨rfl, hm2, hb2⟩
            have HM2 := Lib.hid hm2; clear hm2
            have HB2 := Lib.hid hb2; clear hb2
            go_wp2
            refine bodyPost_ret (v := .tuple #[.int .i64 p, .int .i64 0]) (by simp [results, Try.results40, go_sem]) rfl (by
              obtain ⟨e1, e2, e3⟩ := alloc_some (HR.out.trans HRR.out)
              rw [e1, e2, e3]
              exact ⟨rfl, HM2.out, HB2.out⟩)
          · have hd : decide (0 ≤ (p : Int) ∧ (p : Int) < 1024 ∧ st (p : Int).toNat = 1) = false := decide_eq_false (by rw [Int.toNat_natCast]; exact fun h => hf h.2.2)
            have HD := Lib.hid hd; clear hd
            have HN2 : Hid (∀ j', j' < j + 1 → st (64 * s + j') ≠ 1) := by
              intro j' hj'
              by_cases hjj : j' = j
              · subst hjj; rw [← HP.out]; exact hf
              · exact HN.out j' (by omega)
            clear hf
            go_wp2_with fail
            refine (is_any b st p 1 _ HM.out hpi).mono ?_
            rw [HD.out]
            rintro e w1 ⟨rfl, rfl⟩
            go_wp2
            go_round
            case rel => exact ⟨p + 1, j + 1, by have := HP.out; omega, by omega, by go_num, HN2.out⟩
            case measure => simp [intOf]; have := HP.out; omega
        · have hj64 : j = 64 := by omega
          have hp1 : ¬ (p : Int) < ((s : Int) + 1) * 64 := by omega
          have HRR : Hid (R = none) := by
            unfold Hid
            rw [← HR.out]
            unfold allocN
            rw [← HBS.out]
            exact firstFree_no (fun j' h => HN.out j' (by omega))
          clear hp
          go_wp2
          refine bodyPost_ret (v := .tuple #[.int .i64 0, .int .i64 71]) (by simp [results, Try.results40, go_sem]) rfl (by
            obtain ⟨e1, e2, e3⟩ := alloc_none (HR.out.trans HRR.out)
            rw [e1, e2, e3]
            exact ⟨rfl, HM.out, But.refl _ _⟩)

end Go.Proofs.Ytaeklmnleampcaa
