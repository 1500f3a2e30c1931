/- Walks of a map's change, Take, Free, Later, Room and Count. -/
import Derived.Test.YtaeklmnleampcaaSc
import Derived.Deep.MidRow
namespace Go.Proofs.Ytaeklmnleampcaa
open Go.RowKit

def isB (st : Nat → Nat) (i : Int) (s : Nat) : Bool := decide (0 ≤ i ∧ i < 1024 ∧ st i.toNat = s)
def turnN (st : Nat → Nat) (i : Int) (s v : Nat) : Nat → Nat := if isB st i s = true then putN st i.toNat v else st
def turnC (st : Nat → Nat) (i : Int) (s : Nat) : Int := if isB st i s = true then 0 else 72

set_option maxRecDepth 100000 in
set_option maxHeartbeats 4000000 in
theorem change_any (b : Nat) (st : Nat → Nat) (i : Int) (s v : Nat) (hi : inI64 i) (w : World) (hm : MapAt w b st) :
    Calls Try.prog 78 #[.pointer (some ⟨b, 0, none⟩), .int .i64 i, .int .u8 (s : Nat), .int .u8 (v : Nat)] w fun e w' => e = .returned (.int .i64 (turnC st i s)) ∧ MapAt w' b (turnN st i s v) ∧ But b w w' := by
  obtain ⟨r, hr⟩ : ∃ r, isB st i s = r := ⟨_, rfl⟩
  have HM := Lib.hid hm; clear hm
  have HI := Lib.hid hi; clear hi
  have HR := Lib.hid hr; clear hr
  have HS : Hid (decide (0 ≤ i ∧ i < 1024 ∧ st i.toNat = s) = r) := HR.out
  cases r with
  | false =>
    have h1 : turnC st i s = 72 := by unfold turnC; rw [HR.out]; rfl
    have h2 : turnN st i s v = st := by unfold turnN; rw [HR.out]; rfl
    rw [h1, h2]
    clear h1 h2
    go_enter Try.func78, Try.ntmps78
    go_wp2_with fail
    refine (is_any b st i s _ HM.out HI.out).mono ?_
    rw [HS.out]
    rintro e w1 ⟨rfl, rfl⟩
    go_wp2
    go_ret
    exact ⟨rfl, HM.out, But.refl _ _⟩
  | true =>
    have h1 : turnC st i s = 0 := by unfold turnC; rw [HR.out]; rfl
    have h2 : turnN st i s v = putN st i.toNat v := by unfold turnN; rw [HR.out]; rfl
    rw [h1, h2]
    clear h1 h2
    have hk := of_decide_eq_true HS.out
    obtain ⟨k, rfl⟩ : ∃ k : Nat, i = (k : Int) := ⟨i.toNat, by omega⟩
    have hk' : k < 1024 := by omega
    rw [Int.toNat_natCast]
    clear hk
    go_enter Try.func78, Try.ntmps78
    go_wp2_with fail
    refine (is_any b st k s _ HM.out HI.out).mono ?_
    rw [HS.out]
    rintro e w1 ⟨rfl, rfl⟩
    go_wp2_with fail
    refine (set_any b st k v hk' _ HM.out).mono ?_
    rintro e w2 ⟨rfl, hm2, hb2⟩
    have HM2 := Lib.hid hm2; clear hm2
    have HB2 := Lib.hid hb2; clear hb2
    go_wp2
    go_ret
    exact ⟨rfl, HM2.out, HB2.out⟩

set_option maxRecDepth 100000 in
theorem take_any (b : Nat) (st : Nat → Nat) (i : Int) (hi : inI64 i) (w : World) (hm : MapAt w b st) :
    Calls Try.prog 38 #[.pointer (some ⟨b, 0, none⟩), .int .i64 i] w fun e w' => e = .returned (.int .i64 (turnC st i 1)) ∧ MapAt w' b (turnN st i 1 2) ∧ But b w w' := by
  have HM := Lib.hid hm; clear hm
  have HI := Lib.hid hi; clear hi
  go_enter Try.func38, Try.ntmps38
  go_wp2_with fail
  refine (change_any b st i 1 2 HI.out _ HM.out).mono ?_
  rintro e w1 ⟨rfl, hm1, hb1⟩
  have HM1 := Lib.hid hm1; clear hm1
  have HB1 := Lib.hid hb1; clear hb1
  go_wp2
  go_ret
  exact ⟨rfl, HM1.out, HB1.out⟩

set_option maxRecDepth 100000 in
theorem free_any (b : Nat) (st : Nat → Nat) (i : Int) (hi : inI64 i) (w : World) (hm : MapAt w b st) :
    Calls Try.prog 56 #[.pointer (some ⟨b, 0, none⟩), .int .i64 i] w fun e w' => e = .returned (.int .i64 (turnC st i 2)) ∧ MapAt w' b (turnN st i 2 1) ∧ But b w w' := by
  have HM := Lib.hid hm; clear hm
  have HI := Lib.hid hi; clear hi
  go_enter Try.func56, Try.ntmps56
  go_wp2_with fail
  refine (change_any b st i 2 1 HI.out _ HM.out).mono ?_
  rintro e w1 ⟨rfl, hm1, hb1⟩
  have HM1 := Lib.hid hm1; clear hm1
  have HB1 := Lib.hid hb1; clear hb1
  go_wp2
  go_ret
  exact ⟨rfl, HM1.out, HB1.out⟩

set_option maxRecDepth 100000 in
theorem later_any (b : Nat) (st : Nat → Nat) (i : Int) (hi : inI64 i) (w : World) (hm : MapAt w b st) :
    Calls Try.prog 57 #[.pointer (some ⟨b, 0, none⟩), .int .i64 i] w fun e w' => e = .returned (.int .i64 (turnC st i 2)) ∧ MapAt w' b (turnN st i 2 3) ∧ But b w w' := by
  have HM := Lib.hid hm; clear hm
  have HI := Lib.hid hi; clear hi
  go_enter Try.func57, Try.ntmps57
  go_wp2_with fail
  refine (change_any b st i 2 3 HI.out _ HM.out).mono ?_
  rintro e w1 ⟨rfl, hm1, hb1⟩
  have HM1 := Lib.hid hm1; clear hm1
  have HB1 := Lib.hid hb1; clear hb1
  go_wp2
  go_ret
  exact ⟨rfl, HM1.out, HB1.out⟩

def roomR (st : Nat → Nat) (k : Int) : Int := if 0 ≤ k ∧ k < 16 then (roomN st k.toNat : Nat) else 0

set_option maxRecDepth 100000 in
set_option maxHeartbeats 4000000 in
theorem room_any (b : Nat) (st : Nat → Nat) (k : Int) (w : World) (hm : MapAt w b st) :
    Calls Try.prog 42 #[.pointer (some ⟨b, 0, none⟩), .int .i64 k] w fun e w' => e = .returned (.int .i64 (roomR st k)) ∧ w = w' := by
  by_cases h0 : k < 0
  · have hd : roomR st k = 0 := if_neg (by omega)
    rw [hd]
    clear hd hm
    go_enter Try.func42, Try.ntmps42
    go_wp2
    go_ret
    exact ⟨rfl, rfl⟩
  by_cases h1 : ¬ k < 16
  · have hd : roomR st k = 0 := if_neg (by omega)
    rw [hd]
    have h1' : (16 : Int) ≤ k := by omega
    clear hd hm
    go_enter Try.func42, Try.ntmps42
    go_wp2
    go_ret
    exact ⟨rfl, rfl⟩
  obtain ⟨q, rfl⟩ : ∃ q : Nat, k = (q : Int) := ⟨k.toNat, by omega⟩
  have hq : q < 16 := by omega
  have hd : roomR st (q : Int) = (roomN st q : Nat) := by unfold roomR; rw [if_pos (by omega), Int.toNat_natCast]
  rw [hd]
  have hc := hm.room hq
  obtain ⟨r, hr⟩ : ∃ r, roomN st q = r := ⟨_, rfl⟩
  rw [hr] at hc ⊢
  clear hd hr hm
  have g1 : ¬ (16 : Int) ≤ (q : Int) := by omega
  have g2 : (0 : Int) ≤ (q : Int) := by omega
  have g3 : (q : Int) < 16 := by omega
  go_enter Try.func42, Try.ntmps42
  go_wp2
  go_ret
  exact ⟨rfl, rfl⟩

/-- The rooms of all slabs, as one value. -/
def roomsF (st : Nat → Nat) : Nat → Value := fun k => .int .i64 (roomN st k : Nat)

theorem rooms_range {w : World} {b : Nat} {st : Nat → Nat} (h : MapAt w b st) : w.rangeAt b 1024 (arrOf 16 (roomsF st)).toList := by
  intro j v hv
  rw [Array.getElem?_toList, arrOf_get] at hv
  split at hv
  · next hj => cases hv; exact h.room hj
  · cases hv

theorem index102 (A : Array Value) (k : Nat) (r : Int) (hk : k < 16) (h : A[k]? = some (.int .i64 r)) (w : World) :
    (Instr.index 102 (.agg A) (.int .i64 k)).run Try.prog w = .ok (.int .i64 r) w := by
  simp [Instr.index, run_underlying Try.underlying102, asIntOf, part, Try.isAgg3, Try.sizeOf3, h, go_sem]
  omega

theorem size102 : (Try.prog.info? 102).map (·.size) = some 16 := by kernel_rfl

set_option maxRecDepth 100000 in
set_option maxHeartbeats 4000000 in
theorem count_map (b : Nat) (st : Nat → Nat) (w : World) (hm : MapAt w b st) :
    Calls Try.prog 41 #[.pointer (some ⟨b, 0, none⟩)] w fun e w' => e = .returned (.int .i64 (countN st : Nat)) ∧ w = w' := by
  have hrg := rooms_range hm
  have HRG := Lib.hid hrg; clear hrg hm
  have hA : ∀ k, k < 16 → (arrOf 16 (roomsF st))[k]? = some (.int .i64 (roomN st k : Nat)) := by intro k hk; rw [arrOf_get, if_pos hk]; rfl
  have hAs : (arrOf 16 (roomsF st)).size = 16 := arrOf_size _ _
  obtain ⟨A, hAA⟩ : ∃ A, A = arrOf 16 (roomsF st) := ⟨_, rfl⟩
  rw [← hAA] at HRG hA hAs
  clear hAA
  have hAt : A.toList.toArray = A := by simp
  have HA := Lib.hid hA; clear hA
  go_enter Try.func41, Try.ntmps41
  go_wp2_with (refine wpList_load_mid (op := ⟨some 9, .load 102 (.tmp 8), _, _, _, none⟩) rfl 102 (.tmp 8) rfl b 1024 rfl A.toList _ HRG.out Try.underlying102 rfl (by rw [Array.length_toList, hAs]; exact size102) ?_; rw [hAt])
  clear hAs hAt
  go_loop [3, 10] (fun v i => ∃ (k s : Nat), k ≤ 16 ∧ i = .int .i64 k ∧ v = .int .i64 s ∧ Hid (s = sumTo st k))
    (fun _ i => 16 - (intOf i).toNat)
  case atStart => exact ⟨0, 0, by omega, rfl, rfl, rfl⟩
  case round =>
    obtain ⟨k, s, hk, rfl, rfl, HS⟩ := hrel
    by_cases hlt : k < 16
    · have hi1 : (k : Int) < 16 := by omega
      have hsm : s ≤ 1024 := by have h1 := HS.out; have h2 := sumTo_le st k; omega
      have hrl := roomN_le st k
      have HAk := HA.out k hlt
      have HS2 : Hid (s + roomN st k = sumTo st (k + 1)) := by unfold Hid; rw [HS.out]; rfl
      obtain ⟨r, hr⟩ : ∃ r, roomN st k = r := ⟨_, rfl⟩
      rw [hr] at HAk HS2 hrl
      clear hr
      have hix := index102 A k r hlt HAk
      clear HAk
      go_wp2
      go_round
      case rel => exact ⟨k + 1, s + r, by omega, by go_num, by go_num, HS2.out⟩
      case measure => simp [intOf]; omega
    · obtain rfl : k = 16 := by omega
      go_wp2
      go_ret
      exact ⟨by rw [HS.out]; rfl, rfl⟩

end Go.Proofs.Ytaeklmnleampcaa
