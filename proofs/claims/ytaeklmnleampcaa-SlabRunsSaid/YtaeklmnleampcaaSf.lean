/- Walks of a map's New, Copy and Commit. -/
import Derived.Test.YtaeklmnleampcaaSe
namespace Go.Proofs.Ytaeklmnleampcaa
open Go.RowKit

theorem arrOf_two (st rm : Nat) : arrOf 1040 (mapF (fun _ => st) (fun _ => rm)) = Array.replicate 1024 (.int .u8 (st : Nat)) ++ Array.replicate 16 (.int .i64 (rm : Nat)) := by
  apply Array.ext_getElem?
  intro j
  rw [arrOf_get, Array.getElem?_append]
  simp only [Array.size_replicate, Array.getElem?_replicate]
  unfold mapF
  by_cases h : j < 1024
  · rw [if_pos (by omega), if_pos h, if_pos h, if_pos h]
  · by_cases h2 : j < 1040
    · rw [if_pos h2, if_neg h, if_neg h, if_pos (by omega)]
    · rw [if_neg h2, if_neg h, if_neg (by omega)]

theorem zero104 : Try.zeroCells104 = arrOf 1040 (mapF (fun _ => 0) (fun _ => 0)) := by
  rw [arrOf_two]
  kernel_rfl

theorem size104 : (Try.prog.info? 104).map (·.size) = some 1040 := by kernel_rfl

theorem build104 (w : World) : (Instr.build 104 #[]).run Try.prog w = .ok (.agg Try.zeroCells104) w := by
  simp [Instr.build, Sem.run_bind, Try.zeroValue104, Try.runUnderlying104, Instr.fill, Result.andThen, Value.cells]

theorem cntTo_zero (st : Nat → Nat) (s k : Nat) (h : ∀ i, st i ≠ 1) : cntTo st s k = 0 := by
  induction k with
  | zero => rfl
  | succ k ih => rw [cntTo_succ, ih, if_neg (h _)]

def newTo (k : Nat) : Nat → Nat := fun i => if 4 ≤ i ∧ i < k then 1 else 0

theorem newTo_four : newTo 4 = fun _ => 0 := by funext i; unfold newTo; rw [if_neg (by omega)]

theorem newTo_succ {k : Nat} (h : 4 ≤ k) : putN (newTo k) k 1 = newTo (k + 1) := by
  funext i
  unfold putN newTo
  by_cases hi : i = k
  · subst hi; rw [if_pos rfl, if_pos (by omega)]
  · rw [if_neg hi]
    by_cases h2 : 4 ≤ i ∧ i < k
    · rw [if_pos h2, if_pos (by omega)]
    · rw [if_neg h2, if_neg (by omega)]

theorem newTo_new {k : Nat} {T : Int} (h4 : 4 ≤ k) (hk : k ≤ 1024) (hT : (k : Int) ≤ T ∨ k = 4) (hge : T ≤ (k : Int) ∨ 1024 ≤ k) : newTo k = newN T := by
  funext i
  unfold newTo newN
  by_cases h : 4 ≤ i ∧ i < k
  · rw [if_pos h, if_pos (by omega)]
  · rw [if_neg h, if_neg (by omega)]

theorem mapAt_zero (w : World) : MapAt (w.alloc (.cells Try.zeroCells104 104)) w.heap.size (newTo 4) := by
  rw [newTo_four, zero104]
  exact mapAt_of (RowAt.alloc w 104 1040 (mapF (fun _ => 0) (fun _ => 0))) (fun k _ => (cntTo_zero _ _ _ (fun _ => by decide)).symm)

set_option maxRecDepth 100000 in
set_option maxHeartbeats 4000000 in
theorem new_any (T : Int) (hT : inI64 T) (w : World) :
    Calls Try.prog 37 #[.int .i64 T] w fun e w' => e = .returned (.pointer (some ⟨w.heap.size, 0, none⟩)) ∧ MapAt w' w.heap.size (newN T) ∧ Below w.heap.size w w' := by
  unfold inI64 at hT
  obtain ⟨w0, hw0⟩ : ∃ W, W = w.alloc (.cells Try.zeroCells104 104) := ⟨_, rfl⟩
  have hm0 : MapAt w0 w.heap.size (newTo 4) := by rw [hw0]; exact mapAt_zero w
  have hb0 : Below w.heap.size w w0 := by rw [hw0]; exact (Below.refl _ _).alloc (Nat.le_refl _) _
  go_enter Try.func37, Try.ntmps37
  go_wp2_with fail
  rw [← hw0]
  clear hw0
  obtain ⟨B, hB⟩ : ∃ B, B = w.heap.size := ⟨_, rfl⟩
  rw [← hB] at hm0 hb0 ⊢
  have HB := Lib.hid hB; clear hB
  go_loopw [4] (fun i wr => ∃ (k : Nat), 4 ≤ k ∧ k ≤ 1024 ∧ i = .int .i64 k ∧ Hid ((k : Int) ≤ T ∨ k = 4) ∧ MapAt wr B (newTo k) ∧ Below B w wr)
    (fun i _ => 1024 - (intOf i).toNat)
  case atStart => exact ⟨4, by omega, by omega, rfl, .inr rfl, hm0, hb0⟩
  case round =>
    clear hm0 hb0
    obtain ⟨k, h4, hk, rfl, HT, hm, hbel⟩ := hrel
    have HM := Lib.hid hm; clear hm
    rcases Int.lt_or_le 1024 T with hT1 | hT1
    all_goals
      by_cases hlt : (k : Int) < T ∧ k < 1024
      · have hmin : (k : Int) < if (1024 : Int) < T then 1024 else T := by split <;> omega
        have hk2 : k < 1024 := hlt.2
        have HT2 : Hid (((k + 1 : Nat) : Int) ≤ T ∨ k + 1 = 4) := .inl (by omega)
        clear hlt
        go_wp2_with fail
        refine (set_any B _ k 1 hk2 _ HM.out).mono ?_
        rw [newTo_succ h4]
        rintro e w1 ⟨rfl, hm1, hb1⟩
        have hbel1 := hbel.trans (hb1.below (Nat.le_refl _) (by rw [HB.out]; exact hbel.size))
        have HM1 := Lib.hid hm1; clear hm1
        clear hb1 hmin
        go_wp2
        go_roundw
        case rel => exact ⟨k + 1, by omega, by omega, by go_num, HT2.out, HM1.out, hbel1⟩
        case measure => simp [intOf]; omega
      · have hmin : ¬ (k : Int) < if (1024 : Int) < T then 1024 else T := by split <;> omega
        have hfin : newTo k = newN T := newTo_new h4 hk HT.out (by omega)
        have HF := Lib.hid hfin; clear hfin hlt
        go_wp2
        go_ret
        have hBB := HB.out
        subst hBB
        exact ⟨rfl, by rw [← HF.out]; exact HM.out, hbel⟩

/-- The sectors below k are committed. -/
def commitTo (st : Nat → Nat) (k : Nat) : Nat → Nat := fun i => if i < k ∧ st i = 3 then 1 else st i

theorem commitTo_zero (st : Nat → Nat) : commitTo st 0 = st := by funext i; unfold commitTo; rw [if_neg (by omega)]

theorem commitTo_at (st : Nat → Nat) (k : Nat) : commitTo st k k = st k := by unfold commitTo; rw [if_neg (by omega)]

theorem commitTo_yes {st : Nat → Nat} {k : Nat} (h : st k = 3) : putN (commitTo st k) k 1 = commitTo st (k + 1) := by
  funext i
  unfold putN commitTo
  by_cases hi : i = k
  · subst hi; rw [if_pos rfl, if_pos ⟨by omega, h⟩]
  · rw [if_neg hi]
    by_cases h2 : i < k ∧ st i = 3
    · rw [if_pos h2, if_pos ⟨by omega, h2.2⟩]
    · rw [if_neg h2, if_neg (by omega)]

theorem commitTo_no {st : Nat → Nat} {k : Nat} (h : st k ≠ 3) : commitTo st k = commitTo st (k + 1) := by
  funext i
  unfold commitTo
  by_cases h2 : i < k ∧ st i = 3
  · rw [if_pos h2, if_pos ⟨by omega, h2.2⟩]
  · rw [if_neg h2]
    by_cases hi : i = k
    · subst hi; rw [if_neg (fun h3 => h h3.2)]
    · rw [if_neg (by omega)]

theorem commitTo_all {w : World} {b : Nat} {st : Nat → Nat} (h : MapAt w b (commitTo st 1024)) : MapAt w b (commitN st) := by
  have hs : ∀ i, i < 1024 → commitTo st 1024 i = commitN st i := by
    intro i hi
    unfold commitTo commitN
    by_cases h3 : st i = 3
    · rw [if_pos ⟨hi, h3⟩, if_pos h3]
    · rw [if_neg (fun h4 => h3 h4.2), if_neg h3]
  have hr : ∀ k, k < 16 → roomN (commitTo st 1024) k = roomN (commitN st) k := fun k hk => cntTo_congr fun i h1 h2 => hs i (by omega)
  refine RowAt.congr h fun j hj => ?_
  unfold mapF
  by_cases hl : j < 1024
  · rw [if_pos hl, if_pos hl, hs j hl]
  · rw [if_neg hl, if_neg hl, hr _ (by omega)]

set_option maxRecDepth 100000 in
set_option maxHeartbeats 4000000 in
theorem commit_any (b : Nat) (st : Nat → Nat) (w : World) (hm : MapAt w b st) :
    Calls Try.prog 58 #[.pointer (some ⟨b, 0, none⟩)] w fun e w' => e = .returned (.tuple #[]) ∧ MapAt w' b (commitN st) ∧ But b w w' := by
  have hm0 : MapAt w b (commitTo st 0) := by rw [commitTo_zero]; exact hm
  clear hm
  have HM0 := Lib.hid hm0; clear hm0
  have hb0 := But.refl b w
  go_enter Try.func58, Try.ntmps58
  go_wp2_with fail
  go_loopw [3] (fun i wr => ∃ (k : Nat), k ≤ 1024 ∧ i = .int .i64 k ∧ Hid (MapAt wr b (commitTo st k)) ∧ But b w wr)
    (fun i _ => 1024 - (intOf i).toNat)
  case atStart => exact ⟨0, by omega, rfl, HM0, hb0⟩
  case round =>
    clear HM0 hb0
    obtain ⟨k, hk, rfl, HM, hbut⟩ := hrel
    by_cases hlt : k < 1024
    · have hi1 : (k : Int) < 1024 := by omega
      have hki : inI64 (k : Int) := by unfold inI64; omega
      by_cases h3 : st k = 3
      · have hd : decide (0 ≤ (k : Int) ∧ (k : Int) < 1024 ∧ commitTo st k (k : Int).toNat = 3) = true := decide_eq_true ⟨by omega, by omega, by rw [Int.toNat_natCast, commitTo_at]; exact h3⟩
        have HD := Lib.hid hd; clear hd
        have H3 := Lib.hid h3; clear h3
        go_wp2_with fail
        refine (is_any b _ k 3 _ HM.out hki).mono ?_
        rw [HD.out]
        rintro e w1 ⟨rfl, rfl⟩
        go_wp2_with fail
        refine (set_any b _ k 1 hlt _ HM.out).mono ?_
        rw [commitTo_yes H3.out]
        rintro e w2 ⟨rfl, hm2, hb2⟩
        have hb2 := hbut.trans hb2
        have HM2 := Lib.hid hm2; clear hm2
        go_wp2
        go_roundw
        case rel => exact ⟨k + 1, by omega, by go_num, HM2.out, hb2⟩
        case measure => simp [intOf]; omega
      · have hd : decide (0 ≤ (k : Int) ∧ (k : Int) < 1024 ∧ commitTo st k (k : Int).toNat = 3) = false := decide_eq_false (by rw [Int.toNat_natCast, commitTo_at]; exact fun h => h3 h.2.2)
        have HD := Lib.hid hd; clear hd
        have hm2 := HM.out
        rw [commitTo_no h3] at hm2
        have HM2 := Lib.hid hm2; clear hm2 h3
        go_wp2_with fail
        refine (is_any b _ k 3 _ HM.out hki).mono ?_
        rw [HD.out]
        rintro e w1 ⟨rfl, rfl⟩
        go_wp2
        go_roundw
        case rel => exact ⟨k + 1, by omega, by go_num, HM2.out, hbut⟩
        case measure => simp [intOf]; omega
    · obtain rfl : k = 1024 := by omega
      go_wp2
      go_end0
      exact ⟨rfl, commitTo_all HM.out, hbut⟩

end Go.Proofs.Ytaeklmnleampcaa
