/- Walks of the reference's Of and Bits. -/
import Derived.Test.YtaeklmnleampcaaWd
import Derived.Test.YtaeklmnleampcaaArr
namespace Go.Proofs.Ytaeklmnleampcaa
open Go.RowKit

set_option maxRecDepth 100000 in
set_option maxHeartbeats 2000000 in
/-- The reference's Of. -/
theorem refof_any (v : Value) (l : List Int) (w : World) (hv : IntSl .i64 w v l) :
    Calls Try.prog 29 #[v] w fun e w' => ∃ v', e = .returned v' ∧ SpanSl w' v' (spansOf (numsF l)) ∧ Below w.heap.size w w' := by
  obtain ⟨ao, cap, rfl, hlen, _, hc⟩ := hv
  have HC := Lib.hid hc; clear hc
  obtain ⟨W0, hW0⟩ : ∃ W0, W0 = w.alloc (.cells Try.zeroCells60 60) := ⟨_, rfl⟩
  have hr0 : RowAt W0 w.heap.size 60 4096 (boolsF fun _ => false) := by rw [hW0, zero60]; exact RowAt.alloc _ _ _ _
  have hq0 : RowAt (w.alloc (.cells Try.zeroCells60 60)) w.heap.size 60 4096 (boolsF fun _ => false) := by rw [← hW0]; exact hr0
  have hs0 : W0.heap.size = w.heap.size + 1 := by rw [hW0]; simp
  have hB0 : Below w.heap.size w W0 := by rw [hW0]; exact (Below.refl _ _).alloc (Nat.le_refl _) _
  go_enter Try.func29, Try.ntmps29
  go_wp2_with (refine wpList_store_row (o := ⟨none, .store 60 (.tmp 3) (.tmp 6), _, _, _, none⟩) rfl 60 (.tmp 3) (.tmp 6) rfl w.heap.size rfl 4096 (boolsF fun _ => false) Try.zeroCells60 rfl zero60 60 (boolsF fun _ => false) hq0 size60 (boolsF_one _) ?_)
  rw [← hW0]
  clear hW0
  have hr1 := hr0.setRow (boolsF fun _ => false)
  have hs1 : (W0.setRow w.heap.size (arrOf 4096 (boolsF fun _ => false))).heap.size = w.heap.size + 1 := by rw [setRow_size]; exact hs0
  have hB1 := Below.setRow hB0 (Nat.le_refl _) (arrOf 4096 (boolsF fun _ => false))
  obtain ⟨W, hW⟩ : ∃ W, W = W0.setRow w.heap.size (arrOf 4096 (boolsF fun _ => false)) := ⟨_, rfl⟩
  rw [← hW] at hr1 hs1 hB1 ⊢
  clear hW hr0 hs0 hB0
  go_loopw [9] (fun i wr => ∃ (k : Nat), k ≤ l.length ∧ i = .int .i64 k ∧ RowAt wr w.heap.size 60 4096 (boolsF (numsF (l.take k))) ∧ Below w.heap.size w wr)
    (fun i _ => l.length - (intOf i).toNat)
  case atStart => exact ⟨0, Nat.zero_le _, rfl, hr1.congr (fun i _ => by simp [boolsF, numsF]), hB1⟩
  case round =>
    obtain ⟨k, hk, rfl, hrr, hbel⟩ := hrel
    by_cases hlt : k < l.length
    · obtain ⟨b, o, rfl, hbs, hcell⟩ := HC.out (by intro h; simp [h] at hlt)
      have h1 := int_cells hbs hcell hbel hlt
      clear hcell
      by_cases hin : 0 ≤ l[k] ∧ l[k] < 4096
      · obtain ⟨n, hn⟩ : ∃ n : Nat, l[k] = (n : Int) := ⟨l[k].toNat, by omega⟩
        have HN := Lib.hid hn
        rw [hn] at h1 hin
        clear hn
        have hc1 := hrr.cell (i := n) (by omega)
        have hf1 := hrr.frozen n
        simp only [boolsF] at hc1
        have hi1 : (n : Int) < (4096 : Int) := by omega
        have hi0 : (0 : Int) ≤ (n : Int) := by omega
        go_wp2
        go_roundw
        case rel =>
          refine ⟨k + 1, by omega, by go_num, hrr.setBool n true (fun j hj => ?_), hbel.setCell (Nat.le_refl _) _⟩
          rw [numsF_take hlt, HN.out]
          by_cases hjn : j = n
          · subst hjn; simp
          · rw [if_neg hjn, decide_eq_false (by omega), Bool.or_false]
        case measure => simp [intOf]; omega
      · have hsame : Hid (∀ j, j < 4096 → numsF (l.take (k + 1)) j = numsF (l.take k) j) := by
          intro j hj
          rw [numsF_take hlt, decide_eq_false (by omega), Bool.or_false]
        by_cases h0 : 0 ≤ l[k]
        · have h2 : ¬ l[k] < 4096 := fun h => hin ⟨h0, h⟩
          clear hin
          go_wp2
          go_roundw
          case rel => exact ⟨k + 1, by omega, by go_num, hrr.congr (fun j hj => by simp only [boolsF]; rw [hsame.out j hj]), hbel⟩
          case measure => simp [intOf]; omega
        · clear hin
          go_wp2
          go_roundw
          case rel => exact ⟨k + 1, by omega, by go_num, hrr.congr (fun j hj => by simp only [boolsF]; rw [hsame.out j hj]), hbel⟩
          case measure => simp [intOf]; omega
    · have hl : Hid (l.take k = l) := List.take_of_length_le (by omega)
      rw [hl.out] at hrr
      go_wp2_with (first | (refine wpList_load_arr (o := ⟨some 22, .load 60 (.tmp 3), _, _, _, none⟩) rfl 60 (.tmp 3) rfl w.heap.size rfl 4096 60 _ hrr _ Try.underlying60 rfl size60 ?_) | (go_at_call 59; refine (refset_any _ _).mono ?_; rintro e w1 ⟨v', rfl, hs, hb1⟩))
      go_ret
      exact ⟨_, rfl, hs, Below.step hbel hbel.size hb1⟩

end Go.Proofs.Ytaeklmnleampcaa
