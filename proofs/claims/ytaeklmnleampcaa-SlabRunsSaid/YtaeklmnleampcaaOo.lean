/- The list of spans that Of makes is a row of its own: the walk of Wd once more. -/
import Derived.Test.YtaeklmnleampcaaOw
namespace Go.Proofs.Ytaeklmnleampcaa
open Go.RowKit

set_option maxRecDepth 100000 in
set_option maxHeartbeats 1000000 in
/-- span.Of: the set of some numbers. -/
theorem of_own (v : Value) (l : List Int) (w : World) (hv : IntSl .i64 w v l) :
    Calls Try.prog 28 #[v] w fun e w' => ∃ v', e = .returned v' ∧ OwnSp w' w.heap.size v' (spansOf (numsF l)) ∧ Below w.heap.size w w' := by
  obtain ⟨ao, cap, rfl, hlen, _, hc⟩ := hv
  have HC := Lib.hid hc; clear hc
  have hr0 := RowAt.alloc w 97 4096 (boolsF fun _ => false)
  rw [← zero97] at hr0
  have hb0 : Below w.heap.size w (w.alloc (.cells Try.zeroCells97 97)) := (Below.refl _ _).alloc (Nat.le_refl _) _
  go_enter Try.func28, Try.ntmps28
  go_wp2_with (fail)
  obtain ⟨W, hW⟩ : ∃ W, W = w.alloc (.cells Try.zeroCells97 97) := ⟨_, rfl⟩
  rw [← hW] at hr0 hb0 ⊢
  have hs0 : W.heap.size = w.heap.size + 1 := by rw [hW]; simp
  have hbn : Below (w.heap.size + 1) W W := Below.refl _ _
  clear hW
  go_loopw [8] (fun i wr => ∃ (k : Nat), k ≤ l.length ∧ i = .int .i64 k ∧ RowAt wr w.heap.size 97 4096 (boolsF (numsF (l.take k))) ∧ Below w.heap.size w wr)
    (fun i _ => l.length - (intOf i).toNat)
  case atStart => exact ⟨0, Nat.zero_le _, rfl, hr0.congr (fun i _ => by simp [boolsF, numsF]), hb0⟩
  case round =>
    obtain ⟨k, hk, rfl, hrr, hbel⟩ := hrel
    by_cases hlt : k < l.length
    · obtain ⟨b, o, rfl, hbs, hcell⟩ := HC.out (by intro h; simp [h] at hlt)
      have h1 := int_cells hbs hcell hbel hlt
      clear hcell
      by_cases hin : 0 ≤ l[k] ∧ l[k] < 4096
      · obtain ⟨n, hn⟩ : ∃ n : Nat, l[k] = (n : Int) := ⟨l[k].toNat, by omega⟩
        have HN := Lib.hid hn
        rw [hn] at h1 hin
        clear hn
        have hc1 := hrr.cell (i := n) (by omega)
        have hf1 := hrr.frozen n
        simp only [boolsF] at hc1
        have hi1 : (n : Int) < (4096 : Int) := by omega
        have hi0 : (0 : Int) ≤ (n : Int) := by omega
        go_wp2
        go_roundw
        case rel =>
          refine ⟨k + 1, by omega, by go_num, hrr.setBool n true (fun j hj => ?_), hbel.setCell (Nat.le_refl _) _⟩
          rw [numsF_take hlt, HN.out]
          by_cases hjn : j = n
          · subst hjn; simp
          · rw [if_neg hjn, decide_eq_false (by omega), Bool.or_false]
        case measure => simp [intOf]; omega
      · have hsame : Hid (∀ j, j < 4096 → numsF (l.take (k + 1)) j = numsF (l.take k) j) := by
          intro j hj
          rw [numsF_take hlt, decide_eq_false (by omega), Bool.or_false]
        by_cases h0 : 0 ≤ l[k]
        · have h2 : ¬ l[k] < 4096 := fun h => hin ⟨h0, h⟩
          clear hin
          go_wp2
          go_roundw
          case rel => exact ⟨k + 1, by omega, by go_num, hrr.congr (fun j hj => by simp only [boolsF]; rw [hsame.out j hj]), hbel⟩
          case measure => simp [intOf]; omega
        · clear hin
          go_wp2
          go_roundw
          case rel => exact ⟨k + 1, by omega, by go_num, hrr.congr (fun j hj => by simp only [boolsF]; rw [hsame.out j hj]), hbel⟩
          case measure => simp [intOf]; omega
    · have hl : Hid (l.take k = l) := List.take_of_length_le (by omega)
      rw [hl.out] at hrr
      go_wp2_with (go_at_call 76; refine (spans_own _ _ _ hrr).mono ?_; rintro e w1 ⟨v', rfl, hs, hb1⟩)
      go_ret
      exact ⟨_, rfl, hs.mono hbel.size, Below.step hbel hbel.size hb1⟩

end Go.Proofs.Ytaeklmnleampcaa
