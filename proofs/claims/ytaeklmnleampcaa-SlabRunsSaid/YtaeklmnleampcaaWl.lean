/- Walks of the reference's Bits, First and Has. -/
import Derived.Test.YtaeklmnleampcaaWi
import Derived.Test.YtaeklmnleampcaaArr
namespace Go.Proofs.Ytaeklmnleampcaa
open Go.RowKit

/-- The numbers of the first k spans, and the first j of one more. -/
def partF (l : List (Int × Int)) (k : Nat) (s j : Int) : Nat → Bool := fun n => memB (l.take k) (n : Int) || decide (s ≤ (n : Int) ∧ (n : Int) < s + j)

theorem partF_zero (l : List (Int × Int)) (k : Nat) (s : Int) (n : Nat) : partF l k s 0 n = memB (l.take k) (n : Int) := by
  unfold partF
  rw [decide_eq_false (by omega), Bool.or_false]

theorem partF_all {l : List (Int × Int)} {k : Nat} (h : k < l.length) (n : Nat) : partF l k l[k].1 l[k].2 n = memB (l.take (k + 1)) (n : Int) := by
  unfold partF
  rw [List.take_succ_eq_append_getElem h, memB_append]
  simp [memB]

set_option maxRecDepth 100000 in
set_option maxHeartbeats 4000000 in
/-- The reference's Bits, of a set. -/
theorem bits_any (v : Value) (l : List (Int × Int)) (w : World) (hv : SpanSl w v l) (hr : rightB l = true) :
    Calls Try.prog 82 #[v] w fun e w' => e = .returned (.agg (arrOf 4096 (boolsF (bitsOf l)))) ∧ Below w.heap.size w w' := by
  obtain ⟨ao, cap, rfl, hlen, _, hc⟩ := hv
  have HC := Lib.hid hc; clear hc
  have HR := Lib.hid hr; clear hr
  obtain ⟨Wa, hWa⟩ : ∃ W0, W0 = w.alloc (.cells Try.zeroCells60 60) := ⟨_, rfl⟩
  have hra : RowAt Wa w.heap.size 60 4096 (boolsF fun _ => false) := by rw [hWa, zero60]; exact RowAt.alloc _ _ _ _
  have hsa : Wa.heap.size = w.heap.size + 1 := by rw [hWa]; simp
  have hBa : Below w.heap.size w Wa := by rw [hWa]; exact (Below.refl _ _).alloc (Nat.le_refl _) _
  obtain ⟨W0, hW0⟩ : ∃ W0, W0 = Wa.alloc (.cells Try.zeroCells60 60) := ⟨_, rfl⟩
  have hr0 : RowAt W0 w.heap.size 60 4096 (boolsF fun _ => false) := by rw [hW0]; exact hra.alloc_old _
  have hq0 : RowAt W0 (w.heap.size + 1) 60 4096 (boolsF fun _ => false) := by rw [hW0, zero60, ← hsa]; exact RowAt.alloc _ _ _ _
  have hs0 : W0.heap.size = w.heap.size + 2 := by rw [hW0]; simp; omega
  have hB0 : Below w.heap.size w W0 := by rw [hW0]; exact hBa.alloc (by omega) _
  have hq0' : RowAt ((w.alloc (.cells Try.zeroCells60 60)).alloc (.cells Try.zeroCells60 60)) (w.heap.size + 1) 60 4096 (boolsF fun _ => false) := by rw [← hWa, ← hW0]; exact hq0
  go_enter Try.func82, Try.ntmps82
  go_wp2_with (refine wpList_store_row (o := ⟨none, .store 60 (.tmp 3) (.tmp 7), _, _, _, none⟩) rfl 60 (.tmp 3) (.tmp 7) rfl (w.heap.size + 1) rfl 4096 (boolsF fun _ => false) Try.zeroCells60 rfl zero60 60 (boolsF fun _ => false) hq0' size60 (boolsF_one _) ?_)
  rw [← hWa, ← hW0]
  have hr1 := hr0.setRow_other (g := w.heap.size + 1) (by omega) (arrOf 4096 (boolsF fun _ => false))
  have hq1 := hq0.setRow (boolsF fun _ => false)
  have hs1 : (W0.setRow (w.heap.size + 1) (arrOf 4096 (boolsF fun _ => false))).heap.size = w.heap.size + 2 := by rw [setRow_size]; exact hs0
  have hB1 := Below.setRow hB0 (g := w.heap.size + 1) (by omega) (arrOf 4096 (boolsF fun _ => false))
  obtain ⟨W, hW⟩ : ∃ W, W = W0.setRow (w.heap.size + 1) (arrOf 4096 (boolsF fun _ => false)) := ⟨_, rfl⟩
  rw [← hW] at hr1 hq1 hs1 hB1 ⊢
  clear hW hWa hW0 hra hsa hBa hr0 hq0 hs0 hB0 hq0'
  go_loopw [10] (fun i wr => ∃ (k : Nat), k ≤ l.length ∧ i = .int .i64 k ∧ RowAt wr w.heap.size 60 4096 (boolsF fun _ => false) ∧ RowAt wr (w.heap.size + 1) 60 4096 (boolsF fun n => memB (l.take k) (n : Int)) ∧ Below w.heap.size w wr)
    (fun i _ => l.length - (intOf i).toNat)
  case atStart => exact ⟨0, Nat.zero_le _, rfl, hr1, hq1.congr (fun i _ => by simp [boolsF, memB]), hB1⟩
  case round =>
    obtain ⟨k, hk, rfl, hrr, hqr, hbel⟩ := hrel
    by_cases hlt : k < l.length
    · obtain ⟨b, o, rfl, hbs, hcell⟩ := HC.out (by intro h; simp [h] at hlt)
      obtain ⟨h1, h2⟩ := span_cells hbs hcell hbel hlt
      clear hcell
      have hs := (singleB_iff _ _).1 (right_at HR.out hlt)
      have hsz := hbel.size
      have hql := hqr.lt
      go_wp2_with fail
      obtain ⟨wo, rfl⟩ : ∃ wo : World, wo = wr := ⟨_, rfl⟩
      obtain ⟨WB, hWB⟩ : ∃ W, W = wo.alloc (.cells #[.int .i64 l[k].1, .int .i64 l[k].2] 51) := ⟨_, rfl⟩
      have hc0 : WB.cell? ⟨wo.heap.size, 0, none⟩ = some (.int .i64 l[k].1) := by rw [hWB]; exact World.cell?_alloc_at _ _ _ _ rfl
      have hc1 : WB.cell? ⟨wo.heap.size, 1, none⟩ = some (.int .i64 l[k].2) := by rw [hWB]; exact World.cell?_alloc_at _ _ _ _ rfl
      have hrB : RowAt WB w.heap.size 60 4096 (boolsF fun _ => false) := by rw [hWB]; exact hrr.alloc_old _
      have hqB : RowAt WB (w.heap.size + 1) 60 4096 (boolsF fun n => memB (l.take k) (n : Int)) := by rw [hWB]; exact hqr.alloc_old _
      have hbB : Below w.heap.size w WB := by rw [hWB]; exact hbel.alloc hsz _
      rw [← hWB]
      clear hWB hrr hqr h1 h2 hbel
      go_loopw [6] (fun i w2 => ∃ j : Nat, (j : Int) ≤ l[k].2 ∧ i = .int .i64 j ∧ (w2.cell? ⟨wo.heap.size, 0, none⟩ = some (.int .i64 l[k].1) ∧ w2.cell? ⟨wo.heap.size, 1, none⟩ = some (.int .i64 l[k].2)) ∧ RowAt w2 w.heap.size 60 4096 (boolsF fun _ => false) ∧ RowAt w2 (w.heap.size + 1) 60 4096 (boolsF (partF l k l[k].1 j)) ∧ Below w.heap.size w w2)
        (fun i _ => l[k].2.toNat - (intOf i).toNat)
      case atStart => exact ⟨0, by omega, rfl, ⟨hc0, hc1⟩, hrB, hqB.congr (fun i _ => by simp only [boolsF]; rw [← partF_zero l k l[k].1 i]; rfl), hbB⟩
      case round =>
        obtain ⟨j, hj, rfl, ⟨hd0, hd1⟩, hr2, hq2, hb2⟩ := hrel
        by_cases hjl : (j : Int) < l[k].2
        · obtain ⟨n, hn⟩ : ∃ n : Nat, l[k].1 + (j : Int) = (n : Int) := ⟨(l[k].1 + (j : Int)).toNat, by omega⟩
          have hnlt : n < 4096 := by omega
          have hcx := hq2.cell hnlt
          have hfx := hq2.frozen n
          simp only [boolsF] at hcx
          have hi1 : (n : Int) < (4096 : Int) := by omega
          have hHid : Hid (l[k].1 + (j : Int) = (n : Int)) := hn
          have hnw : IntKind.i64.wrap (l[k].1 + (j : Int)) = (n : Int) := by rw [IntWalk.i64_in _ (by omega)]; exact hn
          go_wp2
          go_roundw
          case rel =>
            refine ⟨j + 1, by omega, by go_num, ⟨?_, ?_⟩, hr2.set_other _ (by show w.heap.size ≠ w.heap.size + 1; omega) _, hq2.setBool n true (fun i _ => ?_), hb2.setCell (p := ⟨w.heap.size + 1, n, none⟩) (by show w.heap.size ≤ w.heap.size + 1; omega) _⟩
            · rw [World.cell?_of_block (heap_setCell_other _ _ _ _ (by show wo.heap.size ≠ w.heap.size + 1; omega))]; exact hd0
            · rw [World.cell?_of_block (heap_setCell_other _ _ _ _ (by show wo.heap.size ≠ w.heap.size + 1; omega))]; exact hd1
            · have := hHid.out
              unfold partF
              by_cases hin : i = n
              · subst hin
                rw [if_pos rfl, Bool.or_eq_true]
                right
                simp; omega
              · rw [if_neg hin]
                congr 1
                rw [Bool.eq_iff_iff, decide_eq_true_eq, decide_eq_true_eq]
                omega
          case measure => simp [intOf]; omega
        · have hje : (j : Int) = l[k].2 := by omega
          have HJ := Lib.hid hje
          clear hje
          go_wp2
          go_roundw
          case rel => exact ⟨k + 1, by omega, by go_num, hr2, hq2.congr (fun i _ => by simp only [boolsF]; rw [HJ.out, partF_all hlt]), hb2⟩
          case measure => simp [intOf]; omega
    · obtain rfl : k = l.length := by omega
      rw [List.take_length] at hqr
      go_wp2_with (first | (refine wpList_load_arr (o := ⟨some 26, .load 60 (.tmp 3), _, _, _, none⟩) rfl 60 (.tmp 3) rfl (w.heap.size + 1) rfl 4096 60 _ hqr _ Try.underlying60 rfl size60 ?_; refine wpList_store_row (o := ⟨none, .store 60 (.tmp 2) (.tmp 26), _, _, _, none⟩) rfl 60 (.tmp 2) (.tmp 26) rfl w.heap.size rfl 4096 (boolsF fun n => memB l (n : Int)) (arrOf 4096 (boolsF fun n => memB l (n : Int))) rfl rfl 60 (boolsF fun _ => false) hrr size60 (boolsF_one _) ?_; (repeat go_step); refine bodyPost_ret (ret_arr (p := 2) (ty := 60) rfl rfl (hrr.setRow _) Try.underlying60 rfl size60) rfl ⟨retAgg (fun i _ => rfl), Below.setRow hbel (Nat.le_refl _) _⟩))

end Go.Proofs.Ytaeklmnleampcaa
