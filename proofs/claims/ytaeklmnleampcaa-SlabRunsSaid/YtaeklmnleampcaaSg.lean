/- Walk of a map's Copy. -/
import Derived.Test.YtaeklmnleampcaaSf
namespace Go.Proofs.Ytaeklmnleampcaa
open Go.RowKit

theorem mapF_one (st rm : Nat → Nat) : ∀ i, (mapF st rm i).oneCell' = true := by
  intro i; unfold mapF; split <;> rfl

set_option maxRecDepth 100000 in
set_option maxHeartbeats 4000000 in
theorem copy_any (b : Nat) (st : Nat → Nat) (w : World) (hm : MapAt w b st) :
    Calls Try.prog 39 #[.pointer (some ⟨b, 0, none⟩)] w fun e w' => e = .returned (.pointer (some ⟨w.heap.size, 0, none⟩)) ∧ MapAt w' w.heap.size st ∧ Below w.heap.size w w' := by
  obtain ⟨w0, hw0⟩ : ∃ W, W = w.alloc (.cells Try.zeroCells104 104) := ⟨_, rfl⟩
  have hr0 : RowAt w0 w.heap.size 104 1040 (mapF (fun _ => 0) (fun _ => 0)) := by rw [hw0, zero104]; exact RowAt.alloc _ _ _ _
  have hr0' : RowAt (w.alloc (.cells Try.zeroCells104 104)) w.heap.size 104 1040 (mapF (fun _ => 0) (fun _ => 0)) := by rw [← hw0]; exact hr0
  have hb0 : Below w.heap.size w w0 := by rw [hw0]; exact (Below.refl _ _).alloc (Nat.le_refl _) _
  unfold MapAt at hm
  have HM := Lib.hid hm; clear hm
  have HR0 := Lib.hid hr0'; clear hr0'
  have HW0 := Lib.hid hw0; clear hw0
  go_enter Try.func39, Try.ntmps39
  obtain ⟨A, hA⟩ : ∃ A, A = arrOf 1040 (mapF st (roomN st)) := ⟨_, rfl⟩
  have HA := Lib.hid hA; clear hA
  go_wp2_with (first
    | (refine wpList_load_arr (o := ⟨some 6, .load 104 (.tmp 5), _, _, _, none⟩) rfl 104 (.tmp 5) rfl b rfl 1040 104 _ HM.out _ Try.underlying104 rfl size104 ?_; rw [← HA.out])
    | (refine wpList_store_row (o := ⟨none, .store 104 (.tmp 3) (.tmp 6), _, _, _, none⟩) rfl 104 (.tmp 3) (.tmp 6) rfl w.heap.size rfl 1040 (mapF st (roomN st)) A rfl HA.out 104 (mapF (fun _ => 0) (fun _ => 0)) HR0.out size104 (mapF_one _ _) ?_; rw [← HW0.out, ← HA.out]))
  go_ret
  refine ⟨rfl, ?_, ?_⟩
  · rw [HA.out]; exact RowAt.setRow hr0 (mapF st (roomN st))
  · exact Below.setRow hb0 (Nat.le_refl _) _

end Go.Proofs.Ytaeklmnleampcaa
