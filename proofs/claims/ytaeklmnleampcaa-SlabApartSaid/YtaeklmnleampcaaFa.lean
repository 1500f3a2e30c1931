/- Walks of field.room and slog.widths: the widths 1, 2, 2 have room 5. -/
import Derived.Test.YtaeklmnleampcaaRs
import Derived.Test.YtaeklmnleampcaaArgs3
namespace Go.Proofs.Ytaeklmnleampcaa
open Go.RowKit

theorem Try.info5 : (Try.prog.info? 5).map (fun i => (i.zero, i.size, i.bytes)) = some (some (.int .u8 0), 1, 1) := by kernel_rfl
theorem Try.info116 : (Try.prog.info? 116).map (fun i => (i.zero, i.size, i.bytes)) = some (some (.int .u64 0), 1, 8) := by kernel_rfl

set_option maxRecDepth 100000 in
theorem widths_any (w : World) : Calls Try.prog 87 #[] w fun e w' => ∃ b, e = .returned (.slice (some ⟨b, 0, none⟩) 3 3) ∧ IntSl .i64 w' (.slice (some ⟨b, 0, none⟩) 3 3) [1, 2, 2] ∧ b = w.heap.size ∧ Below w.heap.size w w' := by
  go_enter Try.func87, Try.ntmps87
  go_wp2
  go_ret
  exact ⟨_, rfl, intSl_lit w [1, 2, 2] _ _ rfl (by decide) (by decide) _ _ rfl, rfl, (Below.refl _ _).alloc (Nat.le_refl _) _⟩

set_option maxRecDepth 100000 in
set_option maxHeartbeats 1600000 in
theorem room_122 (b : Nat) (w : World) (hv : IntSl .i64 w (.slice (some ⟨b, 0, none⟩) 3 3) [1, 2, 2]) :
    Calls Try.prog 91 #[.slice (some ⟨b, 0, none⟩) 3 3] w fun e w' => e = .returned (.tuple #[.int .i64 5, .bool true]) ∧ Below w.heap.size w w' := by
  obtain ⟨ao, cap, he, _, _, hc⟩ := hv
  obtain ⟨b', o, h1, hlt, hcell⟩ := hc (by simp)
  simp only [Value.slice.injEq] at he
  obtain ⟨rfl, _, _⟩ := he
  simp only [Option.some.injEq, Addr.mk.injEq] at h1
  obtain ⟨rfl, rfl, _⟩ := h1
  have c0 : w.cell? ⟨b, 0, none⟩ = some (.int .i64 1) := hcell 0 (by decide)
  have c1 : w.cell? ⟨b, 1, none⟩ = some (.int .i64 2) := hcell 1 (by decide)
  have c2 : w.cell? ⟨b, 2, none⟩ = some (.int .i64 2) := hcell 2 (by decide)
  clear hcell hc
  go_enter Try.func91, Try.ntmps91
  go_wp2_with fail
  go_rounds 4
  refine bodyPost_ret (v := .tuple #[.int .i64 5, .bool true]) (by simp [results, Try.results91, go_sem]) rfl ⟨rfl, Below.refl _ _⟩

end Go.Proofs.Ytaeklmnleampcaa
