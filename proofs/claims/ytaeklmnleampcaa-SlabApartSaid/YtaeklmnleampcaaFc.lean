/- Walk of field.Get at the widths 1, 2, 2. -/
import Derived.Test.YtaeklmnleampcaaFb
import Derived.Laws.BitsAllLaws
namespace Go.Proofs.Ytaeklmnleampcaa
open Go.RowKit

theorem or64_two (a b : Nat) (ha : a < 256) (hb : b < 256) : bits .or .u64 (a : Int) ((b : Int) * 256) = (a : Int) + 256 * (b : Int) := by
  have h := u64_or_nat a (b * 256) (by omega) (by omega)
  rw [show ((b * 256 : Nat) : Int) = (b : Int) * 256 from by omega] at h
  rw [h]
  have h2 := Nat.shiftLeft_add_eq_or_of_lt (b := a) (i := 8) (by omega) b
  rw [Nat.shiftLeft_eq, show (2 : Nat) ^ 8 = 256 from rfl] at h2
  rw [Nat.or_comm, ← h2]
  omega

theorem or64_none (a : Nat) (ha : a < 256) : bits .or .u64 0 (a : Int) = (a : Int) := by
  have h := u64_or_nat 0 a (by omega) (by omega)
  rw [show ((0 : Nat) : Int) = 0 from rfl] at h
  rw [h, Nat.zero_or]

set_option maxRecDepth 100000 in
set_option maxHeartbeats 8000000 in
theorem get_122 (b c o cap : Nat) (x0 x1 x2 x3 x4 : Nat) (hx : x0 < 256 ∧ x1 < 256 ∧ x2 < 256 ∧ x3 < 256 ∧ x4 < 256) (hcap : 5 ≤ cap) (w : World) (hb : IntSl .i64 w (.slice (some ⟨b, 0, none⟩) 3 3) [1, 2, 2])
    (hc : w.cell? ⟨c, o, none⟩ = some (.int .u8 x0) ∧ w.cell? ⟨c, o + 1, none⟩ = some (.int .u8 x1) ∧ w.cell? ⟨c, o + 2, none⟩ = some (.int .u8 x2) ∧ w.cell? ⟨c, o + 3, none⟩ = some (.int .u8 x3) ∧ w.cell? ⟨c, o + 4, none⟩ = some (.int .u8 x4)) (hcl : c < w.heap.size) :
    Calls Try.prog 88 #[.slice (some ⟨b, 0, none⟩) 3 3, .slice (some ⟨c, o, none⟩) 5 cap] w fun e w' => ∃ g, e = .returned (.tuple #[.slice (some ⟨g, 0, none⟩) 3 3, .int .i64 0]) ∧
      (w'.cell? ⟨g, 0, none⟩ = some (.int .u64 x0) ∧ w'.cell? ⟨g, 1, none⟩ = some (.int .u64 ((x1 : Int) + 256 * (x2 : Int))) ∧ w'.cell? ⟨g, 2, none⟩ = some (.int .u64 ((x3 : Int) + 256 * (x4 : Int)))) ∧ g < w'.heap.size ∧ w.heap.size ≤ g ∧ Below w.heap.size w w' := by
  obtain ⟨i0, hi, hz0, hz1', hz2⟩ := info_parts Try.info116
  have HB := Lib.hid hb
  obtain ⟨ao, cap', he, _, _, hcc⟩ := hb
  obtain ⟨b', o', h1, hlt, hcell⟩ := hcc (by simp)
  simp only [Value.slice.injEq] at he
  obtain ⟨rfl, _, _⟩ := he
  simp only [Option.some.injEq, Addr.mk.injEq] at h1
  obtain ⟨rfl, rfl, _⟩ := h1
  have c0 : w.cell? ⟨b, 0, none⟩ = some (.int .i64 1) := hcell 0 (by decide)
  have c1 : w.cell? ⟨b, 1, none⟩ = some (.int .i64 2) := hcell 1 (by decide)
  have c2 : w.cell? ⟨b, 2, none⟩ = some (.int .i64 2) := hcell 2 (by decide)
  clear hcell hcc
  obtain ⟨d0, d1, d2, d3, d4⟩ := hc
  obtain ⟨e0, e1, e2, e3, e4⟩ := hx
  have C0 := Lib.hid c0; clear c0
  have C1 := Lib.hid c1; clear c1
  have C2 := Lib.hid c2; clear c2
  have D0 := Lib.hid d0; clear d0
  have D1 := Lib.hid d1; clear d1
  have D2 := Lib.hid d2; clear d2
  have D3 := Lib.hid d3; clear d3
  have D4 := Lib.hid d4; clear d4
  go_enter Try.func88, Try.ntmps88
  go_wp2_with fail
  refine (room_122 b _ HB.out).mono ?_
  rintro e w1 ⟨rfl, hb1⟩
  have C0 := Lib.hid ((hb1.cell (p := ⟨b, 0, none⟩) hlt).trans C0.out)
  have C1 := Lib.hid ((hb1.cell (p := ⟨b, 1, none⟩) hlt).trans C1.out)
  have C2 := Lib.hid ((hb1.cell (p := ⟨b, 2, none⟩) hlt).trans C2.out)
  have D0 := Lib.hid ((hb1.cell (p := ⟨c, o, none⟩) hcl).trans D0.out)
  have D1 := Lib.hid ((hb1.cell (p := ⟨c, o + 1, none⟩) hcl).trans D1.out)
  have D2 := Lib.hid ((hb1.cell (p := ⟨c, o + 2, none⟩) hcl).trans D2.out)
  have D3 := Lib.hid ((hb1.cell (p := ⟨c, o + 3, none⟩) hcl).trans D3.out)
  have D4 := Lib.hid ((hb1.cell (p := ⟨c, o + 4, none⟩) hcl).trans D4.out)
  have hz1 := hb1.size
  go_wp2_with (refine wpList_make_own (o := ⟨some 28, _, _, _, _, _⟩) _ rfl _ _ 119 rfl w.heap.size 116 i0 (.int .u64 0) 1 Try.underlying119 hi hz0 hz1' .i64 .i64 3 3 rfl rfl rfl (by rw [hz2]; decide) (by unfold maxLen; decide) hb1.size ?_; intro w2 hown2 hgrow2)
  have hb2 : Below w1.heap.size w1 w2 := (Below.refl _ _).grown hgrow2 (Nat.le_refl _) (fun k e => by cases e)
  clear hgrow2
  have hbl := Nat.lt_of_lt_of_le hlt hz1
  have hcl1 := Nat.lt_of_lt_of_le hcl hz1
  have o0 := or64_none x0 e0
  have o1 := or64_none x1 e1
  have o2 := or64_two x1 x2 e1 e2
  have o3 := or64_none x3 e3
  have o4 := or64_two x3 x4 e3 e4
  have nc1 : ¬ cap = 1 := by omega
  have nc2 : ¬ cap - 1 = 2 := by omega
  have c0 := (hb2.cell (p := ⟨b, 0, none⟩) hbl).trans C0.out
  have d0 := (hb2.cell (p := ⟨c, o, none⟩) hcl1).trans D0.out
  refine wp_loop_rounds 4 ?_
  rw [rounds_succ]; go_wp2_with fail
  refine wp_loop_rounds 2 ?_
  rw [rounds_succ]; go_wp2_with fail
  rw [rounds_succ]; go_wp2_with (at_builtin; refine wpList_append_fits _ rfl _ _ 119 rfl w.heap.size 116 i0 1 Try.underlying119 hi hz1' w1.heap.size 0 3 [] rfl (hown2.alloc _) ⟨w2.heap.size, 0, none⟩ 1 1 [.int .u64 (x0 : Int)] rfl rfl (cell_one_new _ _ _) (by simp [Value.oneCell']) (by decide) ?_; intro w3 hown3 hgrow3)
  have hb3 : Below w1.heap.size w1 w3 := (hb2.alloc hb2.size _).grown hgrow3 (hb2.alloc hb2.size _).size (fun k e => by cases e; exact Nat.le_refl _)
  clear hgrow3 hown2
  have c1 := (hb3.cell (p := ⟨b, 1, none⟩) hbl).trans C1.out
  have d1 := (hb3.cell (p := ⟨c, o + 1, none⟩) hcl1).trans D1.out
  have d2 := (hb3.cell (p := ⟨c, o + 2, none⟩) hcl1).trans D2.out
  rw [rounds_succ]; go_wp2_with fail
  refine wp_loop_rounds 3 ?_
  rw [rounds_succ]; go_wp2_with fail
  rw [rounds_succ]; go_wp2_with fail
  rw [rounds_succ]; go_wp2_with (at_builtin; refine wpList_append_fits _ rfl _ _ 119 rfl w.heap.size 116 i0 1 Try.underlying119 hi hz1' w1.heap.size 1 3 [.int .u64 (x0 : Int)] rfl (hown3.alloc _) ⟨w3.heap.size, 0, none⟩ 1 1 [.int .u64 ((x1 : Int) + 256 * (x2 : Int))] rfl rfl (cell_one_new _ _ _) (by simp [Value.oneCell']) (by decide) ?_; intro w4 hown4 hgrow4)
  have hb4 : Below w1.heap.size w1 w4 := (hb3.alloc hb3.size _).grown hgrow4 (hb3.alloc hb3.size _).size (fun k e => by cases e; exact Nat.le_refl _)
  clear hgrow4 hown3
  have c2 := (hb4.cell (p := ⟨b, 2, none⟩) hbl).trans C2.out
  have d3 := (hb4.cell (p := ⟨c, o + 3, none⟩) hcl1).trans D3.out
  have d4 := (hb4.cell (p := ⟨c, o + 4, none⟩) hcl1).trans D4.out
  rw [rounds_succ]; go_wp2_with fail
  refine wp_loop_rounds 3 ?_
  rw [rounds_succ]; go_wp2_with fail
  rw [rounds_succ]; go_wp2_with fail
  rw [rounds_succ]; go_wp2_with (at_builtin; refine wpList_append_fits _ rfl _ _ 119 rfl w.heap.size 116 i0 1 Try.underlying119 hi hz1' w1.heap.size 2 3 [.int .u64 (x0 : Int), .int .u64 ((x1 : Int) + 256 * (x2 : Int))] rfl (hown4.alloc _) ⟨w4.heap.size, 0, none⟩ 1 1 [.int .u64 ((x3 : Int) + 256 * (x4 : Int))] rfl rfl (cell_one_new _ _ _) (by simp [Value.oneCell']) (by decide) ?_; intro w5 hown5 hgrow5)
  all_goals
    have hb5 : Below w1.heap.size w1 w5 := (hb4.alloc hb4.size _).grown hgrow5 (hb4.alloc hb4.size _).size (fun k e => by cases e; exact Nat.le_refl _)
    clear hgrow5 hown4
    rw [rounds_succ]; go_wp2_with fail
    have hB5 := Below.step hb1 hz1 hb5
    refine bodyPost_ret (v := .tuple #[.slice (some ⟨w1.heap.size, 0, none⟩) 3 3, .int .i64 0]) (by simp [results, Try.results88, go_sem]) rfl ⟨_, rfl, ⟨?_, ?_, ?_⟩, ?_, hz1, hB5⟩
    · simpa using hown5.cellAt 0 (by decide)
    · simpa using hown5.cellAt 1 (by decide)
    · simpa using hown5.cellAt 2 (by decide)
    · exact block_lt_of_cell (a := ⟨w1.heap.size, 0, none⟩) (hown5.cellAt 0 (by decide))

end Go.Proofs.Ytaeklmnleampcaa
