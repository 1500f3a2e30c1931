/- Walk of field.Put at the widths 1, 2, 2. -/
import Derived.Test.YtaeklmnleampcaaFa
namespace Go.Proofs.Ytaeklmnleampcaa
open Go.RowKit

set_option maxRecDepth 100000 in
set_option maxHeartbeats 8000000 in
theorem put_122 (b c : Nat) (t s n : Nat) (ht : t ≤ 1) (hs : s < 4096) (hn : n ≤ 4096) (w : World) (hb : IntSl .i64 w (.slice (some ⟨b, 0, none⟩) 3 3) [1, 2, 2])
    (hc : w.cell? ⟨c, 0, none⟩ = some (.int .u64 t) ∧ w.cell? ⟨c, 1, none⟩ = some (.int .u64 s) ∧ w.cell? ⟨c, 2, none⟩ = some (.int .u64 n)) (hcl : c < w.heap.size) :
    Calls Try.prog 86 #[.slice (some ⟨b, 0, none⟩) 3 3, .slice (some ⟨c, 0, none⟩) 3 3] w fun e w' => ∃ r, e = .returned (.tuple #[r, .int .i64 0]) ∧ IntSl .u8 w' r [(t : Int), (s : Int) % 256, (s : Int) / 256, (n : Int) % 256, (n : Int) / 256] ∧ Below w.heap.size w w' := by
  obtain ⟨i0, hi, hz0, hz1', hz2⟩ := info_parts Try.info5
  have HB := Lib.hid hb
  obtain ⟨ao, cap, he, _, _, hcc⟩ := hb
  obtain ⟨b', o, h1, hlt, hcell⟩ := hcc (by simp)
  simp only [Value.slice.injEq] at he
  obtain ⟨rfl, _, _⟩ := he
  simp only [Option.some.injEq, Addr.mk.injEq] at h1
  obtain ⟨rfl, rfl, _⟩ := h1
  have c0 : w.cell? ⟨b, 0, none⟩ = some (.int .i64 1) := hcell 0 (by decide)
  have c1 : w.cell? ⟨b, 1, none⟩ = some (.int .i64 2) := hcell 1 (by decide)
  have c2 : w.cell? ⟨b, 2, none⟩ = some (.int .i64 2) := hcell 2 (by decide)
  clear hcell hcc
  obtain ⟨d0, d1, d2⟩ := hc
  have C0 := Lib.hid c0; clear c0
  have C1 := Lib.hid c1; clear c1
  have C2 := Lib.hid c2; clear c2
  have D0 := Lib.hid d0; clear d0
  have D1 := Lib.hid d1; clear d1
  have D2 := Lib.hid d2; clear d2
  go_enter Try.func86, Try.ntmps86
  go_wp2_with fail
  refine (room_122 b _ HB.out).mono ?_
  rintro e w1 ⟨rfl, hb1⟩
  have c0 := (hb1.cell (p := ⟨b, 0, none⟩) hlt).trans C0.out
  have c1 := (hb1.cell (p := ⟨b, 1, none⟩) hlt).trans C1.out
  have c2 := (hb1.cell (p := ⟨b, 2, none⟩) hlt).trans C2.out
  have d0 := (hb1.cell (p := ⟨c, 0, none⟩) hcl).trans D0.out
  have d1 := (hb1.cell (p := ⟨c, 1, none⟩) hcl).trans D1.out
  have d2 := (hb1.cell (p := ⟨c, 2, none⟩) hcl).trans D2.out
  clear C0 C1 C2 D0 D1 D2 HB
  have C0 := Lib.hid c0
  have C1 := Lib.hid c1
  have C2 := Lib.hid c2
  have D0 := Lib.hid d0
  have D1 := Lib.hid d1
  have D2 := Lib.hid d2
  have q0 : ((t : Int) / 256 != 0) = false := by have : (t : Int) / 256 = 0 := by omega
                                                 rw [this]; rfl
  have q1 : ((s : Int) / 65536 != 0) = false := by have : (s : Int) / 65536 = 0 := by omega
                                                   rw [this]; rfl
  have q2 : ((n : Int) / 65536 != 0) = false := by have : (n : Int) / 65536 = 0 := by omega
                                                   rw [this]; rfl
  have hz1 := hb1.size
  go_wp2_with fail
  refine wp_loop_rounds 4 ?_
  rw [rounds_succ]; go_wp2_with fail
  rw [rounds_succ]; go_wp2_with fail
  rw [rounds_succ]; go_wp2_with fail
  rw [rounds_succ]; go_wp2_with (refine wpList_make_own (o := ⟨some 45, _, _, _, _, _⟩) _ rfl _ _ 86 rfl w.heap.size 5 i0 (.int .u8 0) 1 Try.underlying86 hi hz0 hz1' .i64 .i64 5 5 rfl rfl rfl (by rw [hz2]; decide) (by unfold maxLen; decide) hb1.size ?_; intro w2 hown2 hgrow2)
  have hb2 : Below w1.heap.size w1 w2 := (Below.refl _ _).grown hgrow2 (Nat.le_refl _) (fun k e => by cases e)
  clear hgrow2 c0 c1 c2 d0 d1 d2
  have hbl := Nat.lt_of_lt_of_le hlt hz1
  have hcl1 := Nat.lt_of_lt_of_le hcl hz1
  have WU1 : IntKind.u8.wrap (s : Int) = (s : Int) % 256 := rfl
  have WU2 : IntKind.u8.wrap (n : Int) = (n : Int) % 256 := rfl
  have c0 := (hb2.cell (p := ⟨b, 0, none⟩) hbl).trans C0.out
  have d0 := (hb2.cell (p := ⟨c, 0, none⟩) hcl1).trans D0.out
  refine wp_loop_rounds 4 ?_
  rw [rounds_succ]; go_wp2_with fail
  refine wp_loop_rounds 2 ?_
  rw [rounds_succ]; go_wp2_with (at_builtin; refine wpList_append_fits _ rfl _ _ 86 rfl w.heap.size 5 i0 1 Try.underlying86 hi hz1' w1.heap.size 0 5 [] rfl (hown2.alloc _) ⟨w2.heap.size, 0, none⟩ 1 1 [.int .u8 (t : Int)] rfl rfl (cell_one_new _ _ _) (by simp [Value.oneCell']) (by decide) ?_; intro w3 hown3 hgrow3)
  have hb3 : Below w1.heap.size w1 w3 := (hb2.alloc hb2.size _).grown hgrow3 (hb2.alloc hb2.size _).size (fun k e => by cases e; exact Nat.le_refl _)
  clear hgrow3 hown2
  rw [rounds_succ]; go_wp2_with fail
  have c1 := (hb3.cell (p := ⟨b, 1, none⟩) hbl).trans C1.out
  have d1 := (hb3.cell (p := ⟨c, 1, none⟩) hcl1).trans D1.out
  rw [rounds_succ]; go_wp2_with fail
  refine wp_loop_rounds 3 ?_
  rw [rounds_succ]; go_wp2_with (at_builtin; refine wpList_append_fits _ rfl _ _ 86 rfl w.heap.size 5 i0 1 Try.underlying86 hi hz1' w1.heap.size 1 5 [.int .u8 (t : Int)] rfl (hown3.alloc _) ⟨w3.heap.size, 0, none⟩ 1 1 [.int .u8 ((s : Int) % 256)] rfl rfl (cell_one_new _ _ _) (by simp [Value.oneCell']) (by decide) ?_; intro w4 hown4 hgrow4)
  have hb4 : Below w1.heap.size w1 w4 := (hb3.alloc hb3.size _).grown hgrow4 (hb3.alloc hb3.size _).size (fun k e => by cases e; exact Nat.le_refl _)
  clear hgrow4 hown3
  rw [rounds_succ]; go_wp2_with (at_builtin; refine wpList_append_fits _ rfl _ _ 86 rfl w.heap.size 5 i0 1 Try.underlying86 hi hz1' w1.heap.size 2 5 [.int .u8 (t : Int), .int .u8 ((s : Int) % 256)] rfl (hown4.alloc _) ⟨w4.heap.size, 0, none⟩ 1 1 [.int .u8 ((s : Int) / 256)] rfl rfl (cell_one_new _ _ _) (by simp [Value.oneCell']) (by decide) ?_; intro w5 hown5 hgrow5)
  have hb5 : Below w1.heap.size w1 w5 := (hb4.alloc hb4.size _).grown hgrow5 (hb4.alloc hb4.size _).size (fun k e => by cases e; exact Nat.le_refl _)
  clear hgrow5 hown4
  rw [rounds_succ]; go_wp2_with fail
  have c2 := (hb5.cell (p := ⟨b, 2, none⟩) hbl).trans C2.out
  have d2 := (hb5.cell (p := ⟨c, 2, none⟩) hcl1).trans D2.out
  rw [rounds_succ]; go_wp2_with fail
  refine wp_loop_rounds 3 ?_
  rw [rounds_succ]; go_wp2_with (at_builtin; refine wpList_append_fits _ rfl _ _ 86 rfl w.heap.size 5 i0 1 Try.underlying86 hi hz1' w1.heap.size 3 5 [.int .u8 (t : Int), .int .u8 ((s : Int) % 256), .int .u8 ((s : Int) / 256)] rfl (hown5.alloc _) ⟨w5.heap.size, 0, none⟩ 1 1 [.int .u8 ((n : Int) % 256)] rfl rfl (cell_one_new _ _ _) (by simp [Value.oneCell']) (by decide) ?_; intro w6 hown6 hgrow6)
  have hb6 : Below w1.heap.size w1 w6 := (hb5.alloc hb5.size _).grown hgrow6 (hb5.alloc hb5.size _).size (fun k e => by cases e; exact Nat.le_refl _)
  clear hgrow6 hown5
  rw [rounds_succ]; go_wp2_with (at_builtin; refine wpList_append_fits _ rfl _ _ 86 rfl w.heap.size 5 i0 1 Try.underlying86 hi hz1' w1.heap.size 4 5 [.int .u8 (t : Int), .int .u8 ((s : Int) % 256), .int .u8 ((s : Int) / 256), .int .u8 ((n : Int) % 256)] rfl (hown6.alloc _) ⟨w6.heap.size, 0, none⟩ 1 1 [.int .u8 ((n : Int) / 256)] rfl rfl (cell_one_new _ _ _) (by simp [Value.oneCell']) (by decide) ?_; intro w7 hown7 hgrow7)
  have hb7 : Below w1.heap.size w1 w7 := (hb6.alloc hb6.size _).grown hgrow7 (hb6.alloc hb6.size _).size (fun k e => by cases e; exact Nat.le_refl _)
  clear hgrow7 hown6
  rw [rounds_succ]; go_wp2_with fail
  rw [rounds_succ]; go_wp2_with fail
  have hB7 := Below.step hb1 hz1 hb7
  refine bodyPost_ret (v := .tuple #[.slice (some ⟨w1.heap.size, 0, none⟩) 5 5, .int .i64 0]) (by simp [results, Try.results86, go_sem]) rfl ⟨_, rfl, ?_, hB7⟩
  refine intSl_of_owns (l := [(t : Int), (s : Int) % 256, (s : Int) / 256, (n : Int) % 256, (n : Int) / 256]) hown7 ?_ (by simp)
  intro x hx
  simp only [List.mem_cons, List.not_mem_nil, or_false] at hx
  rcases hx with rfl | rfl | rfl | rfl | rfl <;> exact WalkArith.wf_u8 (by omega)

end Go.Proofs.Ytaeklmnleampcaa
