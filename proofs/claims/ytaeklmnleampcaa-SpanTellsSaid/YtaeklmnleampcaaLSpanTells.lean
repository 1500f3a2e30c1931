/- For every list of spans, every number and every count: of a set, Has, Count, List and First answer as the document's. No condition. -/
import Derived.Test.YtaeklmnleampcaaWo
import Derived.Test.YtaeklmnleampcaaFSpanTells
namespace Go.Proofs.Ytaeklmnleampcaa
open Go.RowKit

set_option maxRecDepth 100000 in
set_option maxHeartbeats 4000000 in
theorem spanTells_walk : SpanTellsWalk := by
  intro w v l n many hv _ _ _ _
  have hB0 := Below.refl w.heap.size w
  have HV := Lib.hid hv; clear hv
  obtain ⟨r, hr⟩ : ∃ r, rightB l = r := ⟨_, rfl⟩
  have HR := Lib.hid hr; clear hr
  have hbe : ∀ (b : Bool) (W' : World), (binOp .eql 4 (.bool b) (.bool b)).run Try.prog W' = .ok (.bool true) W' := fun b W' => by cases b <;> simp [go_sem]
  go_enter Try.func8, Try.ntmps8
  go_wp2_with fail
  refine (spanAlive_any _).mono ?_
  rintro e w1 ⟨rfl, hb1⟩
  have hB1 := Below.step hB0 hB0.size hb1
  go_wp2_with fail
  refine (refright_is r _ l HR.out _ (HV.out.below hB1)).mono ?_
  rintro e w2 ⟨rfl, hb2⟩
  have hB2 := Below.step hB1 hB1.size hb2
  cases r with
  | false =>
    go_wp2
    go_ret
    exact ⟨rfl, hB2⟩
  | true =>
    obtain ⟨f, hf⟩ : ∃ f, f = firstS many l := ⟨_, rfl⟩
    obtain ⟨⟨x, y⟩, b⟩ := f
    have HF := Lib.hid hf; clear hf
    obtain ⟨t, ht⟩ : ∃ t, memB l n = t := ⟨_, rfl⟩
    have HT := Lib.hid ht; clear ht
    go_wp2_with fail
    refine (reflist_any _ l _ (HV.out.below hB2) HR.out).mono ?_
    rintro e w3 ⟨z, rfl, hz, hb3⟩
    have hB3 := Below.step hB2 hB2.size hb3
    obtain ⟨ao, cap, rfl, hlen, hzb, hzc⟩ := hz
    have hz : IntSl .i64 w3 (.slice ao (listOf (bitsOf l)).length cap) (listOf (bitsOf l)) := ⟨ao, cap, rfl, hlen, hzb, hzc⟩
    have HZ := Lib.hid hz; clear hz hzb hzc
    obtain ⟨m, hm⟩ : ∃ m, m = (listOf (bitsOf l)).length := ⟨_, rfl⟩
    rw [← hm] at HZ hlen ⊢
    clear hlen
    have HM := Lib.hid hm; clear hm
    go_wp2_with fail
    refine (first_is x y b _ l many ((firstR_right HR.out many).trans HF.out.symm) _ (HV.out.below hB3)).mono ?_
    rintro e w4 ⟨rfl, hb4⟩
    have hB4 := Below.step hB3 hB3.size hb4
    have hZ4 := HZ.out.below hb4
    go_wp2_with fail
    obtain ⟨W4, hW4⟩ : ∃ W0, W0 = w4.alloc (.cells #[.int .i64 x, .int .i64 y] 51) := ⟨_, rfl⟩
    have p0 : W4.cell? ⟨w4.heap.size, 0, none⟩ = some (.int .i64 x) := by rw [hW4]; exact World.cell?_alloc_at _ _ _ _ rfl
    have p1 : W4.cell? ⟨w4.heap.size, 1, none⟩ = some (.int .i64 y) := by rw [hW4]; exact World.cell?_alloc_at _ _ _ _ rfl
    have hs4 : W4.heap.size = w4.heap.size + 1 := by rw [hW4]; simp
    have hC4 : Below w4.heap.size w4 W4 := by rw [hW4]; exact (Below.refl _ _).alloc (Nat.le_refl _) _
    have hB4' := Below.step hB4 hB4.size hC4
    rw [← hW4]
    clear hW4
    refine (reffirst_is x y b _ l many HF.out.symm _ (HV.out.below hB4')).mono ?_
    rintro e w5 ⟨rfl, hb5⟩
    have hB5 := Below.step hB4' hB4'.size hb5
    have hD5 := Below.step (Below.refl W4.heap.size W4) (Nat.le_refl _) hb5
    have hZ5 := (hZ4.below hC4).below hb5
    go_wp2_with fail
    obtain ⟨W5, hW5⟩ : ∃ W0, W0 = w5.alloc (.cells #[.int .i64 x, .int .i64 y] 51) := ⟨_, rfl⟩
    have r0 : W5.cell? ⟨w5.heap.size, 0, none⟩ = some (.int .i64 x) := by rw [hW5]; exact World.cell?_alloc_at _ _ _ _ rfl
    have r1 : W5.cell? ⟨w5.heap.size, 1, none⟩ = some (.int .i64 y) := by rw [hW5]; exact World.cell?_alloc_at _ _ _ _ rfl
    have hs5 : W5.heap.size = w5.heap.size + 1 := by rw [hW5]; simp
    have hC5 : Below w5.heap.size w5 W5 := by rw [hW5]; exact (Below.refl _ _).alloc (Nat.le_refl _) _
    have hB5' := Below.step hB5 hB5.size hC5
    have hD5' := Below.step hD5 hD5.size hC5
    have hZ5' := hZ5.below hC5
    rw [← hW5]
    clear hW5
    refine (has_is t _ l n ((hasR_right HR.out n).trans HT.out) _ (HV.out.below hB5')).mono ?_
    rintro e w6 ⟨rfl, hb6⟩
    have hB6 := Below.step hB5' hB5'.size hb6
    have hD6 := Below.step hD5' hD5'.size hb6
    have hE6 := Below.step (Below.refl W5.heap.size W5) (Nat.le_refl _) hb6
    have hZ6 := hZ5'.below hb6
    go_wp2_with fail
    refine (refhas_is t _ l n HT.out _ (HV.out.below hB6) HR.out).mono ?_
    rintro e w7 ⟨rfl, hb7⟩
    have hB7 := Below.step hB6 hB6.size hb7
    have hD7 := Below.step hD6 hD6.size hb7
    have hE7 := Below.step hE6 hE6.size hb7
    have hZ7 := hZ6.below hb7
    have hbt := hbe t
    go_wp2_with fail
    refine (count_is (m : Int) _ l _ ((countR_right HR.out).trans (congrArg Nat.cast HM.out.symm)) (HV.out.below hB7)).mono ?_
    rintro e w8 ⟨rfl, hb8⟩
    have hB8 := Below.step hB7 hB7.size hb8
    have hD8 := Below.step hD7 hD7.size hb8
    have hE8 := Below.step hE7 hE7.size hb8
    have hZ8 := hZ7.below hb8
    go_wp2_with fail
    refine (list_any _ l _ (HV.out.below hB8)).mono ?_
    rintro e w9 ⟨u, rfl, hu, hb9⟩
    have hB9 := Below.step hB8 hB8.size hb9
    have hD9 := Below.step hD8 hD8.size hb9
    have hE9 := Below.step hE8 hE8.size hb9
    have hZ9 := hZ8.below hb9
    go_wp2_with fail
    refine (sameInts_is true _ _ _ _ (decide_eq_true (listR_right HR.out)) _ hu hZ9).mono ?_
    rintro e w10 ⟨rfl, hb10⟩
    have hB10 := Below.step hB9 hB9.size hb10
    have hD10 := Below.step hD9 hD9.size hb10
    have hE10 := Below.step hE9 hE9.size hb10
    have s5 := hD5.size
    have q0 := (hD10.cell (p := ⟨w4.heap.size, 0, none⟩) (by show w4.heap.size < W4.heap.size; omega)).trans p0
    have q1 := (hD10.cell (p := ⟨w4.heap.size, 1, none⟩) (by show w4.heap.size < W4.heap.size; omega)).trans p1
    have t0 := (hE10.cell (p := ⟨w5.heap.size, 0, none⟩) (by show w5.heap.size < W5.heap.size; omega)).trans r0
    have t1 := (hE10.cell (p := ⟨w5.heap.size, 1, none⟩) (by show w5.heap.size < W5.heap.size; omega)).trans r1
    have hbb := hbe b
    have h51 := eq51 x y x y true (by simp)
    go_wp2
    go_ret
    exact ⟨rfl, hB10⟩

theorem spanTells_holds : Rows.SpanTellsSaid := spanTells_of spanTells_walk

end Go.Proofs.Ytaeklmnleampcaa
