/- For every list of spans and every count: what First hands out lies in the set, is of that length, and nothing fits ahead of it; and if it finds nothing, nothing fits. No condition. -/
import Derived.Test.YtaeklmnleampcaaWo
import Derived.Test.YtaeklmnleampcaaFSpanFirsts
namespace Go.Proofs.Ytaeklmnleampcaa
open Go.RowKit

theorem ahead_part {l m r : List (Int × Int)} {s : Int × Int} (hr : rightB l = true) (hl : l = m ++ s :: r) (hs : 1 ≤ s.1) (hs2 : s.1 < 4096) :
    spansOf (fun n => bitsR l n && bitsR [(0, s.1)] n) = m := by
  subst hl
  refine Eq.trans (spansOf_congr fun n hn => ?_) (below_part hr)
  have h1 : rightB [(0, s.1)] = true := by simp [rightB, rightFrom, singleB]; omega
  rw [bitsR_right hr, bitsR_right h1]
  congr 1
  simp [bitsOf, memB]

theorem firstS_ahead {many : Int} {m : List (Int × Int)} (h : ∀ y ∈ m, ¬ (1 ≤ many ∧ many ≤ y.2)) (hr : rightB m = true) : firstR many m = ((0, 0), false) := by
  rw [firstR_right hr, firstS_none h]

set_option maxRecDepth 100000 in
set_option maxHeartbeats 4000000 in
theorem spanFirsts_walk : SpanFirstsWalk := by
  intro w v l many hv _ _ _
  have hB0 := Below.refl w.heap.size w
  have HV := Lib.hid hv
  obtain ⟨ao, cap, rfl, hlen, hb, hc⟩ := hv
  have HC := Lib.hid hc; clear hc
  clear hb
  obtain ⟨r, hr⟩ : ∃ r, rightB l = r := ⟨_, rfl⟩
  have HR := Lib.hid hr; clear hr
  obtain ⟨b, hb⟩ : ∃ b, (firstS many l).2 = b := ⟨_, rfl⟩
  have HB := Lib.hid hb; clear hb
  go_enter Try.func7, Try.ntmps7
  go_wp2_with fail
  refine (spanAlive_any _).mono ?_
  rintro e w1 ⟨rfl, hb1⟩
  have hB1 := Below.step hB0 hB0.size hb1
  go_wp2_with fail
  refine (right_is r _ l HR.out _ (HV.out.below hB1)).mono ?_
  rintro e w2 ⟨rfl, hb2⟩
  have hB2 := Below.step hB1 hB1.size hb2
  cases r with
  | false =>
    go_wp2
    go_ret
    exact ⟨rfl, hB2⟩
  | true =>
  cases b with
  | false =>
    have HN := Lib.hid (firstS_no HB.out)
    go_wp2_with fail
    refine (first_is 0 0 false _ l many ((firstR_right HR.out many).trans (Prod.ext HN.out.1 HB.out)) _ (HV.out.below hB2)).mono ?_
    rintro e w3 ⟨rfl, hb3⟩
    have hB3 := Below.step hB2 hB2.size hb3
    go_wp2_with fail
    obtain ⟨W3, hW3⟩ : ∃ W0, W0 = w3.alloc (.cells #[.int .i64 0, .int .i64 0] 51) := ⟨_, rfl⟩
    have p0 : W3.cell? ⟨w3.heap.size, 0, none⟩ = some (.int .i64 0) := by rw [hW3]; exact World.cell?_alloc_at _ _ _ _ rfl
    have p1 : W3.cell? ⟨w3.heap.size, 1, none⟩ = some (.int .i64 0) := by rw [hW3]; exact World.cell?_alloc_at _ _ _ _ rfl
    have hs3 : W3.heap.size = w3.heap.size + 1 := by rw [hW3]; simp
    have hC3 : Below w3.heap.size w3 W3 := by rw [hW3]; exact (Below.refl _ _).alloc (Nat.le_refl _) _
    have hB3' := Below.step hB3 hB3.size hC3
    rw [← hW3]
    clear hW3 hC3
    go_loopw [27] (fun i wr => ∃ k : Nat, k ≤ l.length ∧ i = .int .i64 k ∧ Below W3.heap.size W3 wr)
      (fun i _ => l.length - (intOf i).toNat)
    case atStart => exact ⟨0, Nat.zero_le _, rfl, Below.refl _ _⟩
    case round =>
      obtain ⟨k, hk, rfl, hbel⟩ := hrel
      have hbs0 := hbel.size
      have hbelw := Below.step hB3' hB3'.size hbel
      by_cases hlt : k < l.length
      · obtain ⟨b, o, rfl, hbs, hcell⟩ := HC.out (by intro h; simp [h] at hlt)
        obtain ⟨h1, h2⟩ := span_cells hbs hcell hbelw hlt
        clear hcell
        have hno := HN.out.2 _ (List.getElem_mem hlt)
        by_cases hm : 1 ≤ many
        · have hx : ¬ many ≤ l[k].2 := fun h => hno ⟨hm, h⟩
          clear hno
          go_wp2
          go_roundw
          case rel => exact ⟨k + 1, by omega, by go_num, by go_grown⟩
          case measure => simp [intOf]; omega
        · clear hno
          go_wp2
          go_roundw
          case rel => exact ⟨k + 1, by omega, by go_num, by go_grown⟩
          case measure => simp [intOf]; omega
      · have q0 := (hbel.cell (p := ⟨w3.heap.size, 0, none⟩) (by show w3.heap.size < W3.heap.size; omega)).trans p0
        have q1 := (hbel.cell (p := ⟨w3.heap.size, 1, none⟩) (by show w3.heap.size < W3.heap.size; omega)).trans p1
        have h51 := eq51 0 0 0 0 true (by decide)
        go_wp2
        go_ret
        exact ⟨rfl, hbelw⟩
  | true =>
    obtain ⟨hm1, m, s, t, hl, hs2, hf, hno⟩ := firstS_yes HB.out
    have hrl := HR.out
    rw [hl] at hrl
    unfold rightB at hrl
    rw [rightFrom_append, Bool.and_eq_true, rightFrom_cons, singleB_iff] at hrl
    obtain ⟨hrm, ⟨g1, g2, g3, g4⟩, _, _⟩ := hrl
    have HM : Hid (∀ k : Nat, (k : Int) < many → hasR l (s.1 + (k : Int)) = true) := by
      intro k hk
      rw [hasR_right HR.out, hl, memB_append, Bool.or_eq_true, memB_cons]
      exact .inr (.inl ⟨by omega, by omega⟩)
    have HA : Hid (firstR many m = ((0, 0), false)) := firstS_ahead hno (by unfold rightB; exact hrm)
    have HP : Hid (1 ≤ s.1 → spansOf (fun n => bitsR l n && bitsR [(0, s.1)] n) = m) := fun h => ahead_part HR.out hl h g2
    have HF : Hid (firstR many l = ((s.1, many), true)) := (firstR_right HR.out many).trans (Prod.ext hf HB.out)
    clear hl hf hno hrm
    obtain ⟨x, y⟩ := s
    simp only at HM HP HF g1 g2 g3 g4 hs2
    have hmm : many ≤ 4096 := by omega
    clear hs2 g3 g4
    go_wp2_with fail
    refine (first_is x many true _ l many HF.out _ (HV.out.below hB2)).mono ?_
    rintro e w3 ⟨rfl, hb3⟩
    have hB3 := Below.step hB2 hB2.size hb3
    go_wp2_with fail
    obtain ⟨W3, hW3⟩ : ∃ W0, W0 = w3.alloc (.cells #[.int .i64 x, .int .i64 many] 51) := ⟨_, rfl⟩
    have p0 : W3.cell? ⟨w3.heap.size, 0, none⟩ = some (.int .i64 x) := by rw [hW3]; exact World.cell?_alloc_at _ _ _ _ rfl
    have p1 : W3.cell? ⟨w3.heap.size, 1, none⟩ = some (.int .i64 many) := by rw [hW3]; exact World.cell?_alloc_at _ _ _ _ rfl
    have hs3 : W3.heap.size = w3.heap.size + 1 := by rw [hW3]; simp
    have hC3 : Below w3.heap.size w3 W3 := by rw [hW3]; exact (Below.refl _ _).alloc (Nat.le_refl _) _
    have hB3' := Below.step hB3 hB3.size hC3
    rw [← hW3]
    clear hW3 hC3
    go_loopw [9] (fun i wr => ∃ k : Nat, (k : Int) ≤ many ∧ i = .int .i64 k ∧ Below W3.heap.size W3 wr)
      (fun i _ => (many - intOf i).toNat)
    case atStart => exact ⟨0, by omega, rfl, Below.refl _ _⟩
    case round =>
      obtain ⟨k, hk, rfl, hbel⟩ := hrel
      have hbs0 := hbel.size
      have hbelw := Below.step hB3' hB3'.size hbel
      have q0 := (hbel.cell (p := ⟨w3.heap.size, 0, none⟩) (by show w3.heap.size < W3.heap.size; omega)).trans p0
      have q1 := (hbel.cell (p := ⟨w3.heap.size, 1, none⟩) (by show w3.heap.size < W3.heap.size; omega)).trans p1
      by_cases hlt : (k : Int) < many
      · have w1 : IntKind.i64.wrap (x + (k : Int)) = x + (k : Int) := IntWalk.i64_in _ (by omega)
        go_wp2_with fail
        refine (has_is true _ l _ (HM.out k hlt) _ (HV.out.below hbelw)).mono ?_
        rintro e w4 ⟨rfl, hb4⟩
        have hB4 := Below.step hbel hbel.size hb4
        go_wp2
        go_roundw
        case rel => exact ⟨k + 1, by omega, by go_num, hB4⟩
        case measure => simp [intOf]; omega
      · by_cases hx0 : x = 0
        · subst hx0
          go_wp2_with fail
          obtain ⟨W4, hW4⟩ : ∃ W, W = wr.alloc (.cells #[.int .i64 0, .int .i64 1] 51) := ⟨_, rfl⟩
          have hl4 : SpanSl W4 (.slice (some ⟨wr.heap.size, 0, none⟩) 1 1) [(0, 1)] := by
            rw [hW4]; exact spanSl_lit wr [(0, 1)] _ _ rfl (by simp [inI64]; try omega) (by simp) _ _ rfl
          have hC4 : Below wr.heap.size wr W4 := by rw [hW4]; exact (Below.refl _ _).alloc (Nat.le_refl _) _
          have hB4 := Below.step hbelw hbelw.size hC4
          have hD4 := Below.step hbel hbel.size hC4
          rw [← hW4]
          clear hW4
          refine (both_any _ _ l _ _ (HV.out.below hB4) hl4).mono ?_
          rintro e w5 ⟨z, rfl, hz, hb5⟩
          have hB5 := Below.step hB4 hB4.size hb5
          have hD5 := Below.step hD4 hD4.size hb5
          go_wp2_with fail
          obtain ⟨F, hF⟩ : ∃ F, F = firstR many (spansOf fun n => bitsR l n && bitsR [(0, 1)] n) := ⟨_, rfl⟩
          obtain ⟨⟨x', y'⟩, b'⟩ := F
          have HX := Lib.hid hF
          clear hF
          refine (first_is x' y' b' _ _ many HX.out.symm _ hz).mono ?_
          rintro e w6 ⟨rfl, hb6⟩
          have hB6 := Below.step hB5 hB5.size hb6
          have hD6 := Below.step hD5 hD5.size hb6
          have hs6 := hD6.size
          have q2 := (hD6.cell (p := ⟨w3.heap.size, 0, none⟩) (by show w3.heap.size < W3.heap.size; omega)).trans p0
          have q3 := (hD6.cell (p := ⟨w3.heap.size, 1, none⟩) (by show w3.heap.size < W3.heap.size; omega)).trans p1
          have hwr : w3.heap.size < w6.heap.size := by omega
          clear q0 q1 p0 p1
          go_wp2
          go_ret
          exact ⟨rfl, hB6.alloc hB6.size _⟩
        · by_cases hx1 : x = 1
          · subst hx1
            go_wp2_with fail
            obtain ⟨W4, hW4⟩ : ∃ W, W = wr.alloc (.cells #[.int .i64 0, .int .i64 1] 51) := ⟨_, rfl⟩
            have hl4 : SpanSl W4 (.slice (some ⟨wr.heap.size, 0, none⟩) 1 1) [(0, 1)] := by
              rw [hW4]; exact spanSl_lit wr [(0, 1)] _ _ rfl (by simp [inI64]; try omega) (by simp) _ _ rfl
            have hC4 : Below wr.heap.size wr W4 := by rw [hW4]; exact (Below.refl _ _).alloc (Nat.le_refl _) _
            have hB4 := Below.step hbelw hbelw.size hC4
            have hD4 := Below.step hbel hbel.size hC4
            rw [← hW4]
            clear hW4
            refine (both_any _ _ l _ _ (HV.out.below hB4) hl4).mono ?_
            rintro e w5 ⟨z, rfl, hz, hb5⟩
            have hB5 := Below.step hB4 hB4.size hb5
            have hD5 := Below.step hD4 hD4.size hb5
            go_wp2_with fail
            rw [HP.out (by omega)] at hz
            refine (first_is 0 0 false _ m many HA.out _ hz).mono ?_
            rintro e w6 ⟨rfl, hb6⟩
            have hB6 := Below.step hB5 hB5.size hb6
            have hD6 := Below.step hD5 hD5.size hb6
            have hs6 := hD6.size
            have q2 := (hD6.cell (p := ⟨w3.heap.size, 0, none⟩) (by show w3.heap.size < W3.heap.size; omega)).trans p0
            have q3 := (hD6.cell (p := ⟨w3.heap.size, 1, none⟩) (by show w3.heap.size < W3.heap.size; omega)).trans p1
            have hwr : w3.heap.size < w6.heap.size := by omega
            clear q0 q1 p0 p1
            go_wp2
            go_ret
            exact ⟨rfl, hB6.alloc hB6.size _⟩
          · have hx2 : 1 < x := by omega
            have hx3 : ¬ x < 1 := by omega
            have hx4 : ¬ x ≤ 1 := by omega
            have hx5 : 1 ≤ x := by omega
            go_wp2_with fail
            obtain ⟨W4, hW4⟩ : ∃ W, W = wr.alloc (.cells #[.int .i64 0, .int .i64 x] 51) := ⟨_, rfl⟩
            have hl4 : SpanSl W4 (.slice (some ⟨wr.heap.size, 0, none⟩) 1 1) [(0, x)] := by
              rw [hW4]; exact spanSl_lit wr [(0, x)] _ _ rfl (by simp [inI64]; try omega) (by simp) _ _ rfl
            have hC4 : Below wr.heap.size wr W4 := by rw [hW4]; exact (Below.refl _ _).alloc (Nat.le_refl _) _
            have hB4 := Below.step hbelw hbelw.size hC4
            have hD4 := Below.step hbel hbel.size hC4
            rw [← hW4]
            clear hW4
            refine (both_any _ _ l _ _ (HV.out.below hB4) hl4).mono ?_
            rintro e w5 ⟨z, rfl, hz, hb5⟩
            have hB5 := Below.step hB4 hB4.size hb5
            have hD5 := Below.step hD4 hD4.size hb5
            go_wp2_with fail
            rw [HP.out (by omega)] at hz
            refine (first_is 0 0 false _ m many HA.out _ hz).mono ?_
            rintro e w6 ⟨rfl, hb6⟩
            have hB6 := Below.step hB5 hB5.size hb6
            have hD6 := Below.step hD5 hD5.size hb6
            have hs6 := hD6.size
            have q2 := (hD6.cell (p := ⟨w3.heap.size, 0, none⟩) (by show w3.heap.size < W3.heap.size; omega)).trans p0
            have q3 := (hD6.cell (p := ⟨w3.heap.size, 1, none⟩) (by show w3.heap.size < W3.heap.size; omega)).trans p1
            have hwr : w3.heap.size < w6.heap.size := by omega
            clear q0 q1 p0 p1
            go_wp2
            go_ret
            exact ⟨rfl, hB6.alloc hB6.size _⟩

theorem spanFirsts_holds : Rows.SpanFirstsSaid := spanFirsts_of spanFirsts_walk

end Go.Proofs.Ytaeklmnleampcaa
