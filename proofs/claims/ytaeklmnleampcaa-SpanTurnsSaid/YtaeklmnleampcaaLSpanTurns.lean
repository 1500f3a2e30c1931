/- Of three sets: Join and Both hang together from either side, and to cut two is to cut their union. No condition. -/
import Derived.Test.YtaeklmnleampcaaWo
import Derived.Test.YtaeklmnleampcaaFSpanTurns
namespace Go.Proofs.Ytaeklmnleampcaa
open Go.RowKit

theorem bitsR_spansOf (g : Nat → Bool) {n : Nat} (hn : n < 4096) : bitsR (spansOf g) n = g n := by
  rw [bitsR_right (spansOf_right g), bitsOf_spansOf g hn]

set_option maxRecDepth 100000 in
set_option maxHeartbeats 4000000 in
theorem spanTurns_walk : SpanTurnsWalk := by
  intro w v a u b t c hv _ _ hu _ _ ht _ _
  have hB0 := Below.refl w.heap.size w
  have HV := Lib.hid hv; clear hv
  have HU := Lib.hid hu; clear hu
  have HT := Lib.hid ht; clear ht
  obtain ⟨r, hr⟩ : ∃ r, rightB a = r := ⟨_, rfl⟩
  have HR := Lib.hid hr; clear hr
  obtain ⟨s, hs⟩ : ∃ r, rightB b = r := ⟨_, rfl⟩
  have HS := Lib.hid hs; clear hs
  obtain ⟨q, hq⟩ : ∃ r, rightB c = r := ⟨_, rfl⟩
  have HQ := Lib.hid hq; clear hq
  go_enter Try.func12, Try.ntmps12
  go_wp2_with fail
  refine (spanAlive_any _).mono ?_
  rintro e w1 ⟨rfl, hb1⟩
  have hB1 := Below.step hB0 hB0.size hb1
  go_wp2_with fail
  refine (right_is r _ a HR.out _ (HV.out.below hB1)).mono ?_
  rintro e w2 ⟨rfl, hb2⟩
  have hB2 := Below.step hB1 hB1.size hb2
  cases r with
  | false =>
    go_wp2
    go_ret
    exact ⟨rfl, hB2⟩
  | true =>
  go_wp2_with fail
  refine (right_is s _ b HS.out _ (HU.out.below hB2)).mono ?_
  rintro e w3 ⟨rfl, hb3⟩
  have hB3 := Below.step hB2 hB2.size hb3
  cases s with
  | false =>
    go_wp2
    go_ret
    exact ⟨rfl, hB3⟩
  | true =>
  go_wp2_with fail
  refine (right_is q _ c HQ.out _ (HT.out.below hB3)).mono ?_
  rintro e w4 ⟨rfl, hb4⟩
  have hB4 := Below.step hB3 hB3.size hb4
  cases q with
  | false =>
    go_wp2
    go_ret
    exact ⟨rfl, hB4⟩
  | true =>
  go_wp2_with fail
  refine (join_any _ _ a b _ (HV.out.below hB4) (HU.out.below hB4)).mono ?_
  rintro e w5 ⟨x1, rfl, hx1, hb5⟩
  have hB5 := Below.step hB4 hB4.size hb5
  go_wp2_with fail
  refine (join_any _ _ _ c _ hx1 (HT.out.below hB5)).mono ?_
  rintro e w6 ⟨y1, rfl, hy1, hb6⟩
  have hB6 := Below.step hB5 hB5.size hb6
  go_wp2_with fail
  refine (join_any _ _ c b _ (HT.out.below hB6) (HU.out.below hB6)).mono ?_
  rintro e w7 ⟨x2, rfl, hx2, hb7⟩
  have hB7 := Below.step hB6 hB6.size hb7
  go_wp2_with fail
  refine (join_any _ _ a _ _ (HV.out.below hB7) hx2).mono ?_
  rintro e w8 ⟨y2, rfl, hy2, hb8⟩
  have hB8 := Below.step hB7 hB7.size hb8
  have hy1 := (hy1.below hb7).below hb8
  go_wp2_with fail
  refine (both_any _ _ a b _ (HV.out.below hB8) (HU.out.below hB8)).mono ?_
  rintro e w9 ⟨x3, rfl, hx3, hb9⟩
  have hB9 := Below.step hB8 hB8.size hb9
  go_wp2_with fail
  refine (both_any _ _ _ c _ hx3 (HT.out.below hB9)).mono ?_
  rintro e w10 ⟨y3, rfl, hy3, hb10⟩
  have hB10 := Below.step hB9 hB9.size hb10
  go_wp2_with fail
  refine (both_any _ _ c a _ (HT.out.below hB10) (HV.out.below hB10)).mono ?_
  rintro e w11 ⟨x4, rfl, hx4, hb11⟩
  have hB11 := Below.step hB10 hB10.size hb11
  go_wp2_with fail
  refine (both_any _ _ b _ _ (HU.out.below hB11) hx4).mono ?_
  rintro e w12 ⟨y4, rfl, hy4, hb12⟩
  have hB12 := Below.step hB11 hB11.size hb12
  have hy1 := (((hy1.below hb9).below hb10).below hb11).below hb12
  have hy2 := (((hy2.below hb9).below hb10).below hb11).below hb12
  have hy3 := (hy3.below hb11).below hb12
  go_wp2_with fail
  refine (same_is true _ _ _ _ (decide_eq_true (spansOf_congr fun n hn => by
    rw [bitsR_spansOf _ hn, bitsR_spansOf _ hn, Bool.or_assoc, Bool.or_comm (bitsR b n)])) _ hy1 hy2).mono ?_
  rintro e w13 ⟨rfl, hb13⟩
  have hB13 := Below.step hB12 hB12.size hb13
  go_wp2_with fail
  refine (same_is true _ _ _ _ (decide_eq_true (spansOf_congr fun n hn => by
    rw [bitsR_spansOf _ hn, bitsR_spansOf _ hn]; cases bitsR a n <;> cases bitsR b n <;> cases bitsR c n <;> rfl)) _ (hy3.below hb13) (hy4.below hb13)).mono ?_
  rintro e w14 ⟨rfl, hb14⟩
  have hB14 := Below.step hB13 hB13.size hb14
  go_wp2_with fail
  refine (cut_any _ _ a b _ (HV.out.below hB14) (HU.out.below hB14)).mono ?_
  rintro e w15 ⟨x5, rfl, hx5, hb15⟩
  have hB15 := Below.step hB14 hB14.size hb15
  go_wp2_with fail
  refine (cut_any _ _ _ c _ hx5 (HT.out.below hB15)).mono ?_
  rintro e w16 ⟨y5, rfl, hy5, hb16⟩
  have hB16 := Below.step hB15 hB15.size hb16
  go_wp2_with fail
  refine (join_any _ _ b c _ (HU.out.below hB16) (HT.out.below hB16)).mono ?_
  rintro e w17 ⟨x6, rfl, hx6, hb17⟩
  have hB17 := Below.step hB16 hB16.size hb17
  go_wp2_with fail
  refine (cut_any _ _ a _ _ (HV.out.below hB17) hx6).mono ?_
  rintro e w18 ⟨y6, rfl, hy6, hb18⟩
  have hB18 := Below.step hB17 hB17.size hb18
  have hy5 := (hy5.below hb17).below hb18
  go_wp2_with fail
  refine (same_is true _ _ _ _ (decide_eq_true (spansOf_congr fun n hn => by
    rw [bitsR_spansOf _ hn, bitsR_spansOf _ hn]; cases bitsR a n <;> cases bitsR b n <;> cases bitsR c n <;> rfl)) _ hy5 hy6).mono ?_
  rintro e w19 ⟨rfl, hb19⟩
  have hB19 := Below.step hB18 hB18.size hb19
  go_wp2
  go_ret
  exact ⟨rfl, hB19⟩

theorem spanTurns_holds : Rows.SpanTurnsSaid := spanTurns_of spanTurns_walk

end Go.Proofs.Ytaeklmnleampcaa
