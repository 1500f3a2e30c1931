/- Of two sets: Join, Cut and Both make sets, their counts add up, and the two parts of a set join to it. No condition. -/
import Derived.Test.YtaeklmnleampcaaWo
import Derived.Test.YtaeklmnleampcaaFSpanAdds
namespace Go.Proofs.Ytaeklmnleampcaa
open Go.RowKit

theorem bits_of (g : Nat → Bool) {n : Nat} (hn : n < 4096) : bitsR (spansOf g) n = g n := by
  rw [bitsR_right (spansOf_right g), bitsOf_spansOf g hn]

theorem filter_adds (f g : Nat → Bool) (q : List Nat) : (q.filter fun n => f n || g n).length + (q.filter fun n => f n && g n).length = (q.filter f).length + (q.filter g).length := by
  induction q with
  | nil => rfl
  | cons x r ih =>
    simp only [List.filter_cons]
    cases f x <;> cases g x <;> simp <;> omega

theorem countR_of (f : Nat → Bool) : countR (spansOf f) = ((listOf f).length : Int) := by
  rw [countR_right (spansOf_right f), listOf_congr fun n hn => bitsOf_spansOf f hn]

theorem countR_adds {l m : List (Int × Int)} (hl : rightB l = true) (hm : rightB m = true) :
    countR (spansOf fun n => bitsR l n || bitsR m n) + countR (spansOf fun n => bitsR l n && bitsR m n) = countR l + countR m := by
  rw [countR_of, countR_of, countR_right hl, countR_right hm, bitsR_right hl, bitsR_right hm]
  have := filter_adds (bitsOf l) (bitsOf m) (List.range 4096)
  simp only [listOf, listTo, List.length_map]
  omega

theorem countR_le (l : List (Int × Int)) : 0 ≤ countR l ∧ countR l ≤ 4096 := by
  cases h : rightB l with
  | false => unfold countR; rw [h]; simp
  | true =>
    rw [countR_right h]
    have := listTo_length_le (bitsOf l) 4096
    unfold listOf
    omega

theorem spansOf_none {f : Nat → Bool} (h : ∀ n, n < 4096 → f n = false) : spansOf f = [] := by
  refine right_unique (spansOf_right f) (e' := -1) rfl fun n => ?_
  rw [Bool.eq_iff_iff, spansOf_mem, memB_nil]
  constructor
  · rintro ⟨h1, h2, h3⟩
    rw [h _ (by omega)] at h3
    exact h3
  · intro h; cases h

theorem part_back {l m : List (Int × Int)} (hl : rightB l = true) :
    spansOf (fun n => bitsR (spansOf fun n => bitsR l n && !bitsR m n) n || bitsR (spansOf fun n => bitsR l n && bitsR m n) n) = l := by
  refine Eq.trans (spansOf_congr fun n hn => ?_) (spansOf_bitsOf hl)
  rw [bits_of _ hn, bits_of _ hn, bitsR_right hl]
  cases bitsOf l n <;> cases bitsR m n <;> rfl

set_option maxRecDepth 100000 in
set_option maxHeartbeats 4000000 in
theorem spanAdds_walk : SpanAddsWalk := by
  intro w v a u b hv _ _ hu _ _
  have hB0 := Below.refl w.heap.size w
  have HV := Lib.hid hv; clear hv
  have HU := Lib.hid hu; clear hu
  obtain ⟨r, hr⟩ : ∃ r, rightB a = r := ⟨_, rfl⟩
  have HR := Lib.hid hr; clear hr
  obtain ⟨s, hs⟩ : ∃ r, rightB b = r := ⟨_, rfl⟩
  have HS := Lib.hid hs; clear hs
  go_enter Try.func13, Try.ntmps13
  go_wp2_with fail
  refine (spanAlive_any _).mono ?_
  rintro e w1 ⟨rfl, hb1⟩
  have hB1 := Below.step hB0 hB0.size hb1
  go_wp2_with fail
  refine (right_is r _ a HR.out _ (HV.out.below hB1)).mono ?_
  rintro e w2 ⟨rfl, hb2⟩
  have hB2 := Below.step hB1 hB1.size hb2
  cases r with
  | false =>
    go_wp2
    go_ret
    exact ⟨rfl, hB2⟩
  | true =>
  go_wp2_with fail
  refine (right_is s _ b HS.out _ (HU.out.below hB2)).mono ?_
  rintro e w3 ⟨rfl, hb3⟩
  have hB3 := Below.step hB2 hB2.size hb3
  cases s with
  | false =>
    go_wp2
    go_ret
    exact ⟨rfl, hB3⟩
  | true =>
  obtain ⟨J, hJ⟩ : ∃ J, J = spansOf fun n => bitsR a n || bitsR b n := ⟨_, rfl⟩
  have HJ := Lib.hid hJ; clear hJ
  obtain ⟨C, hC⟩ : ∃ J, J = spansOf fun n => bitsR a n && !bitsR b n := ⟨_, rfl⟩
  have HC := Lib.hid hC; clear hC
  obtain ⟨D, hD⟩ : ∃ J, J = spansOf fun n => bitsR a n && bitsR b n := ⟨_, rfl⟩
  have HD := Lib.hid hD; clear hD
  obtain ⟨nj, hnj⟩ : ∃ m, countR J = m := ⟨_, rfl⟩
  obtain ⟨nd, hnd⟩ : ∃ m, countR D = m := ⟨_, rfl⟩
  obtain ⟨na, hna⟩ : ∃ m, countR a = m := ⟨_, rfl⟩
  obtain ⟨nb, hnb⟩ : ∃ m, countR b = m := ⟨_, rfl⟩
  have hsum : nj + nd = na + nb := by
    rw [← hnj, ← hnd, ← hna, ← hnb, HJ.out, HD.out]; exact countR_adds HR.out HS.out
  have lj := countR_le J
  have ld := countR_le D
  rw [hnj] at lj
  rw [hnd] at ld
  have w1' : IntKind.i64.wrap (nj + nd) = nj + nd := IntWalk.i64_in _ (by omega)
  have w2' : IntKind.i64.wrap (na + nb) = nj + nd := by rw [← hsum]; exact w1'
  have HNJ := Lib.hid hnj; clear hnj
  have HND := Lib.hid hnd; clear hnd
  have HNA := Lib.hid hna; clear hna
  have HNB := Lib.hid hnb; clear hnb
  have HSU := Lib.hid hsum; clear hsum lj ld
  go_wp2_with fail
  refine (join_any _ _ a b _ (HV.out.below hB3) (HU.out.below hB3)).mono ?_
  rw [← HJ.out]
  rintro e w4 ⟨x, rfl, hx, hb4⟩
  have hB4 := Below.step hB3 hB3.size hb4
  go_wp2_with fail
  refine (cut_any _ _ a b _ (HV.out.below hB4) (HU.out.below hB4)).mono ?_
  rw [← HC.out]
  rintro e w5 ⟨y, rfl, hy, hb5⟩
  have hB5 := Below.step hB4 hB4.size hb5
  go_wp2_with fail
  refine (both_any _ _ a b _ (HV.out.below hB5) (HU.out.below hB5)).mono ?_
  rw [← HD.out]
  rintro e w6 ⟨z, rfl, hz, hb6⟩
  have hB6 := Below.step hB5 hB5.size hb6
  have hx := (hx.below hb5).below hb6
  have hy := hy.below hb6
  go_wp2_with fail
  refine (right_is true _ J (by rw [HJ.out]; exact spansOf_right _) _ hx).mono ?_
  rintro e w7 ⟨rfl, hb7⟩
  have hB7 := Below.step hB6 hB6.size hb7
  go_wp2_with fail
  refine (right_is true _ C (by rw [HC.out]; exact spansOf_right _) _ (hy.below hb7)).mono ?_
  rintro e w8 ⟨rfl, hb8⟩
  have hB8 := Below.step hB7 hB7.size hb8
  go_wp2_with fail
  refine (right_is true _ D (by rw [HD.out]; exact spansOf_right _) _ ((hz.below hb7).below hb8)).mono ?_
  rintro e w9 ⟨rfl, hb9⟩
  have hB9 := Below.step hB8 hB8.size hb9
  have hx := ((hx.below hb7).below hb8).below hb9
  have hy := ((hy.below hb7).below hb8).below hb9
  have hz := ((hz.below hb7).below hb8).below hb9
  go_wp2_with fail
  refine (count_is nj _ J _ HNJ.out hx).mono ?_
  rintro e w10 ⟨rfl, hb10⟩
  have hB10 := Below.step hB9 hB9.size hb10
  go_wp2_with fail
  refine (count_is nd _ D _ HND.out (hz.below hb10)).mono ?_
  rintro e w11 ⟨rfl, hb11⟩
  have hB11 := Below.step hB10 hB10.size hb11
  go_wp2_with fail
  refine (count_is na _ a _ HNA.out (HV.out.below hB11)).mono ?_
  rintro e w12 ⟨rfl, hb12⟩
  have hB12 := Below.step hB11 hB11.size hb12
  go_wp2_with fail
  refine (count_is nb _ b _ HNB.out (HU.out.below hB12)).mono ?_
  rintro e w13 ⟨rfl, hb13⟩
  have hB13 := Below.step hB12 hB12.size hb13
  have hx := (((hx.below hb10).below hb11).below hb12).below hb13
  have hy := (((hy.below hb10).below hb11).below hb12).below hb13
  have hz := (((hz.below hb10).below hb11).below hb12).below hb13
  go_wp2_with fail
  refine (join_any _ _ C D _ hy hz).mono ?_
  rintro e w14 ⟨p, rfl, hp, hb14⟩
  have hB14 := Below.step hB13 hB13.size hb14
  go_wp2_with fail
  refine (same_is true _ _ _ _ (decide_eq_true (by rw [HC.out, HD.out]; exact part_back HR.out)) _ hp (HV.out.below hB14)).mono ?_
  rintro e w15 ⟨rfl, hb15⟩
  have hB15 := Below.step hB14 hB14.size hb15
  have hx := (hx.below hb14).below hb15
  have hy := (hy.below hb14).below hb15
  go_wp2_with fail
  refine (join_any _ _ C b _ hy (HU.out.below hB15)).mono ?_
  rintro e w16 ⟨p2, rfl, hp2, hb16⟩
  have hB16 := Below.step hB15 hB15.size hb16
  go_wp2_with fail
  refine (same_is true _ _ _ J (decide_eq_true (by
    rw [HJ.out]
    refine spansOf_congr fun n hn => ?_
    rw [HC.out, bits_of _ hn]
    cases bitsR a n <;> cases bitsR b n <;> rfl)) _ hp2 (hx.below hb16)).mono ?_
  rintro e w17 ⟨rfl, hb17⟩
  have hB17 := Below.step hB16 hB16.size hb17
  have hy := (hy.below hb16).below hb17
  go_wp2_with fail
  refine (both_any _ _ C b _ hy (HU.out.below hB17)).mono ?_
  have hnone : (spansOf fun n => bitsR C n && bitsR b n) = [] := spansOf_none fun n hn => by
    rw [HC.out, bits_of _ hn]
    cases bitsR a n <;> cases bitsR b n <;> rfl
  rw [hnone]
  clear hnone
  rintro e w18 ⟨p3, rfl, hp3, hb18⟩
  have hB18 := Below.step hB17 hB17.size hb18
  obtain ⟨ao, cap, rfl, hlen, _, _⟩ := hp3
  clear hlen
  go_wp2
  go_ret
  exact ⟨rfl, hB18⟩

theorem spanAdds_holds : Rows.SpanAddsSaid := spanAdds_of spanAdds_walk

end Go.Proofs.Ytaeklmnleampcaa
