/- Of two sets: what the program makes of copies of them, Join, Cut and Both, is the document's; the copies stay as they were. No condition. -/
import Derived.Test.YtaeklmnleampcaaWo
import Derived.Test.YtaeklmnleampcaaFSpanMixes
namespace Go.Proofs.Ytaeklmnleampcaa
open Go.RowKit

set_option maxRecDepth 100000 in
set_option maxHeartbeats 8000000 in
theorem spanMixes_walk : SpanMixesWalk := by
  intro w v l u m hv hsv hbv hu hsu hbu
  obtain ⟨i0, hi, hz0, hz1, hz2⟩ := info_parts Try.info51
  have hB0 := Below.refl w.heap.size w
  have HV := Lib.hid hv
  have HU := Lib.hid hu
  have HF : Hid (∀ x ∈ l, inI64 x.1 ∧ inI64 x.2) := by obtain ⟨_, _, _, _, h, _⟩ := hv; exact h
  have HG : Hid (∀ x ∈ m, inI64 x.1 ∧ inI64 x.2) := by obtain ⟨_, _, _, _, h, _⟩ := hu; exact h
  have hv := Lib.hid hv
  have hu := Lib.hid hu
  obtain ⟨r, hr⟩ : ∃ r, rightB l = r := ⟨_, rfl⟩
  have HR := Lib.hid hr; clear hr
  obtain ⟨s, hs⟩ : ∃ r, rightB m = r := ⟨_, rfl⟩
  have HS := Lib.hid hs; clear hs
  have hsv := Lib.hid hsv
  have hsu := Lib.hid hsu
  go_enter Try.func11, Try.ntmps11
  go_wp2_with fail
  refine (spanAlive_any _).mono ?_
  rintro e w1 ⟨rfl, hb1⟩
  have hB1 := Below.step hB0 hB0.size hb1
  go_wp2_with fail
  refine (refright_is r _ l HR.out _ (HV.out.below hB1)).mono ?_
  rintro e w2 ⟨rfl, hb2⟩
  have hB2 := Below.step hB1 hB1.size hb2
  cases r with
  | false =>
    go_wp2
    go_ret
    exact ⟨rfl, hB2⟩
  | true =>
  go_wp2_with fail
  refine (refright_is s _ m HS.out _ (HU.out.below hB2)).mono ?_
  rintro e w3 ⟨rfl, hb3⟩
  have hB3 := Below.step hB2 hB2.size hb3
  cases s with
  | false =>
    go_wp2
    go_ret
    exact ⟨rfl, hB3⟩
  | true =>
  rcases hsv.out with rfl | ⟨a, n, c, rfl⟩ <;> rcases hsu.out with rfl | ⟨b, k, d, rfl⟩
  · clear hsv hsu
    obtain rfl := spanSl_len hv.out
    obtain rfl := spanSl_len hu.out
    clear hv hu
    go_wp2_with (first | (at_builtin; refine wpList_append_own_none rfl (.tmp 20) (.tmp 21) 22 rfl w3.heap.size 51 i0 2 Try.underlying22 hi _ 0 [] rfl (World.ownsRow_lit (e := 51) (size := 2) (base := w3.heap.size) w3 #[] 0 (Nat.le_refl _) (by simp) rfl) rfl ?_; obtain ⟨w4, hw4⟩ : ∃ W, W = w3.alloc (.cells #[] 51) := ⟨_, rfl⟩; have hx : SpanSl w4 (.slice (some ⟨w3.heap.size, 0, none⟩) 0 0) [] := (by rw [hw4]; exact spanSl_of_owns (base := w3.heap.size) (e := 51) (World.ownsRow_lit (e := 51) (size := 2) (base := w3.heap.size) w3 #[] 0 (Nat.le_refl _) (by simp) rfl) (by simp) (by simp)); have hb4 : Below w3.heap.size w3 w4 := (by rw [hw4]; exact (Below.refl _ _).alloc (Nat.le_refl _) _); rw [← hw4]; clear hw4; have hB4 := Below.step hB3 hB3.size hb4) | (at_builtin; refine wpList_append_own_none rfl (.tmp 23) (.tmp 24) 22 rfl w4.heap.size 51 i0 2 Try.underlying22 hi _ 0 [] rfl (World.ownsRow_lit (e := 51) (size := 2) (base := w4.heap.size) w4 #[] 0 (Nat.le_refl _) (by simp) rfl) rfl ?_; obtain ⟨w5, hw5⟩ : ∃ W, W = w4.alloc (.cells #[] 51) := ⟨_, rfl⟩; have hy : SpanSl w5 (.slice (some ⟨w4.heap.size, 0, none⟩) 0 0) [] := (by rw [hw5]; exact spanSl_of_owns (base := w4.heap.size) (e := 51) (World.ownsRow_lit (e := 51) (size := 2) (base := w4.heap.size) w4 #[] 0 (Nat.le_refl _) (by simp) rfl) (by simp) (by simp)); have hb5 : Below w4.heap.size w4 w5 := (by rw [hw5]; exact (Below.refl _ _).alloc (Nat.le_refl _) _); rw [← hw5]; clear hw5; have hB5 := Below.step hB4 hB4.size hb5))
    have hx := hx.below hb5
    go_wp2_with fail
    refine (join_any _ _ _ _ _ hx hy).mono ?_
    rintro e w6 ⟨j, rfl, hj, hb6⟩
    have hB6 := Below.step hB5 hB5.size hb6
    have hx := hx.below hb6
    have hy := hy.below hb6
    go_wp2_with fail
    refine (cut_any _ _ _ _ _ hx hy).mono ?_
    rintro e w7 ⟨c, rfl, hc, hb7⟩
    have hB7 := Below.step hB6 hB6.size hb7
    have hx := hx.below hb7
    have hy := hy.below hb7
    go_wp2_with fail
    refine (both_any _ _ _ _ _ hx hy).mono ?_
    rintro e w8 ⟨d, rfl, hd, hb8⟩
    have hB8 := Below.step hB7 hB7.size hb8
    have hx := hx.below hb8
    have hy := hy.below hb8
    have hj := (hj.below hb7).below hb8
    have hc := hc.below hb8
    go_wp2_with fail
    refine (same_is true _ _ _ _ (decide_eq_true rfl) _ hx (HV.out.below hB8)).mono ?_
    rintro e w9 ⟨rfl, hb9⟩
    have hB9 := Below.step hB8 hB8.size hb9
    go_wp2_with fail
    refine (same_is true _ _ _ _ (decide_eq_true rfl) _ (hy.below hb9) (HU.out.below hB9)).mono ?_
    rintro e w10 ⟨rfl, hb10⟩
    have hB10 := Below.step hB9 hB9.size hb10
    have hj := (hj.below hb9).below hb10
    have hc := (hc.below hb9).below hb10
    have hd := (hd.below hb9).below hb10
    go_wp2_with fail
    refine (mix0_any _ _ _ _ _ (HV.out.below hB10) (HU.out.below hB10) HR.out HS.out).mono ?_
    rintro e w11 ⟨p, rfl, hp, hb11⟩
    have hB11 := Below.step hB10 hB10.size hb11
    go_wp2_with fail
    refine (same_is true _ _ _ _ (decide_eq_true (by first | rw [bitsR_right HR.out, bitsR_right HS.out] | rw [bitsR_right HR.out])) _ (hj.below hb11) hp).mono ?_
    rintro e w12 ⟨rfl, hb12⟩
    have hB12 := Below.step hB11 hB11.size hb12
    have hc := (hc.below hb11).below hb12
    have hd := (hd.below hb11).below hb12
    go_wp2_with fail
    refine (mix1_any _ _ _ _ _ (HV.out.below hB12) (HU.out.below hB12) HR.out HS.out).mono ?_
    rintro e w13 ⟨p2, rfl, hp2, hb13⟩
    have hB13 := Below.step hB12 hB12.size hb13
    go_wp2_with fail
    refine (same_is true _ _ _ _ (decide_eq_true (by first | rw [bitsR_right HR.out, bitsR_right HS.out] | rw [bitsR_right HR.out])) _ (hc.below hb13) hp2).mono ?_
    rintro e w14 ⟨rfl, hb14⟩
    have hB14 := Below.step hB13 hB13.size hb14
    have hd := (hd.below hb13).below hb14
    go_wp2_with fail
    refine (mix2_any _ _ _ _ _ (HV.out.below hB14) (HU.out.below hB14) HR.out HS.out).mono ?_
    rintro e w15 ⟨p3, rfl, hp3, hb15⟩
    have hB15 := Below.step hB14 hB14.size hb15
    go_wp2_with fail
    refine (same_is true _ _ _ _ (decide_eq_true (by first | rw [bitsR_right HR.out, bitsR_right HS.out] | rw [bitsR_right HR.out])) _ (hd.below hb15) hp3).mono ?_
    rintro e w16 ⟨rfl, hb16⟩
    have hB16 := Below.step hB15 hB15.size hb16
    go_wp2
    go_ret
    exact ⟨rfl, hB16⟩
  · clear hsv hsu
    obtain rfl := spanSl_len hv.out
    obtain rfl := (spanSl_news hu.out hB3).1
    clear hv hu
    go_wp2_with (first | (at_builtin; refine wpList_append_own_none rfl (.tmp 20) (.tmp 21) 22 rfl w3.heap.size 51 i0 2 Try.underlying22 hi _ 0 [] rfl (World.ownsRow_lit (e := 51) (size := 2) (base := w3.heap.size) w3 #[] 0 (Nat.le_refl _) (by simp) rfl) rfl ?_; obtain ⟨w4, hw4⟩ : ∃ W, W = w3.alloc (.cells #[] 51) := ⟨_, rfl⟩; have hx : SpanSl w4 (.slice (some ⟨w3.heap.size, 0, none⟩) 0 0) [] := (by rw [hw4]; exact spanSl_of_owns (base := w3.heap.size) (e := 51) (World.ownsRow_lit (e := 51) (size := 2) (base := w3.heap.size) w3 #[] 0 (Nat.le_refl _) (by simp) rfl) (by simp) (by simp)); have hb4 : Below w3.heap.size w3 w4 := (by rw [hw4]; exact (Below.refl _ _).alloc (Nat.le_refl _) _); rw [← hw4]; clear hw4; have hB4 := Below.step hB3 hB3.size hb4) | (at_builtin; refine wpList_append_own _ rfl (.tmp 23) (.tmp 24) 22 rfl w4.heap.size 51 i0 (.agg #[.int .i64 0, .int .i64 0]) 2 16 Try.underlying22 hi hz0 hz1 hz2 rfl (by decide) _ _ _ rfl (World.ownsRow_lit (e := 51) (size := 2) (base := w4.heap.size) w4 #[] 0 (Nat.le_refl _) (by simp) rfl) b m.length d (spanCells m) rfl (spanCells_length _) (spanSl_news HU.out (hB4.alloc hB4.size _)).2 (spanCells_oneCell _) (by unfold maxLen; omega) (by omega) (by simp) ?_; intro v5 w5 hown5 hgrow5 _; have hy : SpanSl w5 v5 m := spanSl_of_owns (by simpa using hown5) HG.out (by omega); have hb5 : Below w4.heap.size w4 w5 := ((Below.refl _ _).alloc (Nat.le_refl _) _).grown hgrow5 (by simp) (fun k e => by cases e; exact Nat.le_refl _); clear hown5 hgrow5; have hB5 := Below.step hB4 hB4.size hb5))
    have hx := hx.below hb5
    go_wp2_with fail
    refine (join_any _ _ _ _ _ hx hy).mono ?_
    rintro e w6 ⟨j, rfl, hj, hb6⟩
    have hB6 := Below.step hB5 hB5.size hb6
    have hx := hx.below hb6
    have hy := hy.below hb6
    go_wp2_with fail
    refine (cut_any _ _ _ _ _ hx hy).mono ?_
    rintro e w7 ⟨c, rfl, hc, hb7⟩
    have hB7 := Below.step hB6 hB6.size hb7
    have hx := hx.below hb7
    have hy := hy.below hb7
    go_wp2_with fail
    refine (both_any _ _ _ _ _ hx hy).mono ?_
    rintro e w8 ⟨d, rfl, hd, hb8⟩
    have hB8 := Below.step hB7 hB7.size hb8
    have hx := hx.below hb8
    have hy := hy.below hb8
    have hj := (hj.below hb7).below hb8
    have hc := hc.below hb8
    go_wp2_with fail
    refine (same_is true _ _ _ _ (decide_eq_true rfl) _ hx (HV.out.below hB8)).mono ?_
    rintro e w9 ⟨rfl, hb9⟩
    have hB9 := Below.step hB8 hB8.size hb9
    go_wp2_with fail
    refine (same_is true _ _ _ _ (decide_eq_true rfl) _ (hy.below hb9) (HU.out.below hB9)).mono ?_
    rintro e w10 ⟨rfl, hb10⟩
    have hB10 := Below.step hB9 hB9.size hb10
    have hj := (hj.below hb9).below hb10
    have hc := (hc.below hb9).below hb10
    have hd := (hd.below hb9).below hb10
    go_wp2_with fail
    refine (mix0_any _ _ _ _ _ (HV.out.below hB10) (HU.out.below hB10) HR.out HS.out).mono ?_
    rintro e w11 ⟨p, rfl, hp, hb11⟩
    have hB11 := Below.step hB10 hB10.size hb11
    go_wp2_with fail
    refine (same_is true _ _ _ _ (decide_eq_true (by first | rw [bitsR_right HR.out, bitsR_right HS.out] | rw [bitsR_right HR.out])) _ (hj.below hb11) hp).mono ?_
    rintro e w12 ⟨rfl, hb12⟩
    have hB12 := Below.step hB11 hB11.size hb12
    have hc := (hc.below hb11).below hb12
    have hd := (hd.below hb11).below hb12
    go_wp2_with fail
    refine (mix1_any _ _ _ _ _ (HV.out.below hB12) (HU.out.below hB12) HR.out HS.out).mono ?_
    rintro e w13 ⟨p2, rfl, hp2, hb13⟩
    have hB13 := Below.step hB12 hB12.size hb13
    go_wp2_with fail
    refine (same_is true _ _ _ _ (decide_eq_true (by first | rw [bitsR_right HR.out, bitsR_right HS.out] | rw [bitsR_right HR.out])) _ (hc.below hb13) hp2).mono ?_
    rintro e w14 ⟨rfl, hb14⟩
    have hB14 := Below.step hB13 hB13.size hb14
    have hd := (hd.below hb13).below hb14
    go_wp2_with fail
    refine (mix2_any _ _ _ _ _ (HV.out.below hB14) (HU.out.below hB14) HR.out HS.out).mono ?_
    rintro e w15 ⟨p3, rfl, hp3, hb15⟩
    have hB15 := Below.step hB14 hB14.size hb15
    go_wp2_with fail
    refine (same_is true _ _ _ _ (decide_eq_true (by first | rw [bitsR_right HR.out, bitsR_right HS.out] | rw [bitsR_right HR.out])) _ (hd.below hb15) hp3).mono ?_
    rintro e w16 ⟨rfl, hb16⟩
    have hB16 := Below.step hB15 hB15.size hb16
    go_wp2
    go_ret
    exact ⟨rfl, hB16⟩
  · clear hsv hsu
    obtain rfl := (spanSl_news hv.out hB3).1
    obtain rfl := spanSl_len hu.out
    clear hv hu
    go_wp2_with (first | (at_builtin; refine wpList_append_own _ rfl (.tmp 20) (.tmp 21) 22 rfl w3.heap.size 51 i0 (.agg #[.int .i64 0, .int .i64 0]) 2 16 Try.underlying22 hi hz0 hz1 hz2 rfl (by decide) _ _ _ rfl (World.ownsRow_lit (e := 51) (size := 2) (base := w3.heap.size) w3 #[] 0 (Nat.le_refl _) (by simp) rfl) a l.length c (spanCells l) rfl (spanCells_length _) (spanSl_news HV.out (hB3.alloc hB3.size _)).2 (spanCells_oneCell _) (by unfold maxLen; omega) (by omega) (by simp) ?_; intro v4 w4 hown4 hgrow4 _; have hx : SpanSl w4 v4 l := spanSl_of_owns (by simpa using hown4) HF.out (by omega); have hb4 : Below w3.heap.size w3 w4 := ((Below.refl _ _).alloc (Nat.le_refl _) _).grown hgrow4 (by simp) (fun k e => by cases e; exact Nat.le_refl _); clear hown4 hgrow4; have hB4 := Below.step hB3 hB3.size hb4) | (at_builtin; refine wpList_append_own_none rfl (.tmp 23) (.tmp 24) 22 rfl w4.heap.size 51 i0 2 Try.underlying22 hi _ 0 [] rfl (World.ownsRow_lit (e := 51) (size := 2) (base := w4.heap.size) w4 #[] 0 (Nat.le_refl _) (by simp) rfl) rfl ?_; obtain ⟨w5, hw5⟩ : ∃ W, W = w4.alloc (.cells #[] 51) := ⟨_, rfl⟩; have hy : SpanSl w5 (.slice (some ⟨w4.heap.size, 0, none⟩) 0 0) [] := (by rw [hw5]; exact spanSl_of_owns (base := w4.heap.size) (e := 51) (World.ownsRow_lit (e := 51) (size := 2) (base := w4.heap.size) w4 #[] 0 (Nat.le_refl _) (by simp) rfl) (by simp) (by simp)); have hb5 : Below w4.heap.size w4 w5 := (by rw [hw5]; exact (Below.refl _ _).alloc (Nat.le_refl _) _); rw [← hw5]; clear hw5; have hB5 := Below.step hB4 hB4.size hb5))
    have hx := hx.below hb5
    go_wp2_with fail
    refine (join_any _ _ _ _ _ hx hy).mono ?_
    rintro e w6 ⟨j, rfl, hj, hb6⟩
    have hB6 := Below.step hB5 hB5.size hb6
    have hx := hx.below hb6
    have hy := hy.below hb6
    go_wp2_with fail
    refine (cut_any _ _ _ _ _ hx hy).mono ?_
    rintro e w7 ⟨c, rfl, hc, hb7⟩
    have hB7 := Below.step hB6 hB6.size hb7
    have hx := hx.below hb7
    have hy := hy.below hb7
    go_wp2_with fail
    refine (both_any _ _ _ _ _ hx hy).mono ?_
    rintro e w8 ⟨d, rfl, hd, hb8⟩
    have hB8 := Below.step hB7 hB7.size hb8
    have hx := hx.below hb8
    have hy := hy.below hb8
    have hj := (hj.below hb7).below hb8
    have hc := hc.below hb8
    go_wp2_with fail
    refine (same_is true _ _ _ _ (decide_eq_true rfl) _ hx (HV.out.below hB8)).mono ?_
    rintro e w9 ⟨rfl, hb9⟩
    have hB9 := Below.step hB8 hB8.size hb9
    go_wp2_with fail
    refine (same_is true _ _ _ _ (decide_eq_true rfl) _ (hy.below hb9) (HU.out.below hB9)).mono ?_
    rintro e w10 ⟨rfl, hb10⟩
    have hB10 := Below.step hB9 hB9.size hb10
    have hj := (hj.below hb9).below hb10
    have hc := (hc.below hb9).below hb10
    have hd := (hd.below hb9).below hb10
    go_wp2_with fail
    refine (mix0_any _ _ _ _ _ (HV.out.below hB10) (HU.out.below hB10) HR.out HS.out).mono ?_
    rintro e w11 ⟨p, rfl, hp, hb11⟩
    have hB11 := Below.step hB10 hB10.size hb11
    go_wp2_with fail
    refine (same_is true _ _ _ _ (decide_eq_true (by first | rw [bitsR_right HR.out, bitsR_right HS.out] | rw [bitsR_right HR.out])) _ (hj.below hb11) hp).mono ?_
    rintro e w12 ⟨rfl, hb12⟩
    have hB12 := Below.step hB11 hB11.size hb12
    have hc := (hc.below hb11).below hb12
    have hd := (hd.below hb11).below hb12
    go_wp2_with fail
    refine (mix1_any _ _ _ _ _ (HV.out.below hB12) (HU.out.below hB12) HR.out HS.out).mono ?_
    rintro e w13 ⟨p2, rfl, hp2, hb13⟩
    have hB13 := Below.step hB12 hB12.size hb13
    go_wp2_with fail
    refine (same_is true _ _ _ _ (decide_eq_true (by first | rw [bitsR_right HR.out, bitsR_right HS.out] | rw [bitsR_right HR.out])) _ (hc.below hb13) hp2).mono ?_
    rintro e w14 ⟨rfl, hb14⟩
    have hB14 := Below.step hB13 hB13.size hb14
    have hd := (hd.below hb13).below hb14
    go_wp2_with fail
    refine (mix2_any _ _ _ _ _ (HV.out.below hB14) (HU.out.below hB14) HR.out HS.out).mono ?_
    rintro e w15 ⟨p3, rfl, hp3, hb15⟩
    have hB15 := Below.step hB14 hB14.size hb15
    go_wp2_with fail
    refine (same_is true _ _ _ _ (decide_eq_true (by first | rw [bitsR_right HR.out, bitsR_right HS.out] | rw [bitsR_right HR.out])) _ (hd.below hb15) hp3).mono ?_
    rintro e w16 ⟨rfl, hb16⟩
    have hB16 := Below.step hB15 hB15.size hb16
    go_wp2
    go_ret
    exact ⟨rfl, hB16⟩
  · clear hsv hsu
    obtain rfl := (spanSl_news hv.out hB3).1
    obtain rfl := (spanSl_news hu.out hB3).1
    clear hv hu
    go_wp2_with (first | (at_builtin; refine wpList_append_own _ rfl (.tmp 20) (.tmp 21) 22 rfl w3.heap.size 51 i0 (.agg #[.int .i64 0, .int .i64 0]) 2 16 Try.underlying22 hi hz0 hz1 hz2 rfl (by decide) _ _ _ rfl (World.ownsRow_lit (e := 51) (size := 2) (base := w3.heap.size) w3 #[] 0 (Nat.le_refl _) (by simp) rfl) a l.length c (spanCells l) rfl (spanCells_length _) (spanSl_news HV.out (hB3.alloc hB3.size _)).2 (spanCells_oneCell _) (by unfold maxLen; omega) (by omega) (by simp) ?_; intro v4 w4 hown4 hgrow4 _; have hx : SpanSl w4 v4 l := spanSl_of_owns (by simpa using hown4) HF.out (by omega); have hb4 : Below w3.heap.size w3 w4 := ((Below.refl _ _).alloc (Nat.le_refl _) _).grown hgrow4 (by simp) (fun k e => by cases e; exact Nat.le_refl _); clear hown4 hgrow4; have hB4 := Below.step hB3 hB3.size hb4) | (at_builtin; refine wpList_append_own _ rfl (.tmp 23) (.tmp 24) 22 rfl w4.heap.size 51 i0 (.agg #[.int .i64 0, .int .i64 0]) 2 16 Try.underlying22 hi hz0 hz1 hz2 rfl (by decide) _ _ _ rfl (World.ownsRow_lit (e := 51) (size := 2) (base := w4.heap.size) w4 #[] 0 (Nat.le_refl _) (by simp) rfl) b m.length d (spanCells m) rfl (spanCells_length _) (spanSl_news HU.out (hB4.alloc hB4.size _)).2 (spanCells_oneCell _) (by unfold maxLen; omega) (by omega) (by simp) ?_; intro v5 w5 hown5 hgrow5 _; have hy : SpanSl w5 v5 m := spanSl_of_owns (by simpa using hown5) HG.out (by omega); have hb5 : Below w4.heap.size w4 w5 := ((Below.refl _ _).alloc (Nat.le_refl _) _).grown hgrow5 (by simp) (fun k e => by cases e; exact Nat.le_refl _); clear hown5 hgrow5; have hB5 := Below.step hB4 hB4.size hb5))
    have hx := hx.below hb5
    go_wp2_with fail
    refine (join_any _ _ _ _ _ hx hy).mono ?_
    rintro e w6 ⟨j, rfl, hj, hb6⟩
    have hB6 := Below.step hB5 hB5.size hb6
    have hx := hx.below hb6
    have hy := hy.below hb6
    go_wp2_with fail
    refine (cut_any _ _ _ _ _ hx hy).mono ?_
    rintro e w7 ⟨c, rfl, hc, hb7⟩
    have hB7 := Below.step hB6 hB6.size hb7
    have hx := hx.below hb7
    have hy := hy.below hb7
    go_wp2_with fail
    refine (both_any _ _ _ _ _ hx hy).mono ?_
    rintro e w8 ⟨d, rfl, hd, hb8⟩
    have hB8 := Below.step hB7 hB7.size hb8
    have hx := hx.below hb8
    have hy := hy.below hb8
    have hj := (hj.below hb7).below hb8
    have hc := hc.below hb8
    go_wp2_with fail
    refine (same_is true _ _ _ _ (decide_eq_true rfl) _ hx (HV.out.below hB8)).mono ?_
    rintro e w9 ⟨rfl, hb9⟩
    have hB9 := Below.step hB8 hB8.size hb9
    go_wp2_with fail
    refine (same_is true _ _ _ _ (decide_eq_true rfl) _ (hy.below hb9) (HU.out.below hB9)).mono ?_
    rintro e w10 ⟨rfl, hb10⟩
    have hB10 := Below.step hB9 hB9.size hb10
    have hj := (hj.below hb9).below hb10
    have hc := (hc.below hb9).below hb10
    have hd := (hd.below hb9).below hb10
    go_wp2_with fail
    refine (mix0_any _ _ _ _ _ (HV.out.below hB10) (HU.out.below hB10) HR.out HS.out).mono ?_
    rintro e w11 ⟨p, rfl, hp, hb11⟩
    have hB11 := Below.step hB10 hB10.size hb11
    go_wp2_with fail
    refine (same_is true _ _ _ _ (decide_eq_true (by first | rw [bitsR_right HR.out, bitsR_right HS.out] | rw [bitsR_right HR.out])) _ (hj.below hb11) hp).mono ?_
    rintro e w12 ⟨rfl, hb12⟩
    have hB12 := Below.step hB11 hB11.size hb12
    have hc := (hc.below hb11).below hb12
    have hd := (hd.below hb11).below hb12
    go_wp2_with fail
    refine (mix1_any _ _ _ _ _ (HV.out.below hB12) (HU.out.below hB12) HR.out HS.out).mono ?_
    rintro e w13 ⟨p2, rfl, hp2, hb13⟩
    have hB13 := Below.step hB12 hB12.size hb13
    go_wp2_with fail
    refine (same_is true _ _ _ _ (decide_eq_true (by first | rw [bitsR_right HR.out, bitsR_right HS.out] | rw [bitsR_right HR.out])) _ (hc.below hb13) hp2).mono ?_
    rintro e w14 ⟨rfl, hb14⟩
    have hB14 := Below.step hB13 hB13.size hb14
    have hd := (hd.below hb13).below hb14
    go_wp2_with fail
    refine (mix2_any _ _ _ _ _ (HV.out.below hB14) (HU.out.below hB14) HR.out HS.out).mono ?_
    rintro e w15 ⟨p3, rfl, hp3, hb15⟩
    have hB15 := Below.step hB14 hB14.size hb15
    go_wp2_with fail
    refine (same_is true _ _ _ _ (decide_eq_true (by first | rw [bitsR_right HR.out, bitsR_right HS.out] | rw [bitsR_right HR.out])) _ (hd.below hb15) hp3).mono ?_
    rintro e w16 ⟨rfl, hb16⟩
    have hB16 := Below.step hB15 hB15.size hb16
    go_wp2
    go_ret
    exact ⟨rfl, hB16⟩

theorem spanMixes_holds : Rows.SpanMixesSaid := spanMixes_of spanMixes_walk

end Go.Proofs.Ytaeklmnleampcaa
