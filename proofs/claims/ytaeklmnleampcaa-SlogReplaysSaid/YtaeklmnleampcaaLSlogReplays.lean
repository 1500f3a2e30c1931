/- Any list behind any moves: Replay answers as the document's, and both stay. No condition. -/
import Derived.Test.YtaeklmnleampcaaAl
import Derived.Test.YtaeklmnleampcaaRs
import Derived.Test.YtaeklmnleampcaaArgs2
import Derived.Test.YtaeklmnleampcaaFSlogReplays
namespace Go.Proofs.Ytaeklmnleampcaa
open Go.RowKit

set_option maxRecDepth 100000 in
set_option maxHeartbeats 8000000 in
theorem slogReplays_walk : SlogReplaysWalk := by
  intro w v l u m hv hsv hbv hu hsu hbu
  obtain ⟨i0, hi, hz0, hz1, hz2⟩ := info_parts Try.info51
  obtain ⟨j0, hj, hy0, hy1, hy2⟩ := info_parts Try.info99
  have hB0 := Below.refl w.heap.size w
  have HV := Lib.hid hv
  have HU := Lib.hid hu
  have HF : Hid (∀ x ∈ l, inI64 x.1 ∧ inI64 x.2) := by obtain ⟨_, _, _, _, h, _⟩ := hv; exact h
  have HG : Hid (∀ x ∈ m, inI64 x.2.1 ∧ inI64 x.2.2) := by obtain ⟨_, _, _, _, h, _⟩ := hu; exact h
  have hv := Lib.hid hv
  have hu := Lib.hid hu
  have hsv := Lib.hid hsv
  have hsu := Lib.hid hsu
  obtain ⟨S, hS⟩ : ∃ S, S = replayS l m := ⟨_, rfl⟩
  have HS := Lib.hid hS; clear hS
  rcases hsv.out with rfl | ⟨a, n, c, rfl⟩ <;> rcases hsu.out with rfl | ⟨b, k, d, rfl⟩
  · clear hsv hsu
    obtain rfl := spanSl_len hv.out
    obtain rfl := moveSl_len hu.out
    clear hv hu
    go_enter Try.func18, Try.ntmps18
    go_wp2_with fail
    refine (slogAlive_any _).mono ?_
    rintro e w1 ⟨rfl, hb1⟩
    have hB1 := Below.step hB0 hB0.size hb1
    go_wp2_with (first | (at_builtin; refine wpList_append_own_none rfl (.tmp 15) (.tmp 16) 22 rfl w1.heap.size 51 i0 2 Try.underlying22 hi _ 0 [] rfl (World.ownsRow_lit (e := 51) (size := 2) (base := w1.heap.size) w1 #[] 0 (Nat.le_refl _) (by simp) rfl) rfl ?_; obtain ⟨w2, hw2⟩ : ∃ W, W = w1.alloc (.cells #[] 51) := ⟨_, rfl⟩; have hx : SpanSl w2 (.slice (some ⟨w1.heap.size, 0, none⟩) 0 0) [] := (by rw [hw2]; exact spanSl_of_owns (base := w1.heap.size) (e := 51) (World.ownsRow_lit (e := 51) (size := 2) (base := w1.heap.size) w1 #[] 0 (Nat.le_refl _) (by simp) rfl) (by simp) (by simp)); have hb2 : Below w1.heap.size w1 w2 := (by rw [hw2]; exact (Below.refl _ _).alloc (Nat.le_refl _) _); rw [← hw2]; clear hw2; have hB2 := Below.step hB1 hB1.size hb2) | (at_builtin; refine wpList_append_own_none rfl (.tmp 20) (.tmp 21) 32 rfl w2.heap.size 99 j0 3 Try.underlying32 hj _ 0 [] rfl (World.ownsRow_lit (e := 99) (size := 3) (base := w2.heap.size) w2 #[] 0 (Nat.le_refl _) (by simp) rfl) rfl ?_; obtain ⟨w3, hw3⟩ : ∃ W, W = w2.alloc (.cells #[] 99) := ⟨_, rfl⟩; have hy : MoveSl w3 (.slice (some ⟨w2.heap.size, 0, none⟩) 0 0) [] := (by rw [hw3]; exact moveSl_of_owns (base := w2.heap.size) (e := 99) (World.ownsRow_lit (e := 99) (size := 3) (base := w2.heap.size) w2 #[] 0 (Nat.le_refl _) (by simp) rfl) (by simp) (by simp)); have hb3 : Below w2.heap.size w2 w3 := (by rw [hw3]; exact (Below.refl _ _).alloc (Nat.le_refl _) _); rw [← hw3]; clear hw3; have hB3 := Below.step hB2 hB2.size hb3))
    have hx := hx.below hb3
    refine (replay_any _ _ _ _ _ hx hy).mono ?_
    rw [← HS.out]
    obtain ⟨co, hco⟩ : ∃ co, codeOf S = co := ⟨_, rfl⟩
    rw [hco]
    have HCO := Lib.hid hco; clear hco
    rintro e w4 ⟨r, rfl, hr, hb4⟩
    have hB4 := Below.step hB3 hB3.size hb4
    have hx := hx.below hb4
    go_wp2_with fail
    refine (refreplay_any _ _ _ _ _ (HV.out.below hB4) (HU.out.below hB4)).mono ?_
    rw [← HS.out, HCO.out]
    rintro e w5 ⟨r2, rfl, hr2, hb5⟩
    have hB5 := Below.step hB4 hB4.size hb5
    have hx := hx.below hb5
    go_wp2_with fail
    refine (same_is true _ _ _ _ (decide_eq_true rfl) _ (hr.below hb5) hr2).mono ?_
    rintro e w6 ⟨rfl, hb6⟩
    have hB6 := Below.step hB5 hB5.size hb6
    go_wp2_with fail
    refine (same_is true _ _ _ _ (decide_eq_true rfl) _ (hx.below hb6) (HV.out.below hB6)).mono ?_
    rintro e w7 ⟨rfl, hb7⟩
    have hB7 := Below.step hB6 hB6.size hb7
    go_wp2
    go_ret
    exact ⟨rfl, hB7⟩
  · clear hsv hsu
    obtain rfl := spanSl_len hv.out
    obtain rfl := (moveSl_news hu.out hB0).1
    clear hv hu
    go_enter Try.func18, Try.ntmps18
    go_wp2_with fail
    refine (slogAlive_any _).mono ?_
    rintro e w1 ⟨rfl, hb1⟩
    have hB1 := Below.step hB0 hB0.size hb1
    by_cases hlen : 200 < m.length
    · have hlen' : (200 : Int) < (m.length : Int) := by omega
      go_wp2
      go_ret
      exact ⟨rfl, hB1⟩
    have hlen' : ¬ (200 : Int) < (m.length : Int) := by omega
    go_wp2_with (first | (at_builtin; refine wpList_append_own_none rfl (.tmp 15) (.tmp 16) 22 rfl w1.heap.size 51 i0 2 Try.underlying22 hi _ 0 [] rfl (World.ownsRow_lit (e := 51) (size := 2) (base := w1.heap.size) w1 #[] 0 (Nat.le_refl _) (by simp) rfl) rfl ?_; obtain ⟨w2, hw2⟩ : ∃ W, W = w1.alloc (.cells #[] 51) := ⟨_, rfl⟩; have hx : SpanSl w2 (.slice (some ⟨w1.heap.size, 0, none⟩) 0 0) [] := (by rw [hw2]; exact spanSl_of_owns (base := w1.heap.size) (e := 51) (World.ownsRow_lit (e := 51) (size := 2) (base := w1.heap.size) w1 #[] 0 (Nat.le_refl _) (by simp) rfl) (by simp) (by simp)); have hb2 : Below w1.heap.size w1 w2 := (by rw [hw2]; exact (Below.refl _ _).alloc (Nat.le_refl _) _); rw [← hw2]; clear hw2; have hB2 := Below.step hB1 hB1.size hb2) | (at_builtin; refine wpList_append_own _ rfl (.tmp 20) (.tmp 21) 32 rfl w2.heap.size 99 j0 (.agg #[.bool false, .int .i64 0, .int .i64 0]) 3 24 Try.underlying32 hj hy0 hy1 hy2 rfl (by decide) _ _ _ rfl (World.ownsRow_lit (e := 99) (size := 3) (base := w2.heap.size) w2 #[] 0 (Nat.le_refl _) (by simp) rfl) b m.length d (moveCells m) rfl (moveCells_length _) (moveSl_news HU.out (hB2.alloc hB2.size _)).2 (moveCells_oneCell _) (by unfold maxLen; omega) (by omega) (by simp) ?_; intro v3 w3 hown3 hgrow3 _; have hy : MoveSl w3 v3 m := moveSl_of_owns (by simpa using hown3) HG.out (by omega); have hb3 : Below w2.heap.size w2 w3 := ((Below.refl _ _).alloc (Nat.le_refl _) _).grown hgrow3 (by simp) (fun k e => by cases e; exact Nat.le_refl _); clear hown3 hgrow3; have hB3 := Below.step hB2 hB2.size hb3))
    have hx := hx.below hb3
    refine (replay_any _ _ _ _ _ hx hy).mono ?_
    rw [← HS.out]
    obtain ⟨co, hco⟩ : ∃ co, codeOf S = co := ⟨_, rfl⟩
    rw [hco]
    have HCO := Lib.hid hco; clear hco
    rintro e w4 ⟨r, rfl, hr, hb4⟩
    have hB4 := Below.step hB3 hB3.size hb4
    have hx := hx.below hb4
    go_wp2_with fail
    refine (refreplay_any _ _ _ _ _ (HV.out.below hB4) (HU.out.below hB4)).mono ?_
    rw [← HS.out, HCO.out]
    rintro e w5 ⟨r2, rfl, hr2, hb5⟩
    have hB5 := Below.step hB4 hB4.size hb5
    have hx := hx.below hb5
    go_wp2_with fail
    refine (same_is true _ _ _ _ (decide_eq_true rfl) _ (hr.below hb5) hr2).mono ?_
    rintro e w6 ⟨rfl, hb6⟩
    have hB6 := Below.step hB5 hB5.size hb6
    go_wp2_with fail
    refine (same_is true _ _ _ _ (decide_eq_true rfl) _ (hx.below hb6) (HV.out.below hB6)).mono ?_
    rintro e w7 ⟨rfl, hb7⟩
    have hB7 := Below.step hB6 hB6.size hb7
    go_wp2
    go_ret
    exact ⟨rfl, hB7⟩
  · clear hsv hsu
    obtain rfl := (spanSl_news hv.out hB0).1
    obtain rfl := moveSl_len hu.out
    clear hv hu
    go_enter Try.func18, Try.ntmps18
    go_wp2_with fail
    refine (slogAlive_any _).mono ?_
    rintro e w1 ⟨rfl, hb1⟩
    have hB1 := Below.step hB0 hB0.size hb1
    go_wp2_with (first | (at_builtin; refine wpList_append_own _ rfl (.tmp 15) (.tmp 16) 22 rfl w1.heap.size 51 i0 (.agg #[.int .i64 0, .int .i64 0]) 2 16 Try.underlying22 hi hz0 hz1 hz2 rfl (by decide) _ _ _ rfl (World.ownsRow_lit (e := 51) (size := 2) (base := w1.heap.size) w1 #[] 0 (Nat.le_refl _) (by simp) rfl) a l.length c (spanCells l) rfl (spanCells_length _) (spanSl_news HV.out (hB1.alloc hB1.size _)).2 (spanCells_oneCell _) (by unfold maxLen; omega) (by omega) (by simp) ?_; intro v2 w2 hown2 hgrow2 _; have hx : SpanSl w2 v2 l := spanSl_of_owns (by simpa using hown2) HF.out (by omega); have hb2 : Below w1.heap.size w1 w2 := ((Below.refl _ _).alloc (Nat.le_refl _) _).grown hgrow2 (by simp) (fun k e => by cases e; exact Nat.le_refl _); clear hown2 hgrow2; have hB2 := Below.step hB1 hB1.size hb2) | (at_builtin; refine wpList_append_own_none rfl (.tmp 20) (.tmp 21) 32 rfl w2.heap.size 99 j0 3 Try.underlying32 hj _ 0 [] rfl (World.ownsRow_lit (e := 99) (size := 3) (base := w2.heap.size) w2 #[] 0 (Nat.le_refl _) (by simp) rfl) rfl ?_; obtain ⟨w3, hw3⟩ : ∃ W, W = w2.alloc (.cells #[] 99) := ⟨_, rfl⟩; have hy : MoveSl w3 (.slice (some ⟨w2.heap.size, 0, none⟩) 0 0) [] := (by rw [hw3]; exact moveSl_of_owns (base := w2.heap.size) (e := 99) (World.ownsRow_lit (e := 99) (size := 3) (base := w2.heap.size) w2 #[] 0 (Nat.le_refl _) (by simp) rfl) (by simp) (by simp)); have hb3 : Below w2.heap.size w2 w3 := (by rw [hw3]; exact (Below.refl _ _).alloc (Nat.le_refl _) _); rw [← hw3]; clear hw3; have hB3 := Below.step hB2 hB2.size hb3))
    have hx := hx.below hb3
    refine (replay_any _ _ _ _ _ hx hy).mono ?_
    rw [← HS.out]
    obtain ⟨co, hco⟩ : ∃ co, codeOf S = co := ⟨_, rfl⟩
    rw [hco]
    have HCO := Lib.hid hco; clear hco
    rintro e w4 ⟨r, rfl, hr, hb4⟩
    have hB4 := Below.step hB3 hB3.size hb4
    have hx := hx.below hb4
    go_wp2_with fail
    refine (refreplay_any _ _ _ _ _ (HV.out.below hB4) (HU.out.below hB4)).mono ?_
    rw [← HS.out, HCO.out]
    rintro e w5 ⟨r2, rfl, hr2, hb5⟩
    have hB5 := Below.step hB4 hB4.size hb5
    have hx := hx.below hb5
    go_wp2_with fail
    refine (same_is true _ _ _ _ (decide_eq_true rfl) _ (hr.below hb5) hr2).mono ?_
    rintro e w6 ⟨rfl, hb6⟩
    have hB6 := Below.step hB5 hB5.size hb6
    go_wp2_with fail
    refine (same_is true _ _ _ _ (decide_eq_true rfl) _ (hx.below hb6) (HV.out.below hB6)).mono ?_
    rintro e w7 ⟨rfl, hb7⟩
    have hB7 := Below.step hB6 hB6.size hb7
    go_wp2
    go_ret
    exact ⟨rfl, hB7⟩
  · clear hsv hsu
    obtain rfl := (spanSl_news hv.out hB0).1
    obtain rfl := (moveSl_news hu.out hB0).1
    clear hv hu
    go_enter Try.func18, Try.ntmps18
    go_wp2_with fail
    refine (slogAlive_any _).mono ?_
    rintro e w1 ⟨rfl, hb1⟩
    have hB1 := Below.step hB0 hB0.size hb1
    by_cases hlen : 200 < m.length
    · have hlen' : (200 : Int) < (m.length : Int) := by omega
      go_wp2
      go_ret
      exact ⟨rfl, hB1⟩
    have hlen' : ¬ (200 : Int) < (m.length : Int) := by omega
    go_wp2_with (first | (at_builtin; refine wpList_append_own _ rfl (.tmp 15) (.tmp 16) 22 rfl w1.heap.size 51 i0 (.agg #[.int .i64 0, .int .i64 0]) 2 16 Try.underlying22 hi hz0 hz1 hz2 rfl (by decide) _ _ _ rfl (World.ownsRow_lit (e := 51) (size := 2) (base := w1.heap.size) w1 #[] 0 (Nat.le_refl _) (by simp) rfl) a l.length c (spanCells l) rfl (spanCells_length _) (spanSl_news HV.out (hB1.alloc hB1.size _)).2 (spanCells_oneCell _) (by unfold maxLen; omega) (by omega) (by simp) ?_; intro v2 w2 hown2 hgrow2 _; have hx : SpanSl w2 v2 l := spanSl_of_owns (by simpa using hown2) HF.out (by omega); have hb2 : Below w1.heap.size w1 w2 := ((Below.refl _ _).alloc (Nat.le_refl _) _).grown hgrow2 (by simp) (fun k e => by cases e; exact Nat.le_refl _); clear hown2 hgrow2; have hB2 := Below.step hB1 hB1.size hb2) | (at_builtin; refine wpList_append_own _ rfl (.tmp 20) (.tmp 21) 32 rfl w2.heap.size 99 j0 (.agg #[.bool false, .int .i64 0, .int .i64 0]) 3 24 Try.underlying32 hj hy0 hy1 hy2 rfl (by decide) _ _ _ rfl (World.ownsRow_lit (e := 99) (size := 3) (base := w2.heap.size) w2 #[] 0 (Nat.le_refl _) (by simp) rfl) b m.length d (moveCells m) rfl (moveCells_length _) (moveSl_news HU.out (hB2.alloc hB2.size _)).2 (moveCells_oneCell _) (by unfold maxLen; omega) (by omega) (by simp) ?_; intro v3 w3 hown3 hgrow3 _; have hy : MoveSl w3 v3 m := moveSl_of_owns (by simpa using hown3) HG.out (by omega); have hb3 : Below w2.heap.size w2 w3 := ((Below.refl _ _).alloc (Nat.le_refl _) _).grown hgrow3 (by simp) (fun k e => by cases e; exact Nat.le_refl _); clear hown3 hgrow3; have hB3 := Below.step hB2 hB2.size hb3))
    have hx := hx.below hb3
    refine (replay_any _ _ _ _ _ hx hy).mono ?_
    rw [← HS.out]
    obtain ⟨co, hco⟩ : ∃ co, codeOf S = co := ⟨_, rfl⟩
    rw [hco]
    have HCO := Lib.hid hco; clear hco
    rintro e w4 ⟨r, rfl, hr, hb4⟩
    have hB4 := Below.step hB3 hB3.size hb4
    have hx := hx.below hb4
    go_wp2_with fail
    refine (refreplay_any _ _ _ _ _ (HV.out.below hB4) (HU.out.below hB4)).mono ?_
    rw [← HS.out, HCO.out]
    rintro e w5 ⟨r2, rfl, hr2, hb5⟩
    have hB5 := Below.step hB4 hB4.size hb5
    have hx := hx.below hb5
    go_wp2_with fail
    refine (same_is true _ _ _ _ (decide_eq_true rfl) _ (hr.below hb5) hr2).mono ?_
    rintro e w6 ⟨rfl, hb6⟩
    have hB6 := Below.step hB5 hB5.size hb6
    go_wp2_with fail
    refine (same_is true _ _ _ _ (decide_eq_true rfl) _ (hx.below hb6) (HV.out.below hB6)).mono ?_
    rintro e w7 ⟨rfl, hb7⟩
    have hB7 := Below.step hB6 hB6.size hb7
    go_wp2
    go_ret
    exact ⟨rfl, hB7⟩

theorem slogReplays_holds : Rows.SlogReplaysSaid := slogReplays_of slogReplays_walk

end Go.Proofs.Ytaeklmnleampcaa
