/- For every list of spans and every list of numbers: the program's Right answers as the document's, its Of is the document's set of the numbers, and the numbers stay. No condition. -/
import Derived.Test.YtaeklmnleampcaaArgs
import Derived.Test.YtaeklmnleampcaaFSpanRights
namespace Go.Proofs.Ytaeklmnleampcaa
open Go.RowKit

theorem refright_is (b : Bool) (v : Value) (l : List (Int × Int)) (h : rightB l = b) (w : World) (hv : SpanSl w v l) :
    Calls Try.prog 26 #[v] w fun e w' => e = .returned (.bool b) ∧ Below w.heap.size w w' := by
  subst h; exact refright_any v l w hv

set_option maxRecDepth 100000 in
set_option maxHeartbeats 4000000 in
theorem spanRights_walk : SpanRightsWalk := by
  intro w v l u nums hv _ _ hu hsu hbu
  obtain ⟨i0, hi, hz0, hz1, hz2⟩ := info_parts Try.info3
  have hown0 := World.ownsRow_lit (e := 3) (size := 1) (base := w.heap.size) w #[] 0 (Nat.le_refl _) (by simp) rfl
  have hB0 : Below w.heap.size w (w.alloc (.cells #[] 3)) := (Below.refl _ _).alloc (Nat.le_refl _) _
  obtain ⟨r, hr⟩ : ∃ r, rightB l = r := ⟨_, rfl⟩
  have HR := Lib.hid hr; clear hr
  have HV := Lib.hid hv; clear hv
  have HU := Lib.hid hu
  have hbe : ∀ W' : World, (binOp .eql 4 (.bool r) (.bool r)).run Try.prog W' = .ok (.bool true) W' := fun W' => by cases r <;> simp [go_sem]
  have HF := Lib.hid (intSl_wf hu)
  rcases hsu with rfl | ⟨a, n, c, rfl⟩
  · obtain rfl := intSl_len hu
    clear hu
    go_enter Try.func3, Try.ntmps3
    go_wp2_with (first | (at_builtin; refine wpList_append_own_none rfl (.tmp 6) (.tmp 7) 23 rfl w.heap.size 3 i0 1 Try.underlying23 hi _ 0 [] rfl hown0 rfl ?_))
    have hx1 : IntSl .i64 (w.alloc (.cells #[] 3)) (.slice (some ⟨w.heap.size, 0, none⟩) 0 0) [] := intSl_of_owns hown0 (by simp) (by simp)
    have hB1 := hB0

    go_wp2_with fail
    refine (spanAlive_any _).mono ?_
    rintro e w2 ⟨rfl, hb2⟩
    have hv2 := (HV.out.below hB1).below (hb2.mono (Nat.le_refl _))
    have hB2 := Below.step hB1 hB1.size hb2
    go_wp2_with fail
    refine (right_is r _ _ HR.out _ hv2).mono ?_
    rintro e w3 ⟨rfl, hb3⟩
    have hB3 := Below.step hB2 hB2.size hb3
    go_wp2_with fail
    refine (refright_is r _ _ HR.out _ (hv2.below hb3)).mono ?_
    rintro e w4 ⟨rfl, hb4⟩
    have hB4 := Below.step hB3 hB3.size hb4
    go_wp2_with fail
    have hx4 := ((hx1.below hb2).below hb3).below hb4
    refine (of_any _ _ _ hx4).mono ?_
    rintro e w5 ⟨y, rfl, hy5, hb5⟩
    have hB5 := Below.step hB4 hB4.size hb5
    go_wp2_with fail
    refine (refof_any _ _ _ (HU.out.below hB5)).mono ?_
    rintro e w6 ⟨z, rfl, hz6, hb6⟩
    have hB6 := Below.step hB5 hB5.size hb6
    go_wp2_with fail
    refine (same_is true _ _ _ _ (by simp) _ (hy5.below hb6) hz6).mono ?_
    rintro e w7 ⟨rfl, hb7⟩
    have hB7 := Below.step hB6 hB6.size hb7
    go_wp2_with fail
    refine (sameInts_is true _ _ _ _ (by simp) _ (((hx4.below hb5).below hb6).below hb7) (HU.out.below hB7)).mono ?_
    rintro e w8 ⟨rfl, hb8⟩
    have hB8 := Below.step hB7 hB7.size hb8
    go_wp2
    go_ret
    exact ⟨rfl, hB8⟩
  · obtain ⟨rfl, hnews⟩ := intSl_news hu hB0
    have HN := Lib.hid hnews; clear hnews
    clear hu
    go_enter Try.func3, Try.ntmps3
    go_wp2_with (first | (at_builtin; refine wpList_append_own _ rfl (.tmp 6) (.tmp 7) 23 rfl w.heap.size 3 i0 (.int .i64 0) 1 8 Try.underlying23 hi hz0 hz1 hz2 rfl (by decide) _ _ _ rfl hown0 a nums.length c (nums.map (Value.int .i64)) rfl (by simp) HN.out (ints_oneCell _ _) (by unfold maxLen; omega) (by omega) (by simp) ?_; intro x w1 hown1 hgrow _))
    have hx1 : IntSl .i64 w1 x nums := intSl_of_owns (by simpa using hown1) HF.out (by omega)
    have hB1 : Below w.heap.size w w1 := hB0.grown hgrow (by simp) (fun k e => by cases e; exact Nat.le_refl _)
    clear hown1 hgrow

    go_wp2_with fail
    refine (spanAlive_any _).mono ?_
    rintro e w2 ⟨rfl, hb2⟩
    have hv2 := (HV.out.below hB1).below (hb2.mono (Nat.le_refl _))
    have hB2 := Below.step hB1 hB1.size hb2
    go_wp2_with fail
    refine (right_is r _ _ HR.out _ hv2).mono ?_
    rintro e w3 ⟨rfl, hb3⟩
    have hB3 := Below.step hB2 hB2.size hb3
    go_wp2_with fail
    refine (refright_is r _ _ HR.out _ (hv2.below hb3)).mono ?_
    rintro e w4 ⟨rfl, hb4⟩
    have hB4 := Below.step hB3 hB3.size hb4
    go_wp2_with fail
    have hx4 := ((hx1.below hb2).below hb3).below hb4
    refine (of_any _ _ _ hx4).mono ?_
    rintro e w5 ⟨y, rfl, hy5, hb5⟩
    have hB5 := Below.step hB4 hB4.size hb5
    go_wp2_with fail
    refine (refof_any _ _ _ (HU.out.below hB5)).mono ?_
    rintro e w6 ⟨z, rfl, hz6, hb6⟩
    have hB6 := Below.step hB5 hB5.size hb6
    go_wp2_with fail
    refine (same_is true _ _ _ _ (by simp) _ (hy5.below hb6) hz6).mono ?_
    rintro e w7 ⟨rfl, hb7⟩
    have hB7 := Below.step hB6 hB6.size hb7
    go_wp2_with fail
    refine (sameInts_is true _ _ _ _ (by simp) _ (((hx4.below hb5).below hb6).below hb7) (HU.out.below hB7)).mono ?_
    rintro e w8 ⟨rfl, hb8⟩
    have hB8 := Below.step hB7 hB7.size hb8
    go_wp2
    go_ret
    exact ⟨rfl, hB8⟩

theorem spanRights_holds : Rows.SpanRightsSaid := spanRights_of spanRights_walk

end Go.Proofs.Ytaeklmnleampcaa
