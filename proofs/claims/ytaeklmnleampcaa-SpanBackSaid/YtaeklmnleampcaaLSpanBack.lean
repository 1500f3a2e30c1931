/- For every list of spans and every number: a set's own numbers, in rising order, are its numbers, and the set of them is the set. No condition. -/
import Derived.Test.YtaeklmnleampcaaWo
import Derived.Test.YtaeklmnleampcaaFSpanBack
namespace Go.Proofs.Ytaeklmnleampcaa
open Go.RowKit

theorem listR_back {l : List (Int × Int)} (h : rightB l = true) : spansOf (numsF (listR l)) = l := by
  refine Eq.trans (spansOf_congr fun n hn => ?_) (spansOf_bitsOf h)
  rw [listR_right h]
  unfold numsF
  rw [Bool.eq_iff_iff, decide_eq_true_eq, listOf, mem_listTo]
  constructor
  · rintro ⟨_, _, h3⟩; simpa using h3
  · intro h3; exact ⟨by omega, by omega, by simpa using h3⟩

theorem take_mem_succ {q : List Int} {k : Nat} (h : k < q.length) (n : Int) : decide (n ∈ q.take (k + 1)) = (decide (n ∈ q.take k) || decide (q[k] = n)) := by
  rw [List.take_succ_eq_append_getElem h, Bool.eq_iff_iff, Bool.or_eq_true, decide_eq_true_eq, decide_eq_true_eq, decide_eq_true_eq, List.mem_append, List.mem_singleton]
  exact or_congr_right eq_comm

theorem rise_at {q : List Int} (hr : q.Pairwise (· < ·)) {m : Nat} (h : m + 1 < q.length) : q[m] < q[m + 1] := List.pairwise_iff_getElem.1 hr m (m + 1) (by omega) h (by omega)

set_option maxRecDepth 100000 in
set_option maxHeartbeats 4000000 in
theorem spanBack_walk : SpanBackWalk := by
  intro w v l n hv _ _ _
  have hB0 := Below.refl w.heap.size w
  have HV := Lib.hid hv; clear hv
  obtain ⟨r, hr⟩ : ∃ r, rightB l = r := ⟨_, rfl⟩
  have HR := Lib.hid hr; clear hr
  have hbe : ∀ (b : Bool) (W' : World), (binOp .eql 4 (.bool b) (.bool b)).run Try.prog W' = .ok (.bool true) W' := fun b W' => by cases b <;> simp [go_sem]
  go_enter Try.func9, Try.ntmps9
  go_wp2_with fail
  refine (spanAlive_any _).mono ?_
  rintro e w1 ⟨rfl, hb1⟩
  have hB1 := Below.step hB0 hB0.size hb1
  go_wp2_with fail
  refine (right_is r _ l HR.out _ (HV.out.below hB1)).mono ?_
  rintro e w2 ⟨rfl, hb2⟩
  have hB2 := Below.step hB1 hB1.size hb2
  cases r with
  | false =>
    go_wp2
    go_ret
    exact ⟨rfl, hB2⟩
  | true =>
    go_wp2_with fail
    refine (list_any _ l _ (HV.out.below hB2)).mono ?_
    rintro e w3 ⟨z, rfl, hz, hb3⟩
    have hB3 := Below.step hB2 hB2.size hb3
    obtain ⟨q, hq⟩ : ∃ q, q = listR l := ⟨_, rfl⟩
    rw [← hq] at hz
    have HQ := Lib.hid hq
    have HW : Hid (q.Pairwise (· < ·)) := by rw [hq]; exact listR_rise l
    have HH : Hid (∀ k (hk : k < q.length), hasR l q[k] = true) := by
      intro k hk
      unfold hasR
      rw [← hq]
      exact decide_eq_true (List.getElem_mem _)
    have HN : Hid (hasR l n = decide (n ∈ q)) := by rw [hq]; exact rfl
    clear hq
    have HZ := Lib.hid hz
    obtain ⟨ao, cap, rfl, hlen, hzb, hc⟩ := hz
    have HC := Lib.hid hc; clear hc hzb
    go_wp2_with fail
    go_loopw [6, 18] (fun g i wr => ∃ k : Nat, k ≤ q.length ∧ i = .int .i64 k ∧ g = .bool (decide (n ∈ q.take k)) ∧ Below w3.heap.size w3 wr)
      (fun _ i _ => q.length - (intOf i).toNat)
    case atStart => exact ⟨0, Nat.zero_le _, rfl, by simp, Below.refl _ _⟩
    case round =>
      obtain ⟨k, hk, rfl, rfl, hbel⟩ := hrel
      have hbel' := Below.step hB3 hB3.size (hbel.mono (Nat.le_refl _))
      obtain ⟨g, hg⟩ : ∃ g, g = decide (n ∈ q.take k) := ⟨_, rfl⟩
      rw [← hg]
      have HG := Lib.hid hg; clear hg
      by_cases hlt : k < q.length
      · obtain ⟨b, o, rfl, hbs, hcell⟩ := HC.out (by intro h; simp [h] at hlt)
        have h1 := int_cells hbs hcell hbel hlt
        have hhas := HH.out k hlt
        have HS := Lib.hid (take_mem_succ hlt n)
        by_cases hkm : k = 0
        · subst hkm
          have h1' : wr.cell? ⟨b, o, none⟩ = some (.int .i64 q[0]) := h1
          clear hcell h1
          cases g <;> rcases Classical.em (q[0] = n) with rfl | hx
          all_goals
            go_wp2_with fail
            refine (has_is true _ l _ hhas _ (HV.out.below hbel')).mono ?_
            rintro e w4 ⟨rfl, hb4⟩
            have hB4 := Below.step hbel hbel.size hb4
            go_wp2
            go_roundw
            case rel => exact ⟨0 + 1, by omega, by go_num, by rw [HS.out, ← HG.out]; first | simp [hx] | simp, hB4⟩
            case measure => simp [intOf]; omega
        · obtain ⟨m, rfl⟩ : ∃ m, k = m + 1 := ⟨k - 1, by omega⟩
          have hlm : m < q.length := by omega
          have hrise := rise_at HW.out hlt
          have hnr : ¬ (q[m + 1] ≤ q[m]) := by omega
          have hm0 : (0 : Int) < (m : Int) + 1 := by omega
          have hlen' := hlen
          have w1 : IntKind.i64.wrap (m : Int) = (m : Int) := IntWalk.i64_in _ (by omega)
          cases g <;> rcases Classical.em (q[m + 1] = n) with rfl | hx
          all_goals
            go_wp2_with fail
            refine (has_is true _ l _ hhas _ (HV.out.below hbel')).mono ?_
            rintro e w4 ⟨rfl, hb4⟩
            have hB4 := Below.step hbel hbel.size hb4
            have h2 := int_cells hbs hcell hB4 hlm
            have hml : (m : Int) < (q.length : Int) := by omega
            go_wp2
            go_roundw
            case rel => exact ⟨m + 1 + 1, by omega, by go_num, by rw [HS.out, ← HG.out]; first | simp [hx] | simp, hB4⟩
            case measure => simp [intOf]; omega
      · have hkk : k = q.length := by omega
        subst hkk
        rw [List.take_length] at HG
        have HG' : Hid (hasR l n = g) := by unfold Hid; rw [HN.out, HG.out]
        clear HG
        have hbg := hbe g
        go_wp2_with fail
        refine (has_is g _ l n HG'.out _ (HV.out.below hbel')).mono ?_
        rintro e w4 ⟨rfl, hb4⟩
        have hB4 := Below.step hbel' hbel'.size hb4
        have hC4 := Below.step hbel hbel.size hb4
        go_wp2_with fail
        refine (of_any _ _ _ (HZ.out.below hC4)).mono ?_
        rintro e w5 ⟨y, rfl, hy5, hb5⟩
        have hB5 := Below.step hB4 hB4.size hb5
        go_wp2_with fail
        refine (same_is true _ _ _ _ (decide_eq_true (by rw [HQ.out]; exact listR_back HR.out)) _ hy5 (HV.out.below hB5)).mono ?_
        rintro e w6 ⟨rfl, hb6⟩
        have hB6 := Below.step hB5 hB5.size hb6
        go_wp2
        go_ret
        exact ⟨rfl, hB6⟩

theorem spanBack_holds : Rows.SpanBackSaid := spanBack_of spanBack_walk

end Go.Proofs.Ytaeklmnleampcaa
