/- The moves from one set to another lead there, and a log condensed leads where the log leads, by the shortest log. No condition. -/
import Derived.Test.YtaeklmnleampcaaAl
import Derived.Test.YtaeklmnleampcaaRs
import Derived.Test.YtaeklmnleampcaaRu
import Derived.Test.YtaeklmnleampcaaFSlogLeads
namespace Go.Proofs.Ytaeklmnleampcaa
open Go.RowKit

set_option maxRecDepth 100000 in
set_option maxHeartbeats 8000000 in
theorem slogLeads_walk : SlogLeadsWalk := by
  intro w v a u b x m hv _ _ hu _ _ hx _ _
  have hB0 := Below.refl w.heap.size w
  have HV := Lib.hid hv; clear hv
  have HU := Lib.hid hu; clear hu
  have HX := Lib.hid hx
  obtain ⟨xo, xcap, rfl, hxl, _, _⟩ := hx
  obtain ⟨ra, hra⟩ : ∃ r, rightB a = r := ⟨_, rfl⟩
  obtain ⟨rb, hrb⟩ : ∃ r, rightB b = r := ⟨_, rfl⟩
  have HRA := Lib.hid hra; clear hra
  have HRB := Lib.hid hrb; clear hrb
  go_enter Try.func21, Try.ntmps21
  go_wp2_with fail
  refine (slogAlive_any _).mono ?_
  rintro e w1 ⟨rfl, hb1⟩
  have hB1 := Below.step hB0 hB0.size hb1
  go_wp2_with fail
  refine (refright_is ra _ a HRA.out _ (HV.out.below hB1)).mono ?_
  rintro e w2 ⟨rfl, hb2⟩
  have hB2 := Below.step hB1 hB1.size hb2
  cases ra with
  | false =>
    go_wp2
    go_ret
    exact ⟨rfl, hB2⟩
  | true =>
  go_wp2_with fail
  refine (refright_is rb _ b HRB.out _ (HU.out.below hB2)).mono ?_
  rintro e w3 ⟨rfl, hb3⟩
  have hB3 := Below.step hB2 hB2.size hb3
  cases rb with
  | false =>
    go_wp2
    go_ret
    exact ⟨rfl, hB3⟩
  | true =>
  by_cases hlen : 200 < m.length
  · have hlen' : (200 : Int) < (m.length : Int) := by omega
    go_wp2
    go_ret
    exact ⟨rfl, hB3⟩
  have hlen' : ¬ (200 : Int) < (m.length : Int) := by omega
  go_wp2_with fail
  refine (diff_any _ _ a b _ (HV.out.below hB3) (HU.out.below hB3)).mono ?_
  rintro e w4 ⟨d, rfl, hd, hb4⟩
  have hB4 := Below.step hB3 hB3.size hb4
  go_wp2_with fail
  refine (replay_any _ _ a _ _ (HV.out.below hB4) hd).mono ?_
  rw [replayS_diff HRA.out HRB.out]
  have hco : ∀ l, codeOf (some l) = 0 := fun _ => rfl
  rw [hco]
  rintro e w5 ⟨r, rfl, hr, hb5⟩
  have hB5 := Below.step hB4 hB4.size hb5
  simp only [Option.getD_some] at hr
  go_wp2_with fail
  refine (same_is true _ _ _ _ (decide_eq_true rfl) _ hr (HU.out.below hB5)).mono ?_
  rintro e w6 ⟨rfl, hb6⟩
  have hB6 := Below.step hB5 hB5.size hb6
  clear hr hd
  obtain ⟨S, hS⟩ : ∃ S, replayS [] m = S := ⟨_, rfl⟩
  have HS := Lib.hid hS; clear hS
  go_wp2_with fail
  refine (replay_any _ _ [] m _ (spanSl_nil _) (HX.out.below hB6)).mono ?_
  rw [HS.out]
  cases S with
  | none =>
    have hcn : codeOf none = 81 := rfl
    rw [hcn]
    clear hcn hco
    rintro e w7 ⟨r, rfl, hr, hb7⟩
    have hB7 := Below.step hB6 hB6.size hb7
    obtain ⟨ao, cap, rfl, hlenr, _, _⟩ := hr
    clear hlenr
    go_wp2
    go_ret
    exact ⟨rfl, hB7⟩
  | some s =>
    rw [hco]
    rintro e w7 ⟨r, rfl, hr, hb7⟩
    have hB7 := Below.step hB6 hB6.size hb7
    simp only [Option.getD_some] at hr
    have HR := Lib.hid hr; clear hr
    go_wp2_with fail
    refine (condense_any _ s _ HR.out).mono ?_
    rintro e w8 ⟨d, rfl, hd, hb8⟩
    have hB8 := Below.step hB7 hB7.size hb8
    have HR8 := Lib.hid (HR.out.below hb8); clear HR
    have HD := Lib.hid hd; clear hd
    go_wp2_with fail
    refine (replay_any _ _ [] _ _ (spanSl_nil _) HD.out).mono ?_
    rw [replayS_diff rfl (replayS_set HS.out), hco]
    rintro e w9 ⟨q, rfl, hq, hb9⟩
    have hB9 := Below.step hB8 hB8.size hb9
    simp only [Option.getD_some] at hq
    have HR9 := Lib.hid (HR8.out.below hb9)
    go_wp2_with fail
    refine (same_is true _ _ _ _ (decide_eq_true rfl) _ hq HR9.out).mono ?_
    rintro e w10 ⟨rfl, hb10⟩
    have hB10 := Below.step hB9 hB9.size hb10
    obtain ⟨ao, cap, rfl, _, _, _⟩ := HR8.out
    obtain ⟨bo, cap', rfl, _, _, _⟩ := HD.out
    have hll : (diffL [] s).length = s.length := diffL_length (replayS_set HS.out)
    rw [hll]
    clear hll hco hq
    go_wp2
    go_ret
    exact ⟨rfl, hB10⟩

theorem slogLeads_holds : Rows.SlogLeadsSaid := slogLeads_of slogLeads_walk

end Go.Proofs.Ytaeklmnleampcaa
