/- Moves replayed in two parts lead where they lead together; one that can't be stops all. No condition. -/
import Derived.Test.YtaeklmnleampcaaAl
import Derived.Test.YtaeklmnleampcaaRs
import Derived.Test.YtaeklmnleampcaaRu
import Derived.Test.YtaeklmnleampcaaArgs3
import Derived.Test.YtaeklmnleampcaaFSlogParts
namespace Go.Proofs.Ytaeklmnleampcaa
open Go.RowKit

set_option maxRecDepth 100000 in
set_option maxHeartbeats 8000000 in
theorem slogParts_walk : SlogPartsWalk := by
  intro w v a x m n hv _ _ hx hsx _ hn
  have hB0 := Below.refl w.heap.size w
  have HV := Lib.hid hv; clear hv
  have HX := Lib.hid hx
  obtain ⟨xo, xcap, rfl, hxl, _, _⟩ := hx
  have hcap : m.length ≤ xcap := by
    rcases hsx with h | ⟨y, k, c, h, hkc⟩
    · simp only [Value.slice.injEq] at h; omega
    · simp only [Value.slice.injEq] at h; omega
  clear hsx
  have HCAP := Lib.hid hcap; clear hcap
  unfold inI64 at hn
  obtain ⟨ra, hra⟩ : ∃ r, rightB a = r := ⟨_, rfl⟩
  have HRA := Lib.hid hra; clear hra
  go_enter Try.func19, Try.ntmps19
  go_wp2_with fail
  refine (slogAlive_any _).mono ?_
  rintro e w1 ⟨rfl, hb1⟩
  have hB1 := Below.step hB0 hB0.size hb1
  go_wp2_with fail
  refine (refright_is ra _ a HRA.out _ (HV.out.below hB1)).mono ?_
  rintro e w2 ⟨rfl, hb2⟩
  have hB2 := Below.step hB1 hB1.size hb2
  cases ra with
  | false =>
    go_wp2
    go_ret
    exact ⟨rfl, hB2⟩
  | true =>
  by_cases hlen : 200 < m.length
  · have hlen' : (200 : Int) < (m.length : Int) := by omega
    go_wp2
    go_ret
    exact ⟨rfl, hB2⟩
  have hlen' : ¬ (200 : Int) < (m.length : Int) := by omega
  by_cases hn0 : n < 0
  · go_wp2
    go_ret
    exact ⟨rfl, hB2⟩
  by_cases hn1 : (m.length : Int) < n
  · go_wp2
    go_ret
    exact ⟨rfl, hB2⟩
  obtain ⟨k, rfl⟩ : ∃ k : Nat, n = (k : Int) := ⟨n.toNat, by omega⟩
  have hkm : k ≤ m.length := by omega
  have hn0' : ¬ (k : Int) < 0 := by omega
  obtain ⟨p, P, hP⟩ : ∃ p P, P = replayS a m ∧ p = P := ⟨_, _, rfl, rfl⟩
  obtain ⟨pa, pc, hp, hpr⟩ := move_take HX.out hkm HCAP.out
  obtain ⟨qa, qc, hq, hqr⟩ := move_drop HX.out hkm HCAP.out
  have hsplit : replayS a m = (replayS a (m.take k)).bind fun l => replayS l (m.drop k) := by
    conv => lhs; rw [← List.take_append_drop k m]
    exact replayS_parts HRA.out _ _
  have HP := Lib.hid hp; clear hp
  have HQ := Lib.hid hq; clear hq
  have HPR := Lib.hid hpr; clear hpr
  have HQR := Lib.hid hqr; clear hqr
  obtain ⟨M1, hM1⟩ : ∃ l, m.take k = l := ⟨_, rfl⟩
  obtain ⟨M2, hM2⟩ : ∃ l, m.drop k = l := ⟨_, rfl⟩
  rw [hM1] at HP HPR hsplit
  rw [hM2] at HQ HQR hsplit
  clear hM1 hM2
  obtain ⟨S, hS⟩ : ∃ S, replayS a m = S := ⟨_, rfl⟩
  obtain ⟨S1, hS1⟩ : ∃ S, replayS a M1 = S := ⟨_, rfl⟩
  rw [hS, hS1] at hsplit
  have HS := Lib.hid hS; clear hS
  have HS1 := Lib.hid hS1; clear hS1
  have HSP := Lib.hid hsplit; clear hsplit
  clear hP
  go_wp2_with fail
  refine (replay_any _ _ a m _ (HV.out.below hB2) (HX.out.below hB2)).mono ?_
  rw [HS.out]
  obtain ⟨co, hco⟩ : ∃ co, codeOf S = co := ⟨_, rfl⟩
  rw [hco]
  have HCO := Lib.hid hco; clear hco
  rintro e w3 ⟨r, rfl, hr, hb3⟩
  have hB3 := Below.step hB2 hB2.size hb3
  have HR := Lib.hid hr; clear hr
  have hpr := HPR.out
  go_wp2_with fail
  clear hpr
  refine (replay_any _ _ a M1 _ (HV.out.below hB3) (HP.out.below hB3)).mono ?_
  rw [HS1.out]
  cases S1 with
  | none =>
    have HSN : Hid (S = none) := HSP.out
    have hco : co = 81 := by rw [← HCO.out, HSN.out]; rfl
    subst hco
    have hcn : codeOf none = 81 := rfl
    rw [hcn]
    clear hcn
    rintro e w4 ⟨r2, rfl, hr2, hb4⟩
    have hB4 := Below.step hB3 hB3.size hb4
    have hr := HR.out
    rw [HSN.out] at hr
    obtain ⟨ao, cap, rfl, hlenr, _, _⟩ := hr
    clear hlenr
    go_wp2
    go_ret
    exact ⟨rfl, hB4⟩
  | some s1 =>
    have hcn : codeOf (some s1) = 0 := rfl
    rw [hcn]
    clear hcn
    rintro e w4 ⟨r2, rfl, hr2, hb4⟩
    have hB4 := Below.step hB3 hB3.size hb4
    have HR2 := Lib.hid hr2; clear hr2
    have HS2 : Hid (replayS s1 M2 = S) := HSP.out.symm
    have hqr := HQR.out
    go_wp2_with fail
    clear hqr
    refine (replay_any _ _ s1 M2 _ HR2.out (HQ.out.below hB4)).mono ?_
    rw [HS2.out, HCO.out]
    rintro e w5 ⟨r3, rfl, hr3, hb5⟩
    have hB5 := Below.step hB4 hB4.size hb5
    have hr5 := (HR.out.below hb4).below hb5
    go_wp2_with fail
    refine (same_is true _ _ _ _ (decide_eq_true rfl) _ hr5 hr3).mono ?_
    rintro e w6 ⟨rfl, hb6⟩
    have hB6 := Below.step hB5 hB5.size hb6
    go_wp2
    go_ret
    exact ⟨rfl, hB6⟩

theorem slogParts_holds : Rows.SlogPartsSaid := slogParts_of slogParts_walk

end Go.Proofs.Ytaeklmnleampcaa
