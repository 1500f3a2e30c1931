/- Moves that have bytes are read back from them; the moves from one set to another are undone by those the other way. No condition. -/
import Derived.Test.YtaeklmnleampcaaAl
import Derived.Test.YtaeklmnleampcaaRu
import Derived.Test.YtaeklmnleampcaaFg
import Derived.Test.YtaeklmnleampcaaFSlogBack
namespace Go.Proofs.Ytaeklmnleampcaa
open Go.RowKit

set_option maxRecDepth 100000 in
set_option maxHeartbeats 8000000 in
theorem slogBack_walk : SlogBackWalk := by
  intro w v a u b x m hv _ _ hu _ _ hx _ _
  have hB0 := Below.refl w.heap.size w
  have HV := Lib.hid hv; clear hv
  have HU := Lib.hid hu; clear hu
  have HX := Lib.hid hx
  obtain ⟨xo, xcap, rfl, hxl, _, _⟩ := hx
  obtain ⟨ra, hra⟩ : ∃ r, rightB a = r := ⟨_, rfl⟩
  obtain ⟨rb, hrb⟩ : ∃ r, rightB b = r := ⟨_, rfl⟩
  have HRA := Lib.hid hra; clear hra
  have HRB := Lib.hid hrb; clear hrb
  go_enter Try.func23, Try.ntmps23
  go_wp2_with fail
  refine (slogAlive_any _).mono ?_
  rintro e w1 ⟨rfl, hb1⟩
  have hB1 := Below.step hB0 hB0.size hb1
  by_cases hlen : 4096 < m.length
  · have hlen' : (4096 : Int) < (m.length : Int) := by omega
    go_wp2
    go_ret
    exact ⟨rfl, hB1⟩
  have hlen' : ¬ (4096 : Int) < (m.length : Int) := by omega
  obtain ⟨S, hS⟩ : ∃ S, bytesS m = S := ⟨_, rfl⟩
  have HS := Lib.hid hS; clear hS
  go_wp2_with fail
  refine (bytes_any _ m _ (HX.out.below hB1)).mono ?_
  rw [HS.out]
  cases S with
  | none =>
    have hcn : codeB (none : Option (List Int)) = 81 := rfl
    rw [hcn]
    clear hcn
    rintro e w4 ⟨r, rfl, hr, hcr, hb4⟩
    have hB4 := Below.step hB1 hB1.size hb4
    clear hr hcr
    go_wp2_with fail
    refine (refright_is ra _ a HRA.out _ (HV.out.below hB4)).mono ?_
    rintro e w5 ⟨rfl, hb5⟩
    have hB5 := Below.step hB4 hB4.size hb5
    cases ra with
    | false =>
      go_wp2
      go_ret
      exact ⟨rfl, hB5⟩
    | true =>
    go_wp2_with fail
    refine (refright_is rb _ b HRB.out _ (HU.out.below hB5)).mono ?_
    rintro e w6 ⟨rfl, hb6⟩
    have hB6 := Below.step hB5 hB5.size hb6
    cases rb with
    | false =>
      go_wp2
      go_ret
      exact ⟨rfl, hB6⟩
    | true =>
    go_wp2_with fail
    refine (diff_any _ _ a b _ (HV.out.below hB6) (HU.out.below hB6)).mono ?_
    rintro e w7 ⟨d, rfl, hd, hb7⟩
    have hB7 := Below.step hB6 hB6.size hb7
    go_wp2_with fail
    refine (replay_any _ _ a _ _ (HV.out.below hB7) hd).mono ?_
    rw [replayS_diff HRA.out HRB.out]
    have hco : ∀ l, codeOf (some l) = 0 := fun _ => rfl
    rw [hco]
    rintro e w8 ⟨r, rfl, hr, hb8⟩
    have hB8 := Below.step hB7 hB7.size hb8
    simp only [Option.getD_some] at hr
    have HR8 := Lib.hid hr; clear hr hd
    go_wp2_with fail
    refine (diff_any _ _ b a _ (HU.out.below hB8) (HV.out.below hB8)).mono ?_
    rintro e w9 ⟨d, rfl, hd, hb9⟩
    have hB9 := Below.step hB8 hB8.size hb9
    have HR9 := Lib.hid (HR8.out.below hb9); clear HR8
    go_wp2_with fail
    refine (replay_any _ _ b _ _ HR9.out hd).mono ?_
    rw [replayS_diff HRB.out HRA.out, hco]
    rintro e w10 ⟨q, rfl, hq2, hb10⟩
    have hB10 := Below.step hB9 hB9.size hb10
    simp only [Option.getD_some] at hq2
    clear hco hd
    go_wp2_with fail
    refine (same_is true _ _ _ _ (decide_eq_true rfl) _ hq2 (HV.out.below hB10)).mono ?_
    rintro e w11 ⟨rfl, hb11⟩
    have hB11 := Below.step hB10 hB10.size hb11
    go_wp2
    go_ret
    exact ⟨rfl, hB11⟩
  | some bs =>
    have hcn : codeB (some bs) = 0 := rfl
    rw [hcn]
    clear hcn
    rintro e w2 ⟨r, rfl, hr, hcr, hb2⟩
    have hB2 := Below.step hB1 hB1.size hb2
    simp only [Option.getD_some] at hr
    have HR := Lib.hid hr
    have HCR := Lib.hid hcr; clear hcr
    obtain ⟨ro, rcap, rfl, _, _, _⟩ := hr
    have HRB2 : Hid (readS bs = some m) := (readS_bytes HS.out).1
    have hlb : bs.length = 5 * m.length := (readS_bytes HS.out).2
    have HLB := Lib.hid hlb; clear hlb
    have hq : ((bs.length : Int) != 5 * (m.length : Int)) = false := by
      have := HLB.out
      rw [bne_eq_false_iff_eq]; omega
    go_wp2_with fail
    refine (read_any _ bs _ HR.out HCR.out).mono ?_
    rw [HRB2.out]
    have hcn : codeB (some m) = 0 := rfl
    rw [hcn]
    clear hcn
    rintro e w3 ⟨l, rfl, hl, hb3⟩
    have hB3 := Below.step hB2 hB2.size hb3
    simp only [Option.getD_some] at hl
    have HL := Lib.hid hl; clear hl
    go_wp2_with fail
    refine (msame_is true _ _ _ _ (decide_eq_true rfl) _ HL.out (HX.out.below hB3)).mono ?_
    rintro e w4 ⟨rfl, hb4⟩
    have hB4 := Below.step hB3 hB3.size hb4
    go_wp2_with fail
    refine (refright_is ra _ a HRA.out _ (HV.out.below hB4)).mono ?_
    rintro e w5 ⟨rfl, hb5⟩
    have hB5 := Below.step hB4 hB4.size hb5
    cases ra with
    | false =>
      go_wp2
      go_ret
      exact ⟨rfl, hB5⟩
    | true =>
    go_wp2_with fail
    refine (refright_is rb _ b HRB.out _ (HU.out.below hB5)).mono ?_
    rintro e w6 ⟨rfl, hb6⟩
    have hB6 := Below.step hB5 hB5.size hb6
    cases rb with
    | false =>
      go_wp2
      go_ret
      exact ⟨rfl, hB6⟩
    | true =>
    go_wp2_with fail
    refine (diff_any _ _ a b _ (HV.out.below hB6) (HU.out.below hB6)).mono ?_
    rintro e w7 ⟨d, rfl, hd, hb7⟩
    have hB7 := Below.step hB6 hB6.size hb7
    go_wp2_with fail
    refine (replay_any _ _ a _ _ (HV.out.below hB7) hd).mono ?_
    rw [replayS_diff HRA.out HRB.out]
    have hco : ∀ l, codeOf (some l) = 0 := fun _ => rfl
    rw [hco]
    rintro e w8 ⟨r, rfl, hr, hb8⟩
    have hB8 := Below.step hB7 hB7.size hb8
    simp only [Option.getD_some] at hr
    have HR8 := Lib.hid hr; clear hr hd
    go_wp2_with fail
    refine (diff_any _ _ b a _ (HU.out.below hB8) (HV.out.below hB8)).mono ?_
    rintro e w9 ⟨d, rfl, hd, hb9⟩
    have hB9 := Below.step hB8 hB8.size hb9
    have HR9 := Lib.hid (HR8.out.below hb9); clear HR8
    go_wp2_with fail
    refine (replay_any _ _ b _ _ HR9.out hd).mono ?_
    rw [replayS_diff HRB.out HRA.out, hco]
    rintro e w10 ⟨q, rfl, hq2, hb10⟩
    have hB10 := Below.step hB9 hB9.size hb10
    simp only [Option.getD_some] at hq2
    clear hco hd
    go_wp2_with fail
    refine (same_is true _ _ _ _ (decide_eq_true rfl) _ hq2 (HV.out.below hB10)).mono ?_
    rintro e w11 ⟨rfl, hb11⟩
    have hB11 := Below.step hB10 hB10.size hb11
    go_wp2
    go_ret
    exact ⟨rfl, hB11⟩

theorem slogBack_holds : Rows.SlogBackSaid := slogBack_of slogBack_walk

end Go.Proofs.Ytaeklmnleampcaa
