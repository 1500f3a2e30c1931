/- Any moves as bytes, and the moves of any bytes: Bytes and Read answer as the document's. No condition. -/
import Derived.Test.YtaeklmnleampcaaAl
import Derived.Test.YtaeklmnleampcaaFh
import Derived.Test.YtaeklmnleampcaaFSlogBytes
import Derived.Lib.SlBytesRow
import Derived.Lib.BufferRead
namespace Go.Proofs.Ytaeklmnleampcaa
open Go.RowKit

theorem conv_bytes {w : World} {v : Value} {l : List Int} (h : IntSl .u8 w v l) : (convert 86 9 v).run Try.prog w = .ok (.string (strOfNums l)) w := by
  obtain ⟨ao, cap, rfl, _, _, hc⟩ := h
  by_cases hl : l = []
  · subst hl
    show (convert 86 9 (.slice ao 0 cap)).run Try.prog w = _
    cases ao with
    | none => exact Go.Lib.run_convert_nil_bytes w 86 9 5 cap Try.underlying86 Try.underlying5 Try.underlying9
    | some a =>
      rw [run_convert_bytes_string w 86 9 5 (some a) 0 cap Try.underlying86 Try.underlying5 Try.underlying9]
      simp [Conv.bytesToString, loadCells, strOfNums]
      rfl
  · obtain ⟨b, o, rfl, _, hcell⟩ := hc hl
    exact run_convert_bytes_arg (P := Try.prog) w 86 5 Try.underlying86 Try.underlying5 b o l.length cap l rfl (fun i hi => by
      rw [hcell i hi]
      simp [List.getD, hi]) 9 Try.underlying9

set_option maxRecDepth 100000 in
set_option maxHeartbeats 8000000 in
theorem slogBytes_walk : SlogBytesWalk := by
  intro w u m v l hu _ _ hv hsv hbv
  obtain ⟨i0, hi, hz0, hz1, hz2⟩ := info_parts Try.info5
  have hB0 := Below.refl w.heap.size w
  have HU := Lib.hid hu
  have HV := Lib.hid hv
  have HF : Hid (∀ x ∈ l, (Lit.int .u8 x).wf = true) := intSl_wf hv
  obtain ⟨uo, ucap, rfl, _, _, _⟩ := hu
  have hv := Lib.hid hv
  have hsv := Lib.hid hsv
  obtain ⟨S, hS⟩ : ∃ S, bytesS m = S := ⟨_, rfl⟩
  obtain ⟨R, hR⟩ : ∃ S, readS l = S := ⟨_, rfl⟩
  have HS := Lib.hid hS; clear hS
  have HR := Lib.hid hR; clear hR
  obtain ⟨co, hco⟩ : ∃ co, codeB S = co := ⟨_, rfl⟩
  obtain ⟨cr, hcr⟩ : ∃ co, codeB R = co := ⟨_, rfl⟩
  have HCO := Lib.hid hco; clear hco
  have HCR := Lib.hid hcr; clear hcr
  rcases hsv.out with rfl | ⟨a, n, c, rfl, hcap⟩
  · clear hsv
    obtain rfl := intSl_len hv.out
    have HCV : Hid (CapOk (.slice none 0 0)) := capOk_nil
    clear hv
    go_enter Try.func22, Try.ntmps22
    go_wp2_with fail
    refine (slogAlive_any _).mono ?_
    rintro e w1 ⟨rfl, hb1⟩
    have hB1 := Below.step hB0 hB0.size hb1
    by_cases hm : 5000 < m.length
    · have hm' : (5000 : Int) < (m.length : Int) := by omega
      go_wp2
      go_ret
      exact ⟨rfl, hB1⟩
    have hm' : ¬ (5000 : Int) < (m.length : Int) := by omega
    go_wp2_with fail
    refine (bytes_any _ m _ (HU.out.below hB1)).mono ?_
    rw [HS.out, HCO.out]
    rintro e w2 ⟨r, rfl, hr, -, hb2⟩
    have hB2 := Below.step hB1 hB1.size hb2
    have HRR := Lib.hid hr; clear hr
    go_wp2_with fail
    refine (refbytes_any _ m _ (HU.out.below hB2)).mono ?_
    rw [HS.out, HCO.out]
    rintro e w3 ⟨r2, rfl, hr2, hb3⟩
    have hB3 := Below.step hB2 hB2.size hb3
    have HR3 := Lib.hid (HRR.out.below hb3)
    have HQ3 := Lib.hid hr2; clear hr2 HRR
    go_wp2_with (first | (at_builtin; refine wpList_append_own_none rfl (.tmp 34) (.tmp 35) 86 rfl w3.heap.size 5 i0 1 Try.underlying86 hi _ 0 [] rfl (World.ownsRow_lit (e := 5) (size := 1) (base := w3.heap.size) w3 #[] 0 (Nat.le_refl _) (by simp) rfl) rfl ?_; obtain ⟨w4, hw4⟩ : ∃ W, W = w3.alloc (.cells #[] 5) := ⟨_, rfl⟩; have hx : IntSl .u8 w4 (.slice (some ⟨w3.heap.size, 0, none⟩) 0 0) [] := (by rw [hw4]; exact intSl_of_owns (base := w3.heap.size) (e := 5) (World.ownsRow_lit (e := 5) (size := 1) (base := w3.heap.size) w3 #[] 0 (Nat.le_refl _) (by simp) rfl) (by simp) (by simp)); have hcx : CapOk (.slice (some ⟨w3.heap.size, 0, none⟩) 0 0) := ⟨_, _, _, rfl, Nat.le_refl _⟩; have hb4 : Below w3.heap.size w3 w4 := (by rw [hw4]; exact (Below.refl _ _).alloc (Nat.le_refl _) _); rw [← hw4]; clear hw4; have hB4 := Below.step hB3 hB3.size hb4))
    have HX := Lib.hid hx; clear hx
    have HCX := Lib.hid hcx; clear hcx
    refine (read_any _ [] _ HX.out HCX.out).mono ?_
    rw [HR.out, HCR.out]
    rintro e w5 ⟨q, rfl, hq, hb5⟩
    have hB5 := Below.step hB4 hB4.size hb5
    have HQ := Lib.hid hq; clear hq
    go_wp2_with fail
    refine (refread_any _ [] _ (HV.out.below hB5) HCV.out).mono ?_
    rw [HR.out, HCR.out]
    rintro e w6 ⟨q2, rfl, hq2, hb6⟩
    have hB6 := Below.step hB5 hB5.size hb6
    have HQ6 := Lib.hid (HQ.out.below hb6)
    have HP6 := Lib.hid hq2; clear hq2
    have hc1 := conv_bytes (((HR3.out.below hb4).below hb5).below hb6)
    have hc2 := conv_bytes (((HQ3.out.below hb4).below hb5).below hb6)
    obtain ⟨str, hstr⟩ : ∃ s, strOfNums (S.getD []) = s := ⟨_, rfl⟩
    rw [hstr] at hc1 hc2
    clear hstr
    go_wp2_with fail
    refine (msame_is true _ _ _ _ (decide_eq_true rfl) _ HQ6.out HP6.out).mono ?_
    rintro e w7 ⟨rfl, hb7⟩
    have hB7 := Below.step hB6 hB6.size hb7
    go_wp2
    go_ret
    exact ⟨rfl, hB7⟩
  · clear hsv
    obtain rfl := (intSl_news hv.out hB0).1
    have HCV : Hid (CapOk (.slice (some a) l.length c)) := ⟨_, _, _, rfl, hcap⟩
    clear hv hcap
    go_enter Try.func22, Try.ntmps22
    go_wp2_with fail
    refine (slogAlive_any _).mono ?_
    rintro e w1 ⟨rfl, hb1⟩
    have hB1 := Below.step hB0 hB0.size hb1
    by_cases hm : 5000 < m.length
    · have hm' : (5000 : Int) < (m.length : Int) := by omega
      go_wp2
      go_ret
      exact ⟨rfl, hB1⟩
    have hm' : ¬ (5000 : Int) < (m.length : Int) := by omega
    by_cases hl : 30000 < l.length
    · have hl' : (30000 : Int) < (l.length : Int) := by omega
      go_wp2
      go_ret
      exact ⟨rfl, hB1⟩
    have hl' : ¬ (30000 : Int) < (l.length : Int) := by omega
    go_wp2_with fail
    refine (bytes_any _ m _ (HU.out.below hB1)).mono ?_
    rw [HS.out, HCO.out]
    rintro e w2 ⟨r, rfl, hr, -, hb2⟩
    have hB2 := Below.step hB1 hB1.size hb2
    have HRR := Lib.hid hr; clear hr
    go_wp2_with fail
    refine (refbytes_any _ m _ (HU.out.below hB2)).mono ?_
    rw [HS.out, HCO.out]
    rintro e w3 ⟨r2, rfl, hr2, hb3⟩
    have hB3 := Below.step hB2 hB2.size hb3
    have HR3 := Lib.hid (HRR.out.below hb3)
    have HQ3 := Lib.hid hr2; clear hr2 HRR
    go_wp2_with (first | (at_builtin; refine wpList_append_own _ rfl (.tmp 34) (.tmp 35) 86 rfl w3.heap.size 5 i0 (.int .u8 0) 1 1 Try.underlying86 hi hz0 hz1 hz2 rfl (by decide) _ _ _ rfl (World.ownsRow_lit (e := 5) (size := 1) (base := w3.heap.size) w3 #[] 0 (Nat.le_refl _) (by simp) rfl) a l.length c (l.map (Value.int .u8)) rfl (by simp) (intSl_news HV.out (hB3.alloc hB3.size _)).2 (by simp [Value.oneCell']) (by unfold maxLen; omega) (by omega) (by simp) ?_; intro v4 w4 hown4 hgrow4 _; have hx : IntSl .u8 w4 v4 l := intSl_of_owns (by simpa using hown4) HF.out (by omega); have hcx : CapOk v4 := capOk_owns hown4; have hb4 : Below w3.heap.size w3 w4 := ((Below.refl _ _).alloc (Nat.le_refl _) _).grown hgrow4 (by simp) (fun k e => by cases e; exact Nat.le_refl _); clear hown4 hgrow4; have hB4 := Below.step hB3 hB3.size hb4))
    have HX := Lib.hid hx; clear hx
    have HCX := Lib.hid hcx; clear hcx
    refine (read_any _ l _ HX.out HCX.out).mono ?_
    rw [HR.out, HCR.out]
    rintro e w5 ⟨q, rfl, hq, hb5⟩
    have hB5 := Below.step hB4 hB4.size hb5
    have HQ := Lib.hid hq; clear hq
    go_wp2_with fail
    refine (refread_any _ l _ (HV.out.below hB5) HCV.out).mono ?_
    rw [HR.out, HCR.out]
    rintro e w6 ⟨q2, rfl, hq2, hb6⟩
    have hB6 := Below.step hB5 hB5.size hb6
    have HQ6 := Lib.hid (HQ.out.below hb6)
    have HP6 := Lib.hid hq2; clear hq2
    have hc1 := conv_bytes (((HR3.out.below hb4).below hb5).below hb6)
    have hc2 := conv_bytes (((HQ3.out.below hb4).below hb5).below hb6)
    obtain ⟨str, hstr⟩ : ∃ s, strOfNums (S.getD []) = s := ⟨_, rfl⟩
    rw [hstr] at hc1 hc2
    clear hstr
    go_wp2_with fail
    refine (msame_is true _ _ _ _ (decide_eq_true rfl) _ HQ6.out HP6.out).mono ?_
    rintro e w7 ⟨rfl, hb7⟩
    have hB7 := Below.step hB6 hB6.size hb7
    go_wp2
    go_ret
    exact ⟨rfl, hB7⟩

theorem slogBytes_holds : Rows.SlogBytesSaid := slogBytes_of slogBytes_walk

end Go.Proofs.Ytaeklmnleampcaa
