/- Walks of a map's set, change, Take, Free and Later. -/
import Derived.Test.YtaeklmnleampcaaSb
import Derived.BigRegion
namespace Go.Proofs.Ytaeklmnleampcaa
open Go.RowKit

theorem room_step {w : World} {b : Nat} {st rm : Nat → Nat} (h : RowAt w b 104 1040 (mapF st rm)) (q r : Nat) (v : Int) (hv : v = (r : Int)) :
    RowAt (w.setCell ⟨b, 1024 + q, none⟩ (.int .i64 v)).drew b 104 1040 (mapF st (fun k => if k = q then r else rm k)) := by
  subst hv
  exact (RowAt.set h (1024 + q) (.int .i64 (r : Nat))).congr fun j _ => mapF_room st rm q r j

theorem put_step {w : World} {b : Nat} {st rm : Nat → Nat} (h : RowAt w b 104 1040 (mapF st rm)) {i : Nat} (hi : i < 1024) (v : Nat) :
    RowAt (w.setCell ⟨b, i, none⟩ (.int .u8 (v : Nat))) b 104 1040 (mapF (putN st i v) rm) := by
  refine (RowAt.set h i (.int .u8 (v : Nat))).congr fun j _ => ?_
  by_cases hji : j = i
  · subst hji; rw [if_pos rfl, mapF_low _ _ hi, putN_same]
  · rw [if_neg hji]
    unfold mapF
    by_cases hl : j < 1024
    · rw [if_pos hl, if_pos hl, putN_other st v hji]
    · rw [if_neg hl, if_neg hl]

theorem mapAt_of {w : World} {b : Nat} {st rm : Nat → Nat} (h : RowAt w b 104 1040 (mapF st rm)) (hr : ∀ k, k < 16 → rm k = roomN st k) : MapAt w b st := by
  refine RowAt.congr h fun j hj => ?_
  unfold mapF
  by_cases hl : j < 1024
  · rw [if_pos hl, if_pos hl]
  · rw [if_neg hl, if_neg hl, hr _ (by omega)]

theorem row_state {w : World} {b : Nat} {st rm : Nat → Nat} (h : RowAt w b 104 1040 (mapF st rm)) {i : Nat} (hi : i < 1024) : w.cell? ⟨b, i, none⟩ = some (.int .u8 (st i : Nat)) := by
  have := RowAt.cell h (i := i) (by omega)
  rw [mapF_low _ _ hi] at this
  exact this

theorem row_room {w : World} {b : Nat} {st rm : Nat → Nat} (h : RowAt w b 104 1040 (mapF st rm)) {k : Nat} (hk : k < 16) : w.cell? ⟨b, 1024 + k, none⟩ = some (.int .i64 (rm k : Nat)) := by
  have := RowAt.cell h (i := 1024 + k) (by omega)
  rw [mapF_high] at this
  exact this

theorem room_after (st : Nat → Nat) {i to : Nat} (k : Nat) : roomN (putN st i to) k = if k = i / 64 then roomN st (i / 64) - (if st i = 1 then 1 else 0) + (if to = 1 then 1 else 0) else roomN st k := by
  by_cases h : k = i / 64
  · subst h
    rw [if_pos rfl]
    have h1 := roomN_put st (i := i) (k := i / 64) to rfl
    have h2 : st i = 1 → 0 < roomN st (i / 64) := fun h => cntTo_pos (by omega) (by omega) h
    split at h1 <;> split at h1 <;> simp_all <;> omega
  · rw [if_neg h]
    exact roomN_put_out st to (fun e => h e.symm)

set_option maxRecDepth 100000 in
set_option maxHeartbeats 4000000 in
theorem set_any (b : Nat) (st : Nat → Nat) (i to : Nat) (hi : i < 1024) (w : World) (hm : MapAt w b st) :
    Calls Try.prog 77 #[.pointer (some ⟨b, 0, none⟩), .int .i64 (i : Nat), .int .u8 (to : Nat)] w fun e w' => e = .returned (.tuple #[]) ∧ MapAt w' b (putN st i to) ∧ But b w w' := by
  have hc := hm.state hi
  have hr := hm.room (k := i / 64) (by omega)
  have hcf := RowAt.frozen hm i
  have hrf := RowAt.frozen hm (1024 + i / 64)
  have hle := roomN_le st (i / 64)
  have hpos : st i = 1 → 1 ≤ roomN st (i / 64) := fun h => cntTo_pos (by omega) (by omega) h
  have HM := Lib.hid hm; clear hm
  have g2 : (0 : Int) ≤ (i : Int) := by omega
  have g3 : (i : Int) < 1024 := by omega
  have g4 : (0 : Int) ≤ (i : Int) / 64 := by omega
  have g5 : (i : Int) / 64 < 16 := by omega
  have HA : Hid (∀ k, roomN (putN st i to) k = if k = i / 64 then roomN st (i / 64) - (if st i = 1 then 1 else 0) + (if to = 1 then 1 else 0) else roomN st k) := room_after st
  obtain ⟨x, hx⟩ : ∃ x, st i = x := ⟨_, rfl⟩
  obtain ⟨r, hrr⟩ : ∃ r, roomN st (i / 64) = r := ⟨_, rfl⟩
  rw [hx] at hc hpos
  rw [hrr] at hr hle hpos
  have HX := Lib.hid hx; clear hx
  have HR := Lib.hid hrr; clear hrr
  have HB : Hid (But b w w) := But.refl b w
  by_cases h1 : x = 1
  · by_cases h2 : to = 1
    · have h1' : ((x : Int) == 1) = true := by rw [beq_iff_eq]; omega
      have hpos := hpos h1
      have hx1 : (x : Int) = 1 := by omega
      have h2' : ((to : Int) == 1) = true := by rw [beq_iff_eq]; omega
      have HH1 := Lib.hid h1; clear h1
      have HH2 := Lib.hid h2; clear h2
      clear hx1
      go_enter Try.func77, Try.ntmps77
      go_wp2_with fail
      go_region
      obtain ⟨w1, hw1⟩ : ∃ W, W = (w.setCell ⟨b, 1024 + i / 64, none⟩ (.int .i64 ((r : Int) - 1))).drew := ⟨_, rfl⟩
      rw [← hw1]
      have hm1 : RowAt w1 b 104 1040 (mapF st (fun k => if k = i / 64 then r - 1 else roomN st k)) := by rw [hw1]; exact room_step HM.out (i / 64) (r - 1) _ (by omega)
      have hb1 : But b w w1 := by rw [hw1]; exact (HB.out.setCell _ _).drew
      clear hw1
      have hcf := RowAt.frozen hm1 i
      have HM1 := Lib.hid hm1; clear hm1
      have HB1 := Lib.hid hb1; clear hb1
      have hc := row_state HM1.out hi
      rw [HX.out] at hc
      go_wp2_with fail
      obtain ⟨w2, hw2⟩ : ∃ W, W = w1.setCell ⟨b, i, none⟩ (.int .u8 (to : Int)) := ⟨_, rfl⟩
      rw [← hw2]
      have hm2 := put_step HM1.out hi to
      have hb2 : But b w w2 := by rw [hw2]; exact HB1.out.setCell _ _
      rw [← hw2] at hm2
      clear hw2
      have hr := row_room hm2 (k := i / 64) (by omega)
      have hrf := RowAt.frozen hm2 (1024 + i / 64)
      simp only [if_true] at hr
      have HM2 := Lib.hid hm2; clear hm2
      have HB2 := Lib.hid hb2; clear hb2
      obtain ⟨r', hr'⟩ : ∃ r', r - 1 = r' := ⟨_, rfl⟩
      rw [hr'] at hr
      have HR' := Lib.hid hr'; clear hr'
      have hle' : r' ≤ 64 := by have := HR'.out; omega
      go_wp2_with fail
      go_region
      obtain ⟨w3, hw3⟩ : ∃ W, W = (w2.setCell ⟨b, 1024 + i / 64, none⟩ (.int .i64 ((r' : Int) + 1))).drew := ⟨_, rfl⟩
      rw [← hw3]
      have hm3 := room_step HM2.out (i / 64) (r' + 1) ((r' : Int) + 1) (by omega)
      have hb3 : But b w w3 := by rw [hw3]; exact (HB2.out.setCell _ _).drew
      rw [← hw3] at hm3
      clear hw3
      have hfin : MapAt w3 b (putN st i to) := mapAt_of hm3 (fun k _ => by
        rw [HA.out k, HX.out, HR.out]
        have := HH1.out
        have := HH2.out
        have := HR'.out
        by_cases hk : k = i / 64
        · subst hk; simp [*] <;> first | rfl | omega | exact HR.out
        · simp [hk])
      have HF := Lib.hid hfin; clear hfin hm3
      have HBF := Lib.hid hb3; clear hb3
      go_wp2
      go_end0
      exact ⟨rfl, HF.out, HBF.out⟩
    · have h1' : ((x : Int) == 1) = true := by rw [beq_iff_eq]; omega
      have hpos := hpos h1
      have hx1 : (x : Int) = 1 := by omega
      have h2' : ((to : Int) == 1) = false := by rw [beq_eq_false_iff_ne]; omega
      have HH1 := Lib.hid h1; clear h1
      have HH2 := Lib.hid h2; clear h2
      clear hx1
      go_enter Try.func77, Try.ntmps77
      go_wp2_with fail
      go_region
      obtain ⟨w1, hw1⟩ : ∃ W, W = (w.setCell ⟨b, 1024 + i / 64, none⟩ (.int .i64 ((r : Int) - 1))).drew := ⟨_, rfl⟩
      rw [← hw1]
      have hm1 : RowAt w1 b 104 1040 (mapF st (fun k => if k = i / 64 then r - 1 else roomN st k)) := by rw [hw1]; exact room_step HM.out (i / 64) (r - 1) _ (by omega)
      have hb1 : But b w w1 := by rw [hw1]; exact (HB.out.setCell _ _).drew
      clear hw1
      have hcf := RowAt.frozen hm1 i
      have HM1 := Lib.hid hm1; clear hm1
      have HB1 := Lib.hid hb1; clear hb1
      have hc := row_state HM1.out hi
      rw [HX.out] at hc
      go_wp2_with fail
      obtain ⟨w2, hw2⟩ : ∃ W, W = w1.setCell ⟨b, i, none⟩ (.int .u8 (to : Int)) := ⟨_, rfl⟩
      rw [← hw2]
      have hm2 := put_step HM1.out hi to
      have hb2 : But b w w2 := by rw [hw2]; exact HB1.out.setCell _ _
      rw [← hw2] at hm2
      clear hw2
      have hfin : MapAt w2 b (putN st i to) := mapAt_of hm2 (fun k _ => by
        rw [HA.out k, HX.out, HR.out]
        have := HH1.out
        have := HH2.out
        by_cases hk : k = i / 64
        · subst hk; simp [*] <;> first | rfl | omega | exact HR.out
        · simp [hk])
      have HF := Lib.hid hfin; clear hfin hm2
      have HBF := Lib.hid hb2; clear hb2
      go_wp2
      go_end0
      exact ⟨rfl, HF.out, HBF.out⟩
  · by_cases h2 : to = 1
    · have h1' : ((x : Int) == 1) = false := by rw [beq_eq_false_iff_ne]; omega
      clear hpos
      have h2' : ((to : Int) == 1) = true := by rw [beq_iff_eq]; omega
      have HH1 := Lib.hid h1; clear h1
      have HH2 := Lib.hid h2; clear h2
      go_enter Try.func77, Try.ntmps77
      go_wp2_with fail
      obtain ⟨w2, hw2⟩ : ∃ W, W = w.setCell ⟨b, i, none⟩ (.int .u8 (to : Int)) := ⟨_, rfl⟩
      rw [← hw2]
      have hm2 := put_step HM.out hi to
      have hb2 : But b w w2 := by rw [hw2]; exact HB.out.setCell _ _
      rw [← hw2] at hm2
      clear hw2
      have hr := row_room hm2 (k := i / 64) (by omega)
      have hrf := RowAt.frozen hm2 (1024 + i / 64)
      rw [HR.out] at hr
      have HM2 := Lib.hid hm2; clear hm2
      have HB2 := Lib.hid hb2; clear hb2
      go_wp2_with fail
      go_region
      obtain ⟨w3, hw3⟩ : ∃ W, W = (w2.setCell ⟨b, 1024 + i / 64, none⟩ (.int .i64 ((r : Int) + 1))).drew := ⟨_, rfl⟩
      rw [← hw3]
      have hm3 := room_step HM2.out (i / 64) (r + 1) ((r : Int) + 1) (by omega)
      have hb3 : But b w w3 := by rw [hw3]; exact (HB2.out.setCell _ _).drew
      rw [← hw3] at hm3
      clear hw3
      have hfin : MapAt w3 b (putN st i to) := mapAt_of hm3 (fun k _ => by
        rw [HA.out k, HX.out, HR.out]
        have := HH1.out
        have := HH2.out
        by_cases hk : k = i / 64
        · subst hk; simp [*] <;> first | rfl | omega | exact HR.out
        · simp [hk])
      have HF := Lib.hid hfin; clear hfin hm3
      have HBF := Lib.hid hb3; clear hb3
      go_wp2
      go_end0
      exact ⟨rfl, HF.out, HBF.out⟩
    · have h1' : ((x : Int) == 1) = false := by rw [beq_eq_false_iff_ne]; omega
      clear hpos
      have h2' : ((to : Int) == 1) = false := by rw [beq_eq_false_iff_ne]; omega
      have HH1 := Lib.hid h1; clear h1
      have HH2 := Lib.hid h2; clear h2
      go_enter Try.func77, Try.ntmps77
      go_wp2_with fail
      obtain ⟨w2, hw2⟩ : ∃ W, W = w.setCell ⟨b, i, none⟩ (.int .u8 (to : Int)) := ⟨_, rfl⟩
      rw [← hw2]
      have hm2 := put_step HM.out hi to
      have hb2 : But b w w2 := by rw [hw2]; exact HB.out.setCell _ _
      rw [← hw2] at hm2
      clear hw2
      have hfin : MapAt w2 b (putN st i to) := mapAt_of hm2 (fun k _ => by
        rw [HA.out k, HX.out, HR.out]
        have := HH1.out
        have := HH2.out
        by_cases hk : k = i / 64
        · subst hk; simp [*] <;> first | rfl | omega | exact HR.out
        · simp [hk])
      have HF := Lib.hid hfin; clear hfin hm2
      have HBF := Lib.hid hb2; clear hb2
      go_wp2
      go_end0
      exact ⟨rfl, HF.out, HBF.out⟩

end Go.Proofs.Ytaeklmnleampcaa
