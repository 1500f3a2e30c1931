/- Walks of the Go functions of package span and of its reference that read lists of spans: what each hands back, and that nothing which was there has turned. -/
import Derived.Test.YtaeklmnleampcaaMem
import Derived.WalkSpells
import Derived.WalkLawsBesides
import Derived.BigQuiet
import Derived.Deep.QuietTactic
import Derived.Outline
namespace Go.Proofs.Ytaeklmnleampcaa
open Go.RowKit

set_option maxHeartbeats 400000 in
theorem single_any (s l : Int) (w : World) :
    Calls Try.prog 75 #[.agg #[.int .i64 s, .int .i64 l]] w fun e w' => e = .returned (.bool (singleB s l)) ∧ Below w.heap.size w w' := by
  by_cases h1 : 0 ≤ s
  · by_cases h2 : s < 4096
    · by_cases h3 : 1 ≤ l
      · by_cases h4 : l ≤ 4096 - s
        all_goals
          go_enter Try.func75, Try.ntmps75
          go_wp2
          go_ret
          refine ⟨?_, (Below.refl _ _).alloc (Nat.le_refl _) _⟩
          simp [singleB] <;> omega
      · go_enter Try.func75, Try.ntmps75
        go_wp2
        go_ret
        refine ⟨?_, (Below.refl _ _).alloc (Nat.le_refl _) _⟩
        simp [singleB] <;> omega
    · go_enter Try.func75, Try.ntmps75
      go_wp2
      go_ret
      refine ⟨?_, (Below.refl _ _).alloc (Nat.le_refl _) _⟩
      simp [singleB] <;> omega
  · go_enter Try.func75, Try.ntmps75
    go_wp2
    go_ret
    refine ⟨?_, (Below.refl _ _).alloc (Nat.le_refl _) _⟩
    simp [singleB] <;> omega

theorem single_is (b : Bool) (s l : Int) (hs : singleB s l = b) (w : World) :
    Calls Try.prog 75 #[.agg #[.int .i64 s, .int .i64 l]] w fun e w' => e = .returned (.bool b) ∧ Below w.heap.size w w' := by
  subst hs; exact single_any s l w

set_option maxHeartbeats 400000 in
/-- span.Right: is it a set? -/
theorem right_any (v : Value) (l : List (Int × Int)) (w : World) (hv : SpanSl w v l) :
    Calls Try.prog 25 #[v] w fun e w' => e = .returned (.bool (rightB l)) ∧ Below w.heap.size w w' := by
  obtain ⟨ao, cap, rfl, hlen, hb, hc⟩ := hv
  have HB := Lib.hid hb; clear hb
  have HC := Lib.hid hc; clear hc
  unfold rightB
  go_enter Try.func25, Try.ntmps25
  go_wp2_with (fail)
  go_loopw [3, 8] (fun en i wr => ∃ (k : Nat) (e : Int), k ≤ l.length ∧ i = .int .i64 k ∧ en = .int .i64 e ∧ -1 ≤ e ∧ e ≤ 4096 ∧ rightFrom (-1) l = rightFrom e (l.drop k) ∧ Below w.heap.size w wr)
    (fun _ i _ => l.length - (intOf i).toNat)
  case atStart => exact ⟨0, -1, Nat.zero_le _, rfl, rfl, by omega, by omega, rfl, Below.refl _ _⟩
  case round =>
    obtain ⟨k, e, hk, rfl, rfl, he1, he2, hr, hbel⟩ := hrel
    by_cases hlt : k < l.length
    · rw [List.drop_eq_getElem_cons hlt, rightFrom] at hr
      have HR := Lib.hid hr; clear hr
      obtain ⟨b, o, rfl, hbs, hcell⟩ := HC.out (by intro h; simp [h] at hlt)
      obtain ⟨h1, h2⟩ := span_cells hbs hcell hbel hlt
      clear hcell
      have hsz := hbel.size
      have hbel2 := hbel.alloc hsz (.cells #[.int .i64 l[k].1, .int .i64 l[k].2] 51)
      by_cases hs : singleB l[k].1 l[k].2 = true
      · have HS := Lib.hid hs
        have hs' := (singleB_iff _ _).1 hs
        clear hs
        by_cases hge : e < l[k].1
        · go_wp2_with ((go_at_call 75; refine (single_is true _ _ HS.out _).mono ?_; rintro ev w1 ⟨rfl, hb1⟩; obtain ⟨hq1, hq2⟩ := bcell hb1))
          go_roundw
          case rel =>
            exact ⟨k + 1, _, by omega, by go_num, rfl, by omega, by omega, by rw [HR.out, HS.out]; simp [hge], Below.step hbel2 (by simp; omega) (by assumption)⟩
          case measure => simp [intOf]; omega
        · go_wp2_with ((go_at_call 75; refine (single_is true _ _ HS.out _).mono ?_; rintro ev w1 ⟨rfl, hb1⟩; obtain ⟨hq1, hq2⟩ := bcell hb1))
          go_ret
          exact ⟨ret_bool (by rw [HR.out, HS.out]; simp; intro hx; omega), Below.step hbel2 (by simp; omega) (by assumption)⟩
      · have HS := Lib.hid (show singleB l[k].1 l[k].2 = false by simpa using hs)
        clear hs
        go_wp2_with ((go_at_call 75; refine (single_is false _ _ HS.out _).mono ?_; rintro ev w1 ⟨rfl, hb1⟩))
        go_ret
        exact ⟨ret_bool (by rw [HR.out, HS.out]; simp), Below.step hbel2 (by simp; omega) (by assumption)⟩
    · have HR := Lib.hid hr; clear hr
      go_wp2
      go_ret
      exact ⟨ret_bool (by rw [HR.out, List.drop_of_length_le (by omega)]; rfl), hbel⟩

theorem right_is (b : Bool) (v : Value) (l : List (Int × Int)) (h : rightB l = b) (w : World) (hv : SpanSl w v l) :
    Calls Try.prog 25 #[v] w fun e w' => e = .returned (.bool b) ∧ Below w.heap.size w w' := by
  subst h; exact right_any v l w hv

theorem endFrom_take {l : List (Int × Int)} (e : Int) {k : Nat} (h0 : 0 < k) (hk : k ≤ l.length) : endFrom e (l.take k) = (l[k - 1]'(by omega)).1 + (l[k - 1]'(by omega)).2 := by
  have h1 : l.take k = l.take (k - 1) ++ [l[k - 1]'(by omega)] := by
    have := List.take_succ_eq_append_getElem (l := l) (i := k - 1) (by omega)
    rw [← this]
    congr 1; omega
  rw [h1, endFrom_append]
  rfl


set_option maxHeartbeats 800000 in
/-- The reference's Right. -/
theorem refright_any (v : Value) (l : List (Int × Int)) (w : World) (hv : SpanSl w v l) :
    Calls Try.prog 26 #[v] w fun e w' => e = .returned (.bool (rightB l)) ∧ Below w.heap.size w w' := by
  obtain ⟨ao, cap, rfl, hlen, hb, hc⟩ := hv
  have HB := Lib.hid hb; clear hb
  have HC := Lib.hid hc; clear hc
  unfold rightB
  go_enter Try.func26, Try.ntmps26
  go_wp2_with (fail)
  go_loopw [7] (fun i wr => ∃ (k : Nat), k ≤ l.length ∧ i = .int .i64 k ∧ Hid ((∀ j (h : j < k) (hl : j < l.length), singleB l[j].1 l[j].2 = true) ∧ rightFrom (-1) l = rightFrom (endFrom (-1) (l.take k)) (l.drop k)) ∧ Below w.heap.size w wr)
    (fun i _ => l.length - (intOf i).toNat)
  case atStart => exact ⟨0, Nat.zero_le _, rfl, ⟨fun j h => absurd h (Nat.not_lt_zero _), rfl⟩, Below.refl _ _⟩
  case round =>
    obtain ⟨k, hk, rfl, HR, hbel⟩ := hrel
    by_cases hlt : k < l.length
    · have hrr := HR.out.2
      rw [List.drop_eq_getElem_cons hlt, rightFrom] at hrr
      have HRR := Lib.hid hrr; clear hrr
      obtain ⟨b, o, rfl, hbs, hcell⟩ := HC.out (by intro h; simp [h] at hlt)
      obtain ⟨h1, h2⟩ := span_cells hbs hcell hbel hlt
      have hr1 := (HB.out l[k] (List.getElem_mem _)).1
      have hr2 := (HB.out l[k] (List.getElem_mem _)).2
      unfold inI64 at hr1 hr2
      have hsz := hbel.size
      have hbel2 := hbel.alloc hsz (.cells #[.int .i64 l[k].1, .int .i64 l[k].2] 51)
      by_cases g1 : l[k].1 < 0
      · have HS := Lib.hid (show singleB l[k].1 l[k].2 = false by simp [singleB]; omega)
        clear hcell
        go_wp2
        go_ret
        exact ⟨ret_bool (by rw [HRR.out, HS.out]; simp), by go_grown⟩
      · by_cases g2 : l[k].2 < 1
        · have HS := Lib.hid (show singleB l[k].1 l[k].2 = false by simp [singleB]; omega)
          clear hcell
          go_wp2
          go_ret
          exact ⟨ret_bool (by rw [HRR.out, HS.out]; simp), by go_grown⟩
        · by_cases g3 : l[k].2 > 4096
          · have HS := Lib.hid (show singleB l[k].1 l[k].2 = false by simp [singleB]; omega)
            clear hcell
            go_wp2
            go_ret
            exact ⟨ret_bool (by rw [HRR.out, HS.out]; simp), by go_grown⟩
          · by_cases g4 : l[k].1 > 4096 - l[k].2
            · have HS := Lib.hid (show singleB l[k].1 l[k].2 = false by simp [singleB]; omega)
              clear hcell
              go_wp2
              go_ret
              exact ⟨ret_bool (by rw [HRR.out, HS.out]; simp), by go_grown⟩
            · have hs : singleB l[k].1 l[k].2 = true := by simp [singleB]; omega
              have HS := Lib.hid hs
              have HJ : Hid (∀ j (h : j < k + 1) (hl : j < l.length), singleB l[j].1 l[j].2 = true) := by
                intro j hj hl
                by_cases hjk : j = k
                · subst hjk; exact hs
                · exact HR.out.1 j (by omega) hl
              have HE : Hid (endFrom (-1) (l.take (k + 1)) = l[k].1 + l[k].2) := endFrom_take _ (by omega) (by omega)
              clear hs
              by_cases hk0 : k = 0
              · subst hk0
                clear hcell
                have HK : Hid (decide (endFrom (-1) (l.take 0) < l[0].1) = true) := by unfold Hid; simp [endFrom]; omega
                simp only [Nat.zero_mul, Nat.add_zero] at h1 h2
                go_wp2_with (go_quiet (fail))
                go_roundw
                case rel => exact ⟨0 + 1, by omega, rfl, ⟨HJ.out, by rw [HRR.out, HS.out, HE.out, HK.out]; simp⟩, by refine below_drewN ?_ _; go_grown⟩
                case measure => simp [intOf]; omega
              · obtain ⟨m, rfl⟩ : ∃ m, k = m + 1 := ⟨k - 1, by omega⟩
                have hk1 : m < l.length := by omega
                obtain ⟨h3, h4⟩ := span_cells hbs hcell hbel hk1
                clear hcell
                have hs1 := (singleB_iff _ _).1 (HR.out.1 m (by omega) hk1)
                have HE1 : Hid (endFrom (-1) (l.take (m + 1)) = l[m].1 + l[m].2) := endFrom_take _ (by omega) (by omega)
                have hbr : b < wr.heap.size := by omega
                have hm1 : (0 : Int) < (m : Int) + 1 := by omega
                have hm2 : (m : Int) < (l.length : Int) := by omega
                have w1 : IntKind.i64.wrap (m : Int) = (m : Int) := IntWalk.i64_in _ (by omega)
                have w2 : IntKind.i64.wrap (l[m].1 + l[m].2) = l[m].1 + l[m].2 := IntWalk.i64_in _ (by omega)
                by_cases hge : l[m + 1].1 ≤ l[m].1 + l[m].2
                · go_wp2_with (go_quiet (fail))
                  go_ret
                  exact ⟨ret_bool (by rw [HRR.out, HS.out, HE1.out]; simp; intro hx; omega), by refine below_drewN ?_ _; go_grown⟩
                · go_wp2_with (go_quiet (fail))
                  go_roundw
                  case rel => exact ⟨m + 1 + 1, by omega, by go_num, ⟨HJ.out, by rw [HRR.out, HS.out, HE.out, HE1.out]; simp; intro hx; omega⟩, by refine below_drewN ?_ _; go_grown⟩
                  case measure => simp [intOf]; omega
    · go_wp2
      go_ret
      exact ⟨ret_bool (by rw [HR.out.2, List.drop_of_length_le (by omega)]; rfl), hbel⟩

end Go.Proofs.Ytaeklmnleampcaa
