/- Walks of Of, and of the reference's Set and Of. -/
import Derived.Test.YtaeklmnleampcaaWc
namespace Go.Proofs.Ytaeklmnleampcaa
open Go.RowKit

set_option maxRecDepth 100000 in
set_option maxHeartbeats 1000000 in
/-- The reference's Set: the set of some numbers. -/
theorem refset_any (f : Nat → Bool) (w : World) :
    Calls Try.prog 59 #[.agg (arrOf 4096 (boolsF f))] w fun e w' => ∃ v', e = .returned v' ∧ SpanSl w' v' (spansOf f) ∧ Below w.heap.size w w' := by
  obtain ⟨i0, hi, hz0, hz1, hz2⟩ := info_parts Try.info51
  have hr0 := RowAt.alloc w 60 4096 (boolsF f)
  have hb0 : Below w.heap.size w (w.alloc (.cells (arrOf 4096 (boolsF f)) 60)) := (Below.refl _ _).alloc (Nat.le_refl _) _
  go_enter Try.func59, Try.ntmps59
  go_wp2_with (fail)
  obtain ⟨W, hW⟩ : ∃ W, W = w.alloc (.cells (arrOf 4096 (boolsF f)) 60) := ⟨_, rfl⟩
  rw [← hW] at hr0 hb0
  have hs0 : W.heap.size = w.heap.size + 1 := by rw [hW]; simp
  have HW := Lib.hid hW
  go_loopw [3, 4] (fun v i wr => ∃ (k : Nat), k ≤ 4096 ∧ i = .int .i64 k ∧ wr.ownsRow (w.heap.size + 1) 51 2 v (spansTo f k).length (spanCells (spansTo f k)) ∧ Below (w.heap.size + 1) W wr)
    (fun _ i _ => 4096 - (intOf i).toNat)
  case atStart =>
    refine ⟨0, Nat.zero_le _, rfl, ?_, ?_⟩
    · have := World.ownsRow_lit (e := 51) (size := 2) (base := w.heap.size + 1) W #[] 0 (by omega) (by simp) rfl
      rw [hs0, hW] at this
      exact this
    · rw [hW]
      exact (Below.refl _ _).alloc (by simp) _
  case round =>
    obtain ⟨k, hk, rfl, hown, hbel⟩ := hrel
    clear hW
    have hsz := hbel.size
    have hrr : RowAt wr w.heap.size 60 4096 (boolsF f) := hr0.belowB hbel (by omega)
    by_cases hlt : k < 4096
    · have hc1 := hrr.cell hlt
      simp only [boolsF] at hc1
      have hi1 : (k : Int) < (4096 : Int) := by omega
      by_cases hf : f k = true
      · rw [hf] at hc1
        have HS : Hid (spansTo f (k + 1) = pushS (spansTo f k) k) := by unfold Hid; rw [spansTo, if_pos hf]
        have hlast := spansTo_last f k
        clear hf
        have hlt2 := hown.lt
        have HLT := Lib.hid hlt2; clear hlt2
        have hgood := spansTo_good f k hk
        have hle := spansTo_length_le f k
        by_cases hp : 0 < k ∧ f (k - 1) = true
        · obtain ⟨m, x, he, hxk⟩ := hlast.2 hp
          obtain ⟨j, rfl⟩ : ∃ j, k = j + 1 := ⟨k - 1, by omega⟩
          rw [Nat.add_sub_cancel] at hp
          have hc2 := hrr.cell (i := j) (by omega)
          simp only [boolsF] at hc2
          rw [hp.2] at hc2
          clear hp hlast
          rw [he] at hown hle hgood
          rw [rightFrom_append, Bool.and_eq_true, rightFrom_cons, singleB_iff] at hgood
          have hx := hgood.1.2.1
          have HE := Lib.hid he
          have HX := Lib.hid hxk
          clear he hgood hxk
          rw [List.length_append] at hown hle
          obtain ⟨M, hM⟩ : ∃ M, M = m.length := ⟨_, rfl⟩
          rw [← hM] at hown hle
          simp only [List.length_cons, List.length_nil, Nat.zero_add] at hown hle
          have HM := Lib.hid hM
          clear hM
          rcases owns_shape hown with ⟨rfl, h0⟩ | ⟨g, cap, rfl, hg1, hg2⟩
          · omega
          · have hcl : wr.cell? ⟨g, M * 2 + 1, none⟩ = some (.int .i64 x.2) := by
              rw [hown.cellAt _ (by omega), spanCells_append, List.getElem?_append_right (by rw [spanCells_length, HM.out]; omega), spanCells_length, HM.out]
              simp [spanCells]
            have hfz : wr.frozen? ⟨g, M * 2 + 1, none⟩ = false := hown.frozenAt _
            have hm2 : (M : Int) < (M : Int) + 1 := by omega
            have hj1 : (0 : Int) < (j : Int) + 1 := by omega
            have hj2 : (j : Int) < (4096 : Int) := by omega
            go_wp2
            go_roundw
            case rel =>
              refine ⟨j + 1 + 1, by omega, by go_num, ?_, hbel.setCell hg1 _⟩
              rw [HS.out, HE.out, pushS_snoc, if_pos HX.out, List.length_append, ← HM.out, ← spanCells_set, ← HM.out]
              exact (hown.stored _ _).1
            case measure => simp [intOf]; omega
        · have HN : Hid (spansTo f (k + 1) = spansTo f k ++ [((k : Int), 1)]) := by
            unfold Hid
            rw [HS.out]
            rcases snoc_cases (spansTo f k) with he | ⟨m, x, he⟩
            · rw [he]; rfl
            · rw [he, pushS_snoc, if_neg (fun hx => hp (hlast.1 ⟨m, x, he, hx⟩))]
          clear hlast hgood HS
          have hst : ∀ u : Value, Hid (u = u) := fun _ => rfl
          clear hst
          by_cases hk0 : k = 0
          · subst hk0
            clear hp
            go_wp2_with (first | (at_builtin; refine wpList_append_own _ rfl _ _ 22 rfl (w.heap.size + 1) 51 i0 (.agg #[.int .i64 0, .int .i64 0]) 2 16 Try.underlying22 hi hz0 hz1 hz2 rfl (by decide) _ _ _ rfl (hown.alloc _) ⟨wr.heap.size, 0, none⟩ 1 1 [.int .i64 0, .int .i64 1] rfl rfl two_cells (two_oneCell _ _ _ _) (by simp [maxLen]; omega) (by omega) (by simp; omega) ?_; intro v' w1 hown' hgrow _))
            go_roundw
            case rel =>
              refine ⟨0 + 1, by omega, rfl, ?_, (hbel.alloc (by omega) _).grown hgrow (by simp; omega) (fun j h => (HLT.out j h).1)⟩
              rw [HN.out, spanCells_append, List.length_append]
              exact hown'
            case measure => simp [intOf]
          · obtain ⟨j, rfl⟩ : ∃ j, k = j + 1 := ⟨k - 1, by omega⟩
            have hfj : f j = false := by
              cases h : f j with
              | false => rfl
              | true => exact absurd ⟨by omega, by simpa using h⟩ hp
            have hc2 := hrr.cell (i := j) (by omega)
            simp only [boolsF] at hc2
            rw [hfj] at hc2
            clear hp hfj
            have hj1 : (0 : Int) < (j : Int) + 1 := by omega
            have hj2 : (j : Int) < (4096 : Int) := by omega
            go_wp2_with (first | (at_builtin; refine wpList_append_own _ rfl _ _ 22 rfl (w.heap.size + 1) 51 i0 (.agg #[.int .i64 0, .int .i64 0]) 2 16 Try.underlying22 hi hz0 hz1 hz2 rfl (by decide) _ _ _ rfl (hown.alloc _) ⟨wr.heap.size, 0, none⟩ 1 1 [.int .i64 (j + 1), .int .i64 1] rfl rfl two_cells (two_oneCell _ _ _ _) (by simp [maxLen]; omega) (by omega) (by simp; omega) ?_; intro v' w1 hown' hgrow _))
            go_roundw
            case rel =>
              refine ⟨j + 1 + 1, by omega, by go_num, ?_, (hbel.alloc (by omega) _).grown hgrow (by simp; omega) (fun j h => (HLT.out j h).1)⟩
              rw [HN.out, spanCells_append, List.length_append]
              exact hown'
            case measure => simp [intOf]; omega
      · have hf' : f k = false := by simpa using hf
        rw [hf'] at hc1
        have HS : Hid (spansTo f (k + 1) = spansTo f k) := by unfold Hid; rw [spansTo, if_neg hf]
        clear hf hf'
        go_wp2
        go_roundw
        case rel => exact ⟨k + 1, by omega, by go_num, by rw [HS.out]; exact hown, hbel⟩
        case measure => simp [intOf]; omega
    · obtain rfl : k = 4096 := by omega
      go_wp2
      go_ret
      exact ⟨_, rfl, spanSl_of_owns hown (right_range (spansOf_right f)) (Nat.le_trans (spansTo_length_le f 4096) (by omega)), hb0.trans (hbel.mono (by omega))⟩

/-- The truth values behind some numbers: which of them can be in a set. -/
def numsF (l : List Int) : Nat → Bool := fun n => decide ((n : Int) ∈ l)

theorem numsF_take {l : List Int} {k : Nat} (h : k < l.length) (n : Nat) : numsF (l.take (k + 1)) n = (numsF (l.take k) n || decide ((n : Int) = l[k])) := by
  unfold numsF
  rw [Bool.eq_iff_iff, List.take_succ_eq_append_getElem h]
  simp only [decide_eq_true_eq, Bool.or_eq_true, List.mem_append, List.mem_singleton]


theorem RowAt.setBool {w : World} {b : Nat} {t : TypeId} {n : Nat} {f g : Nat → Bool} (h : RowAt w b t n (boolsF f)) (i : Nat) (v : Bool) (hg : ∀ j, j < n → g j = if j = i then v else f j) : RowAt (w.setCell ⟨b, i, none⟩ (.bool v)) b t n (boolsF g) := by
  refine (h.set i (.bool v)).congr (fun j hj => ?_)
  simp only [boolsF]
  rw [hg j hj]
  split <;> rfl

set_option maxRecDepth 100000 in
set_option maxHeartbeats 1000000 in
/-- span.Of: the set of some numbers. -/
theorem of_any (v : Value) (l : List Int) (w : World) (hv : IntSl .i64 w v l) :
    Calls Try.prog 28 #[v] w fun e w' => ∃ v', e = .returned v' ∧ SpanSl w' v' (spansOf (numsF l)) ∧ Below w.heap.size w w' := by
  obtain ⟨ao, cap, rfl, hlen, _, hc⟩ := hv
  have HC := Lib.hid hc; clear hc
  have hr0 := RowAt.alloc w 97 4096 (boolsF fun _ => false)
  rw [← zero97] at hr0
  have hb0 : Below w.heap.size w (w.alloc (.cells Try.zeroCells97 97)) := (Below.refl _ _).alloc (Nat.le_refl _) _
  go_enter Try.func28, Try.ntmps28
  go_wp2_with (fail)
  obtain ⟨W, hW⟩ : ∃ W, W = w.alloc (.cells Try.zeroCells97 97) := ⟨_, rfl⟩
  rw [← hW] at hr0 hb0 ⊢
  have hs0 : W.heap.size = w.heap.size + 1 := by rw [hW]; simp
  have hbn : Below (w.heap.size + 1) W W := Below.refl _ _
  clear hW
  go_loopw [8] (fun i wr => ∃ (k : Nat), k ≤ l.length ∧ i = .int .i64 k ∧ RowAt wr w.heap.size 97 4096 (boolsF (numsF (l.take k))) ∧ Below w.heap.size w wr)
    (fun i _ => l.length - (intOf i).toNat)
  case atStart => exact ⟨0, Nat.zero_le _, rfl, hr0.congr (fun i _ => by simp [boolsF, numsF]), hb0⟩
  case round =>
    obtain ⟨k, hk, rfl, hrr, hbel⟩ := hrel
    by_cases hlt : k < l.length
    · obtain ⟨b, o, rfl, hbs, hcell⟩ := HC.out (by intro h; simp [h] at hlt)
      have h1 := int_cells hbs hcell hbel hlt
      clear hcell
      by_cases hin : 0 ≤ l[k] ∧ l[k] < 4096
      · obtain ⟨n, hn⟩ : ∃ n : Nat, l[k] = (n : Int) := ⟨l[k].toNat, by omega⟩
        have HN := Lib.hid hn
        rw [hn] at h1 hin
        clear hn
        have hc1 := hrr.cell (i := n) (by omega)
        have hf1 := hrr.frozen n
        simp only [boolsF] at hc1
        have hi1 : (n : Int) < (4096 : Int) := by omega
        have hi0 : (0 : Int) ≤ (n : Int) := by omega
        go_wp2
        go_roundw
        case rel =>
          refine ⟨k + 1, by omega, by go_num, hrr.setBool n true (fun j hj => ?_), hbel.setCell (Nat.le_refl _) _⟩
          rw [numsF_take hlt, HN.out]
          by_cases hjn : j = n
          · subst hjn; simp
          · rw [if_neg hjn, decide_eq_false (by omega), Bool.or_false]
        case measure => simp [intOf]; omega
      · have hsame : Hid (∀ j, j < 4096 → numsF (l.take (k + 1)) j = numsF (l.take k) j) := by
          intro j hj
          rw [numsF_take hlt, decide_eq_false (by omega), Bool.or_false]
        by_cases h0 : 0 ≤ l[k]
        · have h2 : ¬ l[k] < 4096 := fun h => hin ⟨h0, h⟩
          clear hin
          go_wp2
          go_roundw
          case rel => exact ⟨k + 1, by omega, by go_num, hrr.congr (fun j hj => by simp only [boolsF]; rw [hsame.out j hj]), hbel⟩
          case measure => simp [intOf]; omega
        · clear hin
          go_wp2
          go_roundw
          case rel => exact ⟨k + 1, by omega, by go_num, hrr.congr (fun j hj => by simp only [boolsF]; rw [hsame.out j hj]), hbel⟩
          case measure => simp [intOf]; omega
    · have hl : Hid (l.take k = l) := List.take_of_length_le (by omega)
      rw [hl.out] at hrr
      go_wp2_with (go_at_call 76; refine (spans_any _ _ _ hrr).mono ?_; rintro e w1 ⟨v', rfl, hs, hb1⟩)
      go_ret
      exact ⟨_, rfl, hs, Below.step hbel hbel.size hb1⟩

end Go.Proofs.Ytaeklmnleampcaa
