/- The lists of spans that spans, the reference's Set, Cut and Mix make are rows of their own: the walks of Wc, Wd, Wf and Wn once more (printed by gen_own.py). -/
import Derived.Test.YtaeklmnleampcaaMv
namespace Go.Proofs.Ytaeklmnleampcaa
open Go.RowKit Go.Shelf

attribute [local go_sem] Oper.semAt_some

/-- A row of spans of one's own. -/
def OwnSp (w : World) (base : Nat) (v : Value) (l : List (Int × Int)) : Prop := w.ownsRow base 51 2 v l.length (spanCells l)

theorem OwnSp.mono {w : World} {base base' : Nat} {v : Value} {l : List (Int × Int)} (h : OwnSp w base v l) (hb : base' ≤ base) : OwnSp w base' v l :=
  ⟨h.1, h.2.imp id fun ⟨g, cap, cur, h1, h2, r⟩ => ⟨g, cap, cur, h1, Nat.le_trans hb h2, r⟩⟩

theorem OwnSp.sl {w : World} {base : Nat} {v : Value} {f : Nat → Bool} (h : OwnSp w base v (spansOf f)) : SpanSl w v (spansOf f) :=
  spanSl_of_owns h (right_range (spansOf_right f)) (Nat.le_trans (spansTo_length_le f 4096) (by omega))

set_option maxRecDepth 100000 in
set_option maxHeartbeats 4000000 in
theorem spans_own (b : Nat) (f : Nat → Bool) (w : World) (hrow : RowAt w b 97 4096 (boolsF f)) :
    Calls Try.prog 76 #[.pointer (some ⟨b, 0, none⟩)] w fun e w' => ∃ v', e = .returned v' ∧ OwnSp w' w.heap.size v' (spansOf f) ∧ Below w.heap.size w w' := by
  obtain ⟨i0, hi, hz0, hz1, hz2⟩ := info_parts Try.info51
  go_enter Try.func76, Try.ntmps76
  go_wp2_with (fail)
  go_loopw [3, 8] (fun v i wr => ∃ (k : Nat), k ≤ 4096 ∧ i = .int .i64 k ∧ wr.ownsRow w.heap.size 51 2 v (spansTo f k).length (spanCells (spansTo f k)) ∧ Below w.heap.size w wr)
    (fun _ i _ => 4096 - (intOf i).toNat)
  case atStart => exact ⟨0, Nat.zero_le _, rfl, World.ownsRow_nil _ _ _ _, Below.refl _ _⟩
  case round =>
    obtain ⟨k, hk, rfl, hown, hbel⟩ := hrel
    have hsz := hbel.size
    by_cases hlt : k < 4096
    · have hrow' : RowAt wr b 97 4096 (boolsF f) := hrow.below hbel
      have hc1 := hrow'.cell hlt
      simp only [boolsF] at hc1
      have hi1 : (k : Int) < (4096 : Int) := by omega
      by_cases hf : f k = true
      · rw [hf] at hc1
        have HS : Hid (spansTo f (k + 1) = pushS (spansTo f k) k) := by unfold Hid; rw [spansTo, if_pos hf]
        clear hf
        rcases snoc_cases (spansTo f k) with he | ⟨m, x, he⟩
        · rw [he] at hown
          have HE := Lib.hid he
          clear he
          have hlt2 := hown.lt
          rcases owns_shape hown with ⟨rfl, _⟩ | ⟨g, cap, rfl, hg1, hg2⟩
          · have HLT := Lib.hid hlt2; clear hlt2
            go_wp2_with (first | (go_quiet (fail)) | (at_builtin; refine wpList_append_own _ rfl _ _ 22 rfl w.heap.size 51 i0 (.agg #[.int .i64 0, .int .i64 0]) 2 16 Try.underlying22 hi hz0 hz1 hz2 rfl (by decide) _ _ _ rfl ((owns_drewN hown _).alloc _) ⟨wr.heap.size, 0, none⟩ 1 1 [.int .i64 k, .int .i64 1] rfl rfl two_cells (two_oneCell _ _ _ _) (by simp [maxLen]) (by simp) (by simp; omega) ?_; intro v' w1 hown' hgrow _))
            go_roundw
            case rel => exact ⟨k + 1, by omega, by go_num, by rw [HS.out, HE.out]; exact hown', appended_span hbel (fun j h => (HLT.out j h).1) hgrow⟩
            case measure => simp [intOf]; omega
          · have HLT := Lib.hid hlt2; clear hlt2
            go_wp2_with (first | (go_quiet (fail)) | (at_builtin; refine wpList_append_own _ rfl _ _ 22 rfl w.heap.size 51 i0 (.agg #[.int .i64 0, .int .i64 0]) 2 16 Try.underlying22 hi hz0 hz1 hz2 rfl (by decide) _ _ _ rfl ((owns_drewN hown _).alloc _) ⟨wr.heap.size, 0, none⟩ 1 1 [.int .i64 k, .int .i64 1] rfl rfl two_cells (two_oneCell _ _ _ _) (by simp [maxLen]) (by simp) (by simp; omega) ?_; intro v' w1 hown' hgrow _))
            go_roundw
            case rel => exact ⟨k + 1, by omega, by go_num, by rw [HS.out, HE.out]; exact hown', appended_span hbel (fun j h => (HLT.out j h).1) hgrow⟩
            case measure => simp [intOf]; omega
        · have hle := spansTo_length_le f k
          have hgood := spansTo_good f k hk
          rw [he] at hown hle hgood
          rw [rightFrom_append, Bool.and_eq_true, rightFrom_cons, singleB_iff] at hgood
          have hx := hgood.1.2.1
          have HE := Lib.hid he
          clear he hgood
          rw [List.length_append] at hown hle
          obtain ⟨M, hM⟩ : ∃ M, M = m.length := ⟨_, rfl⟩
          rw [← hM] at hown hle
          simp only [List.length_cons, List.length_nil, Nat.zero_add] at hown hle
          have HM := Lib.hid hM
          clear hM
          have hlt2 := hown.lt
          rcases owns_shape hown with ⟨rfl, h0⟩ | ⟨g, cap, rfl, hg1, hg2⟩
          · omega
          · have HLT := Lib.hid hlt2; clear hlt2
            have hcs : wr.cell? ⟨g, M * 2, none⟩ = some (.int .i64 x.1) := by
              rw [hown.cellAt _ (by omega), spanCells_append, List.getElem?_append_right (by rw [spanCells_length, HM.out]; omega), spanCells_length, HM.out]
              simp [spanCells]
            have hcl : wr.cell? ⟨g, M * 2 + 1, none⟩ = some (.int .i64 x.2) := by
              rw [hown.cellAt _ (by omega), spanCells_append, List.getElem?_append_right (by rw [spanCells_length, HM.out]; omega), spanCells_length, HM.out]
              simp [spanCells]
            have hfz : wr.frozen? ⟨g, M * 2 + 1, none⟩ = false := hown.frozenAt _
            have hm2 : (M : Int) < (M : Int) + 1 := by omega
            have w1 : IntKind.i64.wrap (M : Int) = (M : Int) := IntWalk.i64_in _ (by omega)
            have w2 : IntKind.i64.wrap (x.1 + x.2) = x.1 + x.2 := IntWalk.i64_in _ (by omega)
            by_cases hxk : x.1 + x.2 = (k : Int)
            · have hq : (x.1 + x.2 == (k : Int)) = true := by simpa using hxk
              have HX := Lib.hid hxk
              clear hxk
              go_wp2_with (go_quiet (fail))
              go_roundw
              case rel =>
                refine ⟨k + 1, by omega, by go_num, ?_, (below_drewN hbel _).setCell hg1 _⟩
                rw [HS.out, HE.out, pushS_snoc, if_pos HX.out, List.length_append, ← HM.out, ← spanCells_set, ← HM.out]
                exact ((owns_drewN hown _).stored _ _).1
              case measure => simp [intOf]; omega
            · have hq : (x.1 + x.2 == (k : Int)) = false := by simpa using hxk
              have HX := Lib.hid hxk
              clear hxk
              go_wp2_with (first | (go_quiet (fail)) | (at_builtin; refine wpList_append_own _ rfl _ _ 22 rfl w.heap.size 51 i0 (.agg #[.int .i64 0, .int .i64 0]) 2 16 Try.underlying22 hi hz0 hz1 hz2 rfl (by decide) _ _ _ rfl ((owns_drewN hown _).alloc _) ⟨wr.heap.size, 0, none⟩ 1 1 [.int .i64 k, .int .i64 1] rfl rfl two_cells (two_oneCell _ _ _ _) (by simp [maxLen]; omega) (by omega) (by simp; omega) ?_; intro v' w1 hown' hgrow _))
              go_roundw
              case rel =>
                refine ⟨k + 1, by omega, by go_num, ?_, appended_span hbel (fun j h => (HLT.out j h).1) hgrow⟩
                rw [HS.out, HE.out, pushS_snoc, if_neg HX.out, spanCells_append, List.length_append, List.length_append, ← HM.out]
                exact hown'
              case measure => simp [intOf]; omega
      · have hf' : f k = false := by simpa using hf
        rw [hf'] at hc1
        have HS : Hid (spansTo f (k + 1) = spansTo f k) := by unfold Hid; rw [spansTo, if_neg hf]
        clear hf hf'
        go_wp2_with (go_quiet (fail))
        go_roundw
        case rel => exact ⟨k + 1, by omega, by go_num, by rw [HS.out]; exact hown, by refine below_drewN ?_ _; exact hbel⟩
        case measure => simp [intOf]; omega
    · obtain rfl : k = 4096 := by omega
      go_wp2
      go_ret
      exact ⟨_, rfl, hown, hbel⟩

set_option maxRecDepth 100000 in
set_option maxHeartbeats 4000000 in
theorem refset_own (f : Nat → Bool) (w : World) :
    Calls Try.prog 59 #[.agg (arrOf 4096 (boolsF f))] w fun e w' => ∃ v', e = .returned v' ∧ OwnSp w' w.heap.size v' (spansOf f) ∧ Below w.heap.size w w' := by
  obtain ⟨i0, hi, hz0, hz1, hz2⟩ := info_parts Try.info51
  have hr0 := RowAt.alloc w 60 4096 (boolsF f)
  have hb0 : Below w.heap.size w (w.alloc (.cells (arrOf 4096 (boolsF f)) 60)) := (Below.refl _ _).alloc (Nat.le_refl _) _
  go_enter Try.func59, Try.ntmps59
  go_wp2_with (fail)
  obtain ⟨W, hW⟩ : ∃ W, W = w.alloc (.cells (arrOf 4096 (boolsF f)) 60) := ⟨_, rfl⟩
  rw [← hW] at hr0 hb0
  have hs0 : W.heap.size = w.heap.size + 1 := by rw [hW]; simp
  have HW := Lib.hid hW
  go_loopw [3, 4] (fun v i wr => ∃ (k : Nat), k ≤ 4096 ∧ i = .int .i64 k ∧ wr.ownsRow (w.heap.size + 1) 51 2 v (spansTo f k).length (spanCells (spansTo f k)) ∧ Below (w.heap.size + 1) W wr)
    (fun _ i _ => 4096 - (intOf i).toNat)
  case atStart =>
    refine ⟨0, Nat.zero_le _, rfl, ?_, ?_⟩
    · have := World.ownsRow_lit (e := 51) (size := 2) (base := w.heap.size + 1) W #[] 0 (by omega) (by simp) rfl
      rw [hs0, hW] at this
      exact this
    · rw [hW]
      exact (Below.refl _ _).alloc (by simp) _
  case round =>
    obtain ⟨k, hk, rfl, hown, hbel⟩ := hrel
    clear hW
    have hsz := hbel.size
    have hrr : RowAt wr w.heap.size 60 4096 (boolsF f) := hr0.belowB hbel (by omega)
    by_cases hlt : k < 4096
    · have hc1 := hrr.cell hlt
      simp only [boolsF] at hc1
      have hi1 : (k : Int) < (4096 : Int) := by omega
      by_cases hf : f k = true
      · rw [hf] at hc1
        have HS : Hid (spansTo f (k + 1) = pushS (spansTo f k) k) := by unfold Hid; rw [spansTo, if_pos hf]
        have hlast := spansTo_last f k
        clear hf
        have hlt2 := hown.lt
        have HLT := Lib.hid hlt2; clear hlt2
        have hgood := spansTo_good f k hk
        have hle := spansTo_length_le f k
        by_cases hp : 0 < k ∧ f (k - 1) = true
        · obtain ⟨m, x, he, hxk⟩ := hlast.2 hp
          obtain ⟨j, rfl⟩ : ∃ j, k = j + 1 := ⟨k - 1, by omega⟩
          rw [Nat.add_sub_cancel] at hp
          have hc2 := hrr.cell (i := j) (by omega)
          simp only [boolsF] at hc2
          rw [hp.2] at hc2
          clear hp hlast
          rw [he] at hown hle hgood
          rw [rightFrom_append, Bool.and_eq_true, rightFrom_cons, singleB_iff] at hgood
          have hx := hgood.1.2.1
          have HE := Lib.hid he
          have HX := Lib.hid hxk
          clear he hgood hxk
          rw [List.length_append] at hown hle
          obtain ⟨M, hM⟩ : ∃ M, M = m.length := ⟨_, rfl⟩
          rw [← hM] at hown hle
          simp only [List.length_cons, List.length_nil, Nat.zero_add] at hown hle
          have HM := Lib.hid hM
          clear hM
          rcases owns_shape hown with ⟨rfl, h0⟩ | ⟨g, cap, rfl, hg1, hg2⟩
          · omega
          · have hcl : wr.cell? ⟨g, M * 2 + 1, none⟩ = some (.int .i64 x.2) := by
              rw [hown.cellAt _ (by omega), spanCells_append, List.getElem?_append_right (by rw [spanCells_length, HM.out]; omega), spanCells_length, HM.out]
              simp [spanCells]
            have hfz : wr.frozen? ⟨g, M * 2 + 1, none⟩ = false := hown.frozenAt _
            have hm2 : (M : Int) < (M : Int) + 1 := by omega
            have hj1 : (0 : Int) < (j : Int) + 1 := by omega
            have hj2 : (j : Int) < (4096 : Int) := by omega
            go_wp2
            go_roundw
            case rel =>
              refine ⟨j + 1 + 1, by omega, by go_num, ?_, hbel.setCell hg1 _⟩
              rw [HS.out, HE.out, pushS_snoc, if_pos HX.out, List.length_append, ← HM.out, ← spanCells_set, ← HM.out]
              exact (hown.stored _ _).1
            case measure => simp [intOf]; omega
        · have HN : Hid (spansTo f (k + 1) = spansTo f k ++ [((k : Int), 1)]) := by
            unfold Hid
            rw [HS.out]
            rcases snoc_cases (spansTo f k) with he | ⟨m, x, he⟩
            · rw [he]; rfl
            · rw [he, pushS_snoc, if_neg (fun hx => hp (hlast.1 ⟨m, x, he, hx⟩))]
          clear hlast hgood HS
          have hst : ∀ u : Value, Hid (u = u) := fun _ => rfl
          clear hst
          by_cases hk0 : k = 0
          · subst hk0
            clear hp
            go_wp2_with (first | (at_builtin; refine wpList_append_own _ rfl _ _ 22 rfl (w.heap.size + 1) 51 i0 (.agg #[.int .i64 0, .int .i64 0]) 2 16 Try.underlying22 hi hz0 hz1 hz2 rfl (by decide) _ _ _ rfl (hown.alloc _) ⟨wr.heap.size, 0, none⟩ 1 1 [.int .i64 0, .int .i64 1] rfl rfl two_cells (two_oneCell _ _ _ _) (by simp [maxLen]; omega) (by omega) (by simp; omega) ?_; intro v' w1 hown' hgrow _))
            go_roundw
            case rel =>
              refine ⟨0 + 1, by omega, rfl, ?_, (hbel.alloc (by omega) _).grown hgrow (by simp; omega) (fun j h => (HLT.out j h).1)⟩
              rw [HN.out, spanCells_append, List.length_append]
              exact hown'
            case measure => simp [intOf]
          · obtain ⟨j, rfl⟩ : ∃ j, k = j + 1 := ⟨k - 1, by omega⟩
            have hfj : f j = false := by
              cases h : f j with
              | false => rfl
              | true => exact absurd ⟨by omega, by simpa using h⟩ hp
            have hc2 := hrr.cell (i := j) (by omega)
            simp only [boolsF] at hc2
            rw [hfj] at hc2
            clear hp hfj
            have hj1 : (0 : Int) < (j : Int) + 1 := by omega
            have hj2 : (j : Int) < (4096 : Int) := by omega
            go_wp2_with (first | (at_builtin; refine wpList_append_own _ rfl _ _ 22 rfl (w.heap.size + 1) 51 i0 (.agg #[.int .i64 0, .int .i64 0]) 2 16 Try.underlying22 hi hz0 hz1 hz2 rfl (by decide) _ _ _ rfl (hown.alloc _) ⟨wr.heap.size, 0, none⟩ 1 1 [.int .i64 (j + 1), .int .i64 1] rfl rfl two_cells (two_oneCell _ _ _ _) (by simp [maxLen]; omega) (by omega) (by simp; omega) ?_; intro v' w1 hown' hgrow _))
            go_roundw
            case rel =>
              refine ⟨j + 1 + 1, by omega, by go_num, ?_, (hbel.alloc (by omega) _).grown hgrow (by simp; omega) (fun j h => (HLT.out j h).1)⟩
              rw [HN.out, spanCells_append, List.length_append]
              exact hown'
            case measure => simp [intOf]; omega
      · have hf' : f k = false := by simpa using hf
        rw [hf'] at hc1
        have HS : Hid (spansTo f (k + 1) = spansTo f k) := by unfold Hid; rw [spansTo, if_neg hf]
        clear hf hf'
        go_wp2
        go_roundw
        case rel => exact ⟨k + 1, by omega, by go_num, by rw [HS.out]; exact hown, hbel⟩
        case measure => simp [intOf]; omega
    · obtain rfl : k = 4096 := by omega
      go_wp2
      go_ret
      exact ⟨_, rfl, OwnSp.mono (base := w.heap.size + 1) hown (by omega), hb0.trans (hbel.mono (by omega))⟩

set_option maxRecDepth 100000 in
set_option maxHeartbeats 4000000 in
theorem cut_own_in (v u : Value) (l m : List (Int × Int)) (w : World) (hv : SpanSl w v l) (hu : SpanSl w u m) :
    CallsIn Fence.wide 5 Try.prog 53 #[v, u] w fun e w' => ∃ r, e = .returned r ∧ OwnSp w' w.heap.size r (spansOf (fun n => bitsR l n && !bitsR m n)) ∧ Below w.heap.size w w' := by
  have hu0 := hu
  obtain ⟨uo, ucap, rfl, _, _, _⟩ := hu
  have HV := Lib.hid hv; clear hv
  have HU := Lib.hid hu0; clear hu0
  refine callsIn_of_wp_marks Try.func53 rfl trivial ?_ rfl
  simp only [Try.ntmps53, List.size_toArray, List.length_cons, List.length_nil, Nat.reduceAdd, Nat.reduceSub, Array.replicate_succ, Array.replicate_zero, List.push_toArray, List.append_toArray, List.nil_append, List.cons_append]
  gi_wp2_with (first | (refine ⟨trivial, ?_⟩; gi_at_call 81; refine (callsIn_wide.2 (mark_any _ _ _ HV.out)).mono ?_; rintro e w1 ⟨rfl, hr1, hb1⟩) | (refine ⟨trivial, ?_⟩; gi_at_call 80; refine (callsIn_wide.2 (each_any _ _ _ _)).mono ?_; rintro e w' ⟨rfl, rfl⟩))
  have hw1 := hr1.lt
  obtain ⟨W0, hW0⟩ : ∃ W0, W0 = w1.alloc (.cells #[.pointer (some ⟨w.heap.size, 0, none⟩)] 111) := ⟨_, rfl⟩
  have hs0 : W0.heap.size = w1.heap.size + 1 := by rw [hW0]; simp
  have hc0 : W0.cell? ⟨w1.heap.size, 0, none⟩ = some (.pointer (some ⟨w.heap.size, 0, none⟩)) := by rw [hW0]; exact World.cell?_alloc_at _ _ _ _ rfl
  have hr0 : RowAt W0 w.heap.size 97 4096 (boolsF (bitsR l)) := by rw [hW0]; exact hr1.alloc_old _
  have hB0 : Below w.heap.size w W0 := by rw [hW0]; exact hb1.alloc (by omega) _
  rw [← hW0]
  obtain ⟨W1, hW1⟩ : ∃ W1, W1 = W0.alloc (.cells #[.slice uo m.length ucap] 22) := ⟨_, rfl⟩
  have hcb : W1.cell? ⟨w1.heap.size + 1, 0, none⟩ = some (.slice uo m.length ucap) := by rw [hW1, ← hs0]; exact World.cell?_alloc_at _ _ _ _ rfl
  have hs1 : W1.heap.size = w1.heap.size + 2 := by rw [hW1]; simp; omega
  have hc1 : W1.cell? ⟨w1.heap.size, 0, none⟩ = some (.pointer (some ⟨w.heap.size, 0, none⟩)) := by rw [hW1, World.cell?_alloc_past _ _ _ (by omega)]; exact hc0
  have hr2 : RowAt W1 w.heap.size 97 4096 (boolsF (bitsR l)) := by rw [hW1]; exact hr0.alloc_old _
  have hB1 : Below w.heap.size w W1 := by rw [hW1]; exact hB0.alloc (by omega) _
  rw [← hW1]
  clear hW0 hW1 hr0 hc0 hB0 hr1
  refine wpIn_rangeFunc_ownF rfl (by omega) (gf := 90) (lb := #[.pointer (some ⟨w1.heap.size + 1, 0, none⟩)]) rfl trivial (enters_of Try.func90 (by kernel_rfl) rfl)
    (each_stops 4 (w1.heap.size + 1) _ m w W1 HU.out hB1 hcb) Kept.trans (Kept.book (by omega)) (Below.refl _ _) (fun _ => rfl)
    (fun pre W => (RowAt W w.heap.size 97 4096 (boolsF fun n => bitsR l n && !marksF pre n) ∧ W.cell? ⟨w1.heap.size, 0, none⟩ = some (.pointer (some ⟨w.heap.size, 0, none⟩))) ∧ Below w.heap.size w W)
    (fun _ _ _ => False)
    (OwnFrom.and (OwnFrom.and (Own.from (rowAt_own _ _ _ fun pre => boolsF fun n => bitsR l n && !marksF pre n) _) (Own.from (fun s A B row hs hg hr => cell_kept hs hg hr) _)) (ownFrom_below (Nat.le_refl _) (by omega)))
    (fun _ _ _ _ _ hs _ _ => hs)
    ⟨⟨hr2.congr (fun i _ => by simp [boolsF, marksF]), hc1⟩, hB1⟩
    (fun x => { tmps := #[v, .slice uo m.length ucap, undef, undef, .slice none 0 0, .pointer (some ⟨w1.heap.size, 0, none⟩), .int .i64 (x.val : Int), v, .pointer (some ⟨w.heap.size, 0, none⟩), .slice uo m.length ucap, .func (.func 90) #[] #[.pointer (some ⟨w1.heap.size + 1, 0, none⟩)], .int .i64 (x.val : Int), undef, undef, undef, undef, undef, undef], defers := [] }) ?assign ?body ?done ?stop
  case assign =>
    intro lp x W K hK
    gi_wp2
    exact hK
  case body =>
    rintro lp pre x W ⟨⟨hr, hc⟩, hB⟩ _
    have hx1 : (x.val : Int) < (4096 : Int) := by have := x.isLt; omega
    have hcx := hr.cell x.isLt
    have hfx := hr.frozen x.val
    simp only [boolsF] at hcx
    gi_wp2
    refine ⟨KeepsOthers.setCell _ _ _, Kept.setCell _ (Nat.le_refl _) (by show w.heap.size < W1.heap.size; omega), ⟨hr.setBool _ false (fun j _ => by rw [marksF_snoc]; by_cases h : j = x.val <;> simp [h]), ?_⟩, hB.setCell (p := ⟨w.heap.size, x.val, none⟩) (Nat.le_refl _) _⟩
    rw [World.cell?_of_block (heap_setCell_other W _ _ _ (by show w1.heap.size ≠ w.heap.size; omega))]
    exact hc
  case done =>
    rintro D ys W hD rfl ⟨⟨hr, hc⟩, hB⟩ hK
    have hr' : RowAt W w.heap.size 97 4096 (boolsF (fun n => bitsR l n && !bitsR m n)) := hr.congr (fun i hi => by simp only [boolsF]; rw [marksF_seqOf m hi])
    have hDW : D < W.heap.size := (Array.getElem?_eq_some_iff.1 hK).1
    gi_wp2_with ((refine ⟨trivial, ?_⟩; gi_at_call 76; refine (callsIn_wide.2 (spans_own _ _ _ hr')).mono ?_; rintro e w3 ⟨r, rfl, hsr, hb3⟩))
    have hK3 := (hb3.block D hDW).trans hK
    refine ⟨by simp, .inl ⟨_, _, rfl, run_takeDeferred hK3, ?_⟩⟩
    exact ⟨_, results_tmp rfl _ _ _, r, rfl, OwnSp.mono (ownsRow_putObj hsr _ hK3 rfl) hB.size, (Below.step hB hB.size hb3).trans (belowK_b (w := w) (Nat.le_refl _) w3 D _ _ (by omega) hK3 rfl rfl)⟩
  case stop =>
    rintro D c pre W _ _ h _
    exact h.elim

theorem cut_own (v u : Value) (l m : List (Int × Int)) (w : World) (hv : SpanSl w v l) (hu : SpanSl w u m) :
    Calls Try.prog 53 #[v, u] w fun e w' => ∃ r, e = .returned r ∧ OwnSp w' w.heap.size r (spansOf (fun n => bitsR l n && !bitsR m n)) ∧ Below w.heap.size w w' := callsIn_wide.1 (cut_own_in v u l m w hv hu)

set_option maxRecDepth 100000 in
set_option maxHeartbeats 4000000 in
theorem mix1_own (v u : Value) (l m : List (Int × Int)) (w : World) (hv : SpanSl w v l) (hu : SpanSl w u m) (hr : rightB l = true) (hs : rightB m = true) :
    Calls Try.prog 54 #[v, u, .int .i64 1] w fun e w' => ∃ r, e = .returned r ∧ OwnSp w' w.heap.size r (spansOf fun n => bitsOf l n && !bitsOf m n) ∧ Below w.heap.size w w' := by
  have HV := Lib.hid hv; clear hv
  have HU := Lib.hid hu; clear hu
  have HR := Lib.hid hr; clear hr
  have HS := Lib.hid hs; clear hs
  obtain ⟨f, hf⟩ : ∃ f, f = bitsOf l := ⟨_, rfl⟩
  obtain ⟨g, hg⟩ : ∃ g, g = bitsOf m := ⟨_, rfl⟩
  rw [← hf, ← hg]
  have HF := Lib.hid hf
  have HG := Lib.hid hg
  clear hf hg
  go_enter Try.func54, Try.ntmps54
  go_wp2_with fail
  refine (bits_any _ _ _ HV.out HR.out).mono ?_
  rintro e w1 ⟨rfl, hb1⟩
  rw [← HF.out]
  have hz1s := hb1.size
  obtain ⟨Wa, hWa⟩ : ∃ W0, W0 = w1.alloc (.cells Try.zeroCells60 60) := ⟨_, rfl⟩
  have hra : RowAt Wa w1.heap.size 60 4096 (boolsF fun _ => false) := by rw [hWa, zero60]; exact RowAt.alloc _ _ _ _
  have hra' : RowAt (w1.alloc (.cells Try.zeroCells60 60)) w1.heap.size 60 4096 (boolsF fun _ => false) := by rw [← hWa]; exact hra
  have hsa : Wa.heap.size = w1.heap.size + 1 := by rw [hWa]; simp
  have hBa : Below w.heap.size w Wa := by rw [hWa]; exact hb1.alloc hz1s _
  go_wp2_with (refine wpList_store_row (o := ⟨none, .store 60 (.tmp 7) (.tmp 11), _, _, _, none⟩) rfl 60 (.tmp 7) (.tmp 11) rfl w1.heap.size rfl 4096 (boolsF f) (arrOf 4096 (boolsF f)) rfl rfl 60 (boolsF fun _ => false) hra' size60 (boolsF_one _) ?_)
  rw [← hWa]
  clear hra' hWa
  have hrb := hra.setRow (boolsF f)
  have hsb : (Wa.setRow w1.heap.size (arrOf 4096 (boolsF f))).heap.size = w1.heap.size + 1 := by rw [setRow_size]; exact hsa
  have hBb := Below.setRow hBa (g := w1.heap.size) hz1s (arrOf 4096 (boolsF f))
  obtain ⟨Wb, hWb⟩ : ∃ W, W = Wa.setRow w1.heap.size (arrOf 4096 (boolsF f)) := ⟨_, rfl⟩
  rw [← hWb] at hrb hsb hBb ⊢
  clear hWb hra hBa
  go_wp2_with fail
  refine (bits_any _ _ _ (HU.out.below hBb) HS.out).mono ?_
  rintro e w2 ⟨rfl, hb2⟩
  rw [← HG.out]
  have hz2s := hb2.size
  obtain ⟨Wc, hWc⟩ : ∃ W0, W0 = w2.alloc (.cells Try.zeroCells60 60) := ⟨_, rfl⟩
  have hqc : RowAt Wc w2.heap.size 60 4096 (boolsF fun _ => false) := by rw [hWc, zero60]; exact RowAt.alloc _ _ _ _
  have hqc' : RowAt (w2.alloc (.cells Try.zeroCells60 60)) w2.heap.size 60 4096 (boolsF fun _ => false) := by rw [← hWc]; exact hqc
  have hrc : RowAt Wc w1.heap.size 60 4096 (boolsF f) := by rw [hWc]; exact (hrb.below hb2).alloc_old _
  have hsc : Wc.heap.size = w2.heap.size + 1 := by rw [hWc]; simp
  have hBc : Below w.heap.size w Wc := by rw [hWc]; exact (Below.step hBb hBb.size hb2).alloc (by omega) _
  go_wp2_with (refine wpList_store_row (o := ⟨none, .store 60 (.tmp 8) (.tmp 13), _, _, _, none⟩) rfl 60 (.tmp 8) (.tmp 13) rfl w2.heap.size rfl 4096 (boolsF g) (arrOf 4096 (boolsF g)) rfl rfl 60 (boolsF fun _ => false) hqc' size60 (boolsF_one _) ?_)
  rw [← hWc]
  clear hqc' hWc
  have hrd := hrc.setRow_other (g := w2.heap.size) (by omega) (arrOf 4096 (boolsF g))
  have hqd := hqc.setRow (boolsF g)
  have hBd := Below.setRow hBc (g := w2.heap.size) (by omega) (arrOf 4096 (boolsF g))
  obtain ⟨Wd, hWd⟩ : ∃ W, W = Wc.setRow w2.heap.size (arrOf 4096 (boolsF g)) := ⟨_, rfl⟩
  rw [← hWd] at hrd hqd hBd ⊢
  have hne : w1.heap.size ≠ w2.heap.size := by omega
  have hle1 : w.heap.size ≤ w1.heap.size := hz1s
  clear hWd hqc hrc hBc hsc hz2s hb2 hrb hsb hBb hsa hb1 hz1s
  go_loopw [9] (fun i wr => ∃ (k : Nat), k ≤ 4096 ∧ i = .int .i64 k ∧ RowAt wr w1.heap.size 60 4096 (boolsF (mixF1 f g k)) ∧ RowAt wr w2.heap.size 60 4096 (boolsF g) ∧ Below w.heap.size w wr)
    (fun i _ => 4096 - (intOf i).toNat)
  case atStart => exact ⟨0, Nat.zero_le _, rfl, hrd.congr (fun i _ => by simp only [boolsF]; rw [mixF1_zero]), hqd, hBd⟩
  case round =>
    obtain ⟨k, hk, rfl, hrr, hqr, hbel⟩ := hrel
    clear hrd hqd
    by_cases hlt : k < 4096
    · have hc1 := hrr.cell hlt
      have hc2 := hqr.cell hlt
      have hf1 := hrr.frozen k
      simp only [boolsF] at hc1 hc2
      rw [mixF1_at] at hc1
      have hi1 : (k : Int) < (4096 : Int) := by omega
      have HN : Hid (∀ n, mixF1 f g (k + 1) n = if n = k then (f k && !g k) else mixF1 f g k n) := mixF1_next f g k
      obtain ⟨x, hx⟩ : ∃ x, f k = x := ⟨_, rfl⟩
      obtain ⟨y, hy⟩ : ∃ y, g k = y := ⟨_, rfl⟩
      rw [hx] at hc1
      rw [hy] at hc2
      have HX := Lib.hid hx
      have HY := Lib.hid hy
      clear hx hy
      cases x <;> cases y
      all_goals
        go_wp2
        go_roundw
        case rel =>
          refine ⟨k + 1, by omega, by go_num, hrr.setBool k _ (fun j _ => ?_), hqr.set_other _ (by show w2.heap.size ≠ w1.heap.size; omega) _, hbel.setCell (p := ⟨w1.heap.size, k, none⟩) hle1 _⟩
          rw [HN.out, HX.out, HY.out]
          rfl
        case measure => simp [intOf]; omega
    · obtain rfl : k = 4096 := by omega
      go_wp2_with (first | (refine wpList_load_arr (o := ⟨some 54, .load 60 (.tmp 7), _, _, _, none⟩) rfl 60 (.tmp 7) rfl w1.heap.size rfl 4096 60 _ hrr _ Try.underlying60 rfl size60 ?_) | (go_at_call 59; refine (refset_own _ _).mono ?_; rintro e w3 ⟨v', rfl, hs, hb3⟩))
      go_ret
      refine ⟨_, rfl, ?_, Below.step hbel hbel.size hb3⟩
      rw [spansOf_congr (g := fun n => f n && !g n) (fun n hn => by unfold mixF1; rw [if_pos hn])] at hs
      exact hs.mono hbel.size

end Go.Proofs.Ytaeklmnleampcaa
