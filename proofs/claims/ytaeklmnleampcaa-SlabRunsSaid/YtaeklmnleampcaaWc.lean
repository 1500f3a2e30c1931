/- Walks of what makes a set out of truth values: the program's (in *bits).spans and Of, the reference's Set and Of. -/
import Derived.Test.YtaeklmnleampcaaWa
import Derived.Maps.AppendAt
namespace Go.Proofs.Ytaeklmnleampcaa
open Go.RowKit

/-- What the call owns is nil, or lies at the head of a row. -/
theorem owns_shape {w : World} {base : Nat} {e : TypeId} {size : Nat} {v : Value} {n : Nat} {xs : List Value} (h : w.ownsRow base e size v n xs) :
    (v = .slice none 0 0 ∧ n = 0) ∨ ∃ g cap, v = .slice (some ⟨g, 0, none⟩) n cap ∧ base ≤ g ∧ g < w.heap.size := by
  rcases h.2 with ⟨h1, h2⟩ | ⟨g, cap, cur, h1, h2, h3, _⟩
  · exact .inl ⟨h1, h2⟩
  · exact .inr ⟨g, cap, h1, h2, (Array.getElem?_eq_some_iff.1 h3).1⟩

theorem spanCells_one (a b : Int) : spanCells [(a, b)] = [.int .i64 a, .int .i64 b] := rfl

theorem spanCells_set (m : List (Int × Int)) (x : Int × Int) (c : Int) : (spanCells (m ++ [x])).set (m.length * 2 + 1) (.int .i64 c) = spanCells (m ++ [(x.1, c)]) := by
  rw [spanCells_append, spanCells_append, List.set_append, if_neg (by rw [spanCells_length]; omega), spanCells_length]
  rw [show m.length * 2 + 1 - m.length * 2 = 1 from by omega]
  rfl

theorem two_cells {w : World} {a b : Value} {t : TypeId} : ∀ j u, [a, b][j]? = some u → (w.alloc (.cells #[a, b] t)).cell? ((⟨w.heap.size, 0, none⟩ : Addr).add j) = some u := by
  intro j u hj
  match j, hj with
  | 0, hj => simp at hj; subst hj; simp [Addr.add]
  | 1, hj => simp at hj; subst hj; simp [Addr.add]
  | j + 2, hj => simp at hj

theorem two_oneCell (a b : Int) (k l : IntKind) : ∀ u ∈ [Value.int k a, Value.int l b], u.oneCell' = true := by
  intro u hu
  simp at hu
  rcases hu with rfl | rfl <;> rfl

theorem owns_drewN {w : World} {base : Nat} {e : TypeId} {size : Nat} {v : Value} {n : Nat} {xs : List Value} (h : w.ownsRow base e size v n xs) (d : Nat) : (w.drewN d).ownsRow base e size v n xs := h

/-- Behind an append of one span to what the call owns. -/
theorem appended_span {w wr w1 : World} {d : Nat} {row : Option Nat} {o : Obj} (hbel : Below w.heap.size w wr)
    (hr : ∀ j, row = some j → w.heap.size ≤ j)
    (hgrow : ((wr.drewN d).alloc o).grownBy w1 row) : Below w.heap.size w w1 :=
  ((below_drewN hbel d).alloc (by have := hbel.size; exact this) o).grown hgrow (by have := hbel.size; simp; exact Nat.le_succ_of_le this) hr

set_option maxRecDepth 100000 in
set_option maxHeartbeats 1000000 in
/-- (in *bits).spans: the set of the numbers that are in. -/
theorem spans_any (b : Nat) (f : Nat → Bool) (w : World) (hrow : RowAt w b 97 4096 (boolsF f)) :
    Calls Try.prog 76 #[.pointer (some ⟨b, 0, none⟩)] w fun e w' => ∃ v', e = .returned v' ∧ SpanSl w' v' (spansOf f) ∧ Below w.heap.size w w' := by
  obtain ⟨i0, hi, hz0, hz1, hz2⟩ := info_parts Try.info51
  go_enter Try.func76, Try.ntmps76
  go_wp2_with (fail)
  go_loopw [3, 8] (fun v i wr => ∃ (k : Nat), k ≤ 4096 ∧ i = .int .i64 k ∧ wr.ownsRow w.heap.size 51 2 v (spansTo f k).length (spanCells (spansTo f k)) ∧ Below w.heap.size w wr)
    (fun _ i _ => 4096 - (intOf i).toNat)
  case atStart => exact ⟨0, Nat.zero_le _, rfl, World.ownsRow_nil _ _ _ _, Below.refl _ _⟩
  case round =>
    obtain ⟨k, hk, rfl, hown, hbel⟩ := hrel
    have hsz := hbel.size
    by_cases hlt : k < 4096
    · have hrow' : RowAt wr b 97 4096 (boolsF f) := hrow.below hbel
      have hc1 := hrow'.cell hlt
      simp only [boolsF] at hc1
      have hi1 : (k : Int) < (4096 : Int) := by omega
      by_cases hf : f k = true
      · rw [hf] at hc1
        have HS : Hid (spansTo f (k + 1) = pushS (spansTo f k) k) := by unfold Hid; rw [spansTo, if_pos hf]
        clear hf
        rcases snoc_cases (spansTo f k) with he | ⟨m, x, he⟩
        · rw [he] at hown
          have HE := Lib.hid he
          clear he
          have hlt2 := hown.lt
          rcases owns_shape hown with ⟨rfl, _⟩ | ⟨g, cap, rfl, hg1, hg2⟩
          · have HLT := Lib.hid hlt2; clear hlt2
            go_wp2_with (first | (go_quiet (fail)) | (at_builtin; refine wpList_append_own _ rfl _ _ 22 rfl w.heap.size 51 i0 (.agg #[.int .i64 0, .int .i64 0]) 2 16 Try.underlying22 hi hz0 hz1 hz2 rfl (by decide) _ _ _ rfl ((owns_drewN hown _).alloc _) ⟨wr.heap.size, 0, none⟩ 1 1 [.int .i64 k, .int .i64 1] rfl rfl two_cells (two_oneCell _ _ _ _) (by simp [maxLen]) (by simp) (by simp; omega) ?_; intro v' w1 hown' hgrow _))
            go_roundw
            case rel => exact ⟨k + 1, by omega, by go_num, by rw [HS.out, HE.out]; exact hown', appended_span hbel (fun j h => (HLT.out j h).1) hgrow⟩
            case measure => simp [intOf]; omega
          · have HLT := Lib.hid hlt2; clear hlt2
            go_wp2_with (first | (go_quiet (fail)) | (at_builtin; refine wpList_append_own _ rfl _ _ 22 rfl w.heap.size 51 i0 (.agg #[.int .i64 0, .int .i64 0]) 2 16 Try.underlying22 hi hz0 hz1 hz2 rfl (by decide) _ _ _ rfl ((owns_drewN hown _).alloc _) ⟨wr.heap.size, 0, none⟩ 1 1 [.int .i64 k, .int .i64 1] rfl rfl two_cells (two_oneCell _ _ _ _) (by simp [maxLen]) (by simp) (by simp; omega) ?_; intro v' w1 hown' hgrow _))
            go_roundw
            case rel => exact ⟨k + 1, by omega, by go_num, by rw [HS.out, HE.out]; exact hown', appended_span hbel (fun j h => (HLT.out j h).1) hgrow⟩
            case measure => simp [intOf]; omega
        · have hle := spansTo_length_le f k
          have hgood := spansTo_good f k hk
          rw [he] at hown hle hgood
          rw [rightFrom_append, Bool.and_eq_true, rightFrom_cons, singleB_iff] at hgood
          have hx := hgood.1.2.1
          have HE := Lib.hid he
          clear he hgood
          rw [List.length_append] at hown hle
          obtain ⟨M, hM⟩ : ∃ M, M = m.length := ⟨_, rfl⟩
          rw [← hM] at hown hle
          simp only [List.length_cons, List.length_nil, Nat.zero_add] at hown hle
          have HM := Lib.hid hM
          clear hM
          have hlt2 := hown.lt
          rcases owns_shape hown with ⟨rfl, h0⟩ | ⟨g, cap, rfl, hg1, hg2⟩
          · omega
          · have HLT := Lib.hid hlt2; clear hlt2
            have hcs : wr.cell? ⟨g, M * 2, none⟩ = some (.int .i64 x.1) := by
              rw [hown.cellAt _ (by omega), spanCells_append, List.getElem?_append_right (by rw [spanCells_length, HM.out]; omega), spanCells_length, HM.out]
              simp [spanCells]
            have hcl : wr.cell? ⟨g, M * 2 + 1, none⟩ = some (.int .i64 x.2) := by
              rw [hown.cellAt _ (by omega), spanCells_append, List.getElem?_append_right (by rw [spanCells_length, HM.out]; omega), spanCells_length, HM.out]
              simp [spanCells]
            have hfz : wr.frozen? ⟨g, M * 2 + 1, none⟩ = false := hown.frozenAt _
            have hm2 : (M : Int) < (M : Int) + 1 := by omega
            have w1 : IntKind.i64.wrap (M : Int) = (M : Int) := IntWalk.i64_in _ (by omega)
            have w2 : IntKind.i64.wrap (x.1 + x.2) = x.1 + x.2 := IntWalk.i64_in _ (by omega)
            by_cases hxk : x.1 + x.2 = (k : Int)
            · have hq : (x.1 + x.2 == (k : Int)) = true := by simpa using hxk
              have HX := Lib.hid hxk
              clear hxk
              go_wp2_with (go_quiet (fail))
              go_roundw
              case rel =>
                refine ⟨k + 1, by omega, by go_num, ?_, (below_drewN hbel _).setCell hg1 _⟩
                rw [HS.out, HE.out, pushS_snoc, if_pos HX.out, List.length_append, ← HM.out, ← spanCells_set, ← HM.out]
                exact ((owns_drewN hown _).stored _ _).1
              case measure => simp [intOf]; omega
            · have hq : (x.1 + x.2 == (k : Int)) = false := by simpa using hxk
              have HX := Lib.hid hxk
              clear hxk
              go_wp2_with (first | (go_quiet (fail)) | (at_builtin; refine wpList_append_own _ rfl _ _ 22 rfl w.heap.size 51 i0 (.agg #[.int .i64 0, .int .i64 0]) 2 16 Try.underlying22 hi hz0 hz1 hz2 rfl (by decide) _ _ _ rfl ((owns_drewN hown _).alloc _) ⟨wr.heap.size, 0, none⟩ 1 1 [.int .i64 k, .int .i64 1] rfl rfl two_cells (two_oneCell _ _ _ _) (by simp [maxLen]; omega) (by omega) (by simp; omega) ?_; intro v' w1 hown' hgrow _))
              go_roundw
              case rel =>
                refine ⟨k + 1, by omega, by go_num, ?_, appended_span hbel (fun j h => (HLT.out j h).1) hgrow⟩
                rw [HS.out, HE.out, pushS_snoc, if_neg HX.out, spanCells_append, List.length_append, List.length_append, ← HM.out]
                exact hown'
              case measure => simp [intOf]; omega
      · have hf' : f k = false := by simpa using hf
        rw [hf'] at hc1
        have HS : Hid (spansTo f (k + 1) = spansTo f k) := by unfold Hid; rw [spansTo, if_neg hf]
        clear hf hf'
        go_wp2_with (go_quiet (fail))
        go_roundw
        case rel => exact ⟨k + 1, by omega, by go_num, by rw [HS.out]; exact hown, by refine below_drewN ?_ _; exact hbel⟩
        case measure => simp [intOf]; omega
    · obtain rfl : k = 4096 := by omega
      go_wp2
      go_ret
      exact ⟨_, rfl, spanSl_of_owns hown (right_range (spansOf_right f)) (Nat.le_trans (spansTo_length_le f 4096) (by omega)), hbel⟩

end Go.Proofs.Ytaeklmnleampcaa
