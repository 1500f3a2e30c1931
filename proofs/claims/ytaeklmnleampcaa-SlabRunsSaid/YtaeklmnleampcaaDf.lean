/- Walks of Diff, the reference's Diff and Condense (printed by gen_diff.py). -/
import Derived.Test.YtaeklmnleampcaaOw
import Derived.Test.YtaeklmnleampcaaMw
namespace Go.Proofs.Ytaeklmnleampcaa
open Go.RowKit

/-- What of one set isn't in another. -/
def gone (a b : List (Int × Int)) : List (Int × Int) := spansOf fun n => bitsR a n && !bitsR b n

def diffL (a b : List (Int × Int)) : List MoveT := if (rightB a && rightB b) = true then (gone a b).map (Prod.mk false) ++ (gone b a).map (Prod.mk true) else []

theorem gone_len (a b : List (Int × Int)) : (gone a b).length ≤ 4096 := spansTo_length_le _ _
theorem gone_range (a b : List (Int × Int)) : ∀ x ∈ gone a b, inI64 x.1 ∧ inI64 x.2 := right_range (spansOf_right _)

/-- Rows of two types lie apart. -/
theorem owns_apart {w : World} {base base' : Nat} {e e' : TypeId} {size size' : Nat} {v v' : Value} {n n' : Nat} {xs xs' : List Value} (hne : e ≠ e')
    (h : w.ownsRow base e size v n xs) (h' : w.ownsRow base' e' size' v' n' xs') : v.ownBlock = none ∨ v.ownBlock ≠ v'.ownBlock := by
  rcases h.2 with ⟨rfl, h0⟩ | ⟨g, cap, cur, rfl, hb, hg, hn, hc, hs, ht⟩
  · exact .inl rfl
  · rcases h'.2 with ⟨rfl, h0'⟩ | ⟨g', cap', cur', rfl, hb', hg', hn', hc', hs', ht'⟩
    · exact .inr (by simp [Value.ownBlock])
    · refine .inr fun hh => hne ?_
      simp only [Value.ownBlock, Option.some.injEq] at hh
      subst hh
      rw [hg] at hg'
      simpa using (Obj.cells.inj (Option.some.inj hg')).2.1

theorem owns_below {w w' : World} {base : Nat} {e : TypeId} {size : Nat} {v : Value} {n : Nat} {xs : List Value} (h : w.ownsRow base e size v n xs) (hb : Below w.heap.size w w') : w'.ownsRow base e size v n xs :=
  h.kept (row := none) ⟨hb.os, hb.tape, hb.output, hb.size, fun k hk _ => hb.block k hk⟩ (Classical.em _)

theorem own_cells {w : World} {base n cap : Nat} {ao : Option Addr} {l : List (Int × Int)} (h : OwnSp w base (.slice ao n cap) l) {k : Nat} (hk : k < l.length) :
    ∃ b, ao = some ⟨b, 0, none⟩ ∧ b < w.heap.size ∧ w.cell? ⟨b, k * 2, none⟩ = some (.int .i64 l[k].1) ∧ w.cell? ⟨b, k * 2 + 1, none⟩ = some (.int .i64 l[k].2) := by
  rcases h.2 with ⟨_, h0⟩ | ⟨g, cap', cur, he, hb, hg, hn, hc, hs, ht⟩
  · omega
  · have he' := he
    simp only [Value.slice.injEq] at he'
    obtain ⟨rfl, rfl, rfl⟩ := he'
    have h' : w.ownsRow base 51 2 (.slice (some ⟨g, 0, none⟩) l.length cap) l.length (spanCells l) := h
    have h1 := h'.cellAt (k * 2) (by omega)
    have h2 := h'.cellAt (k * 2 + 1) (by omega)
    obtain ⟨h3, h4⟩ := spanCells_get l k hk
    exact ⟨g, rfl, (Array.getElem?_eq_some_iff.1 hg).1, h1.trans h3, h2.trans h4⟩

theorem own_form {w : World} {base : Nat} {v : Value} {l : List (Int × Int)} (h : OwnSp w base v l) : ∃ ao cap, v = .slice ao l.length cap := by
  rcases h.2 with ⟨rfl, h0⟩ | ⟨g, cap', cur, rfl, _⟩
  · exact ⟨none, 0, by rw [h0]⟩
  · exact ⟨_, _, rfl⟩

theorem three_cells {w : World} {a b c : Value} {t : TypeId} {n : Nat} (hn : n = w.heap.size) : ∀ j u, [a, b, c][j]? = some u → (w.alloc (.cells #[a, b, c] t)).cell? ((⟨n, 0, none⟩ : Addr).add j) = some u := by
  intro j u hj
  subst hn
  match j, hj with
  | 0, hj => simp at hj; subst hj; simp [Addr.add]
  | 1, hj => simp at hj; subst hj; simp [Addr.add]
  | 2, hj => simp at hj; subst hj; simp [Addr.add]
  | j + 3, hj => simp at hj

theorem move_oneCell (t : Bool) (a b : Int) : ∀ u ∈ [Value.bool t, Value.int .i64 a, Value.int .i64 b], u.oneCell' = true := by
  intro u hu
  simp at hu
  rcases hu with rfl | rfl | rfl <;> rfl

theorem moves_take {C : List (Int × Int)} {k : Nat} (t : Bool) (h : k < C.length) : moveCells ((C.take (k + 1)).map (Prod.mk t)) = moveCells ((C.take k).map (Prod.mk t)) ++ [.bool t, .int .i64 C[k].1, .int .i64 C[k].2] := by
  rw [List.take_succ_eq_append_getElem h, List.map_append, moveCells_append]
  rfl

theorem moves_range {a b : List (Int × Int)} : ∀ x ∈ diffL a b, inI64 x.2.1 ∧ inI64 x.2.2 := by
  intro x hx
  unfold diffL at hx
  split at hx
  · rcases List.mem_append.1 hx with h | h
    · obtain ⟨y, hy, rfl⟩ := List.mem_map.1 h; exact gone_range a b y hy
    · obtain ⟨y, hy, rfl⟩ := List.mem_map.1 h; exact gone_range b a y hy
  · simp at hx

theorem diffL_wrong {a b : List (Int × Int)} (h : (rightB a && rightB b) = false) : diffL a b = [] := by unfold diffL; rw [h]; rfl

theorem diffL_right {a b C D : List (Int × Int)} (ha : rightB a = true) (hb : rightB b = true) (hC : C = gone a b) (hD : D = gone b a) : diffL a b = C.map (Prod.mk false) ++ D.map (Prod.mk true) := by
  unfold diffL; rw [ha, hb, hC, hD]; rfl

set_option maxRecDepth 100000 in
set_option maxHeartbeats 4000000 in
theorem diff_any (v u : Value) (a b : List (Int × Int)) (w : World) (hv : SpanSl w v a) (hu : SpanSl w u b) :
    Calls Try.prog 33 #[v, u] w fun e w' => ∃ r, e = .returned r ∧ MoveSl w' r (diffL a b) ∧ Below w.heap.size w w' := by
  obtain ⟨i0, hi, hz0, hz1, hz2⟩ := info_parts Try.info99
  have HV := Lib.hid hv; clear hv
  have HU := Lib.hid hu; clear hu
  obtain ⟨r, hr⟩ : ∃ r, rightB a = r := ⟨_, rfl⟩
  have HR := Lib.hid hr; clear hr
  obtain ⟨s, hs⟩ : ∃ r, rightB b = r := ⟨_, rfl⟩
  have HS := Lib.hid hs; clear hs
  obtain ⟨C, hC⟩ : ∃ C, C = gone a b := ⟨_, rfl⟩
  obtain ⟨D, hD⟩ : ∃ C, C = gone b a := ⟨_, rfl⟩
  have hC4 : C.length ≤ 4096 := by rw [hC]; exact gone_len a b
  have hD4 : D.length ≤ 4096 := by rw [hD]; exact gone_len b a
  have HC := Lib.hid hC; clear hC
  have HD := Lib.hid hD; clear hD
  have HMR : Hid (∀ x ∈ diffL a b, inI64 x.2.1 ∧ inI64 x.2.2) := moves_range
  have hB0 := Below.refl w.heap.size w
  have hown0 := World.ownsRow_nil w w.heap.size 99 3
  go_enter Try.func33, Try.ntmps33
  go_wp2_with fail
  refine (right_is r _ a HR.out _ (HV.out.below hB0)).mono ?_
  rintro e w1 ⟨rfl, hb1⟩
  have hB1 := Below.step hB0 hB0.size hb1
  cases r with
  | false =>
    go_wp2
    go_ret
    refine ⟨_, rfl, ?_, hB1⟩
    rw [diffL_wrong (by rw [HR.out, HS.out]; first | rfl | (cases s <;> rfl))]
    exact moveSl_nil _
  | true =>
  go_wp2_with fail
  refine (right_is s _ b HS.out _ (HU.out.below hB1)).mono ?_
  rintro e w2 ⟨rfl, hb2⟩
  have hB2 := Below.step hB1 hB1.size hb2
  cases s with
  | false =>
    go_wp2
    go_ret
    refine ⟨_, rfl, ?_, hB2⟩
    rw [diffL_wrong (by rw [HR.out, HS.out]; first | rfl | (cases s <;> rfl))]
    exact moveSl_nil _
  | true =>
  go_wp2_with fail
  refine (cut_own _ _ a b _ (HV.out.below hB2) (HU.out.below hB2)).mono ?_
  rw [show (spansOf fun n => bitsR a n && !bitsR b n) = C from HC.out.symm]
  rintro e w3 ⟨z, rfl, hz, hb3⟩
  have hB3 := Below.step hB2 hB2.size hb3
  have hown3 := owns_below (owns_below (owns_below hown0 hb1) hb2) hb3
  replace hz := OwnSp.mono hz hB2.size
  obtain ⟨ao, cap, rfl⟩ := own_form hz
  go_wp2_with fail
  go_loopw [5, 22] (fun x i wr => ∃ k : Nat, k ≤ C.length ∧ i = .int .i64 k ∧ wr.ownsRow w.heap.size 99 3 x k (moveCells ((C.take k).map (Prod.mk false))) ∧ OwnSp wr w.heap.size (.slice ao C.length cap) C ∧ Below w.heap.size w wr)
    (fun _ i _ => C.length - (intOf i).toNat)
  case atStart => exact ⟨0, Nat.zero_le _, rfl, hown3, hz, hB3⟩
  case round =>
    clear hown3 hz hB3
    obtain ⟨k, hk, rfl, hown, hz, hbel⟩ := hrel
    have hsz := hbel.size
    by_cases hlt : k < C.length
    · obtain ⟨b0, rfl, hbs, h1, h2⟩ := own_cells hz hlt
      have HLT := Lib.hid hown.lt
      go_wp2_with (first | (at_builtin; refine wpList_append_own _ rfl _ _ 32 rfl w.heap.size 99 i0 (.agg #[.bool false, .int .i64 0, .int .i64 0]) 3 24 Try.underlying32 hi hz0 hz1 hz2 rfl (by decide) _ _ _ rfl ((hown.alloc _).alloc _) ⟨wr.heap.size + 1, 0, none⟩ 1 1 [.bool false, .int .i64 C[k].1, .int .i64 C[k].2] rfl rfl (three_cells (by simp)) (move_oneCell _ _ _) (by simp [maxLen]; omega) (by omega) (by simp; omega) ?_; intro v' w1 hown' hgrow _))
      go_roundw
      case rel =>
        refine ⟨k + 1, by omega, by go_num, ?_, World.ownsRow.kept (World.ownsRow.alloc (World.ownsRow.alloc hz _) _) hgrow (owns_apart (by decide) hz hown), ((hbel.alloc hsz _).alloc (by simp; omega) _).grown hgrow (by simp; omega) (fun j h => (HLT.out j h).1)⟩
        rw [moves_take false hlt]
        exact hown'
      case measure => simp [intOf]; omega
    · have hkk : k = C.length := by omega
      subst hkk
      rw [List.take_length] at hown
      go_wp2_with fail
      refine (cut_own _ _ b a _ (HU.out.below hbel) (HV.out.below hbel)).mono ?_
      rw [show (spansOf fun n => bitsR b n && !bitsR a n) = D from HD.out.symm]
      rintro e w4 ⟨y, rfl, hy, hb4⟩
      have hB4 := Below.step hbel hsz hb4
      have hown4 := owns_below hown hb4
      replace hy := OwnSp.mono hy hsz
      obtain ⟨ao2, cap2, rfl⟩ := own_form hy
      clear hown hz hbel
      go_wp2_with fail
      go_loopw [5, 36] (fun x i wr => ∃ k : Nat, k ≤ D.length ∧ i = .int .i64 k ∧ wr.ownsRow w.heap.size 99 3 x (C.length + k) (moveCells (C.map (Prod.mk false)) ++ moveCells ((D.take k).map (Prod.mk true))) ∧ OwnSp wr w.heap.size (.slice ao2 D.length cap2) D ∧ Below w.heap.size w wr)
        (fun _ i _ => D.length - (intOf i).toNat)
      case atStart => exact ⟨0, Nat.zero_le _, rfl, by simpa [moveCells] using hown4, hy, hB4⟩
      case round =>
        clear hown4 hy hB4
        obtain ⟨k, hk, rfl, hown, hz, hbel⟩ := hrel
        have hsz := hbel.size
        by_cases hlt : k < D.length
        · obtain ⟨b0, rfl, hbs, h1, h2⟩ := own_cells hz hlt
          have HLT := Lib.hid hown.lt
          go_wp2_with (first | (at_builtin; refine wpList_append_own _ rfl _ _ 32 rfl w.heap.size 99 i0 (.agg #[.bool false, .int .i64 0, .int .i64 0]) 3 24 Try.underlying32 hi hz0 hz1 hz2 rfl (by decide) _ _ _ rfl ((hown.alloc _).alloc _) ⟨wr.heap.size + 1, 0, none⟩ 1 1 [.bool true, .int .i64 D[k].1, .int .i64 D[k].2] rfl rfl (three_cells (by simp)) (move_oneCell _ _ _) (by simp [maxLen]; omega) (by omega) (by simp; omega) ?_; intro v' w1 hown' hgrow _))
          go_roundw
          case rel =>
            refine ⟨k + 1, by omega, by go_num, ?_, World.ownsRow.kept (World.ownsRow.alloc (World.ownsRow.alloc hz _) _) hgrow (owns_apart (by decide) hz hown), ((hbel.alloc hsz _).alloc (by simp; omega) _).grown hgrow (by simp; omega) (fun j h => (HLT.out j h).1)⟩
            rw [moves_take true hlt, ← List.append_assoc]
            exact hown'
          case measure => simp [intOf]; omega
        · have hkk : k = D.length := by omega
          subst hkk
          rw [List.take_length, ← moveCells_append] at hown
          have HE : Hid (diffL a b = C.map (Prod.mk false) ++ D.map (Prod.mk true)) := diffL_right HR.out HS.out HC.out HD.out
          go_wp2
          go_ret
          refine ⟨_, rfl, moveSl_of_owns (base := w.heap.size) (e := 99) ?_ HMR.out ?_, hbel⟩
          · rw [HE.out, List.length_append, List.length_map, List.length_map]; exact hown
          · rw [HE.out, List.length_append, List.length_map, List.length_map]; omega

set_option maxRecDepth 100000 in
set_option maxHeartbeats 4000000 in
theorem refdiff_any (v u : Value) (a b : List (Int × Int)) (w : World) (hv : SpanSl w v a) (hu : SpanSl w u b) :
    Calls Try.prog 34 #[v, u] w fun e w' => ∃ r, e = .returned r ∧ MoveSl w' r (diffL a b) ∧ Below w.heap.size w w' := by
  obtain ⟨i0, hi, hz0, hz1, hz2⟩ := info_parts Try.info99
  have HV := Lib.hid hv; clear hv
  have HU := Lib.hid hu; clear hu
  obtain ⟨r, hr⟩ : ∃ r, rightB a = r := ⟨_, rfl⟩
  have HR := Lib.hid hr; clear hr
  obtain ⟨s, hs⟩ : ∃ r, rightB b = r := ⟨_, rfl⟩
  have HS := Lib.hid hs; clear hs
  obtain ⟨C, hC⟩ : ∃ C, C = gone a b := ⟨_, rfl⟩
  obtain ⟨D, hD⟩ : ∃ C, C = gone b a := ⟨_, rfl⟩
  have hC4 : C.length ≤ 4096 := by rw [hC]; exact gone_len a b
  have hD4 : D.length ≤ 4096 := by rw [hD]; exact gone_len b a
  have HC := Lib.hid hC; clear hC
  have HD := Lib.hid hD; clear hD
  have HMR : Hid (∀ x ∈ diffL a b, inI64 x.2.1 ∧ inI64 x.2.2) := moves_range
  obtain ⟨W0, hW0⟩ : ∃ W, W = w.alloc (.cells #[] 99) := ⟨_, rfl⟩
  have hown0 : W0.ownsRow w.heap.size 99 3 (.slice (some ⟨w.heap.size, 0, none⟩) 0 0) 0 [] := by rw [hW0]; exact World.ownsRow_lit (e := 99) (size := 3) (base := w.heap.size) w #[] 0 (Nat.le_refl _) (by simp) rfl
  have hB0 : Below w.heap.size w W0 := by rw [hW0]; exact (Below.refl _ _).alloc (Nat.le_refl _) _
  go_enter Try.func34, Try.ntmps34
  go_wp2_with fail
  rw [← hW0]
  clear hW0
  refine (refright_is r _ a HR.out _ (HV.out.below hB0)).mono ?_
  rintro e w1 ⟨rfl, hb1⟩
  have hB1 := Below.step hB0 hB0.size hb1
  cases r with
  | false =>
    go_wp2
    go_ret
    refine ⟨_, rfl, ?_, hB1⟩
    rw [diffL_wrong (by rw [HR.out, HS.out]; first | rfl | (cases s <;> rfl))]
    exact moveSl_of_owns (l := []) (owns_below hown0 hb1) (by simp) (by simp)
  | true =>
  go_wp2_with fail
  refine (refright_is s _ b HS.out _ (HU.out.below hB1)).mono ?_
  rintro e w2 ⟨rfl, hb2⟩
  have hB2 := Below.step hB1 hB1.size hb2
  cases s with
  | false =>
    go_wp2
    go_ret
    refine ⟨_, rfl, ?_, hB2⟩
    rw [diffL_wrong (by rw [HR.out, HS.out]; first | rfl | (cases s <;> rfl))]
    exact moveSl_of_owns (l := []) (owns_below (owns_below hown0 hb1) hb2) (by simp) (by simp)
  | true =>
  go_wp2_with fail
  refine (mix1_own _ _ a b _ (HV.out.below hB2) (HU.out.below hB2) HR.out HS.out).mono ?_
  rw [← bitsR_right HR.out, ← bitsR_right HS.out, show (spansOf fun n => bitsR a n && !bitsR b n) = C from HC.out.symm]
  rintro e w3 ⟨z, rfl, hz, hb3⟩
  have hB3 := Below.step hB2 hB2.size hb3
  have hown3 := owns_below (owns_below (owns_below hown0 hb1) hb2) hb3
  replace hz := OwnSp.mono hz hB2.size
  obtain ⟨ao, cap, rfl⟩ := own_form hz
  go_wp2_with fail
  go_loopw [5, 24] (fun x i wr => ∃ k : Nat, k ≤ C.length ∧ i = .int .i64 k ∧ wr.ownsRow w.heap.size 99 3 x k (moveCells ((C.take k).map (Prod.mk false))) ∧ OwnSp wr w.heap.size (.slice ao C.length cap) C ∧ Below w.heap.size w wr)
    (fun _ i _ => C.length - (intOf i).toNat)
  case atStart => exact ⟨0, Nat.zero_le _, rfl, hown3, hz, hB3⟩
  case round =>
    clear hown3 hz hB3
    obtain ⟨k, hk, rfl, hown, hz, hbel⟩ := hrel
    have hsz := hbel.size
    by_cases hlt : k < C.length
    · obtain ⟨b0, rfl, hbs, h1, h2⟩ := own_cells hz hlt
      have HLT := Lib.hid hown.lt
      go_wp2_with (first | (at_builtin; refine wpList_append_own _ rfl _ _ 32 rfl w.heap.size 99 i0 (.agg #[.bool false, .int .i64 0, .int .i64 0]) 3 24 Try.underlying32 hi hz0 hz1 hz2 rfl (by decide) _ _ _ rfl ((hown.alloc _).alloc _) ⟨wr.heap.size + 1, 0, none⟩ 1 1 [.bool false, .int .i64 C[k].1, .int .i64 C[k].2] rfl rfl (three_cells (by simp)) (move_oneCell _ _ _) (by simp [maxLen]; omega) (by omega) (by simp; omega) ?_; intro v' w1 hown' hgrow _))
      go_roundw
      case rel =>
        refine ⟨k + 1, by omega, by go_num, ?_, World.ownsRow.kept (World.ownsRow.alloc (World.ownsRow.alloc hz _) _) hgrow (owns_apart (by decide) hz hown), ((hbel.alloc hsz _).alloc (by simp; omega) _).grown hgrow (by simp; omega) (fun j h => (HLT.out j h).1)⟩
        rw [moves_take false hlt]
        exact hown'
      case measure => simp [intOf]; omega
    · have hkk : k = C.length := by omega
      subst hkk
      rw [List.take_length] at hown
      go_wp2_with fail
      refine (mix1_own _ _ b a _ (HU.out.below hbel) (HV.out.below hbel) HS.out HR.out).mono ?_
      rw [← bitsR_right HS.out, ← bitsR_right HR.out, show (spansOf fun n => bitsR b n && !bitsR a n) = D from HD.out.symm]
      rintro e w4 ⟨y, rfl, hy, hb4⟩
      have hB4 := Below.step hbel hsz hb4
      have hown4 := owns_below hown hb4
      replace hy := OwnSp.mono hy hsz
      obtain ⟨ao2, cap2, rfl⟩ := own_form hy
      clear hown hz hbel
      go_wp2_with fail
      go_loopw [5, 38] (fun x i wr => ∃ k : Nat, k ≤ D.length ∧ i = .int .i64 k ∧ wr.ownsRow w.heap.size 99 3 x (C.length + k) (moveCells (C.map (Prod.mk false)) ++ moveCells ((D.take k).map (Prod.mk true))) ∧ OwnSp wr w.heap.size (.slice ao2 D.length cap2) D ∧ Below w.heap.size w wr)
        (fun _ i _ => D.length - (intOf i).toNat)
      case atStart => exact ⟨0, Nat.zero_le _, rfl, by simpa [moveCells] using hown4, hy, hB4⟩
      case round =>
        clear hown4 hy hB4
        obtain ⟨k, hk, rfl, hown, hz, hbel⟩ := hrel
        have hsz := hbel.size
        by_cases hlt : k < D.length
        · obtain ⟨b0, rfl, hbs, h1, h2⟩ := own_cells hz hlt
          have HLT := Lib.hid hown.lt
          go_wp2_with (first | (at_builtin; refine wpList_append_own _ rfl _ _ 32 rfl w.heap.size 99 i0 (.agg #[.bool false, .int .i64 0, .int .i64 0]) 3 24 Try.underlying32 hi hz0 hz1 hz2 rfl (by decide) _ _ _ rfl ((hown.alloc _).alloc _) ⟨wr.heap.size + 1, 0, none⟩ 1 1 [.bool true, .int .i64 D[k].1, .int .i64 D[k].2] rfl rfl (three_cells (by simp)) (move_oneCell _ _ _) (by simp [maxLen]; omega) (by omega) (by simp; omega) ?_; intro v' w1 hown' hgrow _))
          go_roundw
          case rel =>
            refine ⟨k + 1, by omega, by go_num, ?_, World.ownsRow.kept (World.ownsRow.alloc (World.ownsRow.alloc hz _) _) hgrow (owns_apart (by decide) hz hown), ((hbel.alloc hsz _).alloc (by simp; omega) _).grown hgrow (by simp; omega) (fun j h => (HLT.out j h).1)⟩
            rw [moves_take true hlt, ← List.append_assoc]
            exact hown'
          case measure => simp [intOf]; omega
        · have hkk : k = D.length := by omega
          subst hkk
          rw [List.take_length, ← moveCells_append] at hown
          have HE : Hid (diffL a b = C.map (Prod.mk false) ++ D.map (Prod.mk true)) := diffL_right HR.out HS.out HC.out HD.out
          go_wp2
          go_ret
          refine ⟨_, rfl, moveSl_of_owns (base := w.heap.size) (e := 99) ?_ HMR.out ?_, hbel⟩
          · rw [HE.out, List.length_append, List.length_map, List.length_map]; exact hown
          · rw [HE.out, List.length_append, List.length_map, List.length_map]; omega

set_option maxRecDepth 100000 in
theorem condense_any (u : Value) (b : List (Int × Int)) (w : World) (hu : SpanSl w u b) :
    Calls Try.prog 35 #[u] w fun e w' => ∃ r, e = .returned r ∧ MoveSl w' r (diffL [] b) ∧ Below w.heap.size w w' := by
  have HU := Lib.hid hu; clear hu
  go_enter Try.func35, Try.ntmps35
  go_wp2_with fail
  refine (diff_any _ _ [] b _ (spanSl_nil _) HU.out).mono ?_
  rintro e w1 ⟨r, rfl, hr, hb1⟩
  go_wp2
  go_ret
  exact ⟨_, rfl, hr, hb1⟩

end Go.Proofs.Ytaeklmnleampcaa
