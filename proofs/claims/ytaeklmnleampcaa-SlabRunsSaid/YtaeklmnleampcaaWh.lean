/- Callers of the iterator: List, Has; and First. -/
import Derived.Test.YtaeklmnleampcaaWg
namespace Go.Proofs.Ytaeklmnleampcaa
open Go.RowKit Go.Shelf

attribute [local go_sem] Oper.semAt_some

theorem countR_seq (l : List (Int × Int)) : countR l = ((seqOf l).length : Int) := by
  unfold countR
  by_cases h : rightB l = true
  · rw [if_pos h, seqOf_right h, List.length_map]; exact countS_eq h
  · rw [if_neg h, seqOf_wrong (by simpa using h)]; rfl

theorem count_is (m : Int) (v : Value) (l : List (Int × Int)) (w : World) (hm : countR l = m) (hv : SpanSl w v l) :
    Calls Try.prog 43 #[v] w fun e w' => e = .returned (.int .i64 m) ∧ Below w.heap.size w w' := by subst hm; exact count_any v l w hv

theorem seqOf_length_le (l : List (Int × Int)) : (seqOf l).length ≤ 4097 := by
  have h := countR_seq l
  by_cases hr : rightB l = true
  · have := countS_le hr; unfold countR at h; rw [if_pos hr] at h; omega
  · rw [seqOf_wrong (by simpa using hr)]; simp

def finCells (l : List (Fin 4096)) : List Value := l.map fun x => .int .i64 (x.val : Int)

theorem intSl_put {k : IntKind} {W : World} {v : Value} {l : List Int} {D : Nat} {o : Obj} (h : IntSl k W v l) (hK : W.heap[D]? = some o) (hc : o.isCells = false) (o' : Obj) : IntSl k (W.putObj D o') v l := by
  obtain ⟨ao, cap, h1, h2, h3, h4⟩ := h
  refine ⟨ao, cap, h1, h2, h3, fun hl => ?_⟩
  obtain ⟨b, o2, h5, h6, h7⟩ := h4 hl
  have hg := grownBy_putObj' W D o'
  have hr : ∀ r, some D = some r → ∃ o : Obj, W.heap[r]? = some o ∧ o.isCells = false := fun r e => by cases e; exact ⟨o, hK, hc⟩
  exact ⟨b, o2, h5, Nat.lt_of_lt_of_le h6 hg.size, fun j hj => cell_kept (h7 j hj) hg hr⟩

theorem Kept.grown {n0 n1 : Nat} {A W W' : World} {row : Option Nat} (h : Kept n0 n1 A W) (hg : W.grownBy W' row) (h0 : n0 ≤ W.heap.size) (hr : ∀ k, row = some k → n0 ≤ k ∧ k < n1) : Kept n0 n1 A W' :=
  ⟨h.below.grown hg h0 (fun k e => (hr k e).1), fun k o hk ho hc => (hg.block k (Array.getElem?_eq_some_iff.1 (h.rows k o hk ho hc)).1 (fun e => by have := (hr k e.symm).2; omega)).trans (h.rows k o hk ho hc)⟩

/-- The numbers of a set as its List hands them back. -/
def listR (l : List (Int × Int)) : List Int := (seqOf l).map fun x => (x.val : Int)

theorem finCells_snoc (l : List (Fin 4096)) (x : Fin 4096) : finCells (l ++ [x]) = finCells l ++ [.int .i64 (x.val : Int)] := by simp [finCells]

theorem wf_fin (x : Fin 4096) : (Lit.int .i64 (x.val : Int)).wf = true := WalkArith.wf_i64 (by have := x.isLt; omega)

set_option maxRecDepth 100000 in
set_option maxHeartbeats 4000000 in
theorem list_in (v : Value) (l : List (Int × Int)) (w : World) (hv : SpanSl w v l) :
    CallsIn Fence.wide 5 Try.prog 44 #[v] w fun e w' => ∃ r, e = .returned r ∧ IntSl .i64 w' r (listR l) ∧ Below w.heap.size w w' := by
  have hv0 := hv
  obtain ⟨ao, acap, rfl, _, _, _⟩ := hv
  have HV := Lib.hid hv0; clear hv0
  obtain ⟨i0, hi, hz0, hz1, hz2⟩ := info_parts Try.info3
  have hcap := seqOf_length_le l
  refine callsIn_of_wp_marks Try.func44 rfl trivial ?_ rfl
  simp only [Try.ntmps44, List.size_toArray, List.length_cons, List.length_nil, Nat.reduceAdd, Nat.reduceSub, Array.replicate_succ, Array.replicate_zero, List.push_toArray, List.append_toArray, List.nil_append, List.cons_append]
  gi_wp2_with (first | (refine ⟨trivial, ?_⟩; gi_at_call 43; refine (callsIn_wide.2 (count_is _ _ _ _ (countR_seq l) HV.out)).mono ?_; rintro e w1 ⟨rfl, hb1⟩) | (refine ⟨trivial, ?_⟩; gi_at_call 80; refine (callsIn_wide.2 (each_any _ _ _ _)).mono ?_; rintro e w' ⟨rfl, rfl⟩) | (gi_at_make; refine wpListIn_make_own _ rfl _ _ 23 rfl w1.heap.size 3 i0 (.int .i64 0) 1 Try.underlying23 hi hz0 hz1 .i64 .i64 _ (seqOf l).length rfl rfl rfl (by rw [hz2]; omega) (by unfold maxLen; omega) (Nat.le_refl _) ?_; intro w2 hown hgrow))
  have hb1s := hb1.size
  have hgs := hgrow.size
  have hb2 : Below w.heap.size w w2 := hb1.grown hgrow (by omega) (fun k e => by cases e)
  have hgl := (hown.lt w1.heap.size rfl).2
  obtain ⟨W0, hW0⟩ : ∃ W0, W0 = w2.alloc (.cells #[.slice (some ⟨w1.heap.size, 0, none⟩) 0 (seqOf l).length] 23) := ⟨_, rfl⟩
  have hs0 : W0.heap.size = w2.heap.size + 1 := by rw [hW0]; simp
  have hbx0 : Boxed W0 w2.heap.size 23 (.slice (some ⟨w1.heap.size, 0, none⟩) 0 (seqOf l).length) := by rw [hW0]; exact Boxed.new _ _ _
  have ho0 : W0.ownsRow w1.heap.size 3 1 (.slice (some ⟨w1.heap.size, 0, none⟩) 0 (seqOf l).length) 0 [] := by rw [hW0]; exact hown.alloc _
  have hB0 : Below w.heap.size w W0 := by rw [hW0]; exact hb2.alloc (by omega) _
  rw [← hW0]
  obtain ⟨W1, hW1⟩ : ∃ W1, W1 = W0.alloc (.cells #[.slice ao l.length acap] 22) := ⟨_, rfl⟩
  have hcb : W1.cell? ⟨w2.heap.size + 1, 0, none⟩ = some (.slice ao l.length acap) := by rw [hW1, ← hs0]; exact World.cell?_alloc_at _ _ _ _ rfl
  have hs1 : W1.heap.size = w2.heap.size + 2 := by rw [hW1]; simp; omega
  have hbx1 : Boxed W1 w2.heap.size 23 (.slice (some ⟨w1.heap.size, 0, none⟩) 0 (seqOf l).length) := by rw [hW1]; exact hbx0.alloc _
  have ho1 : W1.ownsRow w1.heap.size 3 1 (.slice (some ⟨w1.heap.size, 0, none⟩) 0 (seqOf l).length) 0 [] := by rw [hW1]; exact ho0.alloc _
  have hB1 : Below w.heap.size w W1 := by rw [hW1]; exact hB0.alloc (by omega) _
  rw [← hW1]
  clear hW0 hW1 hbx0 ho0 hB0 hown hgrow
  refine wpIn_rangeFunc_ownF rfl (by omega) (gf := 90) (lb := #[.pointer (some ⟨w2.heap.size + 1, 0, none⟩)]) rfl trivial (enters_of Try.func90 (by kernel_rfl) rfl)
    (each_stops 4 (w2.heap.size + 1) _ l w W1 HV.out hB1 hcb) Kept.trans (Kept.book (by omega)) (Below.refl _ _) (fun _ => rfl)
    (fun pre W => (∃ v, Boxed W w2.heap.size 23 v ∧ W.ownsRow w1.heap.size 3 1 v pre.length (finCells pre) ∧ v = .slice (some ⟨w1.heap.size, 0, none⟩) pre.length (seqOf l).length) ∧ Below w.heap.size w W)
    (fun _ _ _ => False)
    (OwnFrom.and (Own.from (holdsRow_own w1.heap.size w2.heap.size 23 3 1 (fun pre => pre.length) (fun pre => finCells pre) (fun pre v => v = .slice (some ⟨w1.heap.size, 0, none⟩) pre.length (seqOf l).length)) _) (ownFrom_below (Nat.le_refl _) (by omega)))
    (fun _ _ _ _ _ hs _ _ => hs)
    ⟨⟨_, hbx1, ho1, rfl⟩, hB1⟩
    (fun x => { tmps := #[.slice ao l.length acap, undef, .slice none 0 0, .pointer (some ⟨w2.heap.size, 0, none⟩), .int .i64 (x.val : Int), .slice ao l.length acap, .int .i64 ((seqOf l).length : Int), .slice (some ⟨w1.heap.size, 0, none⟩) 0 (seqOf l).length, .slice ao l.length acap, .func (.func 90) #[] #[.pointer (some ⟨w2.heap.size + 1, 0, none⟩)], .int .i64 (x.val : Int), undef, undef, undef, undef, undef], defers := [] }) ?assign ?body ?done ?stop
  case assign =>
    intro lp x W K hK
    gi_wp2
    exact hK
  case body =>
    rintro lp pre x W ⟨⟨v, hv, hown, rfl⟩, hB⟩ hlen
    have hBs := hB.size
    have hvc := hv.cell
    have hvf := hv.frozen
    have hne := hv.not_row (by decide) hown
    have hgl := hown.lt w1.heap.size rfl
    gi_wp2_with (first | (gi_at_builtin; refine wpListIn_append_fits _ rfl _ _ 23 rfl w1.heap.size 3 i0 1 Try.underlying23 hi hz1 w1.heap.size pre.length (seqOf l).length (finCells pre) rfl (hown.alloc _) ⟨W.heap.size, 0, none⟩ 1 1 [.int .i64 (x.val : Int)] rfl rfl (cell_one_new _ _ _) (by simp [Value.oneCell']) hlen ?_; intro w3 hown3 hgrow3; obtain ⟨q1, q2, q3, q4, q5⟩ := hv.appended (by decide) hown (Nat.le_trans (by omega) (Nat.le_of_lt hgl.2)) (by omega) hown3 hgrow3; have hc3 := q1.cell; have hf3 := q1.frozen))
    refine ⟨q4, ?_, ⟨⟨_, q2, ?_, ?_⟩, Below.trans hB (q5.mono (by omega))⟩⟩
    · exact ((((Kept.refl w.heap.size W1.heap.size W).grown (World.grownBy_alloc W _ none) hBs (fun k e => by cases e)).grown hgrow3 (by simp; omega) (fun k e => by cases e; omega)).trans (Kept.setCell (a := ⟨w2.heap.size, 0, none⟩) _ (by show w.heap.size ≤ w2.heap.size; omega) (by show w2.heap.size < W1.heap.size; omega)))
    · rw [List.length_append, finCells_snoc]; exact q3
    · rw [List.length_append]; rfl
  case done =>
    rintro D ys W hD rfl ⟨⟨v, hv, hown, rfl⟩, hB⟩ hK
    have hvc := hv.cell
    have hDW : D < W.heap.size := (Array.getElem?_eq_some_iff.1 hK).1
    gi_wp2
    refine ⟨by simp, .inl ⟨_, _, rfl, run_takeDeferred hK, ?_⟩⟩
    refine ⟨_, results_tmp rfl _ _ _, _, rfl, ?_, hB.trans (belowK_b (w := w) (Nat.le_refl _) W D _ _ (by omega) hK rfl rfl)⟩
    refine intSl_put (intSl_of_owns (l := listR l) (e := 3) (base := w1.heap.size) ?_ ?_ ?_) hK rfl _
    · unfold listR
      rw [List.length_map, List.map_map]
      exact hown
    · intro x hx
      unfold listR at hx
      obtain ⟨y, _, rfl⟩ := List.mem_map.1 hx
      exact wf_fin y
    · unfold listR; rw [List.length_map]; omega
  case stop =>
    rintro D c pre W _ _ h _
    exact h.elim


theorem list_any (v : Value) (l : List (Int × Int)) (w : World) (hv : SpanSl w v l) :
    Calls Try.prog 44 #[v] w fun e w' => ∃ r, e = .returned r ∧ IntSl .i64 w' r (listR l) ∧ Below w.heap.size w w' := callsIn_wide.1 (list_in v l w hv)

/-- Is a number among those that the iterator hands out? -/
def hasR (l : List (Int × Int)) (n : Int) : Bool := decide (n ∈ listR l)

theorem listR_rise (l : List (Int × Int)) : (listR l).Pairwise (· < ·) := by
  unfold listR
  by_cases h : rightB l = true
  · rw [seqOf_vals h]; exact numsOf_rise h
  · rw [seqOf_wrong (by simpa using h)]; simp

theorem hasR_stop {l : List (Int × Int)} {p : List (Fin 4096)} {x : Fin 4096} {n : Int} (h : p ++ [x] <+: seqOf l) (hp : ∀ y ∈ p, (y.val : Int) < n) (hx : n ≤ (x.val : Int)) : hasR l n = ((x.val : Int) == n) := by
  obtain ⟨r, hr⟩ := h
  have hl : listR l = p.map (fun x => (x.val : Int)) ++ (x.val : Int) :: r.map (fun x => (x.val : Int)) := by
    unfold listR; rw [← hr]; simp
  have hs := listR_rise l
  rw [hl, List.pairwise_append, List.pairwise_cons] at hs
  unfold hasR
  rw [hl, Bool.eq_iff_iff, decide_eq_true_eq, beq_iff_eq]
  constructor
  · intro hm
    rcases List.mem_append.1 hm with h1 | h1
    · obtain ⟨y, hy, e⟩ := List.mem_map.1 h1
      have := hp y hy; omega
    · rcases List.mem_cons.1 h1 with h2 | h2
      · exact h2.symm
      · have := hs.2.1.1 n h2; omega
  · intro e; rw [← e]; exact List.mem_append.2 (.inr (List.mem_cons_self ..))

theorem hasR_none {l : List (Int × Int)} {n : Int} (hp : ∀ y ∈ seqOf l, (y.val : Int) < n) : hasR l n = false := by
  unfold hasR
  rw [decide_eq_false_iff_not]
  intro hm
  obtain ⟨y, hy, e⟩ := List.mem_map.1 hm
  have := hp y hy; omega

set_option maxRecDepth 100000 in
set_option maxHeartbeats 4000000 in
theorem has_in (v : Value) (l : List (Int × Int)) (n : Int) (w : World) (hv : SpanSl w v l) :
    CallsIn Fence.wide 5 Try.prog 46 #[v, .int .i64 n] w fun e w' => e = .returned (.bool (hasR l n)) ∧ Below w.heap.size w w' := by
  have hv0 := hv
  obtain ⟨ao, acap, rfl, _, _, _⟩ := hv
  have HV := Lib.hid hv0; clear hv0
  refine callsIn_of_wp_marks Try.func46 rfl trivial ?_ rfl
  simp only [Try.ntmps46, List.size_toArray, List.length_cons, List.length_nil, Nat.reduceAdd, Nat.reduceSub, Array.replicate_succ, Array.replicate_zero, List.push_toArray, List.append_toArray, List.nil_append, List.cons_append]
  gi_wp2_with (first | (refine ⟨trivial, ?_⟩; gi_at_call 80; refine (callsIn_wide.2 (each_any _ _ _ _)).mono ?_; rintro e w' ⟨rfl, rfl⟩))
  obtain ⟨Wa, hWa⟩ : ∃ W0, W0 = w.alloc (.cells #[.int .i64 n] 3) := ⟨_, rfl⟩
  have hsa : Wa.heap.size = w.heap.size + 1 := by rw [hWa]; simp
  have hba : Boxed Wa w.heap.size 3 (.int .i64 n) := by rw [hWa]; exact Boxed.new _ _ _
  have hBa : Below w.heap.size w Wa := by rw [hWa]; exact (Below.refl _ _).alloc (Nat.le_refl _) _
  rw [← hWa]
  obtain ⟨W0, hW0⟩ : ∃ W0, W0 = Wa.alloc (.cells #[.bool false] 4) := ⟨_, rfl⟩
  have hs0 : W0.heap.size = w.heap.size + 2 := by rw [hW0]; simp; omega
  have hb0 : Boxed W0 w.heap.size 3 (.int .i64 n) := by rw [hW0]; exact hba.alloc _
  have hq0 : Boxed W0 (w.heap.size + 1) 4 (.bool false) := by rw [hW0, ← hsa]; exact Boxed.new _ _ _
  have hB0 : Below w.heap.size w W0 := by rw [hW0]; exact hBa.alloc (by omega) _
  rw [← hW0]
  obtain ⟨W1, hW1⟩ : ∃ W1, W1 = W0.alloc (.cells #[.slice ao l.length acap] 22) := ⟨_, rfl⟩
  have hcb : W1.cell? ⟨w.heap.size + 2, 0, none⟩ = some (.slice ao l.length acap) := by rw [hW1, ← hs0]; exact World.cell?_alloc_at _ _ _ _ rfl
  have hs1 : W1.heap.size = w.heap.size + 3 := by rw [hW1]; simp; omega
  have hb1 : Boxed W1 w.heap.size 3 (.int .i64 n) := by rw [hW1]; exact hb0.alloc _
  have hq1 : Boxed W1 (w.heap.size + 1) 4 (.bool false) := by rw [hW1]; exact hq0.alloc _
  have hB1 : Below w.heap.size w W1 := by rw [hW1]; exact hB0.alloc (by omega) _
  rw [← hW1]
  clear hWa hW0 hW1 hba hBa hb0 hq0 hB0
  refine wpIn_rangeFunc_ownF rfl (by omega) (gf := 90) (lb := #[.pointer (some ⟨w.heap.size + 1 + 1, 0, none⟩)]) rfl trivial (enters_of Try.func90 (by kernel_rfl) rfl)
    (each_stops 4 (w.heap.size + 2) _ l w W1 HV.out hB1 hcb) Kept.trans (Kept.book (by omega)) (Below.refl _ _) (fun _ => rfl)
    (fun pre W => (Hid (∀ y ∈ pre, (y.val : Int) < n) ∧ Boxed W w.heap.size 3 (.int .i64 n) ∧ Boxed W (w.heap.size + 1) 4 (.bool false)) ∧ Below w.heap.size w W)
    (fun c pre W => (Hid (c = .ret ∧ ∃ p x, pre = p ++ [x] ∧ (∀ y ∈ p, (y.val : Int) < n) ∧ n ≤ (x.val : Int)) ∧ Boxed W (w.heap.size + 1) 4 (.bool (match pre.getLast? with | some x => (x.val : Int) == n | none => false))) ∧ Below w.heap.size w W)
    (OwnFrom.and (OwnFrom.and (ownFrom_pure _ _) (OwnFrom.and (Own.from (boxed_own _ _ fun _ => .int .i64 n) _) (Own.from (boxed_own _ _ fun _ => .bool false) _))) (ownFrom_below (Nat.le_refl _) (by omega)))
    (fun c => OwnFrom.and (OwnFrom.and (ownFrom_pure _ _) (Own.from (boxed_own _ _ fun pre : List (Fin 4096) => .bool (match pre.getLast? with | some x => (x.val : Int) == n | none => false)) _)) (ownFrom_below (Nat.le_refl _) (by omega)))
    ⟨⟨fun y hy => by simp at hy, hb1, hq1⟩, hB1⟩
    (fun x => { tmps := #[.slice ao l.length acap, .int .i64 n, undef, .pointer (some ⟨w.heap.size, 0, none⟩), .pointer (some ⟨w.heap.size + 1, 0, none⟩), .int .i64 (x.val : Int), .slice ao l.length acap, .func (.func 90) #[] #[.pointer (some ⟨w.heap.size + 1 + 1, 0, none⟩)], .int .i64 (x.val : Int), undef, undef, undef, undef, undef, undef], defers := [] }) ?assign ?body ?done ?stop
  case assign =>
    intro lp x W K hK
    gi_wp2
    exact hK
  case body =>
    rintro lp pre x W ⟨⟨hp, hb, hq⟩, hB⟩ _
    have hbc := hb.cell
    have hqc := hq.cell
    have hqf := hq.frozen
    by_cases hx : n ≤ (x.val : Int)
    · gi_wp2
      refine ⟨KeepsOthers.setCell _ _ _, ⟨⟨rfl, pre, x, rfl, hp.out, hx⟩, ?_⟩, hB.setCell (p := ⟨w.heap.size + 1, 0, none⟩) (by show w.heap.size ≤ w.heap.size + 1; omega) _⟩
      have := hq.set (.bool ((x.val : Int) == n))
      simpa using this
    · gi_wp2
      exact ⟨KeepsOthers.refl _, Kept.refl _ _ _, ⟨fun y hy => (List.mem_append.1 hy).elim (hp.out y) (fun e => by simp at e; subst e; omega), hb, hq⟩, hB⟩
  case done =>
    rintro D ys W hD rfl ⟨⟨hne, _, hq⟩, hB⟩ hK
    have hqc := hq.cell
    have hqf := hq.frozen
    gi_wp2
    have hK' := (KeepsOthers.setCell W ⟨w.heap.size + 1, 0, none⟩ (.bool false)).same D _ hK rfl
    refine ⟨by simp, .inl ⟨_, _, rfl, run_takeDeferred hK', ?_⟩⟩
    have hc5 := cell_kept (hq.set (.bool false)).cell (grownBy_putObj' _ D (.deferred none)) (fun r e => by cases e; exact ⟨_, hK', rfl⟩)
    refine ⟨.bool false, ?_, by rw [hasR_none hne.out], (hB.setCell (p := ⟨w.heap.size + 1, 0, none⟩) (by simp) _).trans (belowK_b (w := w) (Nat.le_refl _) _ D _ _ (by omega) hK' rfl rfl)⟩
    simp [results, Try.f46, go_sem, hc5]
  case stop =>
    rintro D c pre W hD hpre ⟨⟨hpp, hq⟩, hB⟩ hK
    obtain ⟨rfl, p, x, rfl, hlt, hge⟩ := hpp.out
    rw [List.getLast?_append] at hq
    simp only [List.getLast?_singleton, Option.some_or] at hq
    gi_wp2
    refine ⟨by simp, .inl ⟨_, _, rfl, run_takeDeferred hK, ?_⟩⟩
    have hc5 := cell_kept hq.cell (grownBy_putObj' _ D (.deferred none)) (fun r e => by cases e; exact ⟨_, hK, rfl⟩)
    refine ⟨.bool ((x.val : Int) == n), ?_, by rw [hasR_stop hpre hlt hge], hB.trans (belowK_b (w := w) (Nat.le_refl _) W D _ _ (by omega) hK rfl rfl)⟩
    simp [results, Try.f46, go_sem, hc5]

theorem has_any (v : Value) (l : List (Int × Int)) (n : Int) (w : World) (hv : SpanSl w v l) :
    Calls Try.prog 46 #[v, .int .i64 n] w fun e w' => e = .returned (.bool (hasR l n)) ∧ Below w.heap.size w w' := callsIn_wide.1 (has_in v l n w hv)

end Go.Proofs.Ytaeklmnleampcaa
