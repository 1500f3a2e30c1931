/- Callers of the iterator: mark, Join, Cut, Both. -/
import Derived.Test.YtaeklmnleampcaaWe
import Derived.Test.YtaeklmnleampcaaWd
namespace Go.Proofs.Ytaeklmnleampcaa
open Go.RowKit Go.Shelf

attribute [local go_sem] Oper.semAt_some

theorem rowAt_own {β : Type} (b : Nat) (t : TypeId) (n : Nat) (f : β → Nat → Value) : Own (fun s W => RowAt W b t n (f s)) := by
  intro s W W' row hs hg hr
  refine hs.grown hg (fun e => ?_)
  obtain ⟨o, ho, hc⟩ := hr b e
  rw [show W.heap[b]? = _ from hs] at ho
  cases ho
  cases hc

def marksF (pre : List (Fin 4096)) : Nat → Bool := fun n => pre.any fun x => x.val == n

theorem marksF_snoc (pre : List (Fin 4096)) (x : Fin 4096) (n : Nat) : marksF (pre ++ [x]) n = if n = x.val then true else marksF pre n := by
  unfold marksF
  rw [List.any_append]
  by_cases h : n = x.val
  · subst h; simp
  · have h' : (x.val == n) = false := by simpa using fun e : x.val = n => h e.symm
    simp [h, h']

theorem marksF_seqOf (l : List (Int × Int)) {n : Nat} (hn : n < 4096) : marksF (seqOf l) n = bitsR l n := by
  rw [Bool.eq_iff_iff, ← seqOf_bitsR l hn]
  unfold marksF
  rw [List.any_eq_true]
  constructor
  · rintro ⟨x, hx, e⟩
    have : x = ⟨n, hn⟩ := Fin.ext (by simpa using e)
    exact this ▸ hx
  · intro h; exact ⟨_, h, by simp⟩

set_option maxRecDepth 100000 in
set_option maxHeartbeats 2000000 in
/-- mark: the numbers of a set, noted in new memory. -/
theorem mark_in (v : Value) (l : List (Int × Int)) (w : World) (hv : SpanSl w v l) :
    CallsIn Fence.wide 5 Try.prog 81 #[v] w fun e w' => e = .returned (.pointer (some ⟨w.heap.size, 0, none⟩)) ∧ RowAt w' w.heap.size 97 4096 (boolsF (bitsR l)) ∧ Below w.heap.size w w' := by
  have hv0 := hv
  obtain ⟨ao, cap, rfl, hlen, hb, hc⟩ := hv
  clear hc hb
  have HV := Lib.hid hv0; clear hv0
  refine callsIn_of_wp_marks Try.func81 rfl trivial ?_ rfl
  simp only [Try.ntmps81, List.size_toArray, List.length_cons, List.length_nil, Nat.reduceAdd, Nat.reduceSub, Array.replicate_succ, Array.replicate_zero, List.push_toArray, List.append_toArray, List.nil_append, List.cons_append]
  gi_wp2_with ((refine ⟨trivial, ?_⟩; gi_at_call 80; refine (callsIn_wide.2 (each_any _ _ _ _)).mono ?_; rintro e w' ⟨rfl, rfl⟩))
  obtain ⟨W0, hW0⟩ : ∃ W0, W0 = w.alloc (.cells Try.zeroCells97 97) := ⟨_, rfl⟩
  have hr0 : RowAt W0 w.heap.size 97 4096 (boolsF fun _ => false) := by rw [hW0, zero97]; exact RowAt.alloc _ _ _ _
  have hs0 : W0.heap.size = w.heap.size + 1 := by rw [hW0]; simp
  have hB0 : Below w.heap.size w W0 := by rw [hW0]; exact (Below.refl _ _).alloc (Nat.le_refl _) _
  rw [← hW0]
  obtain ⟨W1, hW1⟩ : ∃ W1, W1 = W0.alloc (.cells #[.slice ao l.length cap] 22) := ⟨_, rfl⟩
  have hcb : W1.cell? ⟨W0.heap.size, 0, none⟩ = some (.slice ao l.length cap) := by rw [hW1]; exact World.cell?_alloc_at _ _ _ _ rfl
  have hs1 : W1.heap.size = w.heap.size + 2 := by rw [hW1]; simp; omega
  have hB1 : Below w.heap.size w W1 := by rw [hW1]; exact hB0.alloc (by omega) _
  have hr1 : RowAt W1 w.heap.size 97 4096 (boolsF fun _ => false) := by rw [hW1]; exact hr0.alloc_old _
  rw [← hW1]
  rw [hs0] at hcb
  try rw [hs0]
  clear hW0 hW1
  refine wpIn_rangeFunc_ownF rfl (by omega) (gf := 90) (lb := #[.pointer (some ⟨w.heap.size + 1, 0, none⟩)]) rfl trivial (enters_of Try.func90 (by kernel_rfl) rfl)
    (each_stops 4 (w.heap.size + 1) _ l w W1 HV.out hB1 hcb) Kept.trans (Kept.book (by omega)) (Below.refl _ _) (fun _ => rfl)
    (fun pre W => RowAt W w.heap.size 97 4096 (boolsF (marksF pre)) ∧ Below w.heap.size w W)
    (fun _ _ _ => False)
    (OwnFrom.and (Own.from (rowAt_own _ _ _ _) _) (ownFrom_below (Nat.le_refl _) (by omega)))
    (fun _ _ _ _ _ hs _ _ => hs)
    ⟨hr1.congr (fun i _ => rfl), hB1⟩
    (fun x => { tmps := #[.slice ao l.length cap, undef, .pointer none, .pointer (some ⟨w.heap.size, 0, none⟩), .int .i64 (x.val : Int), .slice ao l.length cap, .func (.func 90) #[] #[.pointer (some ⟨w.heap.size + 1, 0, none⟩)], .int .i64 (x.val : Int), undef, undef], defers := [] }) ?assign ?body ?done ?stop
  case assign =>
    intro lp x W K hK
    gi_wp2
    exact hK
  case body =>
    rintro lp pre x W ⟨hr, hB⟩ _
    have hc1 := hr.cell x.isLt
    have hf1 := hr.frozen x.val
    simp only [boolsF] at hc1
    have hx1 : (x.val : Int) < (4096 : Int) := by have := x.isLt; omega
    gi_wp2
    exact ⟨KeepsOthers.setCell _ _ _, Kept.setCell _ (Nat.le_refl _) (by show w.heap.size < W1.heap.size; omega), hr.setBool _ true (fun j _ => marksF_snoc pre x j), hB.setCell (p := ⟨w.heap.size, x.val, none⟩) (Nat.le_refl _) _⟩
  case done =>
    rintro D ys W hD rfl ⟨hr, hB⟩ hK
    gi_wp2
    refine ⟨by simp, .inl ⟨_, _, rfl, run_takeDeferred hK, ?_⟩⟩
    refine ⟨_, results_tmp rfl _ _ _, rfl, ?_, hB.trans (belowK_b (w := w) (Nat.le_refl _) W D _ _ (by omega) hK rfl rfl)⟩
    exact (hr.grown (grownBy_putObj' W D _) (fun e => by cases e; omega)).congr (fun i hi => by simp only [boolsF]; rw [marksF_seqOf l hi])
  case stop =>
    rintro D c pre W _ _ h _
    exact h.elim

theorem mark_any (v : Value) (l : List (Int × Int)) (w : World) (hv : SpanSl w v l) :
    Calls Try.prog 81 #[v] w fun e w' => e = .returned (.pointer (some ⟨w.heap.size, 0, none⟩)) ∧ RowAt w' w.heap.size 97 4096 (boolsF (bitsR l)) ∧ Below w.heap.size w w' :=
  callsIn_wide.1 (mark_in v l w hv)


theorem spanSl_put {W : World} {v : Value} {l : List (Int × Int)} {D : Nat} {o : Obj} (h : SpanSl W v l) (hK : W.heap[D]? = some o) (hc : o.isCells = false) (o' : Obj) : SpanSl (W.putObj D o') v l := by
  obtain ⟨ao, cap, h1, h2, h3, h4⟩ := h
  refine ⟨ao, cap, h1, h2, h3, fun hl => ?_⟩
  obtain ⟨b, o2, h5, h6, h7⟩ := h4 hl
  have hg := grownBy_putObj' W D o'
  have hr : ∀ r, some D = some r → ∃ o : Obj, W.heap[r]? = some o ∧ o.isCells = false := fun r e => by cases e; exact ⟨o, hK, hc⟩
  exact ⟨b, o2, h5, Nat.lt_of_lt_of_le h6 hg.size, fun k hk => ⟨cell_kept (h7 k hk).1 hg hr, cell_kept (h7 k hk).2 hg hr⟩⟩

set_option maxRecDepth 100000 in
set_option maxHeartbeats 4000000 in
theorem join_in (v u : Value) (l m : List (Int × Int)) (w : World) (hv : SpanSl w v l) (hu : SpanSl w u m) :
    CallsIn Fence.wide 5 Try.prog 52 #[v, u] w fun e w' => ∃ r, e = .returned r ∧ SpanSl w' r (spansOf (fun n => bitsR l n || bitsR m n)) ∧ Below w.heap.size w w' := by
  have hu0 := hu
  obtain ⟨uo, ucap, rfl, _, _, _⟩ := hu
  have HV := Lib.hid hv; clear hv
  have HU := Lib.hid hu0; clear hu0
  refine callsIn_of_wp_marks Try.func52 rfl trivial ?_ rfl
  simp only [Try.ntmps52, List.size_toArray, List.length_cons, List.length_nil, Nat.reduceAdd, Nat.reduceSub, Array.replicate_succ, Array.replicate_zero, List.push_toArray, List.append_toArray, List.nil_append, List.cons_append]
  gi_wp2_with (first | (refine ⟨trivial, ?_⟩; gi_at_call 81; refine (callsIn_wide.2 (mark_any _ _ _ HV.out)).mono ?_; rintro e w1 ⟨rfl, hr1, hb1⟩) | (refine ⟨trivial, ?_⟩; gi_at_call 80; refine (callsIn_wide.2 (each_any _ _ _ _)).mono ?_; rintro e w' ⟨rfl, rfl⟩))
  have hw1 := hr1.lt
  obtain ⟨W0, hW0⟩ : ∃ W0, W0 = w1.alloc (.cells #[.pointer (some ⟨w.heap.size, 0, none⟩)] 111) := ⟨_, rfl⟩
  have hs0 : W0.heap.size = w1.heap.size + 1 := by rw [hW0]; simp
  have hc0 : W0.cell? ⟨w1.heap.size, 0, none⟩ = some (.pointer (some ⟨w.heap.size, 0, none⟩)) := by rw [hW0]; exact World.cell?_alloc_at _ _ _ _ rfl
  have hr0 : RowAt W0 w.heap.size 97 4096 (boolsF (bitsR l)) := by rw [hW0]; exact hr1.alloc_old _
  have hB0 : Below w.heap.size w W0 := by rw [hW0]; exact hb1.alloc (by omega) _
  rw [← hW0]
  obtain ⟨W1, hW1⟩ : ∃ W1, W1 = W0.alloc (.cells #[.slice uo m.length ucap] 22) := ⟨_, rfl⟩
  have hcb : W1.cell? ⟨w1.heap.size + 1, 0, none⟩ = some (.slice uo m.length ucap) := by rw [hW1, ← hs0]; exact World.cell?_alloc_at _ _ _ _ rfl
  have hs1 : W1.heap.size = w1.heap.size + 2 := by rw [hW1]; simp; omega
  have hc1 : W1.cell? ⟨w1.heap.size, 0, none⟩ = some (.pointer (some ⟨w.heap.size, 0, none⟩)) := by rw [hW1, World.cell?_alloc_past _ _ _ (by omega)]; exact hc0
  have hr2 : RowAt W1 w.heap.size 97 4096 (boolsF (bitsR l)) := by rw [hW1]; exact hr0.alloc_old _
  have hB1 : Below w.heap.size w W1 := by rw [hW1]; exact hB0.alloc (by omega) _
  rw [← hW1]
  clear hW0 hW1 hr0 hc0 hB0 hr1
  refine wpIn_rangeFunc_ownF rfl (by omega) (gf := 90) (lb := #[.pointer (some ⟨w1.heap.size + 1, 0, none⟩)]) rfl trivial (enters_of Try.func90 (by kernel_rfl) rfl)
    (each_stops 4 (w1.heap.size + 1) _ m w W1 HU.out hB1 hcb) Kept.trans (Kept.book (by omega)) (Below.refl _ _) (fun _ => rfl)
    (fun pre W => (RowAt W w.heap.size 97 4096 (boolsF fun n => bitsR l n || marksF pre n) ∧ W.cell? ⟨w1.heap.size, 0, none⟩ = some (.pointer (some ⟨w.heap.size, 0, none⟩))) ∧ Below w.heap.size w W)
    (fun _ _ _ => False)
    (OwnFrom.and (OwnFrom.and (Own.from (rowAt_own _ _ _ fun pre => boolsF fun n => bitsR l n || marksF pre n) _) (Own.from (fun s A B row hs hg hr => cell_kept hs hg hr) _)) (ownFrom_below (Nat.le_refl _) (by omega)))
    (fun _ _ _ _ _ hs _ _ => hs)
    ⟨⟨hr2.congr (fun i _ => by simp [boolsF, marksF]), hc1⟩, hB1⟩
    (fun x => { tmps := #[v, .slice uo m.length ucap, undef, undef, .slice none 0 0, .pointer (some ⟨w1.heap.size, 0, none⟩), .int .i64 (x.val : Int), v, .pointer (some ⟨w.heap.size, 0, none⟩), .slice uo m.length ucap, .func (.func 90) #[] #[.pointer (some ⟨w1.heap.size + 1, 0, none⟩)], .int .i64 (x.val : Int), undef, undef, undef, undef, undef, undef], defers := [] }) ?assign ?body ?done ?stop
  case assign =>
    intro lp x W K hK
    gi_wp2
    exact hK
  case body =>
    rintro lp pre x W ⟨⟨hr, hc⟩, hB⟩ _
    have hx1 : (x.val : Int) < (4096 : Int) := by have := x.isLt; omega
    have hcx := hr.cell x.isLt
    have hfx := hr.frozen x.val
    simp only [boolsF] at hcx
    gi_wp2
    refine ⟨KeepsOthers.setCell _ _ _, Kept.setCell _ (Nat.le_refl _) (by show w.heap.size < W1.heap.size; omega), ⟨hr.setBool _ true (fun j _ => by rw [marksF_snoc]; by_cases h : j = x.val <;> simp [h]), ?_⟩, hB.setCell (p := ⟨w.heap.size, x.val, none⟩) (Nat.le_refl _) _⟩
    rw [World.cell?_of_block (heap_setCell_other W _ _ _ (by show w1.heap.size ≠ w.heap.size; omega))]
    exact hc
  case done =>
    rintro D ys W hD rfl ⟨⟨hr, hc⟩, hB⟩ hK
    have hr' : RowAt W w.heap.size 97 4096 (boolsF (fun n => bitsR l n || bitsR m n)) := hr.congr (fun i hi => by simp only [boolsF]; rw [marksF_seqOf m hi])
    have hDW : D < W.heap.size := (Array.getElem?_eq_some_iff.1 hK).1
    gi_wp2_with ((refine ⟨trivial, ?_⟩; gi_at_call 76; refine (callsIn_wide.2 (spans_any _ _ _ hr')).mono ?_; rintro e w3 ⟨r, rfl, hsr, hb3⟩))
    have hK3 := (hb3.block D hDW).trans hK
    refine ⟨by simp, .inl ⟨_, _, rfl, run_takeDeferred hK3, ?_⟩⟩
    exact ⟨_, results_tmp rfl _ _ _, r, rfl, spanSl_put hsr hK3 rfl _, (Below.step hB hB.size hb3).trans (belowK_b (w := w) (Nat.le_refl _) w3 D _ _ (by omega) hK3 rfl rfl)⟩
  case stop =>
    rintro D c pre W _ _ h _
    exact h.elim

set_option maxRecDepth 100000 in
set_option maxHeartbeats 4000000 in
theorem cut_in (v u : Value) (l m : List (Int × Int)) (w : World) (hv : SpanSl w v l) (hu : SpanSl w u m) :
    CallsIn Fence.wide 5 Try.prog 53 #[v, u] w fun e w' => ∃ r, e = .returned r ∧ SpanSl w' r (spansOf (fun n => bitsR l n && !bitsR m n)) ∧ Below w.heap.size w w' := by
  have hu0 := hu
  obtain ⟨uo, ucap, rfl, _, _, _⟩ := hu
  have HV := Lib.hid hv; clear hv
  have HU := Lib.hid hu0; clear hu0
  refine callsIn_of_wp_marks Try.func53 rfl trivial ?_ rfl
  simp only [Try.ntmps53, List.size_toArray, List.length_cons, List.length_nil, Nat.reduceAdd, Nat.reduceSub, Array.replicate_succ, Array.replicate_zero, List.push_toArray, List.append_toArray, List.nil_append, List.cons_append]
  gi_wp2_with (first | (refine ⟨trivial, ?_⟩; gi_at_call 81; refine (callsIn_wide.2 (mark_any _ _ _ HV.out)).mono ?_; rintro e w1 ⟨rfl, hr1, hb1⟩) | (refine ⟨trivial, ?_⟩; gi_at_call 80; refine (callsIn_wide.2 (each_any _ _ _ _)).mono ?_; rintro e w' ⟨rfl, rfl⟩))
  have hw1 := hr1.lt
  obtain ⟨W0, hW0⟩ : ∃ W0, W0 = w1.alloc (.cells #[.pointer (some ⟨w.heap.size, 0, none⟩)] 111) := ⟨_, rfl⟩
  have hs0 : W0.heap.size = w1.heap.size + 1 := by rw [hW0]; simp
  have hc0 : W0.cell? ⟨w1.heap.size, 0, none⟩ = some (.pointer (some ⟨w.heap.size, 0, none⟩)) := by rw [hW0]; exact World.cell?_alloc_at _ _ _ _ rfl
  have hr0 : RowAt W0 w.heap.size 97 4096 (boolsF (bitsR l)) := by rw [hW0]; exact hr1.alloc_old _
  have hB0 : Below w.heap.size w W0 := by rw [hW0]; exact hb1.alloc (by omega) _
  rw [← hW0]
  obtain ⟨W1, hW1⟩ : ∃ W1, W1 = W0.alloc (.cells #[.slice uo m.length ucap] 22) := ⟨_, rfl⟩
  have hcb : W1.cell? ⟨w1.heap.size + 1, 0, none⟩ = some (.slice uo m.length ucap) := by rw [hW1, ← hs0]; exact World.cell?_alloc_at _ _ _ _ rfl
  have hs1 : W1.heap.size = w1.heap.size + 2 := by rw [hW1]; simp; omega
  have hc1 : W1.cell? ⟨w1.heap.size, 0, none⟩ = some (.pointer (some ⟨w.heap.size, 0, none⟩)) := by rw [hW1, World.cell?_alloc_past _ _ _ (by omega)]; exact hc0
  have hr2 : RowAt W1 w.heap.size 97 4096 (boolsF (bitsR l)) := by rw [hW1]; exact hr0.alloc_old _
  have hB1 : Below w.heap.size w W1 := by rw [hW1]; exact hB0.alloc (by omega) _
  rw [← hW1]
  clear hW0 hW1 hr0 hc0 hB0 hr1
  refine wpIn_rangeFunc_ownF rfl (by omega) (gf := 90) (lb := #[.pointer (some ⟨w1.heap.size + 1, 0, none⟩)]) rfl trivial (enters_of Try.func90 (by kernel_rfl) rfl)
    (each_stops 4 (w1.heap.size + 1) _ m w W1 HU.out hB1 hcb) Kept.trans (Kept.book (by omega)) (Below.refl _ _) (fun _ => rfl)
    (fun pre W => (RowAt W w.heap.size 97 4096 (boolsF fun n => bitsR l n && !marksF pre n) ∧ W.cell? ⟨w1.heap.size, 0, none⟩ = some (.pointer (some ⟨w.heap.size, 0, none⟩))) ∧ Below w.heap.size w W)
    (fun _ _ _ => False)
    (OwnFrom.and (OwnFrom.and (Own.from (rowAt_own _ _ _ fun pre => boolsF fun n => bitsR l n && !marksF pre n) _) (Own.from (fun s A B row hs hg hr => cell_kept hs hg hr) _)) (ownFrom_below (Nat.le_refl _) (by omega)))
    (fun _ _ _ _ _ hs _ _ => hs)
    ⟨⟨hr2.congr (fun i _ => by simp [boolsF, marksF]), hc1⟩, hB1⟩
    (fun x => { tmps := #[v, .slice uo m.length ucap, undef, undef, .slice none 0 0, .pointer (some ⟨w1.heap.size, 0, none⟩), .int .i64 (x.val : Int), v, .pointer (some ⟨w.heap.size, 0, none⟩), .slice uo m.length ucap, .func (.func 90) #[] #[.pointer (some ⟨w1.heap.size + 1, 0, none⟩)], .int .i64 (x.val : Int), undef, undef, undef, undef, undef, undef], defers := [] }) ?assign ?body ?done ?stop
  case assign =>
    intro lp x W K hK
    gi_wp2
    exact hK
  case body =>
    rintro lp pre x W ⟨⟨hr, hc⟩, hB⟩ _
    have hx1 : (x.val : Int) < (4096 : Int) := by have := x.isLt; omega
    have hcx := hr.cell x.isLt
    have hfx := hr.frozen x.val
    simp only [boolsF] at hcx
    gi_wp2
    refine ⟨KeepsOthers.setCell _ _ _, Kept.setCell _ (Nat.le_refl _) (by show w.heap.size < W1.heap.size; omega), ⟨hr.setBool _ false (fun j _ => by rw [marksF_snoc]; by_cases h : j = x.val <;> simp [h]), ?_⟩, hB.setCell (p := ⟨w.heap.size, x.val, none⟩) (Nat.le_refl _) _⟩
    rw [World.cell?_of_block (heap_setCell_other W _ _ _ (by show w1.heap.size ≠ w.heap.size; omega))]
    exact hc
  case done =>
    rintro D ys W hD rfl ⟨⟨hr, hc⟩, hB⟩ hK
    have hr' : RowAt W w.heap.size 97 4096 (boolsF (fun n => bitsR l n && !bitsR m n)) := hr.congr (fun i hi => by simp only [boolsF]; rw [marksF_seqOf m hi])
    have hDW : D < W.heap.size := (Array.getElem?_eq_some_iff.1 hK).1
    gi_wp2_with ((refine ⟨trivial, ?_⟩; gi_at_call 76; refine (callsIn_wide.2 (spans_any _ _ _ hr')).mono ?_; rintro e w3 ⟨r, rfl, hsr, hb3⟩))
    have hK3 := (hb3.block D hDW).trans hK
    refine ⟨by simp, .inl ⟨_, _, rfl, run_takeDeferred hK3, ?_⟩⟩
    exact ⟨_, results_tmp rfl _ _ _, r, rfl, spanSl_put hsr hK3 rfl _, (Below.step hB hB.size hb3).trans (belowK_b (w := w) (Nat.le_refl _) w3 D _ _ (by omega) hK3 rfl rfl)⟩
  case stop =>
    rintro D c pre W _ _ h _
    exact h.elim

theorem join_any (v u : Value) (l m : List (Int × Int)) (w : World) (hv : SpanSl w v l) (hu : SpanSl w u m) :
    Calls Try.prog 52 #[v, u] w fun e w' => ∃ r, e = .returned r ∧ SpanSl w' r (spansOf (fun n => bitsR l n || bitsR m n)) ∧ Below w.heap.size w w' := callsIn_wide.1 (join_in v u l m w hv hu)
theorem cut_any (v u : Value) (l m : List (Int × Int)) (w : World) (hv : SpanSl w v l) (hu : SpanSl w u m) :
    Calls Try.prog 53 #[v, u] w fun e w' => ∃ r, e = .returned r ∧ SpanSl w' r (spansOf (fun n => bitsR l n && !bitsR m n)) ∧ Below w.heap.size w w' := callsIn_wide.1 (cut_in v u l m w hv hu)

end Go.Proofs.Ytaeklmnleampcaa
