/- Callers of the iterator: Both; and Count, First. -/
import Derived.Test.YtaeklmnleampcaaWf
namespace Go.Proofs.Ytaeklmnleampcaa
open Go.RowKit Go.Shelf

attribute [local go_sem] Oper.semAt_some

set_option maxRecDepth 100000 in
set_option maxHeartbeats 4000000 in
theorem both_in (v u : Value) (l m : List (Int × Int)) (w : World) (hv : SpanSl w v l) (hu : SpanSl w u m) :
    CallsIn Fence.wide 5 Try.prog 47 #[v, u] w fun e w' => ∃ r, e = .returned r ∧ SpanSl w' r (spansOf (fun n => bitsR l n && bitsR m n)) ∧ Below w.heap.size w w' := by
  have hu0 := hu
  obtain ⟨uo, ucap, rfl, _, _, _⟩ := hu
  have HV := Lib.hid hv; clear hv
  have HU := Lib.hid hu0; clear hu0
  refine callsIn_of_wp_marks Try.func47 rfl trivial ?_ rfl
  simp only [Try.ntmps47, List.size_toArray, List.length_cons, List.length_nil, Nat.reduceAdd, Nat.reduceSub, Array.replicate_succ, Array.replicate_zero, List.push_toArray, List.append_toArray, List.nil_append, List.cons_append]
  gi_wp2_with (first | (refine ⟨trivial, ?_⟩; gi_at_call 81; refine (callsIn_wide.2 (mark_any _ _ _ HV.out)).mono ?_; rintro e w1 ⟨rfl, hr1, hb1⟩) | (refine ⟨trivial, ?_⟩; gi_at_call 80; refine (callsIn_wide.2 (each_any _ _ _ _)).mono ?_; rintro e w' ⟨rfl, rfl⟩))
  have hw1 := hr1.lt
  obtain ⟨Wa, hWa⟩ : ∃ W0, W0 = w1.alloc (.cells #[.pointer (some ⟨w.heap.size, 0, none⟩)] 111) := ⟨_, rfl⟩
  have hsa : Wa.heap.size = w1.heap.size + 1 := by rw [hWa]; simp
  have hca : Wa.cell? ⟨w1.heap.size, 0, none⟩ = some (.pointer (some ⟨w.heap.size, 0, none⟩)) := by rw [hWa]; exact World.cell?_alloc_at _ _ _ _ rfl
  have hra : RowAt Wa w.heap.size 97 4096 (boolsF (bitsR l)) := by rw [hWa]; exact hr1.alloc_old _
  have hBa : Below w.heap.size w Wa := by rw [hWa]; exact hb1.alloc (by omega) _
  rw [← hWa]
  obtain ⟨W0, hW0⟩ : ∃ W0, W0 = Wa.alloc (.cells Try.zeroCells97 97) := ⟨_, rfl⟩
  have hs0 : W0.heap.size = w1.heap.size + 2 := by rw [hW0]; simp; omega
  have hc0 : W0.cell? ⟨w1.heap.size, 0, none⟩ = some (.pointer (some ⟨w.heap.size, 0, none⟩)) := by rw [hW0, World.cell?_alloc_past _ _ _ (by omega)]; exact hca
  have hr0 : RowAt W0 w.heap.size 97 4096 (boolsF (bitsR l)) := by rw [hW0]; exact hra.alloc_old _
  have hq0 : RowAt W0 (w1.heap.size + 1) 97 4096 (boolsF fun _ => false) := by rw [hW0, zero97, ← hsa]; exact RowAt.alloc _ _ _ _
  have hB0 : Below w.heap.size w W0 := by rw [hW0]; exact hBa.alloc (by omega) _
  rw [← hW0]
  obtain ⟨W1, hW1⟩ : ∃ W1, W1 = W0.alloc (.cells #[.slice uo m.length ucap] 22) := ⟨_, rfl⟩
  have hcb : W1.cell? ⟨w1.heap.size + 2, 0, none⟩ = some (.slice uo m.length ucap) := by rw [hW1, ← hs0]; exact World.cell?_alloc_at _ _ _ _ rfl
  have hs1 : W1.heap.size = w1.heap.size + 3 := by rw [hW1]; simp; omega
  have hc1 : W1.cell? ⟨w1.heap.size, 0, none⟩ = some (.pointer (some ⟨w.heap.size, 0, none⟩)) := by rw [hW1, World.cell?_alloc_past _ _ _ (by omega)]; exact hc0
  have hr2 : RowAt W1 w.heap.size 97 4096 (boolsF (bitsR l)) := by rw [hW1]; exact hr0.alloc_old _
  have hq2 : RowAt W1 (w1.heap.size + 1) 97 4096 (boolsF fun _ => false) := by rw [hW1]; exact hq0.alloc_old _
  have hB1 : Below w.heap.size w W1 := by rw [hW1]; exact hB0.alloc (by omega) _
  rw [← hW1]
  clear hWa hW0 hW1 hr0 hc0 hB0 hr1 hra hca hBa hq0
  refine wpIn_rangeFunc_ownF rfl (by omega) (gf := 90) (lb := #[.pointer (some ⟨w1.heap.size + 1 + 1, 0, none⟩)]) rfl trivial (enters_of Try.func90 (by kernel_rfl) rfl)
    (each_stops 4 (w1.heap.size + 2) _ m w W1 HU.out hB1 hcb) Kept.trans (Kept.book (by omega)) (Below.refl _ _) (fun _ => rfl)
    (fun pre W => ((RowAt W w.heap.size 97 4096 (boolsF (bitsR l)) ∧ RowAt W (w1.heap.size + 1) 97 4096 (boolsF fun n => bitsR l n && marksF pre n)) ∧ W.cell? ⟨w1.heap.size, 0, none⟩ = some (.pointer (some ⟨w.heap.size, 0, none⟩))) ∧ Below w.heap.size w W)
    (fun _ _ _ => False)
    (OwnFrom.and (OwnFrom.and (OwnFrom.and (Own.from (rowAt_own _ _ _ fun _ => boolsF (bitsR l)) _) (Own.from (rowAt_own _ _ _ fun pre => boolsF fun n => bitsR l n && marksF pre n) _)) (Own.from (fun s A B row hs hg hr => cell_kept hs hg hr) _)) (ownFrom_below (Nat.le_refl _) (by omega)))
    (fun _ _ _ _ _ hs _ _ => hs)
    ⟨⟨⟨hr2, hq2.congr (fun i _ => by simp [boolsF, marksF])⟩, hc1⟩, hB1⟩
    (fun x => { tmps := #[v, .slice uo m.length ucap, undef, undef, .slice none 0 0, .pointer (some ⟨w1.heap.size, 0, none⟩), .pointer (some ⟨w1.heap.size + 1, 0, none⟩), .int .i64 (x.val : Int), v, .pointer (some ⟨w.heap.size, 0, none⟩), .slice uo m.length ucap, .func (.func 90) #[] #[.pointer (some ⟨w1.heap.size + 1 + 1, 0, none⟩)], .int .i64 (x.val : Int), undef, undef, undef, undef, undef, undef, undef, undef], defers := [] }) ?assign ?body ?done ?stop
  case assign =>
    intro lp x W K hK
    gi_wp2
    exact hK
  case body =>
    rintro lp pre x W ⟨⟨⟨hr, hq⟩, hc⟩, hB⟩ _
    have hx1 : (x.val : Int) < (4096 : Int) := by have := x.isLt; omega
    have hcx := hr.cell x.isLt
    have hqx := hq.cell x.isLt
    have hfx := hq.frozen x.val
    simp only [boolsF] at hcx hqx
    gi_wp2
    refine ⟨KeepsOthers.setCell _ _ _, Kept.setCell _ (by show w.heap.size ≤ w1.heap.size + 1; omega) (by show w1.heap.size + 1 < W1.heap.size; omega), ⟨⟨hr.set_other _ (by show w.heap.size ≠ w1.heap.size + 1; omega) _, hq.setBool _ (bitsR l x.val) (fun j _ => by rw [marksF_snoc]; by_cases h : j = x.val <;> simp [h])⟩, ?_⟩, hB.setCell (p := ⟨w1.heap.size + 1, x.val, none⟩) (by show w.heap.size ≤ w1.heap.size + 1; omega) _⟩
    rw [World.cell?_of_block (heap_setCell_other W _ _ _ (by show w1.heap.size ≠ w1.heap.size + 1; omega))]
    exact hc
  case done =>
    rintro D ys W hD rfl ⟨⟨⟨_, hr⟩, hc⟩, hB⟩ hK
    have hr' : RowAt W (w1.heap.size + 1) 97 4096 (boolsF (fun n => bitsR l n && bitsR m n)) := hr.congr (fun i hi => by simp only [boolsF]; rw [marksF_seqOf m hi])
    have hDW : D < W.heap.size := (Array.getElem?_eq_some_iff.1 hK).1
    gi_wp2_with ((refine ⟨trivial, ?_⟩; gi_at_call 76; refine (callsIn_wide.2 (spans_any _ _ _ hr')).mono ?_; rintro e w3 ⟨r, rfl, hsr, hb3⟩))
    have hK3 := (hb3.block D hDW).trans hK
    refine ⟨by simp, .inl ⟨_, _, rfl, run_takeDeferred hK3, ?_⟩⟩
    exact ⟨_, results_tmp rfl _ _ _, r, rfl, spanSl_put hsr hK3 rfl _, (Below.step hB hB.size hb3).trans (belowK_b (w := w) (Nat.le_refl _) w3 D _ _ (by omega) hK3 rfl rfl)⟩
  case stop =>
    rintro D c pre W _ _ h _
    exact h.elim

theorem both_any (v u : Value) (l m : List (Int × Int)) (w : World) (hv : SpanSl w v l) (hu : SpanSl w u m) :
    Calls Try.prog 47 #[v, u] w fun e w' => ∃ r, e = .returned r ∧ SpanSl w' r (spansOf (fun n => bitsR l n && bitsR m n)) ∧ Below w.heap.size w w' := callsIn_wide.1 (both_in v u l m w hv hu)

def countR (l : List (Int × Int)) : Int := if rightB l = true then countS l else 0

theorem countS_take {l : List (Int × Int)} {k : Nat} (h : k < l.length) : countS (l.take (k + 1)) = countS (l.take k) + l[k].2 := by
  rw [List.take_succ_eq_append_getElem h, countS_append, countS_cons, countS_nil]; omega

theorem right_take {l : List (Int × Int)} (h : rightB l = true) (k : Nat) : rightB (l.take k) = true := by
  have h1 := h
  unfold rightB at h1 ⊢
  rw [← List.take_append_drop k l, rightFrom_append, Bool.and_eq_true] at h1
  exact h1.1

theorem countS_le {l : List (Int × Int)} (h : rightB l = true) : 0 ≤ countS l ∧ countS l ≤ 4097 := by
  have := countS_bound h (by omega)
  by_cases hl : l = []
  · subst hl; simp [countS]
  · have := this.2.2 hl; omega

set_option maxHeartbeats 1000000 in
theorem count_any (v : Value) (l : List (Int × Int)) (w : World) (hv : SpanSl w v l) :
    Calls Try.prog 43 #[v] w fun e w' => e = .returned (.int .i64 (countR l)) ∧ Below w.heap.size w w' := by
  have HV := Lib.hid hv
  obtain ⟨ao, cap, rfl, hlen, hb, hc⟩ := hv
  have HC := Lib.hid hc; clear hc
  have HB := Lib.hid hb; clear hb
  by_cases hr : rightB l = true
  · have HR := Lib.hid hr
    clear hr
    go_enter Try.func43, Try.ntmps43
    go_wp2_with ((go_at_call 25; refine (right_is true _ _ HR.out _ HV.out).mono ?_; rintro e w1 ⟨rfl, hb1⟩))
    go_loopw [3, 11] (fun t i wr => ∃ k : Nat, k ≤ l.length ∧ i = .int .i64 k ∧ t = .int .i64 (countS (l.take k)) ∧ Below w.heap.size w wr)
      (fun _ i _ => l.length - (intOf i).toNat)
    case atStart => exact ⟨0, Nat.zero_le _, rfl, rfl, hb1⟩
    case round =>
      obtain ⟨k, hk, rfl, rfl, hbel⟩ := hrel
      by_cases hlt : k < l.length
      · obtain ⟨b, o, rfl, hbs, hcell⟩ := HC.out (by intro h; simp [h] at hlt)
        obtain ⟨h1, h2⟩ := span_cells hbs hcell hbel hlt
        clear hcell
        have HT := Lib.hid (countS_take hlt)
        have hs1 := (singleB_iff _ _).1 (right_at HR.out hlt)
        have hcl := countS_le (right_take HR.out k)
        have hsz := hbel.size
        go_wp2
        go_roundw
        case rel => exact ⟨k + 1, by omega, by go_num, by rw [HT.out], by go_grown⟩
        case measure => simp [intOf]; omega
      · go_wp2
        go_ret
        exact ⟨ret_int (by unfold countR; rw [if_pos HR.out, List.take_of_length_le (by omega)]), hbel⟩
  · have HR := Lib.hid (show rightB l = false by simpa using hr)
    have HN := Lib.hid hr
    clear hr
    go_enter Try.func43, Try.ntmps43
    go_wp2_with ((go_at_call 25; refine (right_is false _ _ HR.out _ HV.out).mono ?_; rintro e w1 ⟨rfl, hb1⟩))
    go_ret
    exact ⟨ret_int (by unfold countR; rw [if_neg HN.out]), hb1⟩

end Go.Proofs.Ytaeklmnleampcaa
