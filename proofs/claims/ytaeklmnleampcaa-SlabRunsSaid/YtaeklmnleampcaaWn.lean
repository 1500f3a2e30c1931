/- Walks of the reference's List and Mix. -/
import Derived.Test.YtaeklmnleampcaaWm
import Derived.Test.YtaeklmnleampcaaWj
namespace Go.Proofs.Ytaeklmnleampcaa
open Go.RowKit

theorem listTo_wf (f : Nat → Bool) (k : Nat) (hk : k ≤ 4096) : ∀ x ∈ listTo f k, (Lit.int .i64 x).wf = true := by
  intro x hx
  rw [mem_listTo] at hx
  exact WalkArith.wf_i64 (by omega)

set_option maxRecDepth 100000 in
set_option maxHeartbeats 4000000 in
/-- The reference's List, of a set. -/
theorem reflist_any (v : Value) (l : List (Int × Int)) (w : World) (hv : SpanSl w v l) (hr : rightB l = true) :
    Calls Try.prog 48 #[v] w fun e w' => ∃ r, e = .returned r ∧ IntSl .i64 w' r (listOf (bitsOf l)) ∧ Below w.heap.size w w' := by
  obtain ⟨i0, hi, hz0, hz1, hz2⟩ := info_parts Try.info3
  have HV := Lib.hid hv; clear hv
  have HR := Lib.hid hr; clear hr
  obtain ⟨f, hf⟩ : ∃ f, f = bitsOf l := ⟨_, rfl⟩
  have HF := Lib.hid hf
  go_enter Try.func48, Try.ntmps48
  go_wp2_with fail
  refine (bits_any _ _ _ HV.out HR.out).mono ?_
  rintro e w1 ⟨rfl, hb1⟩
  rw [← hf]
  clear hf
  have hz1s := hb1.size
  obtain ⟨Wa, hWa⟩ : ∃ W0, W0 = w1.alloc (.cells Try.zeroCells60 60) := ⟨_, rfl⟩
  have hra : RowAt Wa w1.heap.size 60 4096 (boolsF fun _ => false) := by rw [hWa, zero60]; exact RowAt.alloc _ _ _ _
  have hra' : RowAt (w1.alloc (.cells Try.zeroCells60 60)) w1.heap.size 60 4096 (boolsF fun _ => false) := by rw [← hWa]; exact hra
  have hsa : Wa.heap.size = w1.heap.size + 1 := by rw [hWa]; simp
  have hBa : Below w.heap.size w Wa := by rw [hWa]; exact hb1.alloc hz1s _
  go_wp2_with (refine wpList_store_row (o := ⟨none, .store 60 (.tmp 3) (.tmp 7), _, _, _, none⟩) rfl 60 (.tmp 3) (.tmp 7) rfl w1.heap.size rfl 4096 (boolsF f) (arrOf 4096 (boolsF f)) rfl rfl 60 (boolsF fun _ => false) hra' size60 (boolsF_one _) ?_)
  rw [← hWa]
  clear hra' hWa
  have hrb := hra.setRow (boolsF f)
  have hsb : (Wa.setRow w1.heap.size (arrOf 4096 (boolsF f))).heap.size = w1.heap.size + 1 := by rw [setRow_size]; exact hsa
  have hBb := Below.setRow hBa (g := w1.heap.size) hz1s (arrOf 4096 (boolsF f))
  obtain ⟨Wb, hWb⟩ : ∃ W, W = Wa.setRow w1.heap.size (arrOf 4096 (boolsF f)) := ⟨_, rfl⟩
  rw [← hWb] at hrb hsb hBb ⊢
  try rw [hsa]
  have hown0 := World.ownsRow_lit (e := 3) (size := 1) (base := w1.heap.size + 1) Wb #[] 0 (by omega) (by simp) rfl
  rw [hsb] at hown0
  clear hWb hra hBa hsa
  go_loopw [4, 5] (fun v i wr => ∃ (k : Nat), k ≤ 4096 ∧ i = .int .i64 k ∧ wr.ownsRow (w1.heap.size + 1) 3 1 v (listTo f k).length ((listTo f k).map (Value.int .i64)) ∧ Below (w1.heap.size + 1) Wb wr)
    (fun _ i _ => 4096 - (intOf i).toNat)
  case atStart => exact ⟨0, Nat.zero_le _, rfl, hown0, (Below.refl _ _).alloc (by omega) _⟩
  case round =>
    obtain ⟨k, hk, rfl, hown, hbel⟩ := hrel
    have hsz := hbel.size
    have hrr : RowAt wr w1.heap.size 60 4096 (boolsF f) := hrb.belowB hbel (by omega)
    by_cases hlt : k < 4096
    · have hc1 := hrr.cell hlt
      simp only [boolsF] at hc1
      have hi1 : (k : Int) < (4096 : Int) := by omega
      have hle := listTo_length_le f k
      by_cases hf : f k = true
      · rw [hf] at hc1
        have HS : Hid (listTo f (k + 1) = listTo f k ++ [(k : Int)]) := by unfold Hid; rw [listTo_succ, if_pos hf]
        clear hf
        have HLT := Lib.hid hown.lt
        go_wp2_with (first | (at_builtin; refine wpList_append_own _ rfl _ _ 23 rfl (w1.heap.size + 1) 3 i0 (.int .i64 0) 1 8 Try.underlying23 hi hz0 hz1 hz2 rfl (by decide) _ _ _ rfl (hown.alloc _) ⟨wr.heap.size, 0, none⟩ 1 1 [.int .i64 k] rfl rfl (cell_one_new _ _ _) (by simp [Value.oneCell']) (by unfold maxLen; omega) (by omega) (by simp; omega) ?_; intro v' w2 hown' hgrow _))
        go_roundw
        case rel =>
          refine ⟨k + 1, by omega, by go_num, ?_, (hbel.alloc (by omega) _).grown hgrow (by simp; omega) (fun j h => (HLT.out j h).1)⟩
          rw [HS.out, List.length_append, List.map_append]
          exact hown'
        case measure => simp [intOf]; omega
      · have hf' : f k = false := by simpa using hf
        rw [hf'] at hc1
        have HS : Hid (listTo f (k + 1) = listTo f k) := by unfold Hid; rw [listTo_succ, if_neg hf]
        clear hf hf'
        go_wp2
        go_roundw
        case rel => exact ⟨k + 1, by omega, by go_num, by rw [HS.out]; exact hown, hbel⟩
        case measure => simp [intOf]; omega
    · obtain rfl : k = 4096 := by omega
      go_wp2
      go_ret
      refine ⟨_, rfl, ?_, hBb.trans (hbel.mono (by omega))⟩
      rw [← HF.out]
      exact intSl_of_owns hown (listTo_wf f 4096 (Nat.le_refl _)) (Nat.le_trans (listTo_length_le f 4096) (by omega))


def mixF0 (f g : Nat → Bool) (k n : Nat) : Bool := if n < k then f n || g n else f n

theorem mixF0_zero (f g : Nat → Bool) (n : Nat) : mixF0 f g 0 n = f n := by unfold mixF0; rw [if_neg (Nat.not_lt_zero _)]

theorem mixF0_next (f g : Nat → Bool) (k n : Nat) : mixF0 f g (k + 1) n = if n = k then (f k || g k) else mixF0 f g k n := by
  unfold mixF0
  by_cases h : n = k
  · subst h; rw [if_pos (Nat.lt_succ_self n), if_pos rfl]
  · rw [if_neg h]
    by_cases hk : n < k
    · rw [if_pos hk, if_pos (Nat.lt_succ_of_lt hk)]
    · rw [if_neg hk, if_neg (by omega)]

theorem mixF0_at (f g : Nat → Bool) (k : Nat) : mixF0 f g k k = f k := by unfold mixF0; rw [if_neg (Nat.lt_irrefl k)]

set_option maxRecDepth 100000 in
set_option maxHeartbeats 4000000 in
/-- The reference's Mix, of two sets. -/
theorem mix0_any (v u : Value) (l m : List (Int × Int)) (w : World) (hv : SpanSl w v l) (hu : SpanSl w u m) (hr : rightB l = true) (hs : rightB m = true) :
    Calls Try.prog 54 #[v, u, .int .i64 0] w fun e w' => ∃ r, e = .returned r ∧ SpanSl w' r (spansOf fun n => bitsOf l n || bitsOf m n) ∧ Below w.heap.size w w' := by
  have HV := Lib.hid hv; clear hv
  have HU := Lib.hid hu; clear hu
  have HR := Lib.hid hr; clear hr
  have HS := Lib.hid hs; clear hs
  obtain ⟨f, hf⟩ : ∃ f, f = bitsOf l := ⟨_, rfl⟩
  obtain ⟨g, hg⟩ : ∃ g, g = bitsOf m := ⟨_, rfl⟩
  rw [← hf, ← hg]
  have HF := Lib.hid hf
  have HG := Lib.hid hg
  clear hf hg
  go_enter Try.func54, Try.ntmps54
  go_wp2_with fail
  refine (bits_any _ _ _ HV.out HR.out).mono ?_
  rintro e w1 ⟨rfl, hb1⟩
  rw [← HF.out]
  have hz1s := hb1.size
  obtain ⟨Wa, hWa⟩ : ∃ W0, W0 = w1.alloc (.cells Try.zeroCells60 60) := ⟨_, rfl⟩
  have hra : RowAt Wa w1.heap.size 60 4096 (boolsF fun _ => false) := by rw [hWa, zero60]; exact RowAt.alloc _ _ _ _
  have hra' : RowAt (w1.alloc (.cells Try.zeroCells60 60)) w1.heap.size 60 4096 (boolsF fun _ => false) := by rw [← hWa]; exact hra
  have hsa : Wa.heap.size = w1.heap.size + 1 := by rw [hWa]; simp
  have hBa : Below w.heap.size w Wa := by rw [hWa]; exact hb1.alloc hz1s _
  go_wp2_with (refine wpList_store_row (o := ⟨none, .store 60 (.tmp 7) (.tmp 11), _, _, _, none⟩) rfl 60 (.tmp 7) (.tmp 11) rfl w1.heap.size rfl 4096 (boolsF f) (arrOf 4096 (boolsF f)) rfl rfl 60 (boolsF fun _ => false) hra' size60 (boolsF_one _) ?_)
  rw [← hWa]
  clear hra' hWa
  have hrb := hra.setRow (boolsF f)
  have hsb : (Wa.setRow w1.heap.size (arrOf 4096 (boolsF f))).heap.size = w1.heap.size + 1 := by rw [setRow_size]; exact hsa
  have hBb := Below.setRow hBa (g := w1.heap.size) hz1s (arrOf 4096 (boolsF f))
  obtain ⟨Wb, hWb⟩ : ∃ W, W = Wa.setRow w1.heap.size (arrOf 4096 (boolsF f)) := ⟨_, rfl⟩
  rw [← hWb] at hrb hsb hBb ⊢
  clear hWb hra hBa
  go_wp2_with fail
  refine (bits_any _ _ _ (HU.out.below hBb) HS.out).mono ?_
  rintro e w2 ⟨rfl, hb2⟩
  rw [← HG.out]
  have hz2s := hb2.size
  obtain ⟨Wc, hWc⟩ : ∃ W0, W0 = w2.alloc (.cells Try.zeroCells60 60) := ⟨_, rfl⟩
  have hqc : RowAt Wc w2.heap.size 60 4096 (boolsF fun _ => false) := by rw [hWc, zero60]; exact RowAt.alloc _ _ _ _
  have hqc' : RowAt (w2.alloc (.cells Try.zeroCells60 60)) w2.heap.size 60 4096 (boolsF fun _ => false) := by rw [← hWc]; exact hqc
  have hrc : RowAt Wc w1.heap.size 60 4096 (boolsF f) := by rw [hWc]; exact (hrb.below hb2).alloc_old _
  have hsc : Wc.heap.size = w2.heap.size + 1 := by rw [hWc]; simp
  have hBc : Below w.heap.size w Wc := by rw [hWc]; exact (Below.step hBb hBb.size hb2).alloc (by omega) _
  go_wp2_with (refine wpList_store_row (o := ⟨none, .store 60 (.tmp 8) (.tmp 13), _, _, _, none⟩) rfl 60 (.tmp 8) (.tmp 13) rfl w2.heap.size rfl 4096 (boolsF g) (arrOf 4096 (boolsF g)) rfl rfl 60 (boolsF fun _ => false) hqc' size60 (boolsF_one _) ?_)
  rw [← hWc]
  clear hqc' hWc
  have hrd := hrc.setRow_other (g := w2.heap.size) (by omega) (arrOf 4096 (boolsF g))
  have hqd := hqc.setRow (boolsF g)
  have hBd := Below.setRow hBc (g := w2.heap.size) (by omega) (arrOf 4096 (boolsF g))
  obtain ⟨Wd, hWd⟩ : ∃ W, W = Wc.setRow w2.heap.size (arrOf 4096 (boolsF g)) := ⟨_, rfl⟩
  rw [← hWd] at hrd hqd hBd ⊢
  have hne : w1.heap.size ≠ w2.heap.size := by omega
  have hle1 : w.heap.size ≤ w1.heap.size := hz1s
  clear hWd hqc hrc hBc hsc hz2s hb2 hrb hsb hBb hsa hb1 hz1s
  go_loopw [9] (fun i wr => ∃ (k : Nat), k ≤ 4096 ∧ i = .int .i64 k ∧ RowAt wr w1.heap.size 60 4096 (boolsF (mixF0 f g k)) ∧ RowAt wr w2.heap.size 60 4096 (boolsF g) ∧ Below w.heap.size w wr)
    (fun i _ => 4096 - (intOf i).toNat)
  case atStart => exact ⟨0, Nat.zero_le _, rfl, hrd.congr (fun i _ => by simp only [boolsF]; rw [mixF0_zero]), hqd, hBd⟩
  case round =>
    obtain ⟨k, hk, rfl, hrr, hqr, hbel⟩ := hrel
    clear hrd hqd
    by_cases hlt : k < 4096
    · have hc1 := hrr.cell hlt
      have hc2 := hqr.cell hlt
      have hf1 := hrr.frozen k
      simp only [boolsF] at hc1 hc2
      rw [mixF0_at] at hc1
      have hi1 : (k : Int) < (4096 : Int) := by omega
      have HN : Hid (∀ n, mixF0 f g (k + 1) n = if n = k then (f k || g k) else mixF0 f g k n) := mixF0_next f g k
      obtain ⟨x, hx⟩ : ∃ x, f k = x := ⟨_, rfl⟩
      obtain ⟨y, hy⟩ : ∃ y, g k = y := ⟨_, rfl⟩
      rw [hx] at hc1
      rw [hy] at hc2
      have HX := Lib.hid hx
      have HY := Lib.hid hy
      clear hx hy
      cases x <;> cases y
      all_goals
        go_wp2
        go_roundw
        case rel =>
          refine ⟨k + 1, by omega, by go_num, hrr.setBool k _ (fun j _ => ?_), hqr.set_other _ (by show w2.heap.size ≠ w1.heap.size; omega) _, hbel.setCell (p := ⟨w1.heap.size, k, none⟩) hle1 _⟩
          rw [HN.out, HX.out, HY.out]
          rfl
        case measure => simp [intOf]; omega
    · obtain rfl : k = 4096 := by omega
      go_wp2_with (first | (refine wpList_load_arr (o := ⟨some 54, .load 60 (.tmp 7), _, _, _, none⟩) rfl 60 (.tmp 7) rfl w1.heap.size rfl 4096 60 _ hrr _ Try.underlying60 rfl size60 ?_) | (go_at_call 59; refine (refset_any _ _).mono ?_; rintro e w3 ⟨v', rfl, hs, hb3⟩))
      go_ret
      refine ⟨_, rfl, ?_, Below.step hbel hbel.size hb3⟩
      rw [spansOf_congr (g := fun n => f n || g n) (fun n hn => by unfold mixF0; rw [if_pos hn])] at hs
      exact hs

def mixF1 (f g : Nat → Bool) (k n : Nat) : Bool := if n < k then f n && !g n else f n

theorem mixF1_zero (f g : Nat → Bool) (n : Nat) : mixF1 f g 0 n = f n := by unfold mixF1; rw [if_neg (Nat.not_lt_zero _)]

theorem mixF1_next (f g : Nat → Bool) (k n : Nat) : mixF1 f g (k + 1) n = if n = k then (f k && !g k) else mixF1 f g k n := by
  unfold mixF1
  by_cases h : n = k
  · subst h; rw [if_pos (Nat.lt_succ_self n), if_pos rfl]
  · rw [if_neg h]
    by_cases hk : n < k
    · rw [if_pos hk, if_pos (Nat.lt_succ_of_lt hk)]
    · rw [if_neg hk, if_neg (by omega)]

theorem mixF1_at (f g : Nat → Bool) (k : Nat) : mixF1 f g k k = f k := by unfold mixF1; rw [if_neg (Nat.lt_irrefl k)]

set_option maxRecDepth 100000 in
set_option maxHeartbeats 4000000 in
/-- The reference's Mix, of two sets. -/
theorem mix1_any (v u : Value) (l m : List (Int × Int)) (w : World) (hv : SpanSl w v l) (hu : SpanSl w u m) (hr : rightB l = true) (hs : rightB m = true) :
    Calls Try.prog 54 #[v, u, .int .i64 1] w fun e w' => ∃ r, e = .returned r ∧ SpanSl w' r (spansOf fun n => bitsOf l n && !bitsOf m n) ∧ Below w.heap.size w w' := by
  have HV := Lib.hid hv; clear hv
  have HU := Lib.hid hu; clear hu
  have HR := Lib.hid hr; clear hr
  have HS := Lib.hid hs; clear hs
  obtain ⟨f, hf⟩ : ∃ f, f = bitsOf l := ⟨_, rfl⟩
  obtain ⟨g, hg⟩ : ∃ g, g = bitsOf m := ⟨_, rfl⟩
  rw [← hf, ← hg]
  have HF := Lib.hid hf
  have HG := Lib.hid hg
  clear hf hg
  go_enter Try.func54, Try.ntmps54
  go_wp2_with fail
  refine (bits_any _ _ _ HV.out HR.out).mono ?_
  rintro e w1 ⟨rfl, hb1⟩
  rw [← HF.out]
  have hz1s := hb1.size
  obtain ⟨Wa, hWa⟩ : ∃ W0, W0 = w1.alloc (.cells Try.zeroCells60 60) := ⟨_, rfl⟩
  have hra : RowAt Wa w1.heap.size 60 4096 (boolsF fun _ => false) := by rw [hWa, zero60]; exact RowAt.alloc _ _ _ _
  have hra' : RowAt (w1.alloc (.cells Try.zeroCells60 60)) w1.heap.size 60 4096 (boolsF fun _ => false) := by rw [← hWa]; exact hra
  have hsa : Wa.heap.size = w1.heap.size + 1 := by rw [hWa]; simp
  have hBa : Below w.heap.size w Wa := by rw [hWa]; exact hb1.alloc hz1s _
  go_wp2_with (refine wpList_store_row (o := ⟨none, .store 60 (.tmp 7) (.tmp 11), _, _, _, none⟩) rfl 60 (.tmp 7) (.tmp 11) rfl w1.heap.size rfl 4096 (boolsF f) (arrOf 4096 (boolsF f)) rfl rfl 60 (boolsF fun _ => false) hra' size60 (boolsF_one _) ?_)
  rw [← hWa]
  clear hra' hWa
  have hrb := hra.setRow (boolsF f)
  have hsb : (Wa.setRow w1.heap.size (arrOf 4096 (boolsF f))).heap.size = w1.heap.size + 1 := by rw [setRow_size]; exact hsa
  have hBb := Below.setRow hBa (g := w1.heap.size) hz1s (arrOf 4096 (boolsF f))
  obtain ⟨Wb, hWb⟩ : ∃ W, W = Wa.setRow w1.heap.size (arrOf 4096 (boolsF f)) := ⟨_, rfl⟩
  rw [← hWb] at hrb hsb hBb ⊢
  clear hWb hra hBa
  go_wp2_with fail
  refine (bits_any _ _ _ (HU.out.below hBb) HS.out).mono ?_
  rintro e w2 ⟨rfl, hb2⟩
  rw [← HG.out]
  have hz2s := hb2.size
  obtain ⟨Wc, hWc⟩ : ∃ W0, W0 = w2.alloc (.cells Try.zeroCells60 60) := ⟨_, rfl⟩
  have hqc : RowAt Wc w2.heap.size 60 4096 (boolsF fun _ => false) := by rw [hWc, zero60]; exact RowAt.alloc _ _ _ _
  have hqc' : RowAt (w2.alloc (.cells Try.zeroCells60 60)) w2.heap.size 60 4096 (boolsF fun _ => false) := by rw [← hWc]; exact hqc
  have hrc : RowAt Wc w1.heap.size 60 4096 (boolsF f) := by rw [hWc]; exact (hrb.below hb2).alloc_old _
  have hsc : Wc.heap.size = w2.heap.size + 1 := by rw [hWc]; simp
  have hBc : Below w.heap.size w Wc := by rw [hWc]; exact (Below.step hBb hBb.size hb2).alloc (by omega) _
  go_wp2_with (refine wpList_store_row (o := ⟨none, .store 60 (.tmp 8) (.tmp 13), _, _, _, none⟩) rfl 60 (.tmp 8) (.tmp 13) rfl w2.heap.size rfl 4096 (boolsF g) (arrOf 4096 (boolsF g)) rfl rfl 60 (boolsF fun _ => false) hqc' size60 (boolsF_one _) ?_)
  rw [← hWc]
  clear hqc' hWc
  have hrd := hrc.setRow_other (g := w2.heap.size) (by omega) (arrOf 4096 (boolsF g))
  have hqd := hqc.setRow (boolsF g)
  have hBd := Below.setRow hBc (g := w2.heap.size) (by omega) (arrOf 4096 (boolsF g))
  obtain ⟨Wd, hWd⟩ : ∃ W, W = Wc.setRow w2.heap.size (arrOf 4096 (boolsF g)) := ⟨_, rfl⟩
  rw [← hWd] at hrd hqd hBd ⊢
  have hne : w1.heap.size ≠ w2.heap.size := by omega
  have hle1 : w.heap.size ≤ w1.heap.size := hz1s
  clear hWd hqc hrc hBc hsc hz2s hb2 hrb hsb hBb hsa hb1 hz1s
  go_loopw [9] (fun i wr => ∃ (k : Nat), k ≤ 4096 ∧ i = .int .i64 k ∧ RowAt wr w1.heap.size 60 4096 (boolsF (mixF1 f g k)) ∧ RowAt wr w2.heap.size 60 4096 (boolsF g) ∧ Below w.heap.size w wr)
    (fun i _ => 4096 - (intOf i).toNat)
  case atStart => exact ⟨0, Nat.zero_le _, rfl, hrd.congr (fun i _ => by simp only [boolsF]; rw [mixF1_zero]), hqd, hBd⟩
  case round =>
    obtain ⟨k, hk, rfl, hrr, hqr, hbel⟩ := hrel
    clear hrd hqd
    by_cases hlt : k < 4096
    · have hc1 := hrr.cell hlt
      have hc2 := hqr.cell hlt
      have hf1 := hrr.frozen k
      simp only [boolsF] at hc1 hc2
      rw [mixF1_at] at hc1
      have hi1 : (k : Int) < (4096 : Int) := by omega
      have HN : Hid (∀ n, mixF1 f g (k + 1) n = if n = k then (f k && !g k) else mixF1 f g k n) := mixF1_next f g k
      obtain ⟨x, hx⟩ : ∃ x, f k = x := ⟨_, rfl⟩
      obtain ⟨y, hy⟩ : ∃ y, g k = y := ⟨_, rfl⟩
      rw [hx] at hc1
      rw [hy] at hc2
      have HX := Lib.hid hx
      have HY := Lib.hid hy
      clear hx hy
      cases x <;> cases y
      all_goals
        go_wp2
        go_roundw
        case rel =>
          refine ⟨k + 1, by omega, by go_num, hrr.setBool k _ (fun j _ => ?_), hqr.set_other _ (by show w2.heap.size ≠ w1.heap.size; omega) _, hbel.setCell (p := ⟨w1.heap.size, k, none⟩) hle1 _⟩
          rw [HN.out, HX.out, HY.out]
          rfl
        case measure => simp [intOf]; omega
    · obtain rfl : k = 4096 := by omega
      go_wp2_with (first | (refine wpList_load_arr (o := ⟨some 54, .load 60 (.tmp 7), _, _, _, none⟩) rfl 60 (.tmp 7) rfl w1.heap.size rfl 4096 60 _ hrr _ Try.underlying60 rfl size60 ?_) | (go_at_call 59; refine (refset_any _ _).mono ?_; rintro e w3 ⟨v', rfl, hs, hb3⟩))
      go_ret
      refine ⟨_, rfl, ?_, Below.step hbel hbel.size hb3⟩
      rw [spansOf_congr (g := fun n => f n && !g n) (fun n hn => by unfold mixF1; rw [if_pos hn])] at hs
      exact hs

def mixF2 (f g : Nat → Bool) (k n : Nat) : Bool := if n < k then f n && g n else f n

theorem mixF2_zero (f g : Nat → Bool) (n : Nat) : mixF2 f g 0 n = f n := by unfold mixF2; rw [if_neg (Nat.not_lt_zero _)]

theorem mixF2_next (f g : Nat → Bool) (k n : Nat) : mixF2 f g (k + 1) n = if n = k then (f k && g k) else mixF2 f g k n := by
  unfold mixF2
  by_cases h : n = k
  · subst h; rw [if_pos (Nat.lt_succ_self n), if_pos rfl]
  · rw [if_neg h]
    by_cases hk : n < k
    · rw [if_pos hk, if_pos (Nat.lt_succ_of_lt hk)]
    · rw [if_neg hk, if_neg (by omega)]

theorem mixF2_at (f g : Nat → Bool) (k : Nat) : mixF2 f g k k = f k := by unfold mixF2; rw [if_neg (Nat.lt_irrefl k)]

set_option maxRecDepth 100000 in
set_option maxHeartbeats 4000000 in
/-- The reference's Mix, of two sets. -/
theorem mix2_any (v u : Value) (l m : List (Int × Int)) (w : World) (hv : SpanSl w v l) (hu : SpanSl w u m) (hr : rightB l = true) (hs : rightB m = true) :
    Calls Try.prog 54 #[v, u, .int .i64 2] w fun e w' => ∃ r, e = .returned r ∧ SpanSl w' r (spansOf fun n => bitsOf l n && bitsOf m n) ∧ Below w.heap.size w w' := by
  have HV := Lib.hid hv; clear hv
  have HU := Lib.hid hu; clear hu
  have HR := Lib.hid hr; clear hr
  have HS := Lib.hid hs; clear hs
  obtain ⟨f, hf⟩ : ∃ f, f = bitsOf l := ⟨_, rfl⟩
  obtain ⟨g, hg⟩ : ∃ g, g = bitsOf m := ⟨_, rfl⟩
  rw [← hf, ← hg]
  have HF := Lib.hid hf
  have HG := Lib.hid hg
  clear hf hg
  go_enter Try.func54, Try.ntmps54
  go_wp2_with fail
  refine (bits_any _ _ _ HV.out HR.out).mono ?_
  rintro e w1 ⟨rfl, hb1⟩
  rw [← HF.out]
  have hz1s := hb1.size
  obtain ⟨Wa, hWa⟩ : ∃ W0, W0 = w1.alloc (.cells Try.zeroCells60 60) := ⟨_, rfl⟩
  have hra : RowAt Wa w1.heap.size 60 4096 (boolsF fun _ => false) := by rw [hWa, zero60]; exact RowAt.alloc _ _ _ _
  have hra' : RowAt (w1.alloc (.cells Try.zeroCells60 60)) w1.heap.size 60 4096 (boolsF fun _ => false) := by rw [← hWa]; exact hra
  have hsa : Wa.heap.size = w1.heap.size + 1 := by rw [hWa]; simp
  have hBa : Below w.heap.size w Wa := by rw [hWa]; exact hb1.alloc hz1s _
  go_wp2_with (refine wpList_store_row (o := ⟨none, .store 60 (.tmp 7) (.tmp 11), _, _, _, none⟩) rfl 60 (.tmp 7) (.tmp 11) rfl w1.heap.size rfl 4096 (boolsF f) (arrOf 4096 (boolsF f)) rfl rfl 60 (boolsF fun _ => false) hra' size60 (boolsF_one _) ?_)
  rw [← hWa]
  clear hra' hWa
  have hrb := hra.setRow (boolsF f)
  have hsb : (Wa.setRow w1.heap.size (arrOf 4096 (boolsF f))).heap.size = w1.heap.size + 1 := by rw [setRow_size]; exact hsa
  have hBb := Below.setRow hBa (g := w1.heap.size) hz1s (arrOf 4096 (boolsF f))
  obtain ⟨Wb, hWb⟩ : ∃ W, W = Wa.setRow w1.heap.size (arrOf 4096 (boolsF f)) := ⟨_, rfl⟩
  rw [← hWb] at hrb hsb hBb ⊢
  clear hWb hra hBa
  go_wp2_with fail
  refine (bits_any _ _ _ (HU.out.below hBb) HS.out).mono ?_
  rintro e w2 ⟨rfl, hb2⟩
  rw [← HG.out]
  have hz2s := hb2.size
  obtain ⟨Wc, hWc⟩ : ∃ W0, W0 = w2.alloc (.cells Try.zeroCells60 60) := ⟨_, rfl⟩
  have hqc : RowAt Wc w2.heap.size 60 4096 (boolsF fun _ => false) := by rw [hWc, zero60]; exact RowAt.alloc _ _ _ _
  have hqc' : RowAt (w2.alloc (.cells Try.zeroCells60 60)) w2.heap.size 60 4096 (boolsF fun _ => false) := by rw [← hWc]; exact hqc
  have hrc : RowAt Wc w1.heap.size 60 4096 (boolsF f) := by rw [hWc]; exact (hrb.below hb2).alloc_old _
  have hsc : Wc.heap.size = w2.heap.size + 1 := by rw [hWc]; simp
  have hBc : Below w.heap.size w Wc := by rw [hWc]; exact (Below.step hBb hBb.size hb2).alloc (by omega) _
  go_wp2_with (refine wpList_store_row (o := ⟨none, .store 60 (.tmp 8) (.tmp 13), _, _, _, none⟩) rfl 60 (.tmp 8) (.tmp 13) rfl w2.heap.size rfl 4096 (boolsF g) (arrOf 4096 (boolsF g)) rfl rfl 60 (boolsF fun _ => false) hqc' size60 (boolsF_one _) ?_)
  rw [← hWc]
  clear hqc' hWc
  have hrd := hrc.setRow_other (g := w2.heap.size) (by omega) (arrOf 4096 (boolsF g))
  have hqd := hqc.setRow (boolsF g)
  have hBd := Below.setRow hBc (g := w2.heap.size) (by omega) (arrOf 4096 (boolsF g))
  obtain ⟨Wd, hWd⟩ : ∃ W, W = Wc.setRow w2.heap.size (arrOf 4096 (boolsF g)) := ⟨_, rfl⟩
  rw [← hWd] at hrd hqd hBd ⊢
  have hne : w1.heap.size ≠ w2.heap.size := by omega
  have hle1 : w.heap.size ≤ w1.heap.size := hz1s
  clear hWd hqc hrc hBc hsc hz2s hb2 hrb hsb hBb hsa hb1 hz1s
  go_loopw [9] (fun i wr => ∃ (k : Nat), k ≤ 4096 ∧ i = .int .i64 k ∧ RowAt wr w1.heap.size 60 4096 (boolsF (mixF2 f g k)) ∧ RowAt wr w2.heap.size 60 4096 (boolsF g) ∧ Below w.heap.size w wr)
    (fun i _ => 4096 - (intOf i).toNat)
  case atStart => exact ⟨0, Nat.zero_le _, rfl, hrd.congr (fun i _ => by simp only [boolsF]; rw [mixF2_zero]), hqd, hBd⟩
  case round =>
    obtain ⟨k, hk, rfl, hrr, hqr, hbel⟩ := hrel
    clear hrd hqd
    by_cases hlt : k < 4096
    · have hc1 := hrr.cell hlt
      have hc2 := hqr.cell hlt
      have hf1 := hrr.frozen k
      simp only [boolsF] at hc1 hc2
      rw [mixF2_at] at hc1
      have hi1 : (k : Int) < (4096 : Int) := by omega
      have HN : Hid (∀ n, mixF2 f g (k + 1) n = if n = k then (f k && g k) else mixF2 f g k n) := mixF2_next f g k
      obtain ⟨x, hx⟩ : ∃ x, f k = x := ⟨_, rfl⟩
      obtain ⟨y, hy⟩ : ∃ y, g k = y := ⟨_, rfl⟩
      rw [hx] at hc1
      rw [hy] at hc2
      have HX := Lib.hid hx
      have HY := Lib.hid hy
      clear hx hy
      cases x <;> cases y
      all_goals
        go_wp2
        go_roundw
        case rel =>
          refine ⟨k + 1, by omega, by go_num, hrr.setBool k _ (fun j _ => ?_), hqr.set_other _ (by show w2.heap.size ≠ w1.heap.size; omega) _, hbel.setCell (p := ⟨w1.heap.size, k, none⟩) hle1 _⟩
          rw [HN.out, HX.out, HY.out]
          rfl
        case measure => simp [intOf]; omega
    · obtain rfl : k = 4096 := by omega
      go_wp2_with (first | (refine wpList_load_arr (o := ⟨some 54, .load 60 (.tmp 7), _, _, _, none⟩) rfl 60 (.tmp 7) rfl w1.heap.size rfl 4096 60 _ hrr _ Try.underlying60 rfl size60 ?_) | (go_at_call 59; refine (refset_any _ _).mono ?_; rintro e w3 ⟨v', rfl, hs, hb3⟩))
      go_ret
      refine ⟨_, rfl, ?_, Below.step hbel hbel.size hb3⟩
      rw [spansOf_congr (g := fun n => f n && g n) (fun n hn => by unfold mixF2; rw [if_pos hn])] at hs
      exact hs

end Go.Proofs.Ytaeklmnleampcaa
